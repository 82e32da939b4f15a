/-
  CodeGaps: the law's walk.
-/
import Derived.Test.YtdmnbmldhhgniaaCodeKnown
namespace Go.Proofs.Ytdmnbmldhhgniaa
open Go.RowKit
set_option maxHeartbeats 1600000 in
theorem codeGaps_lo (c : Int) (h : c < 0) (w : World) : Calls Try.prog 10 #[.int .i64 c] w fun e w' => e = .returned (.bool true) ∧ Below w.heap.size w w' := by
  go_enter Try.func10, Try.ntmps10
  go_wp2_with fail
  refine (join_in 0 0 (by omega) (by omega) (by omega) (by decide) _).mono ?_
  rw [show lfirst 0 + 0 = 0 from by decide]
  rintro e w1 ⟨rfl, hb⟩
  have HB1 := Lib.hid hb
  clear hb
  go_wp2_with fail
  refine (joinOff_in 0 0 (by omega) (by omega) (by omega) (by decide) _).mono ?_
  rw [show ofirst 0 + 0 = 1 from by decide]
  rintro e w2 ⟨rfl, hb⟩
  have HB2 := Lib.hid (HB1.out.trans (hb.mono HB1.out.size))
  clear hb HB1
  go_wp2_with fail
  refine (known_any _).mono ?_
  rintro e w3 ⟨rfl, hb⟩
  have HB3 := Lib.hid (HB2.out.trans (hb.mono HB2.out.size))
  clear hb HB2
  go_wp2
  go_ret
  exact ⟨rfl, HB3.out⟩
set_option maxHeartbeats 1600000 in
theorem codeGaps_in (c : Int) (h0 : 0 ≤ c) (h1 : c < 27) (w : World) : Calls Try.prog 10 #[.int .i64 c] w fun e w' => e = .returned (.bool true) ∧ Below w.heap.size w w' := by
  have ht := lfirst_top (c := c) (by omega) (by omega)
  have hx := lfirst_next (c := c) (by omega) (by omega)
  obtain ⟨n, hn⟩ : ∃ n, n = lbits c := ⟨_, rfl⟩
  obtain ⟨f, hf⟩ : ∃ f, f = lfirst c := ⟨_, rfl⟩
  rw [← hn, ← hf] at ht hx
  obtain ⟨S, hS⟩ : ∃ S : Int, (2 : Int) ^ n.toNat = S := ⟨_, rfl⟩
  rw [hS] at ht hx
  have hS1 : 1 ≤ S := by rw [← hS]; exact Int.pow_pos (by decide)
  have H : Hid (lbits c = n ∧ lfirst c + (S - 1) = f + (S - 1) ∧ lfirst (c + 1) + 0 = f + S) := ⟨hn.symm, by rw [hf], by omega⟩
  have HLT : Hid (S - 1 < 2 ^ (lbits c).toNat) := (by rw [← hn, hS]; omega : S - 1 < 2 ^ (lbits c).toNat)
  have HL0 : Hid (0 < (2 : Int) ^ (lbits (c + 1)).toNat) := Int.pow_pos (by decide)
  obtain ⟨ht0, ht1, ht2, ht3⟩ := ht
  clear hn hf hx
  have hto := ofirst_top (c := c) (by omega) (by omega)
  have hxo := ofirst_next (c := c) (by omega) (by omega)
  obtain ⟨g, hg⟩ : ∃ g, g = ofirst c := ⟨_, rfl⟩
  rw [← hg] at hto hxo
  obtain ⟨T, hT⟩ : ∃ T : Int, (2 : Int) ^ c.toNat = T := ⟨_, rfl⟩
  rw [hT] at hto hxo
  have hT1 : 1 ≤ T := by rw [← hT]; exact Int.pow_pos (by decide)
  have G : Hid (ofirst c + (T - 1) = g + (T - 1) ∧ ofirst (c + 1) + 0 = g + T) := ⟨by rw [hg], by omega⟩
  have GLT : Hid (T - 1 < 2 ^ c.toNat) := (by rw [hT]; omega : T - 1 < 2 ^ c.toNat)
  have GL0 : Hid (0 < (2 : Int) ^ (c + 1).toNat) := Int.pow_pos (by decide)
  obtain ⟨hto0, hto3⟩ := hto
  clear hg hxo
  go_enter Try.func10, Try.ntmps10
  go_wp2_with fail
  refine (join_in 0 0 (by omega) (by omega) (by omega) (by decide) _).mono ?_
  rw [show lfirst 0 + 0 = 0 from by decide]
  rintro e w1 ⟨rfl, hb⟩
  have HB1 := Lib.hid hb
  clear hb
  go_wp2_with fail
  refine (joinOff_in 0 0 (by omega) (by omega) (by omega) (by decide) _).mono ?_
  rw [show ofirst 0 + 0 = 1 from by decide]
  rintro e w2 ⟨rfl, hb⟩
  have HB2 := Lib.hid (HB1.out.trans (hb.mono HB1.out.size))
  clear hb HB1
  go_wp2_with fail
  refine (extra_in c (by omega) (by omega) _).mono ?_
  rw [H.out.1]
  rintro e w3 ⟨rfl, hb⟩
  have HB3 := Lib.hid (HB2.out.trans (hb.mono HB2.out.size))
  clear hb HB2
  go_wp2_with fail
  refine (join_in c (S - 1) (by omega) (by omega) (by omega) HLT.out _).mono ?_
  rw [H.out.2.1]
  rintro e w4 ⟨rfl, hb⟩
  have HB4 := Lib.hid (HB3.out.trans (hb.mono HB3.out.size))
  clear hb HB3
  go_wp2_with fail
  refine (join_in (c + 1) 0 (by omega) (by omega) (by omega) HL0.out _).mono ?_
  rw [H.out.2.2]
  rintro e w5 ⟨rfl, hb⟩
  have HB5 := Lib.hid (HB4.out.trans (hb.mono HB4.out.size))
  clear hb HB4
  go_wp2_with fail
  refine (offBits_in c (by omega) (by omega) _).mono ?_
  rintro e w6 ⟨rfl, hb⟩
  have HB6 := Lib.hid (HB5.out.trans (hb.mono HB5.out.size))
  clear hb HB5
  go_wp2_with fail
  refine (joinOff_in c (T - 1) (by omega) (by omega) (by omega) GLT.out _).mono ?_
  rw [G.out.1]
  rintro e w7 ⟨rfl, hb⟩
  have HB7 := Lib.hid (HB6.out.trans (hb.mono HB6.out.size))
  clear hb HB6
  go_wp2_with fail
  refine (joinOff_in (c + 1) 0 (by omega) (by omega) (by omega) GL0.out _).mono ?_
  rw [G.out.2]
  rintro e w8 ⟨rfl, hb⟩
  have HB8 := Lib.hid (HB7.out.trans (hb.mono HB7.out.size))
  clear hb HB7
  go_wp2_with fail
  refine (known_any _).mono ?_
  rintro e w9 ⟨rfl, hb⟩
  have HB9 := Lib.hid (HB8.out.trans (hb.mono HB8.out.size))
  clear hb HB8
  go_wp2
  go_ret
  exact ⟨rfl, HB9.out⟩
set_option maxHeartbeats 1600000 in
theorem codeGaps_mid (c : Int) (h0 : 27 ≤ c) (h1 : c < 43) (w : World) : Calls Try.prog 10 #[.int .i64 c] w fun e w' => e = .returned (.bool true) ∧ Below w.heap.size w w' := by
  have ht := lfirst_top (c := c) (by omega) (by omega)
  have hx := lfirst_next (c := c) (by omega) (by omega)
  obtain ⟨n, hn⟩ : ∃ n, n = lbits c := ⟨_, rfl⟩
  obtain ⟨f, hf⟩ : ∃ f, f = lfirst c := ⟨_, rfl⟩
  rw [← hn, ← hf] at ht hx
  obtain ⟨S, hS⟩ : ∃ S : Int, (2 : Int) ^ n.toNat = S := ⟨_, rfl⟩
  rw [hS] at ht hx
  have hS1 : 1 ≤ S := by rw [← hS]; exact Int.pow_pos (by decide)
  have H : Hid (lbits c = n ∧ lfirst c + (S - 1) = f + (S - 1) ∧ lfirst (c + 1) + 0 = f + S) := ⟨hn.symm, by rw [hf], by omega⟩
  have HLT : Hid (S - 1 < 2 ^ (lbits c).toNat) := (by rw [← hn, hS]; omega : S - 1 < 2 ^ (lbits c).toNat)
  have HL0 : Hid (0 < (2 : Int) ^ (lbits (c + 1)).toNat) := Int.pow_pos (by decide)
  obtain ⟨ht0, ht1, ht2, ht3⟩ := ht
  clear hn hf hx
  go_enter Try.func10, Try.ntmps10
  go_wp2_with fail
  refine (join_in 0 0 (by omega) (by omega) (by omega) (by decide) _).mono ?_
  rw [show lfirst 0 + 0 = 0 from by decide]
  rintro e w1 ⟨rfl, hb⟩
  have HB1 := Lib.hid hb
  clear hb
  go_wp2_with fail
  refine (joinOff_in 0 0 (by omega) (by omega) (by omega) (by decide) _).mono ?_
  rw [show ofirst 0 + 0 = 1 from by decide]
  rintro e w2 ⟨rfl, hb⟩
  have HB2 := Lib.hid (HB1.out.trans (hb.mono HB1.out.size))
  clear hb HB1
  go_wp2_with fail
  refine (extra_in c (by omega) (by omega) _).mono ?_
  rw [H.out.1]
  rintro e w3 ⟨rfl, hb⟩
  have HB3 := Lib.hid (HB2.out.trans (hb.mono HB2.out.size))
  clear hb HB2
  go_wp2_with fail
  refine (join_in c (S - 1) (by omega) (by omega) (by omega) HLT.out _).mono ?_
  rw [H.out.2.1]
  rintro e w4 ⟨rfl, hb⟩
  have HB4 := Lib.hid (HB3.out.trans (hb.mono HB3.out.size))
  clear hb HB3
  go_wp2_with fail
  refine (join_in (c + 1) 0 (by omega) (by omega) (by omega) HL0.out _).mono ?_
  rw [H.out.2.2]
  rintro e w5 ⟨rfl, hb⟩
  have HB5 := Lib.hid (HB4.out.trans (hb.mono HB4.out.size))
  clear hb HB4
  go_wp2_with fail
  refine (known_any _).mono ?_
  rintro e w6 ⟨rfl, hb⟩
  have HB6 := Lib.hid (HB5.out.trans (hb.mono HB5.out.size))
  clear hb HB5
  go_wp2
  go_ret
  exact ⟨rfl, HB6.out⟩
set_option maxHeartbeats 1600000 in
theorem codeGaps_hi (c : Int) (h : 43 ≤ c) (w : World) : Calls Try.prog 10 #[.int .i64 c] w fun e w' => e = .returned (.bool true) ∧ Below w.heap.size w w' := by
  go_enter Try.func10, Try.ntmps10
  go_wp2_with fail
  refine (join_in 0 0 (by omega) (by omega) (by omega) (by decide) _).mono ?_
  rw [show lfirst 0 + 0 = 0 from by decide]
  rintro e w1 ⟨rfl, hb⟩
  have HB1 := Lib.hid hb
  clear hb
  go_wp2_with fail
  refine (joinOff_in 0 0 (by omega) (by omega) (by omega) (by decide) _).mono ?_
  rw [show ofirst 0 + 0 = 1 from by decide]
  rintro e w2 ⟨rfl, hb⟩
  have HB2 := Lib.hid (HB1.out.trans (hb.mono HB1.out.size))
  clear hb HB1
  go_wp2_with fail
  refine (known_any _).mono ?_
  rintro e w3 ⟨rfl, hb⟩
  have HB3 := Lib.hid (HB2.out.trans (hb.mono HB2.out.size))
  clear hb HB2
  go_wp2
  go_ret
  exact ⟨rfl, HB3.out⟩
theorem codeGaps_walk (c : Int) (_ : (Lit.int .i64 c).wf = true) (w : World) : Calls Try.prog 10 #[.int .i64 c] w fun e w' => e = .returned (.bool true) ∧ Below w.heap.size w w' := by
  by_cases h1 : c < 0
  · exact codeGaps_lo c h1 w
  · by_cases h2 : c < 27
    · exact codeGaps_in c (by omega) h2 w
    · by_cases h3 : c < 43
      · exact codeGaps_mid c (by omega) h3 w
      · exact codeGaps_hi c (by omega) w
end Go.Proofs.Ytdmnbmldhhgniaa
