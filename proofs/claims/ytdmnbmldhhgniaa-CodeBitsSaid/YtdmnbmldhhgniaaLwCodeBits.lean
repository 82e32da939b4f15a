/-
  CodeBits: the law's walk.
-/
import Derived.Test.YtdmnbmldhhgniaaCodeKnown
namespace Go.Proofs.Ytdmnbmldhhgniaa
open Go.RowKit
set_option maxHeartbeats 1600000 in
theorem codeBits_lo (c : Int) (h : c < 0) (w : World) : Calls Try.prog 6 #[.int .i64 c] w fun e w' => e = .returned (.bool true) ∧ Below w.heap.size w w' := by
  go_enter Try.func6, Try.ntmps6
  go_wp2_with fail
  refine (extra_out c (Or.inl (by omega)) _).mono ?_
  rintro e w1 ⟨rfl, hb⟩
  have HB1 := Lib.hid hb
  clear hb
  go_wp2_with fail
  refine (offBits_out c (Or.inl (by omega)) _).mono ?_
  rintro e w2 ⟨rfl, hb⟩
  have HB2 := Lib.hid (HB1.out.trans (hb.mono HB1.out.size))
  clear hb HB1
  go_wp2_with fail
  refine (rBits_out false c (Or.inl h) _).mono ?_
  rintro e w' ⟨rfl, rfl⟩
  go_wp2_with fail
  refine (rBits_out true c (Or.inl h) _).mono ?_
  rintro e w' ⟨rfl, rfl⟩
  go_wp2_with fail
  refine (known_any _).mono ?_
  rintro e w3 ⟨rfl, hb⟩
  have HB3 := Lib.hid (HB2.out.trans (hb.mono HB2.out.size))
  clear hb HB2
  go_wp2
  go_ret
  exact ⟨rfl, HB3.out⟩
set_option maxHeartbeats 1600000 in
theorem codeBits_in (c : Int) (h0 : 0 ≤ c) (h1 : c < 28) (w : World) : Calls Try.prog 6 #[.int .i64 c] w fun e w' => e = .returned (.bool true) ∧ Below w.heap.size w w' := by
  have hb := (lfirst_top h0 (show c < 44 by omega)).2.1
  obtain ⟨B, hB⟩ : ∃ B, B = lbits c := ⟨_, rfl⟩
  rw [← hB] at hb
  have HB0 := Lib.hid hB
  clear hB
  go_enter Try.func6, Try.ntmps6
  go_wp2_with fail
  refine (extra_in c h0 (by omega) _).mono ?_
  rw [← HB0.out]
  rintro e w1 ⟨rfl, hb⟩
  have HB1 := Lib.hid hb
  clear hb
  go_wp2_with fail
  refine (offBits_in c h0 h1 _).mono ?_
  rintro e w2 ⟨rfl, hb⟩
  have HB2 := Lib.hid (HB1.out.trans (hb.mono HB1.out.size))
  clear hb HB1
  go_wp2_with fail
  refine (rBits_in false c h0 (by simp [kN]; omega) _).mono ?_
  rw [show kBits false c = B from HB0.out.symm]
  rintro e w' ⟨rfl, rfl⟩
  go_wp2_with fail
  refine (rBits_in true c h0 (by simp [kN]; omega) _).mono ?_
  rw [show kBits true c = c from rfl]
  rintro e w' ⟨rfl, rfl⟩
  go_wp2_with fail
  refine (known_any _).mono ?_
  rintro e w3 ⟨rfl, hb⟩
  have HB3 := Lib.hid (HB2.out.trans (hb.mono HB2.out.size))
  clear hb HB2
  go_wp2
  go_ret
  exact ⟨rfl, HB3.out⟩
set_option maxHeartbeats 1600000 in
theorem codeBits_mid (c : Int) (h0 : 28 ≤ c) (h1 : c < 44) (w : World) : Calls Try.prog 6 #[.int .i64 c] w fun e w' => e = .returned (.bool true) ∧ Below w.heap.size w w' := by
  have hb := (lfirst_top (show 0 ≤ c by omega) h1).2.1
  obtain ⟨B, hB⟩ : ∃ B, B = lbits c := ⟨_, rfl⟩
  rw [← hB] at hb
  have HB0 := Lib.hid hB
  clear hB
  go_enter Try.func6, Try.ntmps6
  go_wp2_with fail
  refine (extra_in c (by omega) h1 _).mono ?_
  rw [← HB0.out]
  rintro e w1 ⟨rfl, hb⟩
  have HB1 := Lib.hid hb
  clear hb
  go_wp2_with fail
  refine (offBits_out c (Or.inr h0) _).mono ?_
  rintro e w2 ⟨rfl, hb⟩
  have HB2 := Lib.hid (HB1.out.trans (hb.mono HB1.out.size))
  clear hb HB1
  go_wp2_with fail
  refine (rBits_in false c (by omega) (by simp [kN]; omega) _).mono ?_
  rw [show kBits false c = B from HB0.out.symm]
  rintro e w' ⟨rfl, rfl⟩
  go_wp2_with fail
  refine (rBits_out true c (Or.inr (by simp [kN]; omega)) _).mono ?_
  rintro e w' ⟨rfl, rfl⟩
  go_wp2_with fail
  refine (known_any _).mono ?_
  rintro e w3 ⟨rfl, hb⟩
  have HB3 := Lib.hid (HB2.out.trans (hb.mono HB2.out.size))
  clear hb HB2
  go_wp2
  go_ret
  exact ⟨rfl, HB3.out⟩
set_option maxHeartbeats 1600000 in
theorem codeBits_hi (c : Int) (h : 44 ≤ c) (w : World) : Calls Try.prog 6 #[.int .i64 c] w fun e w' => e = .returned (.bool true) ∧ Below w.heap.size w w' := by
  go_enter Try.func6, Try.ntmps6
  go_wp2_with fail
  refine (extra_out c (Or.inr (by omega)) _).mono ?_
  rintro e w1 ⟨rfl, hb⟩
  have HB1 := Lib.hid hb
  clear hb
  go_wp2_with fail
  refine (offBits_out c (Or.inr (by omega)) _).mono ?_
  rintro e w2 ⟨rfl, hb⟩
  have HB2 := Lib.hid (HB1.out.trans (hb.mono HB1.out.size))
  clear hb HB1
  go_wp2_with fail
  refine (rBits_out false c (Or.inr (by simp [kN]; omega)) _).mono ?_
  rintro e w' ⟨rfl, rfl⟩
  go_wp2_with fail
  refine (rBits_out true c (Or.inr (by simp [kN]; omega)) _).mono ?_
  rintro e w' ⟨rfl, rfl⟩
  go_wp2_with fail
  refine (known_any _).mono ?_
  rintro e w3 ⟨rfl, hb⟩
  have HB3 := Lib.hid (HB2.out.trans (hb.mono HB2.out.size))
  clear hb HB2
  go_wp2
  go_ret
  exact ⟨rfl, HB3.out⟩
theorem codeBits_walk (c : Int) (_ : (Lit.int .i64 c).wf = true) (w : World) : Calls Try.prog 6 #[.int .i64 c] w fun e w' => e = .returned (.bool true) ∧ Below w.heap.size w w' := by
  by_cases h1 : c < 0
  · exact codeBits_lo c h1 w
  · by_cases h2 : c < 28
    · exact codeBits_in c (by omega) h2 w
    · by_cases h3 : c < 44
      · exact codeBits_mid c (by omega) h3 w
      · exact codeBits_hi c (by omega) w
end Go.Proofs.Ytdmnbmldhhgniaa
