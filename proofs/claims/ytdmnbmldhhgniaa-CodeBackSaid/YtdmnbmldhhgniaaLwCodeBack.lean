/-
  CodeBack: the law's walk.
-/
import Derived.Test.YtdmnbmldhhgniaaCodeKnown
namespace Go.Proofs.Ytdmnbmldhhgniaa
open Go.RowKit
theorem kFirst_lt {off : Bool} {c d : Int} (h0 : 0 ≤ c) (h1 : d < kN off) (h : c < d) : kFirst off c + 2 ^ (kBits off c).toNat ≤ kFirst off d := by
  cases off with
  | true => simp [kFirst, kBits, kN] at *; exact ofirst_lt h0 h1 h
  | false => simp [kFirst, kBits, kN] at *; exact lfirst_lt h0 h1 h
set_option maxHeartbeats 1600000 in
theorem codeBack_tt (v : Int) (hL : kIn false v) (hO : kIn true v) (w : World) : Calls Try.prog 9 #[.int .i64 v] w fun e w' => e = .returned (.bool true) ∧ Below w.heap.size w w' := by
  have hsL := kCode_spec hL
  have hbL := kBits_bd hsL.1 hsL.2.1
  obtain ⟨cL, hcL⟩ : ∃ c, c = kCode false v := ⟨_, rfl⟩
  rw [← hcL] at hsL hbL
  obtain ⟨nL, hnL⟩ : ∃ n, n = kBits false cL := ⟨_, rfl⟩
  rw [← hnL] at hsL hbL
  obtain ⟨rL, hrL⟩ : ∃ r, r = v - kFirst false cL := ⟨_, rfl⟩
  obtain ⟨SL, hSL⟩ : ∃ S : Int, (2 : Int) ^ nL.toNat = S := ⟨_, rfl⟩
  have hSbL : SL ≤ 134217728 := by rw [← hSL]; exact two_pow27 (by omega)
  have hjoL : jOk false cL rL := ⟨hsL.1, hsL.2.1, by rw [← hnL]; omega⟩
  rw [hSL] at hsL
  have hrbL : 0 ≤ rL ∧ rL < SL := by omega
  have HL : Hid (kc false v = cL ∧ kr false v = rL ∧ ke false v = 0) := ⟨by unfold kc; rw [if_pos hL, hcL], by unfold kr; rw [if_pos hL, ← hcL, hrL], if_pos hL⟩
  have JL : Hid (jv false cL rL = v ∧ je false cL rL = 0) := ⟨by unfold jv; rw [if_pos hjoL]; omega, if_pos hjoL⟩
  have HCL := Lib.hid (And.intro hsL.1 hsL.2.1)
  have HNL := Lib.hid hnL
  obtain ⟨hv0L, hv1L⟩ := hL
  simp [kLeast, kTop] at hv0L hv1L
  obtain ⟨hb0L, hb1L⟩ := hbL
  obtain ⟨hr0L, hr1L⟩ := hrbL
  clear hsL hcL hnL hrL hjoL
  have hsO := kCode_spec hO
  have hbO := kBits_bd hsO.1 hsO.2.1
  obtain ⟨cO, hcO⟩ : ∃ c, c = kCode true v := ⟨_, rfl⟩
  rw [← hcO] at hsO hbO
  obtain ⟨nO, hnO⟩ : ∃ n, n = kBits true cO := ⟨_, rfl⟩
  rw [← hnO] at hsO hbO
  obtain ⟨rO, hrO⟩ : ∃ r, r = v - kFirst true cO := ⟨_, rfl⟩
  obtain ⟨SO, hSO⟩ : ∃ S : Int, (2 : Int) ^ nO.toNat = S := ⟨_, rfl⟩
  have hSbO : SO ≤ 134217728 := by rw [← hSO]; exact two_pow27 (by omega)
  have hjoO : jOk true cO rO := ⟨hsO.1, hsO.2.1, by rw [← hnO]; omega⟩
  rw [hSO] at hsO
  have hrbO : 0 ≤ rO ∧ rO < SO := by omega
  have HO : Hid (kc true v = cO ∧ kr true v = rO ∧ ke true v = 0) := ⟨by unfold kc; rw [if_pos hO, hcO], by unfold kr; rw [if_pos hO, ← hcO, hrO], if_pos hO⟩
  have JO : Hid (jv true cO rO = v ∧ je true cO rO = 0) := ⟨by unfold jv; rw [if_pos hjoO]; omega, if_pos hjoO⟩
  have HCO := Lib.hid (And.intro hsO.1 hsO.2.1)
  have HNO := Lib.hid hnO
  obtain ⟨hv0O, hv1O⟩ := hO
  simp [kLeast, kTop] at hv0O hv1O
  obtain ⟨hb0O, hb1O⟩ := hbO
  obtain ⟨hr0O, hr1O⟩ := hrbO
  clear hsO hcO hrO hjoO
  obtain rfl : nO = cO := hnO
  go_enter Try.func9, Try.ntmps9
  go_wp2_with fail
  refine (split_any v _).mono ?_
  rw [HL.out.1, HL.out.2.1, HL.out.2.2]
  rintro e w1 ⟨rfl, hb⟩
  have HB1 := Lib.hid hb
  clear hb
  go_wp2_with fail
  refine (extra_in cL HCL.out.1 HCL.out.2 _).mono ?_
  rw [show lbits cL = nL from HNL.out.symm]
  rintro e w2 ⟨rfl, hb⟩
  have HB2 := Lib.hid (HB1.out.trans (hb.mono HB1.out.size))
  clear hb HB1
  go_wp2_with fail
  refine (join_any cL rL (by omega) (by omega) _).mono ?_
  rw [JL.out.1, JL.out.2]
  rintro e w3 ⟨rfl, hb⟩
  have HB3 := Lib.hid (HB2.out.trans (hb.mono HB2.out.size))
  clear hb HB2
  go_wp2_with fail
  refine (splitOff_any v _).mono ?_
  rw [HO.out.1, HO.out.2.1, HO.out.2.2]
  rintro e w4 ⟨rfl, hb⟩
  have HB4 := Lib.hid (HB3.out.trans (hb.mono HB3.out.size))
  clear hb HB3
  go_wp2_with fail
  refine (offBits_in nO HCO.out.1 HCO.out.2 _).mono ?_
  rintro e w5 ⟨rfl, hb⟩
  have HB5 := Lib.hid (HB4.out.trans (hb.mono HB4.out.size))
  clear hb HB4
  go_wp2_with fail
  refine (joinOff_any nO rO (by omega) (by omega) _).mono ?_
  rw [JO.out.1, JO.out.2]
  rintro e w6 ⟨rfl, hb⟩
  have HB6 := Lib.hid (HB5.out.trans (hb.mono HB5.out.size))
  clear hb HB5
  go_wp2_with fail
  refine (known_any _).mono ?_
  rintro e w7 ⟨rfl, hb⟩
  have HB7 := Lib.hid (HB6.out.trans (hb.mono HB6.out.size))
  clear hb HB6
  go_wp2
  go_ret
  exact ⟨rfl, HB7.out⟩
set_option maxHeartbeats 1600000 in
theorem codeBack_tf (v : Int) (hL : kIn false v) (hO : ¬ kIn true v) (w : World) : Calls Try.prog 9 #[.int .i64 v] w fun e w' => e = .returned (.bool true) ∧ Below w.heap.size w w' := by
  have hsL := kCode_spec hL
  have hbL := kBits_bd hsL.1 hsL.2.1
  obtain ⟨cL, hcL⟩ : ∃ c, c = kCode false v := ⟨_, rfl⟩
  rw [← hcL] at hsL hbL
  obtain ⟨nL, hnL⟩ : ∃ n, n = kBits false cL := ⟨_, rfl⟩
  rw [← hnL] at hsL hbL
  obtain ⟨rL, hrL⟩ : ∃ r, r = v - kFirst false cL := ⟨_, rfl⟩
  obtain ⟨SL, hSL⟩ : ∃ S : Int, (2 : Int) ^ nL.toNat = S := ⟨_, rfl⟩
  have hSbL : SL ≤ 134217728 := by rw [← hSL]; exact two_pow27 (by omega)
  have hjoL : jOk false cL rL := ⟨hsL.1, hsL.2.1, by rw [← hnL]; omega⟩
  rw [hSL] at hsL
  have hrbL : 0 ≤ rL ∧ rL < SL := by omega
  have HL : Hid (kc false v = cL ∧ kr false v = rL ∧ ke false v = 0) := ⟨by unfold kc; rw [if_pos hL, hcL], by unfold kr; rw [if_pos hL, ← hcL, hrL], if_pos hL⟩
  have JL : Hid (jv false cL rL = v ∧ je false cL rL = 0) := ⟨by unfold jv; rw [if_pos hjoL]; omega, if_pos hjoL⟩
  have HCL := Lib.hid (And.intro hsL.1 hsL.2.1)
  have HNL := Lib.hid hnL
  obtain ⟨hv0L, hv1L⟩ := hL
  simp [kLeast, kTop] at hv0L hv1L
  obtain ⟨hb0L, hb1L⟩ := hbL
  obtain ⟨hr0L, hr1L⟩ := hrbL
  clear hsL hcL hnL hrL hjoL
  have hO' := kIn_not hO
  simp [kLeast, kTop] at hO'
  clear hO
  have hcase : v < 1 := by omega
  clear hO'
  go_enter Try.func9, Try.ntmps9
  go_wp2_with fail
  refine (split_any v _).mono ?_
  rw [HL.out.1, HL.out.2.1, HL.out.2.2]
  rintro e w1 ⟨rfl, hb⟩
  have HB1 := Lib.hid hb
  clear hb
  go_wp2_with fail
  refine (extra_in cL HCL.out.1 HCL.out.2 _).mono ?_
  rw [show lbits cL = nL from HNL.out.symm]
  rintro e w2 ⟨rfl, hb⟩
  have HB2 := Lib.hid (HB1.out.trans (hb.mono HB1.out.size))
  clear hb HB1
  go_wp2_with fail
  refine (join_any cL rL (by omega) (by omega) _).mono ?_
  rw [JL.out.1, JL.out.2]
  rintro e w3 ⟨rfl, hb⟩
  have HB3 := Lib.hid (HB2.out.trans (hb.mono HB2.out.size))
  clear hb HB2
  go_wp2_with fail
  refine (known_any _).mono ?_
  rintro e w4 ⟨rfl, hb⟩
  have HB4 := Lib.hid (HB3.out.trans (hb.mono HB3.out.size))
  clear hb HB3
  go_wp2
  go_ret
  exact ⟨rfl, HB4.out⟩
set_option maxHeartbeats 1600000 in
theorem codeBack_ft (v : Int) (hL : ¬ kIn false v) (hO : kIn true v) (w : World) : Calls Try.prog 9 #[.int .i64 v] w fun e w' => e = .returned (.bool true) ∧ Below w.heap.size w w' := by
  have hL' := kIn_not hL
  simp [kLeast, kTop] at hL'
  clear hL
  have hsO := kCode_spec hO
  have hbO := kBits_bd hsO.1 hsO.2.1
  obtain ⟨cO, hcO⟩ : ∃ c, c = kCode true v := ⟨_, rfl⟩
  rw [← hcO] at hsO hbO
  obtain ⟨nO, hnO⟩ : ∃ n, n = kBits true cO := ⟨_, rfl⟩
  rw [← hnO] at hsO hbO
  obtain ⟨rO, hrO⟩ : ∃ r, r = v - kFirst true cO := ⟨_, rfl⟩
  obtain ⟨SO, hSO⟩ : ∃ S : Int, (2 : Int) ^ nO.toNat = S := ⟨_, rfl⟩
  have hSbO : SO ≤ 134217728 := by rw [← hSO]; exact two_pow27 (by omega)
  have hjoO : jOk true cO rO := ⟨hsO.1, hsO.2.1, by rw [← hnO]; omega⟩
  rw [hSO] at hsO
  have hrbO : 0 ≤ rO ∧ rO < SO := by omega
  have HO : Hid (kc true v = cO ∧ kr true v = rO ∧ ke true v = 0) := ⟨by unfold kc; rw [if_pos hO, hcO], by unfold kr; rw [if_pos hO, ← hcO, hrO], if_pos hO⟩
  have JO : Hid (jv true cO rO = v ∧ je true cO rO = 0) := ⟨by unfold jv; rw [if_pos hjoO]; omega, if_pos hjoO⟩
  have HCO := Lib.hid (And.intro hsO.1 hsO.2.1)
  have HNO := Lib.hid hnO
  obtain ⟨hv0O, hv1O⟩ := hO
  simp [kLeast, kTop] at hv0O hv1O
  obtain ⟨hb0O, hb1O⟩ := hbO
  obtain ⟨hr0O, hr1O⟩ := hrbO
  clear hsO hcO hrO hjoO
  obtain rfl : nO = cO := hnO
  have hcase : 262144 ≤ v := by omega
  clear hL'
  go_enter Try.func9, Try.ntmps9
  go_wp2_with fail
  refine (splitOff_any v _).mono ?_
  rw [HO.out.1, HO.out.2.1, HO.out.2.2]
  rintro e w1 ⟨rfl, hb⟩
  have HB1 := Lib.hid hb
  clear hb
  go_wp2_with fail
  refine (offBits_in nO HCO.out.1 HCO.out.2 _).mono ?_
  rintro e w2 ⟨rfl, hb⟩
  have HB2 := Lib.hid (HB1.out.trans (hb.mono HB1.out.size))
  clear hb HB1
  go_wp2_with fail
  refine (joinOff_any nO rO (by omega) (by omega) _).mono ?_
  rw [JO.out.1, JO.out.2]
  rintro e w3 ⟨rfl, hb⟩
  have HB3 := Lib.hid (HB2.out.trans (hb.mono HB2.out.size))
  clear hb HB2
  go_wp2_with fail
  refine (known_any _).mono ?_
  rintro e w4 ⟨rfl, hb⟩
  have HB4 := Lib.hid (HB3.out.trans (hb.mono HB3.out.size))
  clear hb HB3
  go_wp2
  go_ret
  exact ⟨rfl, HB4.out⟩
set_option maxHeartbeats 1600000 in
theorem codeBack_ff (v : Int) (hL : ¬ kIn false v) (hO : ¬ kIn true v) (w : World) : Calls Try.prog 9 #[.int .i64 v] w fun e w' => e = .returned (.bool true) ∧ Below w.heap.size w w' := by
  have hL' := kIn_not hL
  simp [kLeast, kTop] at hL'
  clear hL
  have hO' := kIn_not hO
  simp [kLeast, kTop] at hO'
  clear hO
  have hcase : v < 0 ∨ 268435456 ≤ v := by omega
  clear hL' hO'
  rcases hcase with hcase | hcase
  · go_enter Try.func9, Try.ntmps9
    go_wp2_with fail
    refine (known_any _).mono ?_
    rintro e w1 ⟨rfl, hb⟩
    have HB1 := Lib.hid hb
    clear hb
    go_wp2
    go_ret
    exact ⟨rfl, HB1.out⟩
  · go_enter Try.func9, Try.ntmps9
    go_wp2_with fail
    refine (known_any _).mono ?_
    rintro e w1 ⟨rfl, hb⟩
    have HB1 := Lib.hid hb
    clear hb
    go_wp2
    go_ret
    exact ⟨rfl, HB1.out⟩
theorem codeBack_walk (v : Int) (_ : (Lit.int .i64 v).wf = true) (w : World) : Calls Try.prog 9 #[.int .i64 v] w fun e w' => e = .returned (.bool true) ∧ Below w.heap.size w w' := by
  by_cases hL : kIn false v
  · by_cases hO : kIn true v
    · exact codeBack_tt v hL hO w
    · exact codeBack_tf v hL hO w
  · by_cases hO : kIn true v
    · exact codeBack_ft v hL hO w
    · exact codeBack_ff v hL hO w
end Go.Proofs.Ytdmnbmldhhgniaa
