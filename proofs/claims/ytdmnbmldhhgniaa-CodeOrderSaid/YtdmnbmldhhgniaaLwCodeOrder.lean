/-
  CodeOrder: the law's walk.
-/
import Derived.Test.YtdmnbmldhhgniaaCodeKnown
namespace Go.Proofs.Ytdmnbmldhhgniaa
open Go.RowKit
theorem kFirst_lt {off : Bool} {c d : Int} (h0 : 0 ≤ c) (h1 : d < kN off) (h : c < d) : kFirst off c + 2 ^ (kBits off c).toNat ≤ kFirst off d := by
  cases off with
  | true => simp [kFirst, kBits, kN] at *; exact ofirst_lt h0 h1 h
  | false => simp [kFirst, kBits, kN] at *; exact lfirst_lt h0 h1 h
/-- The order of two values' codes and rests, as the law asks it. -/
theorem kOrder (off : Bool) (a b : Int) (hab : a ≤ b) : ke off a ≠ 0 ∨ ke off b ≠ 0 ∨ kc off a < kc off b ∨ (kc off a = kc off b ∧ (kr off a < kr off b ∨ (kr off a = kr off b ∧ a = b))) := by
  by_cases ha : kIn off a
  · by_cases hb : kIn off b
    · refine Or.inr (Or.inr ?_)
      have e1 : kc off a = kCode off a := if_pos ha
      have e2 : kc off b = kCode off b := if_pos hb
      have e3 : kr off a = a - kFirst off (kCode off a) := if_pos ha
      have e4 : kr off b = b - kFirst off (kCode off b) := if_pos hb
      rw [e1, e2, e3, e4]
      have sa := kCode_spec ha
      have sb := kCode_spec hb
      rcases Int.lt_trichotomy (kCode off a) (kCode off b) with h | h | h
      · exact Or.inl h
      · refine Or.inr ⟨h, ?_⟩
        rw [h]
        omega
      · have := kFirst_lt sb.1 sa.2.1 h
        omega
    · exact Or.inr (Or.inl (by unfold ke; rw [if_neg hb]; decide))
  · exact Or.inl (by unfold ke; rw [if_neg ha]; decide)
set_option maxHeartbeats 6400000 in
theorem codeOrder_le (v : Int) (u : Int) (hvw : v ≤ u) (w : World) : Calls Try.prog 4 #[.int .i64 v, .int .i64 u] w fun e w' => e = .returned (.bool true) ∧ Below w.heap.size w w' := by
  have hL := kOrder false v u (by omega)
  obtain ⟨eaL, haL⟩ : ∃ x, x = ke false v := ⟨_, rfl⟩
  obtain ⟨ebL, hbL⟩ : ∃ x, x = ke false u := ⟨_, rfl⟩
  obtain ⟨caL, hcaL⟩ : ∃ x, x = kc false v := ⟨_, rfl⟩
  obtain ⟨cbL, hcbL⟩ : ∃ x, x = kc false u := ⟨_, rfl⟩
  obtain ⟨raL, hraL⟩ : ∃ x, x = kr false v := ⟨_, rfl⟩
  obtain ⟨rbL, hrbL⟩ : ∃ x, x = kr false u := ⟨_, rfl⟩
  rw [← haL, ← hbL, ← hcaL, ← hcbL, ← hraL, ← hrbL] at hL
  have AL : Hid (kc false v = caL ∧ kr false v = raL ∧ ke false v = eaL) := ⟨hcaL.symm, hraL.symm, haL.symm⟩
  have BL : Hid (kc false u = cbL ∧ kr false u = rbL ∧ ke false u = ebL) := ⟨hcbL.symm, hrbL.symm, hbL.symm⟩
  clear haL hbL hcaL hcbL hraL hrbL
  have hO := kOrder true v u (by omega)
  obtain ⟨eaO, haO⟩ : ∃ x, x = ke true v := ⟨_, rfl⟩
  obtain ⟨ebO, hbO⟩ : ∃ x, x = ke true u := ⟨_, rfl⟩
  obtain ⟨caO, hcaO⟩ : ∃ x, x = kc true v := ⟨_, rfl⟩
  obtain ⟨cbO, hcbO⟩ : ∃ x, x = kc true u := ⟨_, rfl⟩
  obtain ⟨raO, hraO⟩ : ∃ x, x = kr true v := ⟨_, rfl⟩
  obtain ⟨rbO, hrbO⟩ : ∃ x, x = kr true u := ⟨_, rfl⟩
  rw [← haO, ← hbO, ← hcaO, ← hcbO, ← hraO, ← hrbO] at hO
  have AO : Hid (kc true v = caO ∧ kr true v = raO ∧ ke true v = eaO) := ⟨hcaO.symm, hraO.symm, haO.symm⟩
  have BO : Hid (kc true u = cbO ∧ kr true u = rbO ∧ ke true u = ebO) := ⟨hcbO.symm, hrbO.symm, hbO.symm⟩
  clear haO hbO hcaO hcbO hraO hrbO
  have hmin : min v u = v := by omega
  have hmax : max v u = u := by omega
  go_enter Try.func4, Try.ntmps4
  go_wp2_with fail
  refine (split_any v _).mono ?_
  rw [AL.out.1, AL.out.2.1, AL.out.2.2]
  rintro e w1 ⟨rfl, hb⟩
  have HB1 := Lib.hid hb
  clear hb
  go_wp2_with fail
  refine (split_any u _).mono ?_
  rw [BL.out.1, BL.out.2.1, BL.out.2.2]
  rintro e w2 ⟨rfl, hb⟩
  have HB2 := Lib.hid (HB1.out.trans (hb.mono HB1.out.size))
  clear hb HB1
  go_wp2_with fail
  all_goals
    clear hL
    refine (splitOff_any v _).mono ?_
    rw [AO.out.1, AO.out.2.1, AO.out.2.2]
    rintro e w3 ⟨rfl, hb⟩
    have HB3 := Lib.hid (HB2.out.trans (hb.mono HB2.out.size))
    clear hb
    go_wp2_with fail
    refine (splitOff_any u _).mono ?_
    rw [BO.out.1, BO.out.2.1, BO.out.2.2]
    rintro e w4 ⟨rfl, hb⟩
    have HB4 := Lib.hid (HB3.out.trans (hb.mono HB3.out.size))
    clear hb
    go_wp2_with fail
    all_goals
      clear hO
      refine (known_any _).mono ?_
      rintro e w5 ⟨rfl, hb⟩
      have HB5 := Lib.hid (HB4.out.trans (hb.mono HB4.out.size))
      clear hb
      go_wp2
      go_ret
      exact ⟨rfl, HB5.out⟩
set_option maxHeartbeats 6400000 in
theorem codeOrder_gt (v : Int) (u : Int) (hvw : u < v) (w : World) : Calls Try.prog 4 #[.int .i64 v, .int .i64 u] w fun e w' => e = .returned (.bool true) ∧ Below w.heap.size w w' := by
  have hL := kOrder false u v (by omega)
  obtain ⟨eaL, haL⟩ : ∃ x, x = ke false u := ⟨_, rfl⟩
  obtain ⟨ebL, hbL⟩ : ∃ x, x = ke false v := ⟨_, rfl⟩
  obtain ⟨caL, hcaL⟩ : ∃ x, x = kc false u := ⟨_, rfl⟩
  obtain ⟨cbL, hcbL⟩ : ∃ x, x = kc false v := ⟨_, rfl⟩
  obtain ⟨raL, hraL⟩ : ∃ x, x = kr false u := ⟨_, rfl⟩
  obtain ⟨rbL, hrbL⟩ : ∃ x, x = kr false v := ⟨_, rfl⟩
  rw [← haL, ← hbL, ← hcaL, ← hcbL, ← hraL, ← hrbL] at hL
  have AL : Hid (kc false u = caL ∧ kr false u = raL ∧ ke false u = eaL) := ⟨hcaL.symm, hraL.symm, haL.symm⟩
  have BL : Hid (kc false v = cbL ∧ kr false v = rbL ∧ ke false v = ebL) := ⟨hcbL.symm, hrbL.symm, hbL.symm⟩
  clear haL hbL hcaL hcbL hraL hrbL
  have hO := kOrder true u v (by omega)
  obtain ⟨eaO, haO⟩ : ∃ x, x = ke true u := ⟨_, rfl⟩
  obtain ⟨ebO, hbO⟩ : ∃ x, x = ke true v := ⟨_, rfl⟩
  obtain ⟨caO, hcaO⟩ : ∃ x, x = kc true u := ⟨_, rfl⟩
  obtain ⟨cbO, hcbO⟩ : ∃ x, x = kc true v := ⟨_, rfl⟩
  obtain ⟨raO, hraO⟩ : ∃ x, x = kr true u := ⟨_, rfl⟩
  obtain ⟨rbO, hrbO⟩ : ∃ x, x = kr true v := ⟨_, rfl⟩
  rw [← haO, ← hbO, ← hcaO, ← hcbO, ← hraO, ← hrbO] at hO
  have AO : Hid (kc true u = caO ∧ kr true u = raO ∧ ke true u = eaO) := ⟨hcaO.symm, hraO.symm, haO.symm⟩
  have BO : Hid (kc true v = cbO ∧ kr true v = rbO ∧ ke true v = ebO) := ⟨hcbO.symm, hrbO.symm, hbO.symm⟩
  clear haO hbO hcaO hcbO hraO hrbO
  have hmin : min v u = u := by omega
  have hmax : max v u = v := by omega
  go_enter Try.func4, Try.ntmps4
  go_wp2_with fail
  refine (split_any u _).mono ?_
  rw [AL.out.1, AL.out.2.1, AL.out.2.2]
  rintro e w1 ⟨rfl, hb⟩
  have HB1 := Lib.hid hb
  clear hb
  go_wp2_with fail
  refine (split_any v _).mono ?_
  rw [BL.out.1, BL.out.2.1, BL.out.2.2]
  rintro e w2 ⟨rfl, hb⟩
  have HB2 := Lib.hid (HB1.out.trans (hb.mono HB1.out.size))
  clear hb HB1
  go_wp2_with fail
  all_goals
    clear hL
    refine (splitOff_any u _).mono ?_
    rw [AO.out.1, AO.out.2.1, AO.out.2.2]
    rintro e w3 ⟨rfl, hb⟩
    have HB3 := Lib.hid (HB2.out.trans (hb.mono HB2.out.size))
    clear hb
    go_wp2_with fail
    refine (splitOff_any v _).mono ?_
    rw [BO.out.1, BO.out.2.1, BO.out.2.2]
    rintro e w4 ⟨rfl, hb⟩
    have HB4 := Lib.hid (HB3.out.trans (hb.mono HB3.out.size))
    clear hb
    go_wp2_with fail
    all_goals
      clear hO
      refine (known_any _).mono ?_
      rintro e w5 ⟨rfl, hb⟩
      have HB5 := Lib.hid (HB4.out.trans (hb.mono HB4.out.size))
      clear hb
      go_wp2
      go_ret
      exact ⟨rfl, HB5.out⟩
theorem codeOrder_walk (v : Int) (_ : (Lit.int .i64 v).wf = true) (u : Int) (_ : (Lit.int .i64 u).wf = true) (w : World) : Calls Try.prog 4 #[.int .i64 v, .int .i64 u] w fun e w' => e = .returned (.bool true) ∧ Below w.heap.size w w' := by
  by_cases h : v ≤ u
  · exact codeOrder_le v u h w
  · exact codeOrder_gt v u (by omega) w
end Go.Proofs.Ytdmnbmldhhgniaa
