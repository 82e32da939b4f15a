/-
  CodeOnto: the law's walk.
-/
import Derived.Test.YtdmnbmldhhgniaaCodeKnown
namespace Go.Proofs.Ytdmnbmldhhgniaa
open Go.RowKit
set_option maxHeartbeats 1600000 in
theorem codeOnto_tt (c : Int) (r : Int) (hr0 : 0 ≤ r) (hr1 : r ≤ 18446744073709551615) (hL : jOk false c r) (hO : jOk true c r) (w : World) : Calls Try.prog 8 #[.int .i64 c, .int .u64 r] w fun e w' => e = .returned (.bool true) ∧ Below w.heap.size w w' := by
  have hu := kCode_unique (v := kFirst false c + r) hL.1 hL.2.1 (by omega) (by have := hL.2.2; omega)
  have HL : Hid (kc false (kFirst false c + r) = c ∧ kr false (kFirst false c + r) = r ∧ ke false (kFirst false c + r) = 0) := ⟨by unfold kc; rw [if_pos hu.1, hu.2], by unfold kr; rw [if_pos hu.1, hu.2]; omega, if_pos hu.1⟩
  have JL : Hid (jv false c r = kFirst false c + r ∧ je false c r = 0) := ⟨if_pos hL, if_pos hL⟩
  clear hu hL
  have hu := kCode_unique (v := kFirst true c + r) hO.1 hO.2.1 (by omega) (by have := hO.2.2; omega)
  have HO : Hid (kc true (kFirst true c + r) = c ∧ kr true (kFirst true c + r) = r ∧ ke true (kFirst true c + r) = 0) := ⟨by unfold kc; rw [if_pos hu.1, hu.2], by unfold kr; rw [if_pos hu.1, hu.2]; omega, if_pos hu.1⟩
  have JO : Hid (jv true c r = kFirst true c + r ∧ je true c r = 0) := ⟨if_pos hO, if_pos hO⟩
  clear hu hO
  go_enter Try.func8, Try.ntmps8
  go_wp2_with fail
  refine (join_any c r hr0 hr1 _).mono ?_
  rw [JL.out.1, JL.out.2]
  rintro e w1 ⟨rfl, hb⟩
  have HB1 := Lib.hid hb
  clear hb
  go_wp2_with fail
  refine (split_any (kFirst false c + r) _).mono ?_
  rw [HL.out.1, HL.out.2.1, HL.out.2.2]
  rintro e w2 ⟨rfl, hb⟩
  have HB2 := Lib.hid (HB1.out.trans (hb.mono HB1.out.size))
  clear hb HB1
  go_wp2_with fail
  refine (joinOff_any c r hr0 hr1 _).mono ?_
  rw [JO.out.1, JO.out.2]
  rintro e w3 ⟨rfl, hb⟩
  have HB3 := Lib.hid (HB2.out.trans (hb.mono HB2.out.size))
  clear hb HB2
  go_wp2_with fail
  refine (splitOff_any (kFirst true c + r) _).mono ?_
  rw [HO.out.1, HO.out.2.1, HO.out.2.2]
  rintro e w4 ⟨rfl, hb⟩
  have HB4 := Lib.hid (HB3.out.trans (hb.mono HB3.out.size))
  clear hb HB3
  go_wp2_with fail
  refine (known_any _).mono ?_
  rintro e w5 ⟨rfl, hb⟩
  have HB5 := Lib.hid (HB4.out.trans (hb.mono HB4.out.size))
  clear hb HB4
  go_wp2
  go_ret
  exact ⟨rfl, HB5.out⟩
set_option maxHeartbeats 1600000 in
theorem codeOnto_tf (c : Int) (r : Int) (hr0 : 0 ≤ r) (hr1 : r ≤ 18446744073709551615) (hL : jOk false c r) (hO : ¬ jOk true c r) (w : World) : Calls Try.prog 8 #[.int .i64 c, .int .u64 r] w fun e w' => e = .returned (.bool true) ∧ Below w.heap.size w w' := by
  have hu := kCode_unique (v := kFirst false c + r) hL.1 hL.2.1 (by omega) (by have := hL.2.2; omega)
  have HL : Hid (kc false (kFirst false c + r) = c ∧ kr false (kFirst false c + r) = r ∧ ke false (kFirst false c + r) = 0) := ⟨by unfold kc; rw [if_pos hu.1, hu.2], by unfold kr; rw [if_pos hu.1, hu.2]; omega, if_pos hu.1⟩
  have JL : Hid (jv false c r = kFirst false c + r ∧ je false c r = 0) := ⟨if_pos hL, if_pos hL⟩
  clear hu hL
  have JO : Hid (jv true c r = 0 ∧ je true c r = 2) := ⟨if_neg hO, if_neg hO⟩
  clear hO
  go_enter Try.func8, Try.ntmps8
  go_wp2_with fail
  refine (join_any c r hr0 hr1 _).mono ?_
  rw [JL.out.1, JL.out.2]
  rintro e w1 ⟨rfl, hb⟩
  have HB1 := Lib.hid hb
  clear hb
  go_wp2_with fail
  refine (split_any (kFirst false c + r) _).mono ?_
  rw [HL.out.1, HL.out.2.1, HL.out.2.2]
  rintro e w2 ⟨rfl, hb⟩
  have HB2 := Lib.hid (HB1.out.trans (hb.mono HB1.out.size))
  clear hb HB1
  go_wp2_with fail
  refine (joinOff_any c r hr0 hr1 _).mono ?_
  rw [JO.out.1, JO.out.2]
  rintro e w3 ⟨rfl, hb⟩
  have HB3 := Lib.hid (HB2.out.trans (hb.mono HB2.out.size))
  clear hb HB2
  go_wp2_with fail
  refine (known_any _).mono ?_
  rintro e w4 ⟨rfl, hb⟩
  have HB4 := Lib.hid (HB3.out.trans (hb.mono HB3.out.size))
  clear hb HB3
  go_wp2
  go_ret
  exact ⟨rfl, HB4.out⟩
set_option maxHeartbeats 1600000 in
theorem codeOnto_ft (c : Int) (r : Int) (hr0 : 0 ≤ r) (hr1 : r ≤ 18446744073709551615) (hL : ¬ jOk false c r) (hO : jOk true c r) (w : World) : Calls Try.prog 8 #[.int .i64 c, .int .u64 r] w fun e w' => e = .returned (.bool true) ∧ Below w.heap.size w w' := by
  have JL : Hid (jv false c r = 0 ∧ je false c r = 2) := ⟨if_neg hL, if_neg hL⟩
  clear hL
  have hu := kCode_unique (v := kFirst true c + r) hO.1 hO.2.1 (by omega) (by have := hO.2.2; omega)
  have HO : Hid (kc true (kFirst true c + r) = c ∧ kr true (kFirst true c + r) = r ∧ ke true (kFirst true c + r) = 0) := ⟨by unfold kc; rw [if_pos hu.1, hu.2], by unfold kr; rw [if_pos hu.1, hu.2]; omega, if_pos hu.1⟩
  have JO : Hid (jv true c r = kFirst true c + r ∧ je true c r = 0) := ⟨if_pos hO, if_pos hO⟩
  clear hu hO
  go_enter Try.func8, Try.ntmps8
  go_wp2_with fail
  refine (join_any c r hr0 hr1 _).mono ?_
  rw [JL.out.1, JL.out.2]
  rintro e w1 ⟨rfl, hb⟩
  have HB1 := Lib.hid hb
  clear hb
  go_wp2_with fail
  refine (joinOff_any c r hr0 hr1 _).mono ?_
  rw [JO.out.1, JO.out.2]
  rintro e w2 ⟨rfl, hb⟩
  have HB2 := Lib.hid (HB1.out.trans (hb.mono HB1.out.size))
  clear hb HB1
  go_wp2_with fail
  refine (splitOff_any (kFirst true c + r) _).mono ?_
  rw [HO.out.1, HO.out.2.1, HO.out.2.2]
  rintro e w3 ⟨rfl, hb⟩
  have HB3 := Lib.hid (HB2.out.trans (hb.mono HB2.out.size))
  clear hb HB2
  go_wp2_with fail
  refine (known_any _).mono ?_
  rintro e w4 ⟨rfl, hb⟩
  have HB4 := Lib.hid (HB3.out.trans (hb.mono HB3.out.size))
  clear hb HB3
  go_wp2
  go_ret
  exact ⟨rfl, HB4.out⟩
set_option maxHeartbeats 1600000 in
theorem codeOnto_ff (c : Int) (r : Int) (hr0 : 0 ≤ r) (hr1 : r ≤ 18446744073709551615) (hL : ¬ jOk false c r) (hO : ¬ jOk true c r) (w : World) : Calls Try.prog 8 #[.int .i64 c, .int .u64 r] w fun e w' => e = .returned (.bool true) ∧ Below w.heap.size w w' := by
  have JL : Hid (jv false c r = 0 ∧ je false c r = 2) := ⟨if_neg hL, if_neg hL⟩
  clear hL
  have JO : Hid (jv true c r = 0 ∧ je true c r = 2) := ⟨if_neg hO, if_neg hO⟩
  clear hO
  go_enter Try.func8, Try.ntmps8
  go_wp2_with fail
  refine (join_any c r hr0 hr1 _).mono ?_
  rw [JL.out.1, JL.out.2]
  rintro e w1 ⟨rfl, hb⟩
  have HB1 := Lib.hid hb
  clear hb
  go_wp2_with fail
  refine (joinOff_any c r hr0 hr1 _).mono ?_
  rw [JO.out.1, JO.out.2]
  rintro e w2 ⟨rfl, hb⟩
  have HB2 := Lib.hid (HB1.out.trans (hb.mono HB1.out.size))
  clear hb HB1
  go_wp2_with fail
  refine (known_any _).mono ?_
  rintro e w3 ⟨rfl, hb⟩
  have HB3 := Lib.hid (HB2.out.trans (hb.mono HB2.out.size))
  clear hb HB2
  go_wp2
  go_ret
  exact ⟨rfl, HB3.out⟩
theorem codeOnto_walk (c : Int) (_ : (Lit.int .i64 c).wf = true) (r : Int) (hwf : (Lit.int .u64 r).wf = true) (w : World) : Calls Try.prog 8 #[.int .i64 c, .int .u64 r] w fun e w' => e = .returned (.bool true) ∧ Below w.heap.size w w' := by
  have hr : 0 ≤ r ∧ r ≤ 18446744073709551615 := by
    simp [Lit.wf, IntKind.min, IntKind.max, IntKind.signed, IntKind.bits] at hwf
    omega
  by_cases hL : jOk false c r
  · by_cases hO : jOk true c r
    · exact codeOnto_tt c r hr.1 hr.2 hL hO w
    · exact codeOnto_tf c r hr.1 hr.2 hL hO w
  · by_cases hO : jOk true c r
    · exact codeOnto_ft c r hr.1 hr.2 hL hO w
    · exact codeOnto_ff c r hr.1 hr.2 hL hO w
end Go.Proofs.Ytdmnbmldhhgniaa
