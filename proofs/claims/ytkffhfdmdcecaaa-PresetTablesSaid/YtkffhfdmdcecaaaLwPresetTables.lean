/-
  PresetTables: the law's walk: it returns true and turns nothing that was there.
-/
import Derived.Test.YtkffhfdmdcecaaaPresetB
import Derived.Test.YtkffhfdmdcecaaaSame
namespace Go.Proofs.Ytkffhfdmdcecaaa
open Go.RowKit

set_option maxHeartbeats 800000 in
theorem presetTables_walk (w : World) : Calls Try.prog 3 #[] w fun e w' => e = .returned (.bool true) ∧ Below w.heap.size w w' := by
  go_enter Try.func3, Try.ntmps3
  go_wp2_with fail
  refine (ll_any _).mono ?_
  rintro e w1 ⟨v1, rfl, hf1, hb1⟩
  have HF1 := Lib.hid hf1
  have HB1 := Lib.hid hb1
  clear hf1 hb1
  go_wp2_with fail
  refine (refOf_0 _).mono ?_
  rintro e w2 ⟨v2, rfl, hf2, hb2⟩
  have HF1' := Lib.hid (HF1.out.below hb2 (Nat.le_refl _))
  have HF2 := Lib.hid hf2
  have HB2 := Lib.hid (HB1.out.trans (hb2.mono HB1.out.size))
  clear hf2 hb2 HF1
  go_wp2_with fail
  refine (same_true 6 v1 v2 llN _ (HF1'.out.ints (by decide)) (HF2.out.ints (by decide))).mono ?_
  rintro e w3 ⟨rfl, hb3⟩
  have HB3 := Lib.hid (HB2.out.trans (hb3.mono HB2.out.size))
  clear hb3 HF1' HF2
  go_wp2_with fail
  refine (of_any _).mono ?_
  rintro e w4 ⟨v4, rfl, hf4, hb4⟩
  have HF4 := Lib.hid hf4
  have HB4 := Lib.hid (HB3.out.trans (hb4.mono HB3.out.size))
  clear hf4 hb4
  go_wp2_with fail
  refine (refOf_1 _).mono ?_
  rintro e w5 ⟨v5, rfl, hf5, hb5⟩
  have HF4' := Lib.hid (HF4.out.below hb5 (Nat.le_refl _))
  have HF5 := Lib.hid hf5
  have HB5 := Lib.hid (HB4.out.trans (hb5.mono HB4.out.size))
  clear hf5 hb5 HF4
  go_wp2_with fail
  refine (same_true 5 v4 v5 ofN _ (HF4'.out.ints (by decide)) (HF5.out.ints (by decide))).mono ?_
  rintro e w6 ⟨rfl, hb6⟩
  have HB6 := Lib.hid (HB5.out.trans (hb6.mono HB5.out.size))
  clear hb6 HF4' HF5
  go_wp2_with fail
  refine (ml_any _).mono ?_
  rintro e w7 ⟨v7, rfl, hf7, hb7⟩
  have HF7 := Lib.hid hf7
  have HB7 := Lib.hid (HB6.out.trans (hb7.mono HB6.out.size))
  clear hf7 hb7
  go_wp2_with fail
  refine (refOf_2 _).mono ?_
  rintro e w8 ⟨v8, rfl, hf8, hb8⟩
  have HF7' := Lib.hid (HF7.out.below hb8 (Nat.le_refl _))
  have HF8 := Lib.hid hf8
  have HB8 := Lib.hid (HB7.out.trans (hb8.mono HB7.out.size))
  clear hf8 hb8 HF7
  go_wp2_with fail
  refine (same_true 6 v7 v8 mlN _ (HF7'.out.ints (by decide)) (HF8.out.ints (by decide))).mono ?_
  rintro e w9 ⟨rfl, hb9⟩
  have HB9 := Lib.hid (HB8.out.trans (hb9.mono HB8.out.size))
  clear hb9 HF7' HF8
  go_wp2_with fail
  refine (known_any _).mono ?_
  rintro e w10 ⟨rfl, hb10⟩
  have HB10 := Lib.hid (HB9.out.trans (hb10.mono HB9.out.size))
  clear hb10
  go_wp2
  go_ret
  exact ⟨rfl, HB10.out⟩
end Go.Proofs.Ytkffhfdmdcecaaa
