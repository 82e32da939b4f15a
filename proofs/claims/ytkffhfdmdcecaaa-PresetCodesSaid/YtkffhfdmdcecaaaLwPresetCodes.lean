/-
  PresetCodes: the law's walk.
-/
import Derived.Test.YtkffhfdmdcecaaaPresetB
import Derived.Test.YtkffhfdmdcecaaaSplit
namespace Go.Proofs.Ytkffhfdmdcecaaa
open Go.RowKit

theorem llN_nz {k : Nat} (h : k < 44) : ∃ x, llN[k]? = some x ∧ (x == 0) = false := by
  have : ∀ k : Fin 44, (llN.getD k.1 0 == 0) = false := by decide
  exact ⟨_, List.getElem?_eq_getElem (by simpa [llN] using h), by have := this ⟨k, h⟩; simpa [List.getD, List.getElem?_eq_getElem (show k < llN.length by simpa [llN] using h)] using this⟩
theorem mlN_nz {k : Nat} (h : k < 44) : ∃ x, mlN[k]? = some x ∧ (x == 0) = false := by
  have : ∀ k : Fin 44, (mlN.getD k.1 0 == 0) = false := by decide
  exact ⟨_, List.getElem?_eq_getElem (by simpa [mlN] using h), by have := this ⟨k, h⟩; simpa [List.getD, List.getElem?_eq_getElem (show k < mlN.length by simpa [mlN] using h)] using this⟩
theorem ofN_nz {k : Nat} (h : k < 28) : ∃ x, ofN[k]? = some x ∧ (x != 0) = true := by
  have : ∀ k : Fin 28, (ofN.getD k.1 0 != 0) = true := by decide
  exact ⟨_, List.getElem?_eq_getElem (by simpa [ofN] using h), by have := this ⟨k, h⟩; simpa [List.getD, List.getElem?_eq_getElem (show k < ofN.length by simpa [ofN] using h)] using this⟩

theorem run_norms (a b : Value) (W : World) : (Instr.field 25 (.agg #[a, b]) 1).run Try.prog W = .ok b W := by kernel_rfl

/-- What is asked of the first half: the code of a value that has one. -/
theorem lcode_nat {v : Int} (h0 : 0 ≤ v) (h1 : v < 262144) : ∃ c : Nat, lcode v = c ∧ c < 44 := by
  have h := kCode_spec (off := false) (v := v) ⟨h0, h1⟩
  exact ⟨(lcode v).toNat, by have := h.1; simp only [kCode] at this; simp at this; omega, by have := h.2.1; simp only [kCode, kN] at this; simp at this; have := h.1; simp only [kCode] at this; simp at this; omega⟩
theorem ocode_nat {v : Int} (h0 : 1 ≤ v) (h1 : v < 268435456) : ∃ c : Nat, ocode v = c ∧ c < 28 := by
  have h := kCode_spec (off := true) (v := v) ⟨h0, h1⟩
  exact ⟨(ocode v).toNat, by have := h.1; simp only [kCode] at this; simp at this; omega, by have := h.2.1; simp only [kCode, kN] at this; simp at this; have := h.1; simp only [kCode] at this; simp at this; omega⟩

set_option maxHeartbeats 1600000 in
theorem presetCodes_walk (v : Int) (_ : (Lit.int .i64 v).wf = true) {w : World} :
    Calls Try.prog 7 #[.int .i64 v] w fun e w' => e = .returned (.bool true) ∧ Below w.heap.size w w' := by
  have hrn := run_norms
  by_cases hl : 0 ≤ v ∧ v < 262144
  · obtain ⟨h0, h1⟩ := hl
    obtain ⟨c, hc, hc44⟩ := lcode_nat h0 h1
    obtain ⟨x, hx, hxz⟩ := llN_nz hc44
    obtain ⟨y, hy, hyz⟩ := mlN_nz hc44
    have HX := Lib.hid hx
    have HY := Lib.hid hy
    have HC := Lib.hid hc
    have c0 : (0 : Int) ≤ (c : Int) := by omega
    have c1 : (c : Int) < 44 := by omega
    clear hx hy hc
    go_enter Try.func7, Try.ntmps7
    go_wp2_with fail
    refine (split_in v h0 h1 _).mono ?_
    rw [HC.out]
    rintro e w1 ⟨rfl, hb⟩
    have HB1 := Lib.hid hb
    clear hb
    go_wp2_with fail
    refine (ll_any _).mono ?_
    rintro e w2 ⟨v2, rfl, ⟨g2, t2, rfl, hg2, hk2⟩, hb⟩
    rw [show llN.length = 44 from rfl]
    have HB2 := Lib.hid (HB1.out.trans (hb.mono HB1.out.size))
    clear hb hk2 hg2
    go_wp2_with fail
    refine (ml_any _).mono ?_
    rintro e w3 ⟨v3, rfl, ⟨g3, t3, rfl, hg3, hk3⟩, hb⟩
    rw [show mlN.length = 44 from rfl]
    have HB3 := Lib.hid (HB2.out.trans (hb.mono HB2.out.size))
    clear hb hk3 hg3
    go_wp2_with fail
    refine (ll_any _).mono ?_
    rintro e w4 ⟨v4, rfl, ⟨g4, t4, rfl, hg4, hk4⟩, hb⟩
    rw [show llN.length = 44 from rfl]
    have HB4 := Lib.hid (HB3.out.trans (hb.mono HB3.out.size))
    have cx := hk4.int_at HX.out
    clear hb hk4 hg4
    go_wp2_with fail
    refine (ml_any _).mono ?_
    rintro e w5 ⟨v5, rfl, ⟨g5, t5, rfl, hg5, hk5⟩, hb⟩
    rw [show mlN.length = 44 from rfl]
    have HB5 := Lib.hid (HB4.out.trans (hb.mono HB4.out.size))
    have cy := hk5.int_at HY.out
    clear hb hk5 hg5
    by_cases ho : 1 ≤ v
    · obtain ⟨d, hd, hd28⟩ := ocode_nat ho (show v < 268435456 by omega)
      obtain ⟨z, hz, hzz⟩ := ofN_nz hd28
      have HZ := Lib.hid hz
      have HD := Lib.hid hd
      have d0 : (0 : Int) ≤ (d : Int) := by omega
      have d1 : (d : Int) < 28 := by omega
      clear hz hd
      go_wp2_with fail
      refine (splitOff_in v ho (by omega) _).mono ?_
      rw [HD.out]
      rintro e w6 ⟨rfl, hb⟩
      have HB6 := Lib.hid (HB5.out.trans (hb.mono HB5.out.size))
      clear hb
      go_wp2_with fail
      refine (of_any _).mono ?_
      rintro e w7 ⟨v7, rfl, ⟨g7, t7, rfl, hg7, hk7⟩, hb⟩
      rw [show ofN.length = 28 from rfl]
      have HB7 := Lib.hid (HB6.out.trans (hb.mono HB6.out.size))
      clear hb hk7 hg7
      go_wp2_with fail
      refine (of_any _).mono ?_
      rintro e w8 ⟨v8, rfl, ⟨g8, t8, rfl, hg8, hk8⟩, hb⟩
      rw [show ofN.length = 28 from rfl]
      have HB8 := Lib.hid (HB7.out.trans (hb.mono HB7.out.size))
      have cz := hk8.int_at HZ.out
      clear hb hk8 hg8
      go_wp2_with (go_at_call 16; refine (known_any _).mono ?_; rintro e w9 ⟨rfl, hb⟩; have HB9 := Lib.hid (HB8.out.trans (hb.mono HB8.out.size)); clear hb)
      go_ret
      exact ⟨rfl, HB9.out⟩
    · go_wp2_with fail
      refine (splitOff_out v (by omega) _).mono ?_
      rintro e w6 ⟨rfl, hb⟩
      have HB6 := Lib.hid (HB5.out.trans (hb.mono HB5.out.size))
      clear hb
      go_wp2_with (go_at_call 16; refine (known_any _).mono ?_; rintro e w9 ⟨rfl, hb⟩; have HB9 := Lib.hid (HB6.out.trans (hb.mono HB6.out.size)); clear hb)
      go_ret
      exact ⟨rfl, HB9.out⟩
  · go_enter Try.func7, Try.ntmps7
    go_wp2_with fail
    refine (split_out v (by omega) _).mono ?_
    rintro e w1 ⟨rfl, hb⟩
    have HB5 := Lib.hid hb
    clear hb
    by_cases ho : 1 ≤ v ∧ v < 268435456
    · obtain ⟨o1, o2⟩ := ho
      obtain ⟨d, hd, hd28⟩ := ocode_nat o1 o2
      obtain ⟨z, hz, hzz⟩ := ofN_nz hd28
      have HZ := Lib.hid hz
      have HD := Lib.hid hd
      have d0 : (0 : Int) ≤ (d : Int) := by omega
      have d1 : (d : Int) < 28 := by omega
      clear hz hd
      go_wp2_with fail
      refine (splitOff_in v o1 o2 _).mono ?_
      rw [HD.out]
      rintro e w6 ⟨rfl, hb⟩
      have HB6 := Lib.hid (HB5.out.trans (hb.mono HB5.out.size))
      clear hb
      go_wp2_with fail
      refine (of_any _).mono ?_
      rintro e w7 ⟨v7, rfl, ⟨g7, t7, rfl, hg7, hk7⟩, hb⟩
      rw [show ofN.length = 28 from rfl]
      have HB7 := Lib.hid (HB6.out.trans (hb.mono HB6.out.size))
      clear hb hk7 hg7
      go_wp2_with fail
      refine (of_any _).mono ?_
      rintro e w8 ⟨v8, rfl, ⟨g8, t8, rfl, hg8, hk8⟩, hb⟩
      rw [show ofN.length = 28 from rfl]
      have HB8 := Lib.hid (HB7.out.trans (hb.mono HB7.out.size))
      have cz := hk8.int_at HZ.out
      clear hb hk8 hg8
      go_wp2_with (go_at_call 16; refine (known_any _).mono ?_; rintro e w9 ⟨rfl, hb⟩; have HB9 := Lib.hid (HB8.out.trans (hb.mono HB8.out.size)); clear hb)
      go_ret
      exact ⟨rfl, HB9.out⟩
    · go_wp2_with fail
      refine (splitOff_out v (by omega) _).mono ?_
      rintro e w6 ⟨rfl, hb⟩
      have HB6 := Lib.hid (HB5.out.trans (hb.mono HB5.out.size))
      clear hb
      go_wp2_with (go_at_call 16; refine (known_any _).mono ?_; rintro e w9 ⟨rfl, hb⟩; have HB9 := Lib.hid (HB6.out.trans (hb.mono HB6.out.size)); clear hb)
      go_ret
      exact ⟨rfl, HB9.out⟩
end Go.Proofs.Ytkffhfdmdcecaaa
