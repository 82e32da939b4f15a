/-
  PresetCells: the law's walk.
-/
import Derived.Test.YtkffhfdmdcecaaaCeTab
namespace Go.Proofs.Ytkffhfdmdcecaaa
set_option linter.all false
open Go.RowKit Go.Shelf

set_option maxHeartbeats 1600000 in
theorem presetCells_ok {p : Int} {m N : Nat} {xs : List Int} (h : PTab p m N xs) (w : World) : Calls Try.prog 8 #[.int .i64 p] w fun e w' => e = .returned (.bool true) ∧ Below w.heap.size w w' := by
  have H := Lib.hid h
  obtain ⟨p0, p2⟩ := h.range
  have pn : ¬ p < 0 := by omega
  have pn2 : ¬ 2 < p := by omega
  clear h
  go_enter Try.func8, Try.ntmps8
  go_wp2_with fail
  refine (cells_ok H.out _).mono ?_
  rintro e w1 ⟨cv, l, g, c, rfl, hs, hrd, hg, hb⟩
  have HB1 := Lib.hid hb
  have HS1 := Lib.hid hs
  have HRD1 := Lib.hid hrd
  obtain rfl := hrd.val
  clear hs hrd hb
  go_wp2_with fail
  refine (H.out.ref _).mono ?_
  rintro e w2 ⟨v, rfl, hv, hb⟩
  have HV2 := Lib.hid hv
  have HB2 := Lib.hid (HB1.out.trans (hb.mono HB1.out.size))
  have HRD2 := Lib.hid (HRD1.out.below hb (Nat.le_refl _))
  clear hv hb HB1 HRD1
  go_wp2_with fail
  refine (refCells_at H.out v _ (HV2.out.ints (by have := H.out.len; simp only [maxLen]; omega))).mono ?_
  rintro e w3 ⟨cv3, l3, g3, c3, rfl, hs3, hrd3, hg3, hb⟩
  have HB3 := Lib.hid (HB2.out.trans (hb.mono HB2.out.size))
  have HRD3 := Lib.hid (HRD2.out.below hb (Nat.le_refl _))
  have HRE3 := Lib.hid hrd3
  have HS3 := Lib.hid hs3
  obtain rfl := hrd3.val
  clear hs3 hrd3 hb HB2 HRD2
  go_wp2_with fail
  refine (sameCells_at H.out HRD3.out HRE3.out HS1.out HS3.out).mono ?_
  rintro e w4 ⟨rfl, hb⟩
  have HB4 := Lib.hid (HB3.out.trans (hb.mono HB3.out.size))
  clear hb HB3
  go_wp2_with fail
  refine (known_any _).mono ?_
  rintro e w5 ⟨rfl, hb⟩
  have HB5 := Lib.hid (HB4.out.trans (hb.mono HB4.out.size))
  clear hb HB4
  go_wp2
  go_ret
  exact ⟨rfl, HB5.out⟩
set_option maxHeartbeats 800000 in
theorem presetCells_no (p : Int) (h : p < 0 ∨ 3 ≤ p) (w : World) : Calls Try.prog 8 #[.int .i64 p] w fun e w' => e = .returned (.bool true) ∧ Below w.heap.size w w' := by
  have H := Lib.hid h
  have hc : (decide (p < 0) || decide (2 < p)) = true := by simp; omega
  rcases h with h | h
  · go_enter Try.func8, Try.ntmps8
    go_wp2_with fail
    refine (cells_no p H.out _).mono ?_
    rintro e w1 ⟨rfl, hb⟩
    have HB1 := Lib.hid hb
    clear hb
    go_wp2_with fail
    refine (known_any _).mono ?_
    rintro e w5 ⟨rfl, hb⟩
    have HB5 := Lib.hid (HB1.out.trans (hb.mono HB1.out.size))
    clear hb HB1
    go_wp2
    go_ret
    exact ⟨rfl, HB5.out⟩
  · have h0 : ¬ p < 0 := by omega
    have h2 : 2 < p := by omega
    go_enter Try.func8, Try.ntmps8
    go_wp2_with fail
    refine (cells_no p H.out _).mono ?_
    rintro e w1 ⟨rfl, hb⟩
    have HB1 := Lib.hid hb
    clear hb
    go_wp2_with fail
    refine (known_any _).mono ?_
    rintro e w5 ⟨rfl, hb⟩
    have HB5 := Lib.hid (HB1.out.trans (hb.mono HB1.out.size))
    clear hb HB1
    go_wp2
    go_ret
    exact ⟨rfl, HB5.out⟩

theorem presetCells_walk (p : Int) (_ : (Lit.int .i64 p).wf = true) (w : World) : Calls Try.prog 8 #[.int .i64 p] w fun e w' => e = .returned (.bool true) ∧ Below w.heap.size w w' := by
  rcases part_cases p with h | ⟨m, N, xs, h⟩
  · exact presetCells_no p h w
  · exact presetCells_ok h w
end Go.Proofs.Ytkffhfdmdcecaaa
