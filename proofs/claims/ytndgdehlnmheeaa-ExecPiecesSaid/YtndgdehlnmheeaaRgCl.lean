/-
  Ring: Clone.
-/
import Derived.Test.YtndgdehlnmheeaaRgByte
namespace Go.Proofs.Ytndgdehlnmheeaa
set_option maxRecDepth 100000
open Go.RowKit

theorem cl_ring (w : World) {g : Nat} {v : Value} {S T : Nat} {st : List Int} (h : Ring w g v S st T) :
    Calls Try.prog 28 #[rp g] w fun e w' => ∃ g' v', e = .returned (rp g') ∧ Made w w' g' v' S st T := by
  have HR := Lib.hid h
  have HB := Lib.hid h.blk
  have HP := Lib.hid h.pos
  have HI := Lib.hid h.row.ints
  obtain ⟨c0, c1, c2, -⟩ := ring_cells h.blk
  have hglt := h.lt
  have HL := Lib.hid (show st.length ≤ 140737488355328 by have := h.len; have := h.max; omega)
  clear h
  unfold rp
  go_enter Try.func28, Try.ntmps28
  go_wp2_with (go_at_call 33; refine (none_ring _ HB.out HP.out).mono ?_; rintro e w1 ⟨rfl, rfl⟩)
  go_region_held3 (fun w' => Hid (Below w1.heap.size w1 w') ∧ w'.cell? ⟨g, 0, none⟩ = some v ∧ w'.cell? ⟨g, 1, none⟩ = some (.int .i64 S) ∧ w'.cell? ⟨g, 2, none⟩ = some (.int .i64 T))
      (first | exact ⟨(Below.refl _ w1).drew, c0, c1, c2⟩ | exact ⟨HB1, (HB1.out.cell (p := ⟨g, 0, none⟩) hglt).trans c0, (HB1.out.cell (p := ⟨g, 1, none⟩) hglt).trans c1, (HB1.out.cell (p := ⟨g, 2, none⟩) hglt).trans c2⟩ | exact ⟨HB2, (HB2.out.cell (p := ⟨g, 0, none⟩) hglt).trans c0, (HB2.out.cell (p := ⟨g, 1, none⟩) hglt).trans c1, (HB2.out.cell (p := ⟨g, 2, none⟩) hglt).trans c2⟩)
      (first
        | (go_at_call 34; refine (clone_any w1.drew _ st (HI.out : Ints w1.drew _ _ _) HL.out).mono ?_; rintro e w4 ⟨A1, k1, rfl, h1, h2, h3⟩; have HW := Lib.hid h1; have HO := Lib.hid h2; have HB1 : Hid (Below w1.heap.size w1 w4) := ((Below.refl _ w1).drew.trans h3 : Below _ _ _); have HB2 := Lib.hid (HB1.out.alloc HB1.out.size (.cells #[.slice A1 st.length k1, .int .i64 S, .int .i64 T] 64)); clear h1 h2 h3))
  all_goals
    go_wp2
    go_ret
    refine ⟨_, _, rfl, ⟨Blk.new _ _ _, Row.below HW.out ((Below.refl _ w4).alloc (Nat.le_refl _) _) (Nat.le_refl _), ?_, HP.out, HR.out.max, HR.out.len, HR.out.u8⟩, HB1.out.size, (HO.out : ∀ k, _ → w1.heap.size ≤ k), HB2.out⟩
    intro e
    have := HW.out.lt _ e
    omega

theorem cl_none (w : World) {p : Value} (h : NoRing w p) : Calls Try.prog 28 #[p] w fun e w' => e = .returned (.pointer none) ∧ w' = w := by
  have HN := Lib.hid h
  go_enter Try.func28, Try.ntmps28
  go_wp2_with (go_at_call 33; refine (none_no _ HN.out).mono ?_; rintro e w1 ⟨rfl, rfl⟩)
  go_ret
  exact ⟨rfl, rfl⟩
end Go.Proofs.Ytndgdehlnmheeaa
