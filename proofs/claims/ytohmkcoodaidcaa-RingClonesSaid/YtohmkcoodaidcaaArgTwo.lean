/-
  An argument that is an array of two calls, opened.
-/
import Derived.Test.YtohmkcoodaidcaaArgActs
namespace Go.Proofs.Ytohmkcoodaidcaa
open Go.ChangeShapes Go.WideShapes Go.ChangeAt Go.RowKit Go.Joins Go.Deep

section
variable {H : Type} {enc : TypeId × Value → H} {P : Program} {w : World} {base : Nat} {spare : Nat → Bool} {held : Bool}
/-- One call's four cells. -/
theorem act_of_cells {e ti tb te : TypeId} {f0 f1 f2 f3 : Field} {n : Nat} {c0 c1 c2 c3 : Value} {x : DataW H × List MemPlace} (hs : P.underlying e = some (.struct #[f0, f1, f2, f3])) (hone : oneCellFields P #[f0, f1, f2, f3] = true)
    (e0 : f0.type = ti) (e1 : f1.type = tb) (e2 : f2.type = ti) (e3 : f3.type = ti) (hi : P.underlying ti = some (.int .i64)) (hb : P.underlying tb = some (.slice te)) (he : P.underlying te = some (.int .u8)) (hc : P.cellsOf te = 1)
    (ht' : DataW.trod enc P w base spare held n e [c0, c1, c2, c3] = some x) : ∃ x : ActD, c0 = .int .i64 x.what ∧ c1 = x.bv ∧ c2 = .int .i64 x.off ∧ c3 = .int .i64 x.n ∧ x.Ok w := by
  obtain ⟨ys, n', -, -, -, hyl, hg⟩ := DataW.trod_struct hs ht'
  match ys, hyl with
  | [y0, y1, y2, y3], _ =>
    obtain ⟨o0, k0⟩ := hone_of hone 0 f0 rfl
    obtain ⟨o1, k1⟩ := hone_of hone 1 f1 rfl
    obtain ⟨o2, k2⟩ := hone_of hone 2 f2 rfl
    obtain ⟨o3, k3⟩ := hone_of hone 3 f3 rfl
    have g0 := hg 0 f0 rfl
    have g1 := hg 1 f1 rfl
    have g2 := hg 2 f2 rfl
    have g3 := hg 3 f3 rfl
    rw [o0, k0, e0] at g0
    rw [o1, k1, e1] at g1
    rw [o2, k2, e2] at g2
    rw [o3, k3, e3] at g3
    exact act_of_trods hi hb he hc (by simpa using g0) (by simpa using g1) (by simpa using g2) (by simpa using g3)

theorem acts2_of_arg {t e ti tb te : TypeId} {f0 f1 f2 f3 : Field} {r : Reach} {b0 : Nat} {v : Value} {d : DataW H} {p : List MemPlace} (ht : P.underlying t = some (.array 2 e)) (hs : P.underlying e = some (.struct #[f0, f1, f2, f3])) (hone : oneCellFields P #[f0, f1, f2, f3] = true) (hC : P.cellsOf e = 4) (hC2 : P.cellsOf t = 8)
    (e0 : f0.type = ti) (e1 : f1.type = tb) (e2 : f2.type = ti) (e3 : f3.type = ti) (hi : P.underlying ti = some (.int .i64)) (hb : P.underlying tb = some (.slice te)) (he : P.underlying te = some (.int .u8)) (hc : P.cellsOf te = 1)
    (hval : Value.okWide P w r b0 t v) (h : DataW.Trod enc P w base spare held t v d p) :
    ∃ x y : ActD, v = .agg #[.int .i64 x.what, x.bv, .int .i64 x.off, .int .i64 x.n, .int .i64 y.what, y.bv, .int .i64 y.off, .int .i64 y.n] ∧ x.Ok w ∧ y.Ok w := by
  simp only [Value.okWide, ht] at hval
  obtain ⟨⟨cs⟩, rfl, hsz, -⟩ := hval
  match cs, hsz.trans hC2 with
  | [c0, c1, c2, c3, c4, c5, c6, c7], _ =>
    obtain ⟨fuel, hf⟩ := h
    obtain ⟨xs, m, -, -, -, hxl, hg⟩ := DataW.trod_array ht hf
    match xs, hxl with
    | [y0, y1], _ =>
      have g0 := hg 0 (by decide)
      have g1 := hg 1 (by decide)
      rw [hC] at g0 g1
      obtain ⟨x, rfl, rfl, rfl, rfl, hx⟩ := act_of_cells (c0 := c0) (c1 := c1) (c2 := c2) (c3 := c3) hs hone e0 e1 e2 e3 hi hb he hc (by simpa [Value.cells] using g0)
      obtain ⟨y, rfl, rfl, rfl, rfl, hy⟩ := act_of_cells (c0 := c4) (c1 := c5) (c2 := c6) (c3 := c7) hs hone e0 e1 e2 e3 hi hb he hc (by simpa [Value.cells] using g1)
      exact ⟨x, y, rfl, hx, hy⟩
end
end Go.Proofs.Ytohmkcoodaidcaa
