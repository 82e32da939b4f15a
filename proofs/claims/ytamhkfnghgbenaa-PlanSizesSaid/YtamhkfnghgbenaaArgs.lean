/-
  An argument that is a slice of integers, or a table, opened: as 'Ints'.
-/
import Derived.Test.YtamhkfnghgbenaaBase
import Derived.ProofKit
import Derived.OpenShut
import Derived.SizedLaws
import Derived.Lib.SmallJoins
namespace Go.Proofs.Ytamhkfnghgbenaa
set_option linter.all false
open Go.ChangeShapes Go.WideShapes Go.ChangeAt Go.RowKit Go.Joins Go.Deep

section
variable {H : Type} {enc : TypeId × Value → H} {P : Program} {w : World} {base : Nat} {spare : Nat → Bool} {held : Bool}
theorem ints_of_trod {k : IntKind} {t e : TypeId} {fuel : Nat} {v : Value} {x : DataW H × List MemPlace} (ht : P.underlying t = some (.slice e)) (he : P.underlying e = some (.int k)) (hc : P.cellsOf e = 1)
    (h : DataW.trod enc P w base spare held fuel t [v] = some x) : ∃ zs : List Int, Ints w k v zs ∧ ∀ z ∈ zs, (Lit.int k z).wf = true := by
  rcases open_ints ht he hc h with ⟨hcs, -⟩ | ⟨a, len, cap, zs, hcs, _, hl, hm, hz, -, hcell, hwz⟩
  · injection hcs with hcs
    subst hcs
    exact ⟨[], Ints.nil w k, fun z hz => by cases hz⟩
  · injection hcs with hcs
    subst hcs
    have hz' : len ≤ zs.length := by rw [hz]; split <;> omega
    refine ⟨zs.take len, ⟨some a, cap, by simp [Nat.min_eq_left hz'], by simp, by simp; omega, hm, fun h0 => ?_⟩, fun z hz => hwz z (List.mem_of_mem_take hz)⟩
    have h0' : 0 < zs.length := by
      rw [List.length_take] at h0
      omega
    obtain ⟨b, off, spot⟩ := a
    have hspot : spot = none := by simpa [Addr.add] using World.cell?_spot (hcell 0 h0')
    subst hspot
    refine ⟨b, off, rfl, fun j u hu => ?_⟩
    have hj : j < len ∧ j < zs.length := by
      have := (List.getElem?_eq_some_iff.1 hu).1
      simp at this; omega
    have h1 := hcell j hj.2
    rw [add_zero_off] at h1
    rw [h1, ← hu]
    simp [List.getD, hj.1, List.getElem?_eq_getElem hj.2]
theorem ints_of_arg {k : IntKind} {t e : TypeId} {r : Reach} {b0 : Nat} {v : Value} {d : DataW H} {p : List MemPlace} (ht : P.underlying t = some (.slice e)) (he : P.underlying e = some (.int k)) (hc : P.cellsOf e = 1)
    (hval : Value.okWide P w r b0 t v) (h : DataW.Trod enc P w base spare held t v d p) : ∃ zs : List Int, Ints w k v zs ∧ ∀ z ∈ zs, (Lit.int k z).wf = true := by
  obtain ⟨a, len, cap, rfl⟩ := okWide_slice ht hval
  obtain ⟨fuel, hf⟩ := h
  exact ints_of_trod ht he hc hf
/-- A table by value: its Log, its Norm. -/
theorem table_of_arg {t e sl : TypeId} {f0 f1 : Field} {r : Reach} {b0 : Nat} {v : Value} {d : DataW H} {p : List MemPlace} (ht : P.underlying t = some (.struct #[f0, f1])) (he : P.underlying e = some (.int .i64)) (hs : P.underlying sl = some (.slice e))
    (hone : oneCellFields P #[f0, f1] = true) (hC : P.cellsOf t = 2) (hc : P.cellsOf e = 1) (e0 : f0.type = e) (e1 : f1.type = sl)
    (hval : Value.okWide P w r b0 t v) (h : DataW.Trod enc P w base spare held t v d p) :
    ∃ (l : Int) (u : Value) (zs : List Int), v = .agg #[.int .i64 l, u] ∧ (Lit.int .i64 l).wf = true ∧ Ints w .i64 u zs ∧ ∀ z ∈ zs, (Lit.int .i64 z).wf = true := by
  obtain ⟨v0, v1, y0, y1, n, rfl, -, -, h0, h1⟩ := open_agg2 ht hone hC hval h
  rw [e0] at h0
  rw [e1] at h1
  obtain ⟨m, hv, -, hw⟩ := DataW.trod_int he h0
  injection hv with hv
  subst hv
  obtain ⟨zs, hz, hzw⟩ := ints_of_trod hs he hc h1
  exact ⟨m, v1, zs, rfl, hw, hz, hzw⟩
end
theorem wf_i64 {x : Int} (h : (Lit.int .i64 x).wf = true) : -9223372036854775808 ≤ x ∧ x ≤ 9223372036854775807 := by
  have h1 : IntKind.i64.min = -9223372036854775808 := rfl
  have h2 : IntKind.i64.max = 9223372036854775807 := rfl
  simp only [Lit.wf, Bool.and_eq_true, decide_eq_true_eq] at h
  omega
theorem wfAll_i64 {xs : List Int} (h : ∀ z ∈ xs, (Lit.int .i64 z).wf = true) : ∀ x ∈ xs, x ≤ 9223372036854775807 := fun x hx => (wf_i64 (h x hx)).2
end Go.Proofs.Ytamhkfnghgbenaa
