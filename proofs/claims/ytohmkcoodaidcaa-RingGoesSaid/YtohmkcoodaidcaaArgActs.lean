/-
  An argument that is a call, a slice of calls, two calls, or rows of bytes, opened.
-/
import Derived.Test.YtohmkcoodaidcaaArgs
import Derived.Test.YtohmkcoodaidcaaRgFew
import Derived.Deep.Slices
import Derived.Deep.Fields
namespace Go.Proofs.Ytohmkcoodaidcaa
open Go.ChangeShapes Go.WideShapes Go.ChangeAt Go.RowKit Go.Joins Go.Deep

/-- A list of what is there for each index. -/
theorem build_list {α : Type} (Q : Nat → α → Prop) : ∀ n : Nat, (∀ i, i < n → ∃ x, Q i x) → ∃ l : List α, l.length = n ∧ ∀ (i : Nat) (x : α), l[i]? = some x → Q i x
  | 0, _ => ⟨[], rfl, fun i x h => by simp at h⟩
  | n + 1, h => by
    obtain ⟨l, hl, hq⟩ := build_list Q n (fun i hi => h i (by omega))
    obtain ⟨x, hx⟩ := h n (by omega)
    refine ⟨l ++ [x], by simp [hl], fun i y hy => ?_⟩
    rcases Nat.lt_or_ge i l.length with h1 | h1
    · rw [List.getElem?_append_left h1] at hy; exact hq i y hy
    · rw [List.getElem?_append_right h1] at hy
      rcases h2 : i - l.length with _ | k
      · rw [h2] at hy; simp at hy; subst hy; have : i = n := by omega
        subst this; exact hx
      · rw [h2] at hy; simp at hy

theorem wf_u8 {x : Int} (h : (Lit.int .u8 x).wf = true) : 0 ≤ x ∧ x < 256 := by
  have h1 : IntKind.u8.min = 0 := rfl
  have h2 : IntKind.u8.max = 255 := rfl
  simp only [Lit.wf, Bool.and_eq_true, decide_eq_true_eq] at h
  omega
theorem u8s_wf {xs : List Int} (h : ∀ z ∈ xs, (Lit.int .u8 z).wf = true) : U8s xs := fun x hx => wf_u8 (h x hx)

section
variable {H : Type} {enc : TypeId × Value → H} {P : Program} {w : World} {base : Nat} {spare : Nat → Bool} {held : Bool}
theorem act_of_trods {ti tb te : TypeId} {n : Nat} {v0 v1 v2 v3 : Value} {y0 y1 y2 y3 : DataW H × List MemPlace} (hi : P.underlying ti = some (.int .i64)) (hb : P.underlying tb = some (.slice te)) (he : P.underlying te = some (.int .u8)) (hc : P.cellsOf te = 1)
    (h0 : DataW.trod enc P w base spare held n ti [v0] = some y0) (h1 : DataW.trod enc P w base spare held n tb [v1] = some y1) (h2 : DataW.trod enc P w base spare held n ti [v2] = some y2) (h3 : DataW.trod enc P w base spare held n ti [v3] = some y3) :
    ∃ x : ActD, v0 = .int .i64 x.what ∧ v1 = x.bv ∧ v2 = .int .i64 x.off ∧ v3 = .int .i64 x.n ∧ x.Ok w := by
  obtain ⟨m0, e0, -, w0⟩ := DataW.trod_int hi h0
  obtain ⟨zs, hz, hw⟩ := ints_of_trod hb he hc h1
  obtain ⟨m2, e2, -, w2⟩ := DataW.trod_int hi h2
  obtain ⟨m3, e3, -, w3⟩ := DataW.trod_int hi h3
  injection e0 with e0
  injection e2 with e2
  injection e3 with e3
  exact ⟨⟨m0, v1, zs, m2, m3⟩, e0, rfl, e2, e3, hz, u8s_wf hw, wf_i64 w3⟩

theorem acts_of_arg {t e ti tb te : TypeId} {f0 f1 f2 f3 : Field} {r : Reach} {b0 : Nat} {v : Value} {d : DataW H} {p : List MemPlace} (ht : P.underlying t = some (.slice e)) (hs : P.underlying e = some (.struct #[f0, f1, f2, f3])) (hone : oneCellFields P #[f0, f1, f2, f3] = true) (hC : P.cellsOf e = 4)
    (e0 : f0.type = ti) (e1 : f1.type = tb) (e2 : f2.type = ti) (e3 : f3.type = ti) (hi : P.underlying ti = some (.int .i64)) (hb : P.underlying tb = some (.slice te)) (he : P.underlying te = some (.int .u8)) (hc : P.cellsOf te = 1)
    (hval : Value.okWide P w r b0 t v) (h : DataW.Trod enc P w base spare held t v d p) : ∃ l : List ActD, Acts w v l := by
  obtain ⟨a0, len0, cap0, rfl⟩ := okWide_slice ht hval
  obtain ⟨fuel, hf⟩ := h
  rcases open_slice ht hf with ⟨hcs, -⟩ | ⟨a, len, cap, m, n, D, Pl, hcs, -, hl, hm, hmm, -, hel⟩
  · injection hcs with hcs
    rw [hcs]
    exact ⟨[], ⟨⟨none, 0, rfl, Nat.le_refl _, by simp [maxLen], fun h => absurd h (by simp)⟩, fun x hx => by cases hx⟩⟩
  · injection hcs with hcs
    rw [hcs]
    have hlm : len ≤ m := by rw [hmm]; split <;> omega
    have key : ∀ i, i < len → ∃ x : ActD, x.Ok w ∧ w.cell? ((a.add (i * 4)).add 0) = some (.int .i64 x.what) ∧ w.cell? ((a.add (i * 4)).add 1) = some x.bv ∧ w.cell? ((a.add (i * 4)).add 2) = some (.int .i64 x.off) ∧ w.cell? ((a.add (i * 4)).add 3) = some (.int .i64 x.n) := by
      intro i hi'
      obtain ⟨cs', hc', ht'⟩ := hel i (by omega)
      rw [hC] at hc'
      obtain ⟨-, hlen, hat⟩ := World.cells?_some hc'
      match cs', hlen with
      | [c0, c1, c2, c3], _ =>
        obtain ⟨ys, n', -, -, -, hyl, hg⟩ := DataW.trod_struct hs ht'
        match ys, hyl with
        | [y0, y1, y2, y3], _ =>
          obtain ⟨o0, k0⟩ := hone_of hone 0 f0 rfl
          obtain ⟨o1, k1⟩ := hone_of hone 1 f1 rfl
          obtain ⟨o2, k2⟩ := hone_of hone 2 f2 rfl
          obtain ⟨o3, k3⟩ := hone_of hone 3 f3 rfl
          have g0 := hg 0 f0 rfl
          have g1 := hg 1 f1 rfl
          have g2 := hg 2 f2 rfl
          have g3 := hg 3 f3 rfl
          rw [o0, k0, e0] at g0
          rw [o1, k1, e1] at g1
          rw [o2, k2, e2] at g2
          rw [o3, k3, e3] at g3
          obtain ⟨x, x0, x1, x2, x3, hx⟩ := act_of_trods hi hb he hc (by simpa using g0) (by simpa using g1) (by simpa using g2) (by simpa using g3)
          exact ⟨x, hx, by rw [hat 0 (by decide), ← x0]; rfl, by rw [hat 1 (by decide), ← x1]; rfl, by rw [hat 2 (by decide), ← x2]; rfl, by rw [hat 3 (by decide), ← x3]; rfl⟩
    obtain ⟨l, hll, hq⟩ := build_list _ len key
    refine ⟨l, ⟨⟨some a, cap, by rw [hll], by omega, hm, fun h0 => ?_⟩, fun x hx => ?_⟩⟩
    · obtain ⟨b, off, spot⟩ := a
      have hx0 := hq 0 (l[0]'h0) (List.getElem?_eq_getElem h0)
      have hspot : spot = none := by simpa [Addr.add] using World.cell?_spot hx0.2.1
      subst hspot
      refine ⟨b, off, rfl, fun i x hi' => ?_⟩
      obtain ⟨-, h0, h1, h2, h3⟩ := hq i x hi'
      simp only [add_zero_off] at h0 h1 h2 h3
      exact ⟨h0, h1, h2, h3⟩
    · obtain ⟨i, hi'⟩ := List.getElem?_of_mem hx
      exact (hq i x hi').1

/-- One call, by value. -/
theorem act_of_arg {t ti tb te : TypeId} {f0 f1 f2 f3 : Field} {r : Reach} {b0 : Nat} {v : Value} {d : DataW H} {p : List MemPlace} (hs : P.underlying t = some (.struct #[f0, f1, f2, f3])) (hone : oneCellFields P #[f0, f1, f2, f3] = true) (hC : P.cellsOf t = 4)
    (e0 : f0.type = ti) (e1 : f1.type = tb) (e2 : f2.type = ti) (e3 : f3.type = ti) (hi : P.underlying ti = some (.int .i64)) (hb : P.underlying tb = some (.slice te)) (he : P.underlying te = some (.int .u8)) (hc : P.cellsOf te = 1)
    (hval : Value.okWide P w r b0 t v) (h : DataW.Trod enc P w base spare held t v d p) : ∃ x : ActD, v = .agg #[.int .i64 x.what, x.bv, .int .i64 x.off, .int .i64 x.n] ∧ x.Ok w := by
  obtain ⟨v0, v1, v2, v3, y0, y1, y2, y3, n, rfl, -, -, h0, h1, h2, h3⟩ := open_agg4 hs hone hC hval h
  rw [e0] at h0
  rw [e1] at h1
  rw [e2] at h2
  rw [e3] at h3
  obtain ⟨x, rfl, rfl, rfl, rfl, hx⟩ := act_of_trods hi hb he hc h0 h1 h2 h3
  exact ⟨x, rfl, hx⟩
end
end Go.Proofs.Ytohmkcoodaidcaa
