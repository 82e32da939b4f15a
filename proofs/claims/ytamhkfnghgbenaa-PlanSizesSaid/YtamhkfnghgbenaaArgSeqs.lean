/-
  An argument that is a slice of sequences, or an array of three numbers of 16 bits, opened.
-/
import Derived.Test.YtamhkfnghgbenaaArgs
import Derived.Test.YtamhkfnghgbenaaPlGone
import Derived.Deep.Slices
import Derived.Deep.Fields
namespace Go.Proofs.Ytamhkfnghgbenaa
set_option linter.all false
open Go.ChangeShapes Go.WideShapes Go.ChangeAt Go.RowKit Go.Joins Go.Deep

/-- A list of what is there for each index. -/
theorem build_list {α : Type} (Q : Nat → α → Prop) : ∀ n : Nat, (∀ i, i < n → ∃ x, Q i x) → ∃ l : List α, l.length = n ∧ ∀ (i : Nat) (x : α), l[i]? = some x → Q i x
  | 0, _ => ⟨[], rfl, fun i x h => by simp at h⟩
  | n + 1, h => by
    obtain ⟨l, hl, hq⟩ := build_list Q n (fun i hi => h i (by omega))
    obtain ⟨x, hx⟩ := h n (by omega)
    refine ⟨l ++ [x], by simp [hl], fun i y hy => ?_⟩
    rcases Nat.lt_or_ge i l.length with h1 | h1
    · rw [List.getElem?_append_left h1] at hy; exact hq i y hy
    · rw [List.getElem?_append_right h1] at hy
      rcases h2 : i - l.length with _ | k
      · rw [h2] at hy; simp at hy; subst hy; have : i = n := by omega
        subst this; exact hx
      · rw [h2] at hy; simp at hy

section
variable {H : Type} {enc : TypeId × Value → H} {P : Program} {w : World} {base : Nat} {spare : Nat → Bool} {held : Bool}
theorem seqs_of_arg {t e ti : TypeId} {f0 f1 f2 : Field} {r : Reach} {b0 : Nat} {v : Value} {d : DataW H} {p : List MemPlace} (ht : P.underlying t = some (.slice e)) (hs : P.underlying e = some (.struct #[f0, f1, f2])) (hone : oneCellFields P #[f0, f1, f2] = true) (hC : P.cellsOf e = 3)
    (e0 : f0.type = ti) (e1 : f1.type = ti) (e2 : f2.type = ti) (hi : P.underlying ti = some (.int .i64))
    (hval : Value.okWide P w r b0 t v) (h : DataW.Trod enc P w base spare held t v d p) : ∃ l : List SeqD, Seqs w v l := by
  obtain ⟨a0, len0, cap0, rfl⟩ := okWide_slice ht hval
  obtain ⟨fuel, hf⟩ := h
  rcases open_slice ht hf with ⟨hcs, -⟩ | ⟨a, len, cap, m, n, D, Pl, hcs, -, hl, hm, hmm, -, hel⟩
  · injection hcs with hcs
    rw [hcs]
    exact ⟨[], ⟨⟨none, 0, rfl, Nat.le_refl _, by simp [maxLen], fun h => absurd h (by simp)⟩, fun x hx => by cases hx⟩⟩
  · injection hcs with hcs
    rw [hcs]
    have hlm : len ≤ m := by rw [hmm]; split <;> omega
    have key : ∀ i, i < len → ∃ x : SeqD, ((-9223372036854775808 ≤ x.lit ∧ x.lit ≤ 9223372036854775807) ∧ (-9223372036854775808 ≤ x.len ∧ x.len ≤ 9223372036854775807) ∧ (-9223372036854775808 ≤ x.off ∧ x.off ≤ 9223372036854775807)) ∧ w.cell? ((a.add (i * 3)).add 0) = some (.int .i64 x.lit) ∧ w.cell? ((a.add (i * 3)).add 1) = some (.int .i64 x.len) ∧ w.cell? ((a.add (i * 3)).add 2) = some (.int .i64 x.off) := by
      intro i hi'
      obtain ⟨cs', hc', ht'⟩ := hel i (by omega)
      rw [hC] at hc'
      obtain ⟨-, hlen, hat⟩ := World.cells?_some hc'
      match cs', hlen with
      | [c0, c1, c2], _ =>
        obtain ⟨ys, n', -, -, -, hyl, hg⟩ := DataW.trod_struct hs ht'
        match ys, hyl with
        | [y0, y1, y2], _ =>
          obtain ⟨o0, k0⟩ := hone_of hone 0 f0 rfl
          obtain ⟨o1, k1⟩ := hone_of hone 1 f1 rfl
          obtain ⟨o2, k2⟩ := hone_of hone 2 f2 rfl
          have g0 := hg 0 f0 rfl
          have g1 := hg 1 f1 rfl
          have g2 := hg 2 f2 rfl
          rw [o0, k0, e0] at g0
          rw [o1, k1, e1] at g1
          rw [o2, k2, e2] at g2
          obtain ⟨m0, x0, -, w0⟩ := DataW.trod_int hi (by simpa using g0)
          obtain ⟨m1, x1, -, w1⟩ := DataW.trod_int hi (by simpa using g1)
          obtain ⟨m2, x2, -, w2⟩ := DataW.trod_int hi (by simpa using g2)
          injection x0 with x0
          injection x1 with x1
          injection x2 with x2
          exact ⟨⟨m0, m1, m2⟩, ⟨wf_i64 w0, wf_i64 w1, wf_i64 w2⟩, by rw [hat 0 (by decide), ← x0]; rfl, by rw [hat 1 (by decide), ← x1]; rfl, by rw [hat 2 (by decide), ← x2]; rfl⟩
    obtain ⟨l, hll, hq⟩ := build_list _ len key
    refine ⟨l, ⟨⟨some a, cap, by rw [hll], by omega, hm, fun h0 => ?_⟩, fun x hx => ?_⟩⟩
    · obtain ⟨b, off, spot⟩ := a
      have hx0 := hq 0 (l[0]'h0) (List.getElem?_eq_getElem h0)
      have hspot : spot = none := by simpa [Addr.add] using World.cell?_spot hx0.2.1
      subst hspot
      refine ⟨b, off, rfl, fun i x hi' => ?_⟩
      obtain ⟨-, h0, h1, h2⟩ := hq i x hi'
      simp only [add_zero_off] at h0 h1 h2
      exact ⟨h0, h1, h2⟩
    · obtain ⟨i, hi'⟩ := List.getElem?_of_mem hx
      exact (hq i x hi').1

/-- Three numbers of 16 bits. -/
theorem u16s_of_arg {t e : TypeId} {r : Reach} {b0 : Nat} {v : Value} {d : DataW H} {p : List MemPlace} (ht : P.underlying t = some (.array 3 e)) (he : P.underlying e = some (.int .u16)) (hC : P.cellsOf e = 1) (hC2 : P.cellsOf t = 3)
    (hval : Value.okWide P w r b0 t v) (h : DataW.Trod enc P w base spare held t v d p) :
    ∃ x y z : Int, v = .agg #[.int .u16 x, .int .u16 y, .int .u16 z] ∧ (0 ≤ x ∧ x < 65536) ∧ (0 ≤ y ∧ y < 65536) ∧ (0 ≤ z ∧ z < 65536) := by
  have wf16 : ∀ {x : Int}, (Lit.int .u16 x).wf = true → 0 ≤ x ∧ x < 65536 := by
    intro x h
    have h1 : IntKind.u16.min = 0 := rfl
    have h2 : IntKind.u16.max = 65535 := rfl
    simp only [Lit.wf, Bool.and_eq_true, decide_eq_true_eq] at h
    omega
  simp only [Value.okWide, ht] at hval
  obtain ⟨⟨cs⟩, rfl, hsz, -⟩ := hval
  match cs, hsz.trans hC2 with
  | [c0, c1, c2], _ =>
    obtain ⟨fuel, hf⟩ := h
    obtain ⟨xs, m, -, -, -, hxl, hg⟩ := DataW.trod_array ht hf
    match xs, hxl with
    | [y0, y1, y2], _ =>
      have g0 := hg 0 (by decide)
      have g1 := hg 1 (by decide)
      have g2 := hg 2 (by decide)
      rw [hC] at g0 g1 g2
      obtain ⟨m0, x0, -, w0⟩ := DataW.trod_int he (by simpa [Value.cells] using g0)
      obtain ⟨m1, x1, -, w1⟩ := DataW.trod_int he (by simpa [Value.cells] using g1)
      obtain ⟨m2, x2, -, w2⟩ := DataW.trod_int he (by simpa [Value.cells] using g2)
      injection x0 with x0
      injection x1 with x1
      injection x2 with x2
      subst x0 x1 x2
      exact ⟨m0, m1, m2, rfl, wf16 w0, wf16 w1, wf16 w2⟩
end
end Go.Proofs.Ytamhkfnghgbenaa
