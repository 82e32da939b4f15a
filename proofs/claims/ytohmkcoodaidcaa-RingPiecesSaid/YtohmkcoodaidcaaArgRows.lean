/-
  An argument that is rows of bytes, opened.
-/
import Derived.Test.YtohmkcoodaidcaaLwRingPieces
namespace Go.Proofs.Ytohmkcoodaidcaa
open Go.ChangeShapes Go.WideShapes Go.ChangeAt Go.RowKit Go.Joins Go.Deep

section
variable {H : Type} {enc : TypeId × Value → H} {P : Program} {w : World} {base : Nat} {spare : Nat → Bool} {held : Bool}
theorem byteRows_of_arg {t e te : TypeId} {r : Reach} {b0 : Nat} {v : Value} {d : DataW H} {p : List MemPlace} (ht : P.underlying t = some (.slice e)) (hs : P.underlying e = some (.slice te)) (he : P.underlying te = some (.int .u8)) (hC : P.cellsOf e = 1) (hc : P.cellsOf te = 1)
    (hval : Value.okWide P w r b0 t v) (h : DataW.Trod enc P w base spare held t v d p) : ∃ ls : List (Value × List Int), ByteRows w v ls := by
  obtain ⟨a0, len0, cap0, rfl⟩ := okWide_slice ht hval
  obtain ⟨fuel, hf⟩ := h
  rcases open_slice ht hf with ⟨hcs, -⟩ | ⟨a, len, cap, m, n, D, Pl, hcs, -, hl, hm, hmm, -, hel⟩
  · injection hcs with hcs
    rw [hcs]
    exact ⟨[], ⟨⟨none, 0, rfl, Nat.le_refl _, by simp [maxLen], fun h => absurd h (by simp)⟩, fun x hx => by cases hx⟩⟩
  · injection hcs with hcs
    rw [hcs]
    have hlm : len ≤ m := by rw [hmm]; split <;> omega
    have key : ∀ i, i < len → ∃ x : Value × List Int, (Ints w .u8 x.1 x.2 ∧ U8s x.2) ∧ w.cell? ((a.add (i * 1)).add 0) = some x.1 := by
      intro i hi'
      obtain ⟨cs', hc', ht'⟩ := hel i (by omega)
      rw [hC] at hc'
      obtain ⟨-, hlen, hat⟩ := World.cells?_some hc'
      match cs', hlen with
      | [c0], _ =>
        obtain ⟨zs, hz, hw⟩ := ints_of_trod hs he hc ht'
        exact ⟨(c0, zs), ⟨hz, u8s_wf hw⟩, by rw [hat 0 (by decide)]; rfl⟩
    obtain ⟨l, hll, hq⟩ := build_list _ len key
    refine ⟨l, ⟨⟨some a, cap, by rw [hll], by omega, hm, fun h0 => ?_⟩, fun x hx => ?_⟩⟩
    · obtain ⟨b, off, spot⟩ := a
      have hx0 := hq 0 (l[0]'h0) (List.getElem?_eq_getElem h0)
      have hspot : spot = none := by simpa [Addr.add] using World.cell?_spot hx0.2
      subst hspot
      refine ⟨b, off, rfl, fun i x hi' => ?_⟩
      obtain ⟨-, h0⟩ := hq i x hi'
      simpa only [add_zero_off, Nat.mul_one, Nat.add_zero] using h0
    · obtain ⟨i, hi'⟩ := List.getElem?_of_mem hx
      exact (hq i x hi').1
end
end Go.Proofs.Ytohmkcoodaidcaa
