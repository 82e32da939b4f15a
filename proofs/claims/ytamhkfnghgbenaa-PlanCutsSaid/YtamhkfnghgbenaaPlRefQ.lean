/-
  plan: the reference's Cut: the plain part; a sequence's box beside the two rows.
-/
import Derived.Test.YtamhkfnghgbenaaPlCutA
import Derived.Test.YtamhkfnghgbenaaPlRefI
namespace Go.Proofs.Ytamhkfnghgbenaa
set_option linter.all false
open Go.RowKit

/-- Nothing is carried over ahead of the position. -/
theorem cutTo_zero (ss : List SeqD) (at_ : Int) : ∀ {k : Nat}, k ≤ ss.length → Good 1 131072 0 0 ss k → posL (ss.take k) ≤ at_ → (cutTo ss at_ k).2.2 = 0
  | 0, _, _, _ => rfl
  | k + 1, hk, hg, hp => by
    have hs := List.getElem?_eq_getElem (l := ss) (i := k) (by omega)
    have hpos := Good.pos (by omega) (k := k) (by omega) (fun i x hi => hg i x (by omega))
    obtain ⟨⟨o1, o2, -, -⟩, -⟩ := hg k _ (by omega) hs
    simp only [stepAt] at o1 o2
    rw [posL_take_succ hs] at hp
    have ih := cutTo_zero ss at_ (k := k) (by omega) (fun i x hi => hg i x (by omega)) (by omega)
    rw [cutTo_succ hs]
    unfold cutStep
    rw [if_pos (by omega)]
    exact ih

/-- Two rows, with a sequence's box. -/
structure CutQ (w0 w : World) (va vb : Value) (aa bb : List SeqD) (g : Nat) (x : SeqD) : Prop where
  st : CutSt w0 w va vb aa bb
  box : Blk w g 60 x.cells.toArray
  lo : w0.heap.size ≤ g
  na : va.ownBlock ≠ some g
  nb : vb.ownBlock ≠ some g
section
variable {w0 w w' : World} {va vb : Value} {aa bb : List SeqD} {g : Nat} {x : SeqD}
theorem CutSt.qbox (h : CutSt w0 w va vb aa bb) (x : SeqD) : CutQ w0 (w.alloc (.cells x.cells.toArray 60)) va vb aa bb w.heap.size x :=
  ⟨h.alloc _, Blk.new w _ _, h.bel.size, fun e => by have := h.ra.lt _ e; omega, fun e => by have := h.rb.lt _ e; omega⟩
theorem CutQ.below (h : CutQ w0 w va vb aa bb g x) (hb : Below w.heap.size w w') : CutQ w0 w' va vb aa bb g x :=
  ⟨h.st.below hb, h.box.below hb h.box.lt, h.lo, h.na, h.nb⟩
theorem CutQ.alloc (h : CutQ w0 w va vb aa bb g x) (o : Obj) : CutQ w0 (w.alloc o) va vb aa bb g x := h.below ((Below.refl _ w).alloc (Nat.le_refl _) o)
theorem CutQ.drew (h : CutQ w0 w va vb aa bb g x) : CutQ w0 w.drew va vb aa bb g x := h.below (below_drewN (Below.refl _ w) 1)
theorem CutQ.drewN (h : CutQ w0 w va vb aa bb g x) (n : Nat) : CutQ w0 (w.drewN n) va vb aa bb g x := h.below (below_drewN (Below.refl _ w) n)
theorem CutSt.drewN (h : CutSt w0 w va vb aa bb) (n : Nat) : CutSt w0 (w.drewN n) va vb aa bb := h.below (below_drewN (Below.refl _ w) n)
theorem CutQ.growA {v' : Value} {y : SeqD} (h : CutQ w0 w va vb aa bb g x) (hr : SeqRow w' v' (aa ++ [y])) (hg : w.grownBy w' va.ownBlock) (ho : v'.ownBlock = va.ownBlock ∨ v'.ownBlock = some w.heap.size) : CutQ w0 w' v' vb (aa ++ [y]) bb g x := by
  refine ⟨h.st.growA hr hg ho, (hg.block g h.box.lt (fun e => h.na e.symm)).trans h.box, h.lo, ?_, h.nb⟩
  rcases ho with e | e
  · rw [e]; exact h.na
  · rw [e]; intro e2; have := Option.some.inj e2; have := h.box.lt; omega
theorem CutQ.growB {v' : Value} {y : SeqD} (h : CutQ w0 w va vb aa bb g x) (hr : SeqRow w' v' (bb ++ [y])) (hg : w.grownBy w' vb.ownBlock) (ho : v'.ownBlock = vb.ownBlock ∨ v'.ownBlock = some w.heap.size) : CutQ w0 w' va v' aa (bb ++ [y]) g x := by
  refine ⟨h.st.growB hr hg ho, (hg.block g h.box.lt (fun e => h.nb e.symm)).trans h.box, h.lo, h.na, ?_⟩
  rcases ho with e | e
  · rw [e]; exact h.nb
  · rw [e]; intro e2; have := Option.some.inj e2; have := h.box.lt; omega
theorem CutQ.cells (h : CutQ w0 w va vb aa bb g x) : w.cell? ⟨g, 0, none⟩ = some (.int .i64 x.lit) ∧ w.cell? ⟨g, 1, none⟩ = some (.int .i64 x.len) ∧ w.cell? ⟨g, 2, none⟩ = some (.int .i64 x.off) :=
  ⟨by rw [h.box.cell]; rfl, by rw [h.box.cell]; rfl, by rw [h.box.cell]; rfl⟩
end
end Go.Proofs.Ytamhkfnghgbenaa
