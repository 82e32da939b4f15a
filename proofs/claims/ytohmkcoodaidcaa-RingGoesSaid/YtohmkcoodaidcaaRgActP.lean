/-
  The ring's laws: what a call (act) leaves; no program in sight.
-/
import Derived.Test.YtohmkcoodaidcaaRgFew
namespace Go.Proofs.Ytohmkcoodaidcaa
open Go.RowKit

theorem Ints.own_lt {w : World} {k : IntKind} {v : Value} {xs : List Int} (h : Ints w k v xs) (h0 : xs ≠ []) {b : Nat} (hb : v.ownBlock = some b) : b < w.heap.size := by
  obtain ⟨A, c, hv, hl, -, -, hr⟩ := h
  have hp : 0 < xs.length := List.length_pos_iff.2 h0
  obtain ⟨b', off, rfl, hcell⟩ := hr hp
  subst hv
  obtain rfl : b' = b := Option.some.inj hb
  have hx := hcell 0 (Value.int k (xs[0]'hp)) (by simp [hp])
  exact World.block_lt_of_cell? w _ hx
theorem Ints.but {w w' : World} {k : IntKind} {v : Value} {xs : List Int} {g : Nat} {o : Option Nat} (h : Ints w k v xs) (hb : But w w' g o) (h1 : xs ≠ [] → ∀ b, v.ownBlock = some b → b ≠ g ∧ o ≠ some b) : Ints w' k v xs := by
  have hlt := fun h0 b => Ints.own_lt h h0 (b := b)
  obtain ⟨A, c, hv, hl, hc, hm, hr⟩ := h
  refine ⟨A, c, hv, hl, hc, hm, fun h0 => ?_⟩
  obtain ⟨b, off, hA, hcell⟩ := hr h0
  refine ⟨b, off, hA, fun j u hu => ?_⟩
  have hne : xs ≠ [] := List.length_pos_iff.1 h0
  have hown : v.ownBlock = some b := by rw [hv, hA]; rfl
  have h3 := h1 hne b hown
  have h2 := hb.block b (hlt hne b hown) h3.1 (fun e => h3.2 e.symm)
  have h4 := hcell j u hu
  unfold World.cell? at h4 ⊢
  rw [h2]; exact h4
/-- The law's own boxes during a call: the reference, the call, the result. -/
structure ActBx (w W : World) (g : Nat) (v : Value) (S : Nat) (cv : Value) (T : Nat) (x : ActD) : Prop where
  b4 : Blk W w.heap.size 36 #[.int .i64 S, cv, .int .i64 T]
  b5 : Blk W (w.heap.size + 1) 43 #[.int .i64 x.what, x.bv, .int .i64 x.off, .int .i64 x.n]
  b7 : Blk W (w.heap.size + 1 + 1) 36 #[.int .i64 0, .slice none 0 0, .int .i64 0]
  but : But w W g v.ownBlock
  hg : g < w.heap.size
  hv : ∀ k, v.ownBlock = some k → k < w.heap.size
section
variable {w W W2 : World} {g : Nat} {v : Value} {S T : Nat} {cv : Value} {x : ActD}
theorem ActBx.start {o4 o5 o7 : Obj} (e4 : o4 = .cells #[.int .i64 S, cv, .int .i64 T] 36) (e5 : o5 = .cells #[.int .i64 x.what, x.bv, .int .i64 x.off, .int .i64 x.n] 43) (e7 : o7 = .cells #[.int .i64 0, .slice none 0 0, .int .i64 0] 36)
    (hg : g < w.heap.size) (hv : ∀ k, v.ownBlock = some k → k < w.heap.size) : ActBx w (((w.alloc o4).alloc o5).alloc o7) g v S cv T x := by
  subst e4 e5 e7
  exact ⟨((Blk.new w _ _).alloc _).alloc _, (Blk.new1 w _ _ _).alloc _, Blk.new2 w _ _ _ _, ((But.refl w g _).alloc _ |>.alloc _ |>.alloc _), hg, hv⟩
theorem ActBx.size (h : ActBx w W g v S cv T x) : w.heap.size + 1 + 1 < W.heap.size := h.b7.lt
theorem ActBx.next (h : ActBx w W g v S cv T x) (hb : But W W2 g v.ownBlock) : ActBx w W2 g v S cv T x := by
  have hg := h.hg
  have hv := fun k => h.hv k
  refine ⟨h.b4.but hb (by omega) (fun e => by have := hv _ e; omega), h.b5.but hb (by omega) (fun e => by have := hv _ e; omega), h.b7.but hb (by omega) (fun e => by have := hv _ e; omega), h.but.trans hb (.inl rfl), h.hg, h.hv⟩
theorem ActBx.below (h : ActBx w W g v S cv T x) (hb : Below W.heap.size W W2) : ActBx w W2 g v S cv T x := h.next (But.of_below hb g _)
theorem ActBx.drew (h : ActBx w W g v S cv T x) : ActBx w W.drew g v S cv T x := h.below (Below.refl _ W).drew
/-- The boxes' cells. -/
def ActCells (w W : World) (S : Nat) (cv : Value) (T : Nat) (x : ActD) : Prop :=
  W.cell? ⟨w.heap.size, 0, none⟩ = some (.int .i64 S) ∧ W.cell? ⟨w.heap.size, 1, none⟩ = some cv ∧ W.cell? ⟨w.heap.size, 2, none⟩ = some (.int .i64 T) ∧
    W.cell? ⟨w.heap.size + 1, 0, none⟩ = some (.int .i64 x.what) ∧ W.cell? ⟨w.heap.size + 1, 1, none⟩ = some x.bv ∧ W.cell? ⟨w.heap.size + 1, 2, none⟩ = some (.int .i64 x.off) ∧ W.cell? ⟨w.heap.size + 1, 3, none⟩ = some (.int .i64 x.n)
theorem ActBx.cells (h : ActBx w W g v S cv T x) : ActCells w W S cv T x := by
  have h4 := h.b4.three
  refine ⟨h4.1, h4.2.1, h4.2.2.1, ?_, ?_, ?_, ?_⟩ <;> (rw [h.b5.cell]; rfl)
theorem ActCells.stores (h : ActCells w W S cv T x) (u0 u1 u2 : Value) : ActCells w (((W.setCell ⟨w.heap.size + 1 + 1, 0, none⟩ u0).setCell ⟨w.heap.size + 1 + 1, 1, none⟩ u1).setCell ⟨w.heap.size + 1 + 1, 2, none⟩ u2) S cv T x := by
  obtain ⟨h0, h1, h2, h3, h4, h5, h6⟩ := h
  have hs : ∀ (p : Addr) (y : Value), p.block ≠ w.heap.size + 1 + 1 → W.cell? p = some y → (((W.setCell ⟨w.heap.size + 1 + 1, 0, none⟩ u0).setCell ⟨w.heap.size + 1 + 1, 1, none⟩ u1).setCell ⟨w.heap.size + 1 + 1, 2, none⟩ u2).cell? p = some y := by
    intro p y hp hy
    have hne : ∀ i, (⟨w.heap.size + 1 + 1, i, none⟩ : Addr) ≠ p := fun i e => hp (by rw [← e])
    rw [World.cell?_setCell_other _ _ _ _ (hne 2), World.cell?_setCell_other _ _ _ _ (hne 1), World.cell?_setCell_other _ _ _ _ (hne 0)]
    exact hy
  refine ⟨hs _ _ ?_ h0, hs _ _ ?_ h1, hs _ _ ?_ h2, hs _ _ ?_ h3, hs _ _ ?_ h4, hs _ _ ?_ h5, hs _ _ ?_ h6⟩ <;> (show _ ≠ _; simp only [ne_eq]; omega)
end

/-- What a call leaves: the rings agree. -/
structure Acted (w w' : World) (g g' : Nat) (v v' : Value) (S : Nat) (st st' : List Int) (T T' : Nat) (cv cv' : Value) : Prop where
  ring : Ring w' g' v' S st' T'
  at_ : g' = g ∨ w.heap.size ≤ g'
  own : v'.ownBlock = v.ownBlock ∨ ∀ k, v'.ownBlock = some k → w.heap.size ≤ k
  but : But w w' g v.ownBlock
  ref : Ints w' .u8 cv' (lastN S st')
  refOwn : (cv' = cv ∧ lastN S st' = lastN S st) ∨ ∀ k, cv'.ownBlock = some k → w.heap.size ≤ k
  far : lastN S st' ≠ [] → ∀ k, cv'.ownBlock = some k → k ≠ g' ∧ v'.ownBlock ≠ some k
  tot : T' ≤ T + 131072

/-- The three stores into the result's box. -/
theorem Acted.fin {w W : World} {g g' : Nat} {v v' : Value} {S T T' : Nat} {st st' : List Int} {cv cv' : Value} {x : ActD} (h : ActBx w W g v S cv T x) (hr : Ring W g' v' S st' T') (hat : g' = g ∨ w.heap.size + 1 + 1 < g')
    (hown : v'.ownBlock = v.ownBlock ∨ ∀ k, v'.ownBlock = some k → w.heap.size + 1 + 1 < k) (hi : Ints W .u8 cv' (lastN S st')) (hro : (cv' = cv ∧ lastN S st' = lastN S st ∧ (lastN S st' ≠ [] → ∀ k, cv.ownBlock = some k → k < w.heap.size)) ∨ ∀ k, cv'.ownBlock = some k → w.heap.size + 1 + 1 < k)
    (hfar : lastN S st' ≠ [] → ∀ k, cv'.ownBlock = some k → k ≠ g' ∧ v'.ownBlock ≠ some k) (htot : T' ≤ T + 131072) (u0 u1 u2 : Value) :
    Acted w (((W.setCell ⟨w.heap.size + 1 + 1, 0, none⟩ u0).setCell ⟨w.heap.size + 1 + 1, 1, none⟩ u1).setCell ⟨w.heap.size + 1 + 1, 2, none⟩ u2) g g' v v' S st st' T T' cv cv' := by
  have hb : But W (((W.setCell ⟨w.heap.size + 1 + 1, 0, none⟩ u0).setCell ⟨w.heap.size + 1 + 1, 1, none⟩ u1).setCell ⟨w.heap.size + 1 + 1, 2, none⟩ u2) (w.heap.size + 1 + 1) none := (((But.refl W _ _).set_ 0 u0).set_ 1 u1).set_ 2 u2
  have hg := h.hg
  have hv := fun k => h.hv k
  refine ⟨hr.but hb ?_ (by simp) ?_ (by simp), ?_, ?_, ((h.but.far (by omega) 0 u0).far (by omega) 1 u1).far (by omega) 2 u2, hi.but hb ?_, ?_, hfar, htot⟩
  · rcases hat with e | e <;> omega
  · intro e
    rcases hown with h1 | h1
    · rw [h1] at e; have := hv _ e; omega
    · have := h1 _ e; omega
  · rcases hat with e | e
    · exact .inl e
    · exact .inr (by omega)
  · rcases hown with h1 | h1
    · exact .inl h1
    · exact .inr fun k hk => by have := h1 k hk; omega
  · intro h0 b hbk
    refine ⟨?_, by simp⟩
    rcases hro with ⟨h1, -, h2⟩ | h1
    · rw [h1] at hbk; have := h2 h0 b hbk; omega
    · have := h1 b hbk; omega
  · rcases hro with ⟨h1, h2, -⟩ | h1
    · exact .inl ⟨h1, h2⟩
    · exact .inr fun k hk => by have := h1 k hk; omega
end Go.Proofs.Ytohmkcoodaidcaa
