/-
  exec: two rings side by side; parts of a plan.
-/
import Derived.Test.YtndgdehlnmheeaaExFew
namespace Go.Proofs.Ytndgdehlnmheeaa
set_option linter.all false
set_option maxRecDepth 100000
open Go.RowKit

/-- Two rings of a call's own that share nothing. -/
structure Duo (w W : World) (g : Nat) (v : Value) (S : Nat) (st : List Int) (T : Nat) (g2 : Nat) (v2 : Value) (S2 : Nat) (st2 : List Int) (T2 : Nat) : Prop where
  r1 : Ring W g v S st T
  r2 : Ring W g2 v2 S2 st2 T2
  ne : g ≠ g2
  nv : ∀ k, v.ownBlock = some k → v2.ownBlock ≠ some k
  n12 : v.ownBlock ≠ some g2
  n21 : v2.ownBlock ≠ some g
  g1 : w.heap.size ≤ g ∧ w.heap.size ≤ g2
  o1 : ∀ k, v.ownBlock = some k → w.heap.size ≤ k
  o2 : ∀ k, v2.ownBlock = some k → w.heap.size ≤ k
  below : Below w.heap.size w W
section
variable {w W W2 : World} {g : Nat} {v v' : Value} {S : Nat} {st st' C : List Int} {T : Nat} {g2 : Nat} {v2 : Value} {S2 : Nat} {st2 : List Int} {T2 : Nat} {out : List Int}
theorem Duo.made (h : OwnRing w W g v S st T) (hm : Made W W2 g2 v2 S2 st2 T2) : Duo w W2 g v S st T g2 v2 S2 st2 T2 := by
  have hs := h.below.size
  have hgl := h.ring.lt
  have hvl := fun k => h.ring.row.lt k
  have h1 := hm.at_
  exact ⟨h.ring.below hm.below (Nat.le_refl _), hm.ring, by omega, fun k hk e => by have := hvl k hk; have := hm.own k e; omega, fun e => by have := hvl _ e; omega, fun e => by have := hm.own _ e; omega,
    ⟨h.at_, by omega⟩, h.own, fun k hk => by have := hm.own k hk; omega, h.below.trans (hm.below.mono hs)⟩
theorem Duo.symm (h : Duo w W g v S st T g2 v2 S2 st2 T2) : Duo w W g2 v2 S2 st2 T2 g v S st T :=
  ⟨h.r2, h.r1, h.ne.symm, fun k hk e => h.nv k e hk, h.n21, h.n12, ⟨h.g1.2, h.g1.1⟩, h.o2, h.o1, h.below⟩
theorem Duo.next (h : Duo w W g v S st T g2 v2 S2 st2 T2) (hb : Below W.heap.size W W2) : Duo w W2 g v S st T g2 v2 S2 st2 T2 :=
  { h with r1 := h.r1.below hb (Nat.le_refl _), r2 := h.r2.below hb (Nat.le_refl _), below := h.below.trans (hb.mono h.below.size) }
theorem Duo.draws (h : Duo w W g v S st T g2 v2 S2 st2 T2) (hm : ∃ m, W2 = W.drewN m) : Duo w W2 g v S st T g2 v2 S2 st2 T2 := by
  obtain ⟨m, rfl⟩ := hm
  exact h.next (below_drewN (Below.refl _ W) m)
theorem Duo.ran (h : Duo w W g v S st T g2 v2 S2 st2 T2) (hp : RunOk W W2 g v v' S C st' T out) : Duo w W2 g v' S st' (T + out.length) g2 v2 S2 st2 T2 := by
  have hs := h.below.size
  have hgl := h.r2.lt
  have hgl1 := h.r1.lt
  have hvl := fun k => h.r2.row.lt k
  refine ⟨hp.ring, h.r2.but hp.but h.ne.symm h.n12 h.n21 (fun k hk e => h.nv k e hk), h.ne, fun k hk e => ?_, fun e => ?_, h.n21, h.g1, fun k hk => ?_, h.o2, h.below.trans (hp.but.below hs h.g1.1 h.o1)⟩
  · rcases hp.own with e2 | e2
    · exact h.nv k (e2 ▸ hk) e
    · have := e2 k hk; have := hvl k e; omega
  · rcases hp.own with e2 | e2
    · exact h.n12 (e2 ▸ e)
    · have := e2 _ e; omega
  · rcases hp.own with e2 | e2
    · exact h.o1 k (e2 ▸ hk)
    · have := e2 k hk; omega
end

/-- Numbers that an outside change leaves. -/
theorem Ints.own_lt {w : World} {k : IntKind} {v : Value} {xs : List Int} (h : Ints w k v xs) (h0 : xs ≠ []) {b : Nat} (hb : v.ownBlock = some b) : b < w.heap.size := by
  obtain ⟨A, c, hv, hl, -, -, hr⟩ := h
  have hp : 0 < xs.length := List.length_pos_iff.2 h0
  obtain ⟨b', off, rfl, hcell⟩ := hr hp
  subst hv
  obtain rfl : b' = b := Option.some.inj hb
  have hx := hcell 0 (Value.int k (xs[0]'hp)) (by simp [hp])
  exact World.block_lt_of_cell? w _ hx
theorem Ints.but {w w' : World} {k : IntKind} {v : Value} {xs : List Int} {g : Nat} {o : Option Nat} (h : Ints w k v xs) (hb : But w w' g o) (h1 : xs ≠ [] → ∀ b, v.ownBlock = some b → b ≠ g ∧ o ≠ some b) : Ints w' k v xs := by
  have hlt := fun h0 b => Ints.own_lt h h0 (b := b)
  obtain ⟨A, c, hv, hl, hc, hm, hr⟩ := h
  refine ⟨A, c, hv, hl, hc, hm, fun h0 => ?_⟩
  obtain ⟨b, off, hA, hcell⟩ := hr h0
  refine ⟨b, off, hA, fun j u hu => ?_⟩
  have hne : xs ≠ [] := List.length_pos_iff.1 h0
  have hown : v.ownBlock = some b := by rw [hv, hA]; rfl
  have h3 := h1 hne b hown
  have h2 := hb.block b (hlt hne b hown) h3.1 (fun e => h3.2 e.symm)
  have h4 := hcell j u hu
  unfold World.cell? at h4 ⊢
  rw [h2]; exact h4

/-- The first sequences of a slice. -/
theorem Seqs.take {w : World} {A : Option Addr} {n c m : Nat} {ss : List SeqD} (h : Seqs w (.slice A n c) ss) (hm : m ≤ n) : Seqs w (.slice A m c) (ss.take m) := by
  obtain ⟨⟨A2, c2, he, h1, h2, h3⟩, hw⟩ := h
  injection he with e1 e2 e3
  subst e1 e2 e3
  refine ⟨⟨A, c, by rw [List.length_take, Nat.min_eq_left hm], by rw [List.length_take]; omega, h2, fun h0 => ?_⟩, fun s hs => hw s (List.mem_of_mem_take hs)⟩
  rw [List.length_take] at h0
  obtain ⟨b, off, hA, hx⟩ := h3 (by omega)
  refine ⟨b, off, hA, fun i s hi => ?_⟩
  rw [List.getElem?_take] at hi
  split at hi
  · exact hx i s hi
  · cases hi
/-- The sequences behind the first m. -/
theorem Seqs.drop {w : World} {A : Option Addr} {n c m : Nat} {ss : List SeqD} (h : Seqs w (.slice A n c) ss) (hm : m ≤ n) : Seqs w (.slice (Option.map (fun x => Addr.add x (m * 3)) A) (n - m) (c - m)) (ss.drop m) := by
  obtain ⟨⟨A2, c2, he, h1, h2, h3⟩, hw⟩ := h
  injection he with e1 e2 e3
  subst e1 e2 e3
  refine ⟨⟨_, _, by rw [List.length_drop], by rw [List.length_drop]; omega, by omega, fun h0 => ?_⟩, fun s hs => hw s (List.mem_of_mem_drop hs)⟩
  rw [List.length_drop] at h0
  obtain ⟨b, off, hA, hx⟩ := h3 (by omega)
  refine ⟨b, off + m * 3, by rw [hA]; simp [add_zero_off], fun i s hi => ?_⟩
  rw [List.getElem?_drop] at hi
  have := hx _ s hi
  rw [show off + (m + i) * 3 = off + m * 3 + i * 3 by omega] at this
  exact this
theorem Seqs.none_ (w : World) (A : Option Addr) (c : Nat) (hc : c ≤ maxLen) : Seqs w (.slice A 0 c) [] := ⟨⟨A, c, rfl, Nat.zero_le _, hc, fun h => absurd h (by simp)⟩, fun s hs => by cases hs⟩
end Go.Proofs.Ytndgdehlnmheeaa
