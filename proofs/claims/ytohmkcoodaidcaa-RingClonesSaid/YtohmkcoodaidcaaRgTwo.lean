/-
  The ring's laws: two rings side by side; a slice of the law's own.
-/
import Derived.Test.YtohmkcoodaidcaaRgIs
namespace Go.Proofs.Ytohmkcoodaidcaa
open Go.RowKit

theorem works_at {w W : World} (hb : Below w.heap.size w W) : Calls Try.prog 12 #[] W fun e w' => e = .returned (.bool true) ∧ Below w.heap.size w w' :=
  (works_any W).mono fun _ _ ⟨he, h⟩ => ⟨he, hb.trans (h.mono hb.size)⟩

/-- Two rings of the call's own, apart. -/
structure Two (w W : World) (g : Nat) (v : Value) (S : Nat) (st : List Int) (T : Nat) (g2 : Nat) (v2 : Value) (S2 : Nat) (st2 : List Int) (T2 : Nat) : Prop where
  r1 : Ring W g v S st T
  r2 : Ring W g2 v2 S2 st2 T2
  bel : Below w.heap.size w W
  hg : w.heap.size ≤ g
  hv : ∀ k, v.ownBlock = some k → w.heap.size ≤ k
  hg2 : w.heap.size ≤ g2
  hv2 : ∀ k, v2.ownBlock = some k → w.heap.size ≤ k
  n1 : g ≠ g2
  n2 : v.ownBlock ≠ some g2
  n3 : v2.ownBlock ≠ some g
  n4 : ∀ k, v.ownBlock = some k → v2.ownBlock ≠ some k
section
variable {w W W2 : World} {g g' g2 : Nat} {v v' v2 : Value} {S T T' S2 T2 : Nat} {st st' st2 : List Int}
theorem Two.symm (h : Two w W g v S st T g2 v2 S2 st2 T2) : Two w W g2 v2 S2 st2 T2 g v S st T :=
  ⟨h.r2, h.r1, h.bel, h.hg2, h.hv2, h.hg, h.hv, h.n1.symm, h.n3, h.n2, fun k hk e => h.n4 k e hk⟩
theorem Two.below (h : Two w W g v S st T g2 v2 S2 st2 T2) (hb : Below W.heap.size W W2) : Two w W2 g v S st T g2 v2 S2 st2 T2 :=
  { h with r1 := h.r1.below hb (Nat.le_refl _), r2 := h.r2.below hb (Nat.le_refl _), bel := h.bel.trans (hb.mono h.bel.size) }
theorem Two.draws (h : Two w W g v S st T g2 v2 S2 st2 T2) (hm : ∃ m, W2 = W.drewN m) : Two w W2 g v S st T g2 v2 S2 st2 T2 := by
  obtain ⟨m, rfl⟩ := hm
  exact { h with r1 := h.r1.drewN m, r2 := h.r2.drewN m, bel := below_drewN h.bel m }
/-- A change of the first ring alone. -/
theorem Two.left (h : Two w W g v S st T g2 v2 S2 st2 T2) (hr : Ring W2 g' v' S st' T') (hb : But W W2 g v.ownBlock) (hat : g' = g ∨ W.heap.size ≤ g') (hown : v'.ownBlock = v.ownBlock ∨ ∀ k, v'.ownBlock = some k → W.heap.size ≤ k) :
    Two w W2 g' v' S st' T' g2 v2 S2 st2 T2 := by
  have hs := h.bel.size
  have hl2 := h.r2.lt
  refine ⟨hr, h.r2.but hb h.n1.symm h.n2 h.n3 (fun k hk e => h.n4 k e hk), h.bel.trans (hb.below hs h.hg h.hv), ?_, ?_, h.hg2, h.hv2, ?_, ?_, ?_, ?_⟩
  · rcases hat with e | e
    · rw [e]; exact h.hg
    · omega
  · rcases hown with e | e
    · rw [e]; exact h.hv
    · exact fun k hk => by have := e k hk; omega
  · rcases hat with e | e
    · rw [e]; exact h.n1
    · omega
  · rcases hown with e | e
    · rw [e]; exact h.n2
    · intro e2; have := e _ e2; omega
  · rcases hat with e | e
    · rw [e]; exact h.n3
    · intro e2; have := h.r2.row.lt _ e2; omega
  · rcases hown with e | e
    · rw [e]; exact h.n4
    · intro k hk e2; have := e k hk; have := h.r2.row.lt k e2; omega
theorem Two.put (h : Two w W g v S st T g2 v2 S2 st2 T2) (hp : Put W W2 g v v' S st' T') : Two w W2 g v' S st' T' g2 v2 S2 st2 T2 := h.left hp.ring hp.but (.inl rfl) hp.own
theorem Two.act {cv cv' : Value} (h : Two w W g v S st T g2 v2 S2 st2 T2) (ha : Acted W W2 g g' v v' S st st' T T' cv cv') : Two w W2 g' v' S st' T' g2 v2 S2 st2 T2 := h.left ha.ring ha.but ha.at_ ha.own
theorem Two.made (h : OwnRing w W g v S st T) (hm : Made W W2 g2 v2 S2 st2 T2) : Two w W2 g v S st T g2 v2 S2 st2 T2 := by
  have hs := h.below.size
  have hl := h.ring.lt
  have hat := hm.at_
  exact ⟨h.ring.below hm.below (Nat.le_refl _), hm.ring, h.below.trans (hm.below.mono hs), h.at_, h.own, by omega, fun k hk => by have := hm.own k hk; omega, by omega, fun e => by have := h.ring.row.lt _ e; omega, fun e => by have := hm.own _ e; omega, fun k hk e => by have := h.ring.row.lt _ hk; have := hm.own _ e; omega⟩
theorem Two.own1 (h : Two w W g v S st T g2 v2 S2 st2 T2) : OwnRing w W g v S st T := ⟨h.r1, h.hg, h.hv, h.bel⟩
theorem Two.own2 (h : Two w W g v S st T g2 v2 S2 st2 T2) : OwnRing w W g2 v2 S2 st2 T2 := ⟨h.r2, h.hg2, h.hv2, h.bel⟩
end

theorem last_keep_app (S : Nat) (l b : List Int) : lastN S (keepL S l ++ b) = lastN S (l ++ b) := by rw [← lastN_append, keepL_last, lastN_append]
theorem listEq_self (l : List Int) : listEq l l = true := decide_eq_true rfl
theorem eq_true_of {S : Nat} {a b : List Int} (h : a = b) : (decide (S = S) && listEq a b) = true := by subst h; simp [listEq]

/-- A slice of the law's own. -/
structure GivenSt (w W : World) (A : Option Addr) (N c : Nat) (ys : List Int) : Prop where
  row : Row W (.slice A N c) ys
  len : ys.length = N
  own : ∀ k, (Value.slice A N c).ownBlock = some k → w.heap.size ≤ k
  bel : Below w.heap.size w W
section
variable {w W W2 : World} {A : Option Addr} {N c : Nat} {ys : List Int}
theorem GivenSt.next (h : GivenSt w W A N c ys) (hb : Below W.heap.size W W2) : GivenSt w W2 A N c ys :=
  ⟨h.row.below hb (Nat.le_refl _), h.len, h.own, h.bel.trans (hb.mono h.bel.size)⟩
theorem GivenSt.start {zs : List Int} {A3 : Option Addr} {N3 c3 : Nat} {w2 : World} (hl : zs.length = N3) (hrow : Row w2 (.slice A3 N3 c3) zs) (hg : (w.alloc (.cells #[] 5)).grownBy w2 (Value.slice (some ⟨w.heap.size, 0, none⟩) 0 0).ownBlock)
    (hown : (Value.slice A3 N3 c3).ownBlock = (Value.slice (some ⟨w.heap.size, 0, none⟩) 0 0).ownBlock ∨ (Value.slice A3 N3 c3).ownBlock = some (w.alloc (.cells #[] 5)).heap.size) : GivenSt w w2 A3 N3 c3 zs :=
  ⟨hrow, hl, own_ge (B := w.heap.size) hown rfl (Nat.le_refl _) (by simp), ((Below.refl _ w).alloc (Nat.le_refl _) _).grown hg (by simp) fun r hr => by have : w.heap.size = r := Option.some.inj hr; omega⟩
theorem GivenSt.app {bs : List Int} {A3 : Option Addr} {N3 c3 : Nat} {w2 : World} (h : GivenSt w W A N c ys) (hl : (ys ++ bs).length = N3) (hrow : Row w2 (.slice A3 N3 c3) (ys ++ bs)) (hg : W.grownBy w2 (Value.slice A N c).ownBlock)
    (hown : (Value.slice A3 N3 c3).ownBlock = (Value.slice A N c).ownBlock ∨ (Value.slice A3 N3 c3).ownBlock = some W.heap.size) : GivenSt w w2 A3 N3 c3 (ys ++ bs) := by
  refine ⟨hrow, hl, fun k hk => ?_, h.bel.grown hg h.bel.size fun r hr => h.own r hr⟩
  rcases hown with e | e
  · exact h.own k (e ▸ hk)
  · rw [e] at hk; have := Option.some.inj hk; have := h.bel.size; omega
end

/-- What Copy does hangs on the contents alone. -/
theorem ring_copies (S : Nat) (C : List Int) (off n : Int) (_ : S ≤ 134217728) : ∃ (out : List Int) (no : Int), ∀ (g : Nat) (v : Value) (st : List Int) (T : Nat), lastN S st = C → T ≤ 1152921504606846976 →
    RingCopies g v S st T off n (keepL S (st ++ out)) (T + out.length) out no := by
  have hkeep : ∀ {st : List Int}, st.length ≤ 2 * S → keepL S (st ++ []) = st := fun {st} h => by rw [List.append_nil]; unfold keepL; rw [if_neg (by omega)]
  by_cases hn : n < 0 ∨ 131072 < n
  · exact ⟨[], 2, fun g v st T _ _ W h => by rw [hkeep h.len]; exact ringCopies_arg hn W h⟩
  by_cases ho : off < 1 ∨ (C.length : Int) < off
  · refine ⟨[], 15, fun g v st T hC _ W h => ?_⟩
    rw [hkeep h.len]
    exact ringCopies_seq (by omega) (by omega) (by rw [← lastN_length, hC]; exact ho) W h
  · obtain ⟨N, rfl⟩ : ∃ N : Nat, n = (N : Int) := ⟨n.toNat, by omega⟩
    obtain ⟨O, rfl⟩ : ∃ O : Nat, off = (O : Int) := ⟨off.toNat, by omega⟩
    refine ⟨copied (lastN O C) O N, 0, fun g v st T hC hT W h => ?_⟩
    have hl : C.length = min S st.length := by rw [← hC, lastN_length]
    have e : lastN O C = lastN O st := by rw [← hC]; exact lastN_lastN st (by omega)
    rw [e, copied_length]
    exact ringCopies_ok (by omega) (by omega) (by omega) (by omega) W h
end Go.Proofs.Ytohmkcoodaidcaa
