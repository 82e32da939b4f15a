/-
  exec: pieces.
-/
import Derived.Test.YtndgdehlnmheeaaExPcs
namespace Go.Proofs.Ytndgdehlnmheeaa
set_option linter.all false
set_option maxRecDepth 100000
open Go.RowKit

/-- The state of a run: the ring, what is left of the literals, the pieces so far. -/
structure RunSt (w0 W : World) (g x B : Nat) (v0 v : Value) (S : Nat) (C st : List Int) (T0 : Nat) (A : Option Addr) (N c : Nat) (ls : List Int) (rv : Value) (ps : List (List Int)) (es : List Value) : Prop where
  ring : Ring W g v S st (T0 + ps.flatten.length)
  last : lastN S st = lastN S (C ++ ps.flatten)
  own : v.ownBlock = v0.ownBlock ∨ ∀ k, v.ownBlock = some k → w0.heap.size ≤ k
  box : Blk W x 99 #[rp g, .slice A N c]
  lits : AtInts W .u8 A N ls
  cap : N ≤ c ∧ c ≤ 9223372036854775807
  far : ∀ k, (Value.slice A N c).ownBlock = some k → Mine B x k ∧ v.ownBlock ≠ some k ∧ k < w0.heap.size
  hx : v.ownBlock ≠ some x
  but : But2 w0 W g x v0.ownBlock
  pcs : PcSt W B x v.ownBlock rv ps es
  rown : ∀ k, rv.ownBlock = some k → w0.heap.size ≤ k
  gB : g < B ∧ B ≤ x ∧ x < w0.heap.size

section
variable {w0 W W2 W3 : World} {g x B : Nat} {v0 v v2 : Value} {S : Nat} {C st : List Int} {T0 : Nat} {A : Option Addr} {N c : Nat} {ls : List Int} {rv rv' pv : Value} {ps : List (List Int)} {es : List Value}
theorem RunSt.below (h : RunSt w0 W g x B v0 v S C st T0 A N c ls rv ps es) (hb : Below W.heap.size W W2) : RunSt w0 W2 g x B v0 v S C st T0 A N c ls rv ps es :=
  { h with ring := h.ring.below hb (Nat.le_refl _), box := h.box.below hb h.box.lt, lits := h.lits.below hb (Nat.le_refl _), but := h.but.trans (But2.of_below hb g x v0.ownBlock) (.inl rfl), pcs := h.pcs.below hb (by have := h.gB; omega) }
theorem RunSt.piece {lit len off : Nat} (h : RunSt w0 W g x B v0 v S C st T0 A N c ls rv ps es) (ho : off ≤ S) : ls.take lit ++ cpOf S st ls lit len off = pieceL (C ++ ps.flatten) ls ⟨lit, len, off⟩ := by
  have e : lastN off (keepL S (st ++ ls.take lit)) = lastN off (C ++ ps.flatten ++ ls.take lit) := by
    rw [← lastN_lastN (keepL S (st ++ ls.take lit)) ho, keepL_last, lastN_app_eq h.last, lastN_lastN _ ho]
  unfold pieceL cpOf
  simp only [Int.toNat_natCast]
  rw [e]
theorem RunSt.next {lit len off : Nat} {o : Obj} (h : RunSt w0 W g x B v0 v S C st T0 A N c ls rv ps es) (hd : Does W W2 g x v v2 S st (T0 + ps.flatten.length) A N c ls lit len off pv) (hlit : lit ≤ N) (ho : off ≤ S)
    (hr : SRow W3 22 1 rv' (es.map (fun e => [e]) ++ [[pv]])) (hgr : (W2.alloc o).grownBy W3 rv.ownBlock) (hown : rv'.ownBlock = rv.ownBlock ∨ rv'.ownBlock = some (W2.alloc o).heap.size) :
    RunSt w0 W3 g x B v0 v2 S C (keepL S (keepL S (st ++ ls.take lit) ++ cpOf S st ls lit len off)) T0 (if c = lit then A else Option.map (fun x => Addr.add x lit) A) (N - lit) (c - lit) (ls.drop lit) rv' (ps ++ [pieceL (C ++ ps.flatten) ls ⟨lit, len, off⟩]) (es ++ [pv]) := by
  obtain ⟨g1, g2, g3⟩ := h.gB
  have hpe := h.piece (lit := lit) (len := len) ho
  have hs0 := h.but.size
  have hs2 := hd.but.size
  have hsz : (W2.alloc o).heap.size = W2.heap.size + 1 := by simp
  have hba : Below W2.heap.size W2 (W2.alloc o) := (Below.refl _ W2).alloc (Nat.le_refl _) o
  have hrl := fun k => h.pcs.row.lt k
  have hp2 := h.pcs.move hd.but g1 hd.own
  have hp3 := hp2.below hba (by omega)
  have hv2 : v2.ownBlock = v0.ownBlock ∨ ∀ k, v2.ownBlock = some k → w0.heap.size ≤ k := by
    rcases hd.own with e | e
    · rw [e]; exact h.own
    · exact .inr fun k hk => by have := e k hk; omega
  have hfl : (ps ++ [pieceL (C ++ ps.flatten) ls ⟨lit, len, off⟩]).flatten = ps.flatten ++ (ls.take lit ++ cpOf S st ls lit len off) := by rw [List.flatten_append, hpe]; simp
  have hll : (ls.take lit ++ cpOf S st ls lit len off).length = lit + len := by rw [List.length_append, List.length_take, copied_length, h.lits.1]; omega
  have hrw : ∀ k, rv.ownBlock = some k → k ≠ g ∧ k ≠ x ∧ v2.ownBlock ≠ some k := fun k hk => by
    obtain ⟨⟨a1, a2⟩, a3⟩ := hp2.own k hk
    exact ⟨by omega, a2, a3⟩
  have hne : ∀ k, k < W.heap.size → v.ownBlock ≠ some k → v2.ownBlock ≠ some k := fun k h1 h2 e => by
    rcases hd.own with e2 | e2
    · exact h2 (e2 ▸ e)
    · have := e2 k e; omega
  refine ⟨?_, ?_, hv2, ?_, ?_, ?_, ?_, ?_, ?_, ?_, ?_, ⟨g1, g2, g3⟩⟩
  · have hr2 := hd.ring.below hba (Nat.le_refl _)
    have hgl := hr2.lt
    have := hr2.but (But.of_grown hgr (W2.alloc o).heap.size) (by omega) (fun e => (hrw g e).1 rfl) (fun e => by have := hr2.row.lt _ e; omega) (fun k hk e => (hrw k e).2.2 hk)
    rw [hfl, List.length_append, hll]
    have e3 : T0 + (ps.flatten.length + (lit + len)) = T0 + ps.flatten.length + lit + len := by omega
    rw [e3]
    exact this
  · rw [hfl, keepL_last, ← lastN_append, keepL_last, lastN_append, List.append_assoc, ← List.append_assoc C]
    exact lastN_app_eq h.last
  · exact (hd.box.below hba hd.box.lt).grown hgr (fun e => (hrw x e.symm).2.1 rfl)
  · refine (hd.lits.below hba (Nat.le_refl _)).same (c := c) fun k hk hlt => hgr.block k hlt (fun e => ?_)
    rw [own_cut (n := N) (c := c)] at hk
    have h1 := (h.far k hk).2.2
    have h2 := h.rown k e.symm
    omega
  · have := h.cap; omega
  · intro k hk
    rw [own_cut (n := N) (c := c)] at hk
    obtain ⟨a1, a2, a3⟩ := h.far k hk
    exact ⟨a1, hne k (by omega) a2, a3⟩
  · exact hne x (by omega) h.hx
  · refine ((h.but.trans hd.but h.own).trans (But2.of_below hba g x v0.ownBlock) (.inl rfl)).trans (But2.of_grown hgr g x) (.inr h.rown)
  · have hi2 := hd.piece.below hba (Nat.le_refl _)
    rw [hpe] at hi2
    refine hp3.snoc hi2 (fun k hk => ?_) (by omega) (by omega) (fun k hk => by have := hd.ring.row.lt k hk; omega) hr hgr (hown.imp id fun e k hk => by rw [e] at hk; have := Option.some.inj hk; omega)
    obtain ⟨b1, b2, b3⟩ := hd.pown k hk
    exact ⟨⟨by omega, by omega⟩, b2, fun e => by have := hrl k e; omega, by omega⟩
  · intro k hk
    rcases hown with e | e
    · rw [e] at hk; exact h.rown k hk
    · rw [e] at hk; have := Option.some.inj hk; omega
theorem RunSt.tail_ {o : Obj} (h : RunSt w0 W g x B v0 v S C st T0 A N c ls rv ps es) (hd : Taken W W2 g x v v2 S st (T0 + ps.flatten.length) A N c N ls)
    (hr : SRow W3 22 1 rv' (es.map (fun e => [e]) ++ [[.slice A N N]])) (hgr : (W2.alloc o).grownBy W3 rv.ownBlock) (hown : rv'.ownBlock = rv.ownBlock ∨ rv'.ownBlock = some (W2.alloc o).heap.size) :
    ∃ st', Ring W3 g v2 S st' (T0 + (ps ++ [ls]).flatten.length) ∧ lastN S st' = lastN S (C ++ (ps ++ [ls]).flatten) ∧ (v2.ownBlock = v0.ownBlock ∨ ∀ k, v2.ownBlock = some k → w0.heap.size ≤ k) ∧ PcSt W3 B x v2.ownBlock rv' (ps ++ [ls]) (es ++ [.slice A N N]) ∧ But2 w0 W3 g x v0.ownBlock := by
  obtain ⟨g1, g2, g3⟩ := h.gB
  have hs0 := h.but.size
  have hs2 := hd.but.size
  have hsz : (W2.alloc o).heap.size = W2.heap.size + 1 := by simp
  have hba : Below W2.heap.size W2 (W2.alloc o) := (Below.refl _ W2).alloc (Nat.le_refl _) o
  have hp2 := h.pcs.move hd.but g1 hd.own
  have hp3 := hp2.below hba (by omega)
  have hv2 : v2.ownBlock = v0.ownBlock ∨ ∀ k, v2.ownBlock = some k → w0.heap.size ≤ k := by
    rcases hd.own with e | e
    · rw [e]; exact h.own
    · exact .inr fun k hk => by have := e k hk; omega
  have hne : ∀ k, k < W.heap.size → v.ownBlock ≠ some k → v2.ownBlock ≠ some k := fun k h1 h2 e => by
    rcases hd.own with e2 | e2
    · exact h2 (e2 ▸ e)
    · have := e2 k e; omega
  have hrw : ∀ k, rv.ownBlock = some k → k ≠ g ∧ v2.ownBlock ≠ some k := fun k hk => by
    obtain ⟨⟨a1, a2⟩, a3⟩ := hp2.own k hk
    exact ⟨by omega, a3⟩
  have htk : ls.take N = ls := List.take_of_length_le (by rw [h.lits.1]; exact Nat.le_refl _)
  have hfl : (ps ++ [ls]).flatten = ps.flatten ++ ls := by simp
  have hr2 := hd.ring.below hba (Nat.le_refl _)
  have hgl := hr2.lt
  have hi2 : Ints (W2.alloc o) .u8 (.slice A N N) ls := by
    have h1 := h.lits.ints (Nat.le_refl _) (by have := h.cap; simp only [maxLen]; omega)
    have h2 : Ints W2 .u8 (.slice A N N) ls := h1.same fun k hk hlt => by
      rw [own_any A N N N c] at hk
      obtain ⟨a1, a2, a3⟩ := h.far k hk
      exact hd.but.block k hlt (by omega) a1.2 (fun e => a2 e.symm)
    exact h2.below hba (Nat.le_refl _)
  refine ⟨keepL S (st ++ ls.take N), ?_, ?_, hv2, ?_, ?_⟩
  · have := hr2.but (But.of_grown hgr (W2.alloc o).heap.size) (by omega) (fun e => (hrw g e).1 rfl) (fun e => by have := hr2.row.lt _ e; omega) (fun k hk e => (hrw k e).2 hk)
    rw [hfl, List.length_append, ← Nat.add_assoc, h.lits.1]
    exact this
  · rw [keepL_last, hfl, htk, ← List.append_assoc]
    exact lastN_app_eq h.last
  · refine hp3.snoc hi2 (fun k hk => ?_) (by omega) (by omega) (fun k hk => by have := hd.ring.row.lt k hk; omega) hr hgr (hown.imp id fun e k hk => by rw [e] at hk; have := Option.some.inj hk; omega)
    rw [own_any A N N N c] at hk
    obtain ⟨a1, a2, a3⟩ := h.far k hk
    exact ⟨a1, hne k (by omega) a2, fun e => by have := h.rown k e; omega, by omega⟩
  · exact ((h.but.trans hd.but h.own).trans (But2.of_below hba g x v0.ownBlock) (.inl rfl)).trans (But2.of_grown hgr g x) (.inr h.rown)
end
end Go.Proofs.Ytndgdehlnmheeaa
