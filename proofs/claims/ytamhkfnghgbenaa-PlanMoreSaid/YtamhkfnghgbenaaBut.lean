/-
  Memory but for one block, one row and new blocks.
-/
import Derived.Test.YtamhkfnghgbenaaSRow
namespace Go.Proofs.Ytamhkfnghgbenaa
set_option linter.all false
open Go.RowKit

/-- w' is w but for block g, row o and new blocks. -/
structure But (w w' : World) (g : Nat) (o : Option Nat) : Prop where
  os : w'.os = w.os
  tape : w'.tape = w.tape
  output : w'.output = w.output
  size : w.heap.size ≤ w'.heap.size
  block : ∀ k, k < w.heap.size → k ≠ g → some k ≠ o → w'.heap[k]? = w.heap[k]?
section
variable {w w1 w' : World} {g : Nat} {o o' : Option Nat}
theorem But.refl (w : World) (g : Nat) (o : Option Nat) : But w w g o := ⟨rfl, rfl, rfl, Nat.le_refl _, fun _ _ _ _ => rfl⟩
theorem But.trans (h : But w w1 g o) (h' : But w1 w' g o') (ho : o' = o ∨ ∀ k, o' = some k → w.heap.size ≤ k) : But w w' g o := by
  refine ⟨h'.os.trans h.os, h'.tape.trans h.tape, h'.output.trans h.output, Nat.le_trans h.size h'.size, fun k hk hg h1 => ?_⟩
  refine (h'.block k (Nat.lt_of_lt_of_le hk h.size) hg ?_).trans (h.block k hk hg h1)
  rcases ho with rfl | ho
  · exact h1
  · intro e; have := ho k e.symm; omega
theorem But.of_grown (h : w.grownBy w' o) (g : Nat) : But w w' g o := ⟨h.os, h.tape, h.output, h.size, fun k hk _ ho => h.block k hk ho⟩
theorem But.of_below (h : Below w.heap.size w w') (g : Nat) (o : Option Nat) : But w w' g o := ⟨h.os, h.tape, h.output, h.size, fun k hk _ _ => h.block k hk⟩
theorem But.set_ (h : But w w1 g o) (i : Nat) (u : Value) : But w (w1.setCell ⟨g, i, none⟩ u) g o :=
  ⟨h.os, h.tape, h.output, by simpa using h.size, fun k hk hg ho => (Below.heap_setCell w1 _ u k hg).trans (h.block k hk hg ho)⟩
theorem But.drewN (h : But w w1 g o) (n : Nat) : But w (w1.drewN n) g o := ⟨h.os, h.tape, h.output, h.size, h.block⟩
theorem But.alloc (h : But w w1 g o) (x : Obj) : But w (w1.alloc x) g o :=
  ⟨h.os, h.tape, h.output, by have := h.size; simp; omega, fun k hk hg ho => (Below.heap_alloc w1 x k (Nat.lt_of_lt_of_le hk h.size)).trans (h.block k hk hg ho)⟩
theorem But.below (h : But w w' g o) {B : Nat} (hB : B ≤ w.heap.size) (hg : B ≤ g) (ho : ∀ k, o = some k → B ≤ k) : Below B w w' :=
  ⟨h.os, h.tape, h.output, h.size, fun k hk => h.block k (by omega) (by omega) (fun e => by have := ho k e.symm; omega)⟩
end

theorem But.far {w w1 : World} {g n : Nat} {o : Option Nat} (h : But w w1 g o) (hn : w.heap.size ≤ n) (i : Nat) (u : Value) : But w (w1.setCell ⟨n, i, none⟩ u) g o :=
  ⟨h.os, h.tape, h.output, by simpa using h.size, fun k hk hg ho => (Below.heap_setCell w1 _ u k (by show k ≠ n; omega)).trans (h.block k hk hg ho)⟩
theorem Blk.but {w w' : World} {b g : Nat} {t : TypeId} {cs : Array Value} {o : Option Nat} (h : Blk w b t cs) (hb : But w w' g o) (h1 : b ≠ g) (h2 : o ≠ some b) : Blk w' b t cs := (hb.block b h.lt h1 (fun e => h2 e.symm)).trans h

theorem SRow.but {w w' : World} {E : TypeId} {sz g : Nat} {o : Option Nat} {v : Value} {cs : List (List Value)} (h : SRow w E sz v cs) (hb : But w w' g o) (h1 : v.ownBlock ≠ some g) (h2 : ∀ k, v.ownBlock = some k → o ≠ some k) : SRow w' E sz v cs :=
  h.same fun k hk => hb.block k (h.lt k hk) (fun e => h1 (by rw [hk, e])) (fun e => h2 k hk e.symm)
theorem own_any (A : Option Addr) (n c n' c' : Nat) : (Value.slice A n c).ownBlock = (Value.slice A n' c').ownBlock := by cases A <;> rfl
theorem own_map (A : Option Addr) (D n c n' c' : Nat) : (Value.slice (A.map (·.add D)) n c).ownBlock = (Value.slice A n' c').ownBlock := by
  rcases A with _ | ⟨b, o, s⟩
  · rfl
  · show some ((⟨b, o, s⟩ : Addr).add D).block = some b
    unfold Addr.add
    split <;> rfl
end Go.Proofs.Ytamhkfnghgbenaa
