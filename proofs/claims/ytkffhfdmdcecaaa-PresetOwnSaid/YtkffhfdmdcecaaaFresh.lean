/-
  A slice of integers in a block of its own.
-/
import Derived.Test.YtkffhfdmdcecaaaBase
namespace Go.Proofs.Ytkffhfdmdcecaaa
open Go.RowKit

/-- The value v is a slice of the integers xs that lies in a block of its own from B on. -/
def FreshInts (w : World) (B : Nat) (v : Value) (xs : List Int) : Prop :=
  ∃ g t, v = .slice (some ⟨g, 0, none⟩) xs.length xs.length ∧ B ≤ g ∧ Blk w g t (xs.map (Value.int .i64)).toArray
theorem FreshInts.ints {w : World} {B : Nat} {v : Value} {xs : List Int} (h : FreshInts w B v xs) (hm : xs.length ≤ maxLen) : Ints w .i64 v xs := by
  obtain ⟨g, t, rfl, _, hb⟩ := h
  exact Ints.of_blk hb rfl (Nat.le_refl _) hm
theorem FreshInts.below {w w' : World} {B B' : Nat} {v : Value} {xs : List Int} (h : FreshInts w B v xs) (hb : Below B' w w') (hB : w.heap.size ≤ B') : FreshInts w' B v xs := by
  obtain ⟨g, t, rfl, hg, hk⟩ := h
  exact ⟨g, t, rfl, hg, hk.below hb (Nat.lt_of_lt_of_le hk.lt hB)⟩
end Go.Proofs.Ytkffhfdmdcecaaa
