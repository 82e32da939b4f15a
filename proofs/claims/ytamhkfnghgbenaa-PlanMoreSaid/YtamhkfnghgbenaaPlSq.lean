/-
  plan: short lists of sequences.
-/
import Derived.Test.YtamhkfnghgbenaaPlSteps
namespace Go.Proofs.Ytamhkfnghgbenaa
set_option linter.all false
open Go.RowKit

/-- Numbers in an int's range. -/
abbrev SeqD.Wf (s : SeqD) : Prop := (-9223372036854775808 ≤ s.lit ∧ s.lit ≤ 9223372036854775807) ∧ (-9223372036854775808 ≤ s.len ∧ s.len ≤ 9223372036854775807) ∧ (-9223372036854775808 ≤ s.off ∧ s.off ≤ 9223372036854775807)

theorem Seqs.nil (w : World) : Seqs w (.slice none 0 0) [] := ⟨⟨none, 0, rfl, Nat.le_refl _, by simp [maxLen], fun h => absurd h (by simp)⟩, fun s hs => by cases hs⟩

/-- A literal of sequences. -/
theorem Seqs.lit1 (W : World) (x : SeqD) (hw : x.Wf) : Seqs (W.alloc (.cells #[.int .i64 x.lit, .int .i64 x.len, .int .i64 x.off] 60)) (.slice (some ⟨W.heap.size, 0, none⟩) 1 1) [x] := by
  refine ⟨⟨_, 1, rfl, Nat.le_refl _, by simp [maxLen], fun _ => ⟨_, 0, rfl, fun i s hs => ?_⟩⟩, fun s hs => by simp at hs; exact hs ▸ hw⟩
  obtain ⟨hi, rfl⟩ := List.getElem?_eq_some_iff.1 hs
  obtain rfl : i = 0 := by simp at hi; exact hi
  simp
theorem Seqs.lit2 (W : World) (x y : SeqD) (hx : x.Wf) (hy : y.Wf) : Seqs (W.alloc (.cells #[.int .i64 x.lit, .int .i64 x.len, .int .i64 x.off, .int .i64 y.lit, .int .i64 y.len, .int .i64 y.off] 60)) (.slice (some ⟨W.heap.size, 0, none⟩) 2 2) [x, y] := by
  refine ⟨⟨_, 2, rfl, Nat.le_refl _, by simp [maxLen], fun _ => ⟨_, 0, rfl, fun i s hs => ?_⟩⟩, fun s hs => by simp at hs; rcases hs with rfl | rfl; exact hx; exact hy⟩
  obtain ⟨hi, rfl⟩ := List.getElem?_eq_some_iff.1 hs
  obtain rfl | rfl : i = 0 ∨ i = 1 := by simp at hi; omega
  · simp
  · simp

end Go.Proofs.Ytamhkfnghgbenaa
