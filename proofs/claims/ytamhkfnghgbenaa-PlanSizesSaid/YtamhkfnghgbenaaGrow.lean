/-
  A slice of integers that a call makes by append.
-/
import Derived.Test.YtamhkfnghgbenaaBase
namespace Go.Proofs.Ytamhkfnghgbenaa
set_option linter.all false
open Go.RowKit

/-- The value v is a slice of the integers xs of kind k, grown by append in a block of its own from B on. -/
def Grow (w : World) (B : Nat) (e : TypeId) (k : IntKind) (v : Value) (xs : List Int) : Prop := w.ownsRow B e 1 v xs.length (xs.map (Value.int k))
section
variable {w w' w0 w1 : World} {B : Nat} {e : TypeId} {k : IntKind} {v v' : Value} {xs : List Int}
theorem Grow.nil (w : World) (B : Nat) (e : TypeId) (k : IntKind) : Grow w B e k (.slice none 0 0) [] := World.ownsRow_nil _ _ _ _
theorem Grow.ints (h : Grow w B e k v xs) : Ints w k v xs := by
  rcases h.2 with ⟨rfl, h0⟩ | ⟨g, cap, cur, rfl, _, hgg, h1, h2, h3, h4⟩
  · obtain rfl := List.eq_nil_of_length_eq_zero h0
    exact Ints.nil w k
  · refine ⟨_, cap, rfl, by simp, h1, h2, fun _ => ⟨g, 0, rfl, fun j u hu => ?_⟩⟩
    have hlen := (List.getElem?_eq_some_iff.1 hu).1
    have h5 : (cur.toList.take (xs.length * 1))[j]? = some u := by rw [h4]; exact hu
    rw [List.getElem?_take, if_pos (by simp at hlen; omega)] at h5
    have : cur[j]? = some u := by simpa using h5
    simp [World.cell?, hgg, this]
theorem Grow.len (h : Grow w B e k v xs) : xs.length ≤ 9223372036854775807 := by
  obtain ⟨A, c, -, -, h1, h2, -⟩ := h.ints
  simp only [maxLen] at h2
  omega
theorem Grow.mono {B' : Nat} (h : Grow w B e k v xs) (hB : B' ≤ B) : Grow w B' e k v xs := by
  obtain ⟨h0, h⟩ := h
  refine ⟨h0, ?_⟩
  rcases h with h | ⟨g, cap, cur, h1, h2, h3⟩
  · exact .inl h
  · exact .inr ⟨g, cap, cur, h1, Nat.le_trans hB h2, h3⟩
theorem Grow.below {B' : Nat} (h : Grow w B e k v xs) (hb : Below B' w w') (hB : w.heap.size ≤ B') : Grow w' B e k v xs := by
  obtain ⟨h0, h⟩ := h
  refine ⟨h0, ?_⟩
  rcases h with h | ⟨g, cap, cur, h1, h2, h3, h4⟩
  · exact .inl h
  · refine .inr ⟨g, cap, cur, h1, h2, (hb.block g ?_).trans h3, h4⟩
    exact Nat.lt_of_lt_of_le (Array.getElem?_eq_some_iff.1 h3).1 hB
/-- What one append leaves. -/
theorem Grow.app (h : Grow w B e k v xs) (hb : Below B w0 w) (hB : B ≤ w.heap.size) {tmp : Obj} {x : Int}
    (hown : w1.ownsRow B e 1 v' (xs.length + 1) (xs.map (Value.int k) ++ [.int k x])) (hg : (w.alloc tmp).grownBy w1 v.ownBlock) :
    Grow w1 B e k v' (xs ++ [x]) ∧ Below B w0 w1 :=
  ⟨by simpa [Grow] using hown, (hb.alloc hB tmp).grown hg (by simp; omega) fun r hr => (World.ownsRow.lt h r hr).1⟩
/-- A store into it. -/
theorem Grow.store (h : Grow w B e k v xs) {i : Nat} {g n c : Nat} (hv : v = .slice (some ⟨g, 0, none⟩) n c) (x : Int) : Grow (w.setCell ⟨g, i, none⟩ (.int k x)) B e k v (xs.set i x) := by
  subst hv
  rcases h.2 with ⟨h1, -⟩ | ⟨g', cap, cur, h1, h2, h3, h4, h5, h6, h7⟩
  · cases h1
  · injection h1 with h1 h8 h9
    injection h1 with h1
    injection h1 with h1
    subst h1 h8 h9
    refine ⟨by simp, .inr ⟨g, c, cur.setIfInBounds i (.int k x), by rw [List.length_set], h2, ?_, by rw [List.length_set]; exact h4, h5, by simpa using h6, ?_⟩⟩
    · simp [World.setCell, Array.getElem?_modify, h3]
    · rw [List.length_set, Array.toList_setIfInBounds, List.take_set, h7, List.map_set]
theorem Grow.cell (h : Grow w B e k v xs) {i : Nat} (hi : i < xs.length) : ∃ g n c x, v = .slice (some ⟨g, 0, none⟩) n c ∧ B ≤ g ∧ g < w.heap.size ∧ xs[i]? = some x ∧ w.cell? ⟨g, i, none⟩ = some (.int k x) ∧ w.frozen? ⟨g, i, none⟩ = false := by
  rcases h.2 with ⟨-, h0⟩ | ⟨g, cap, cur, rfl, h2, h3, h4, h5, h6, h7⟩
  · omega
  · have hx := List.getElem?_eq_getElem hi
    have h8 : (cur.toList.take (xs.length * 1))[i]? = some (.int k (xs[i])) := by rw [h7]; simp
    rw [List.getElem?_take, if_pos (by omega)] at h8
    have h9 : cur[i]? = some (.int k (xs[i])) := by simpa using h8
    exact ⟨g, _, cap, _, rfl, h2, (Array.getElem?_eq_some_iff.1 h3).1, hx, by simp [World.cell?, h3, h9], by simp [World.frozen?, h3]⟩
end
end Go.Proofs.Ytamhkfnghgbenaa
