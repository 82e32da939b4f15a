/-
  The ring's words: the end of a list, memory but for two blocks, a ring in memory.
-/
import Derived.Test.YtndgdehlnmheeaaBut
import Derived.Test.YtndgdehlnmheeaaBytes
namespace Go.Proofs.Ytndgdehlnmheeaa
set_option maxRecDepth 100000
open Go.RowKit

/-- The last n of a list. -/
def lastN (n : Nat) (l : List Int) : List Int := l.drop (l.length - n)
theorem lastN_length (n : Nat) (l : List Int) : (lastN n l).length = min n l.length := by simp [lastN]; omega
theorem lastN_all {n : Nat} {l : List Int} (h : l.length ≤ n) : lastN n l = l := by unfold lastN; rw [Nat.sub_eq_zero_of_le h]; rfl
theorem lastN_append (n : Nat) (l b : List Int) : lastN n (lastN n l ++ b) = lastN n (l ++ b) := by
  unfold lastN
  rcases Nat.le_total l.length n with h | h
  · rw [Nat.sub_eq_zero_of_le h]; rfl
  · have hl : l.length - n ≤ l.length := by omega
    have e : l.drop (l.length - n) ++ b = (l ++ b).drop (l.length - n) := by rw [List.drop_append_of_le_length hl]
    rw [e, List.drop_drop]
    congr 1
    simp
    omega
theorem lastN_lastN {n m : Nat} (l : List Int) (h : n ≤ m) : lastN n (lastN m l) = lastN n l := by
  unfold lastN
  rw [List.drop_drop]
  congr 1
  simp
  omega
theorem lastN_get (n : Nat) (l : List Int) (i : Nat) : (lastN n l)[i]? = l[l.length - n + i]? := by
  unfold lastN
  rw [List.getElem?_drop]
theorem mem_lastN {n : Nat} {l : List Int} {x : Int} (h : x ∈ lastN n l) : x ∈ l := List.mem_of_mem_drop h

/-- What is kept. -/
def keepL (S : Nat) (l : List Int) : List Int := if 2 * S < l.length then lastN S l else l
theorem keepL_last (S : Nat) (l : List Int) : lastN S (keepL S l) = lastN S l := by
  unfold keepL; split
  · exact lastN_lastN l (Nat.le_refl _)
  · rfl
theorem keepL_len (S : Nat) (l : List Int) : (keepL S l).length ≤ 2 * S := by
  unfold keepL; split
  · rw [lastN_length]; omega
  · omega
theorem keepL_le (S : Nat) (l : List Int) : min S (keepL S l).length = min S l.length := by
  unfold keepL; split
  · rw [lastN_length]; omega
  · rfl
theorem mem_keepL {S : Nat} {l : List Int} {x : Int} (h : x ∈ keepL S l) : x ∈ l := by
  unfold keepL at h; split at h
  · exact mem_lastN h
  · exact h

theorem U8s.keep {S : Nat} {l : List Int} (h : U8s l) : U8s (keepL S l) := fun x hx => h x (mem_keepL hx)
theorem U8s.last {S : Nat} {l : List Int} (h : U8s l) : U8s (lastN S l) := fun x hx => h x (mem_lastN hx)

/-- A byte slice that a ring owns. -/
def Row (w : World) (v : Value) (xs : List Int) : Prop := Grow w 0 5 .u8 v xs
section
variable {w w' : World} {v : Value} {xs : List Int} {g : Nat} {o : Option Nat}
theorem Row.ints (h : Row w v xs) : Ints w .u8 v xs := Grow.ints h
theorem Row.lt (h : Row w v xs) (k : Nat) (hk : v.ownBlock = some k) : k < w.heap.size := by
  rcases h.2 with ⟨rfl, -⟩ | ⟨g, cap, cur, rfl, -, hg, -⟩
  · cases hk
  · obtain rfl : g = k := by simpa [Value.ownBlock] using hk
    exact (Array.getElem?_eq_some_iff.1 hg).1
theorem Row.same (h : Row w v xs) (hs : ∀ k, v.ownBlock = some k → w'.heap[k]? = w.heap[k]?) : Row w' v xs := by
  obtain ⟨h0, h⟩ := h
  refine ⟨h0, ?_⟩
  rcases h with h | ⟨g, cap, cur, rfl, h2, h3, h4⟩
  · exact .inl h
  · exact .inr ⟨g, cap, cur, rfl, h2, (hs g rfl).trans h3, h4⟩
theorem Row.but (h : Row w v xs) (hb : But w w' g o) (h1 : v.ownBlock ≠ some g) (h2 : ∀ k, v.ownBlock = some k → o ≠ some k) : Row w' v xs :=
  h.same fun k hk => hb.block k (h.lt k hk) (fun e => h1 (by rw [hk, e])) (fun e => h2 k hk e.symm)
theorem Row.below {B : Nat} (h : Row w v xs) (hb : Below B w w') (hB : w.heap.size ≤ B) : Row w' v xs := Grow.below h hb hB
theorem Row.nil (w : World) : Row w (.slice none 0 0) [] := Grow.nil _ _ _ _
theorem Row.of_grow {B : Nat} (h : Grow w B 5 .u8 v xs) : Row w v xs := Grow.mono h (Nat.zero_le _)
end

/-- A ring in block g that stores the bytes st in the slice v, S its size, T the number of bytes appended. -/
structure Ring (w : World) (g : Nat) (v : Value) (S : Nat) (st : List Int) (T : Nat) : Prop where
  blk : Blk w g 64 #[v, .int .i64 S, .int .i64 T]
  row : Row w v st
  ne : v.ownBlock ≠ some g
  pos : 1 ≤ S
  max : S ≤ 134217728
  len : st.length ≤ 2 * S
  u8 : U8s st
section
variable {w w' : World} {g g' : Nat} {o : Option Nat} {v : Value} {S T : Nat} {st : List Int}
theorem Ring.lt (h : Ring w g v S st T) : g < w.heap.size := h.blk.lt
theorem Ring.but (h : Ring w g v S st T) (hb : But w w' g' o) (h1 : g ≠ g') (h2 : o ≠ some g) (h3 : v.ownBlock ≠ some g') (h4 : ∀ k, v.ownBlock = some k → o ≠ some k) : Ring w' g v S st T :=
  { h with blk := (hb.block g h.lt h1 (fun e => h2 e.symm)).trans h.blk, row := h.row.but hb h3 h4 }
theorem Ring.below {B : Nat} (h : Ring w g v S st T) (hb : Below B w w') (hB : w.heap.size ≤ B) : Ring w' g v S st T :=
  { h with blk := h.blk.below hb (Nat.lt_of_lt_of_le h.lt hB), row := h.row.below hb hB }
theorem Ring.drewN (h : Ring w g v S st T) (n : Nat) : Ring (w.drewN n) g v S st T := { h with blk := h.blk, row := h.row }
theorem Ring.alloc (h : Ring w g v S st T) (x : Obj) : Ring (w.alloc x) g v S st T := h.below ((Below.refl _ _).alloc (Nat.le_refl _) x) (Nat.le_refl _)
theorem Ring.form (h : Ring w g v S st T) : ∃ A c, v = .slice A st.length c ∧ st.length ≤ c ∧ c ≤ 9223372036854775807 ∧ AtInts w .u8 A st.length st := by
  obtain ⟨A, n, c, h1, h2, h3, h4⟩ := h.row.ints.get
  obtain rfl : st.length = n := h4.1
  exact ⟨A, c, h1, h2, h3, h4⟩
end
end Go.Proofs.Ytndgdehlnmheeaa
