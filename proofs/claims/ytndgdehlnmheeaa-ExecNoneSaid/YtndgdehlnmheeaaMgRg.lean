/-
  The ring's words: the end of a list, memory but for two blocks, a ring in memory. Ring: none, end, Len, Size, Total. Ring: bytes.end.
-/
import Derived.Test.YtndgdehlnmheeaaMgRow
import Derived.Test.YtndgdehlnmheeaaBytes
import Derived.Test.YtndgdehlnmheeaaRows
namespace Go.Proofs.Ytndgdehlnmheeaa
set_option maxRecDepth 100000
open Go.RowKit

/-- The last n of a list. -/
def lastN (n : Nat) (l : List Int) : List Int := l.drop (l.length - n)
theorem lastN_length (n : Nat) (l : List Int) : (lastN n l).length = min n l.length := by simp [lastN]; omega
theorem lastN_all {n : Nat} {l : List Int} (h : l.length ≤ n) : lastN n l = l := by unfold lastN; rw [Nat.sub_eq_zero_of_le h]; rfl
theorem lastN_append (n : Nat) (l b : List Int) : lastN n (lastN n l ++ b) = lastN n (l ++ b) := by
  unfold lastN
  rcases Nat.le_total l.length n with h | h
  · rw [Nat.sub_eq_zero_of_le h]; rfl
  · have hl : l.length - n ≤ l.length := by omega
    have e : l.drop (l.length - n) ++ b = (l ++ b).drop (l.length - n) := by rw [List.drop_append_of_le_length hl]
    rw [e, List.drop_drop]
    congr 1
    simp
    omega
theorem lastN_lastN {n m : Nat} (l : List Int) (h : n ≤ m) : lastN n (lastN m l) = lastN n l := by
  unfold lastN
  rw [List.drop_drop]
  congr 1
  simp
  omega
theorem lastN_get (n : Nat) (l : List Int) (i : Nat) : (lastN n l)[i]? = l[l.length - n + i]? := by
  unfold lastN
  rw [List.getElem?_drop]
theorem mem_lastN {n : Nat} {l : List Int} {x : Int} (h : x ∈ lastN n l) : x ∈ l := List.mem_of_mem_drop h

/-- What is kept. -/
def keepL (S : Nat) (l : List Int) : List Int := if 2 * S < l.length then lastN S l else l
theorem keepL_last (S : Nat) (l : List Int) : lastN S (keepL S l) = lastN S l := by
  unfold keepL; split
  · exact lastN_lastN l (Nat.le_refl _)
  · rfl
theorem keepL_len (S : Nat) (l : List Int) : (keepL S l).length ≤ 2 * S := by
  unfold keepL; split
  · rw [lastN_length]; omega
  · omega
theorem keepL_le (S : Nat) (l : List Int) : min S (keepL S l).length = min S l.length := by
  unfold keepL; split
  · rw [lastN_length]; omega
  · rfl
theorem mem_keepL {S : Nat} {l : List Int} {x : Int} (h : x ∈ keepL S l) : x ∈ l := by
  unfold keepL at h; split at h
  · exact mem_lastN h
  · exact h

theorem U8s.keep {S : Nat} {l : List Int} (h : U8s l) : U8s (keepL S l) := fun x hx => h x (mem_keepL hx)
theorem U8s.last {S : Nat} {l : List Int} (h : U8s l) : U8s (lastN S l) := fun x hx => h x (mem_lastN hx)

/-- A byte slice that a ring owns. -/
def Row (w : World) (v : Value) (xs : List Int) : Prop := Grow w 0 5 .u8 v xs
section
variable {w w' : World} {v : Value} {xs : List Int} {g : Nat} {o : Option Nat}
theorem Row.ints (h : Row w v xs) : Ints w .u8 v xs := Grow.ints h
theorem Row.lt (h : Row w v xs) (k : Nat) (hk : v.ownBlock = some k) : k < w.heap.size := by
  rcases h.2 with ⟨rfl, -⟩ | ⟨g, cap, cur, rfl, -, hg, -⟩
  · cases hk
  · obtain rfl : g = k := by simpa [Value.ownBlock] using hk
    exact (Array.getElem?_eq_some_iff.1 hg).1
theorem Row.same (h : Row w v xs) (hs : ∀ k, v.ownBlock = some k → w'.heap[k]? = w.heap[k]?) : Row w' v xs := by
  obtain ⟨h0, h⟩ := h
  refine ⟨h0, ?_⟩
  rcases h with h | ⟨g, cap, cur, rfl, h2, h3, h4⟩
  · exact .inl h
  · exact .inr ⟨g, cap, cur, rfl, h2, (hs g rfl).trans h3, h4⟩
theorem Row.but (h : Row w v xs) (hb : But w w' g o) (h1 : v.ownBlock ≠ some g) (h2 : ∀ k, v.ownBlock = some k → o ≠ some k) : Row w' v xs :=
  h.same fun k hk => hb.block k (h.lt k hk) (fun e => h1 (by rw [hk, e])) (fun e => h2 k hk e.symm)
theorem Row.below {B : Nat} (h : Row w v xs) (hb : Below B w w') (hB : w.heap.size ≤ B) : Row w' v xs := Grow.below h hb hB
theorem Row.nil (w : World) : Row w (.slice none 0 0) [] := Grow.nil _ _ _ _
theorem Row.of_grow {B : Nat} (h : Grow w B 5 .u8 v xs) : Row w v xs := Grow.mono h (Nat.zero_le _)
end

/-- A ring in block g that stores the bytes st in the slice v, S its size, T the number of bytes appended. -/
structure Ring (w : World) (g : Nat) (v : Value) (S : Nat) (st : List Int) (T : Nat) : Prop where
  blk : Blk w g 64 #[v, .int .i64 S, .int .i64 T]
  row : Row w v st
  ne : v.ownBlock ≠ some g
  pos : 1 ≤ S
  max : S ≤ 134217728
  len : st.length ≤ 2 * S
  u8 : U8s st
section
variable {w w' : World} {g g' : Nat} {o : Option Nat} {v : Value} {S T : Nat} {st : List Int}
theorem Ring.lt (h : Ring w g v S st T) : g < w.heap.size := h.blk.lt
theorem Ring.but (h : Ring w g v S st T) (hb : But w w' g' o) (h1 : g ≠ g') (h2 : o ≠ some g) (h3 : v.ownBlock ≠ some g') (h4 : ∀ k, v.ownBlock = some k → o ≠ some k) : Ring w' g v S st T :=
  { h with blk := (hb.block g h.lt h1 (fun e => h2 e.symm)).trans h.blk, row := h.row.but hb h3 h4 }
theorem Ring.below {B : Nat} (h : Ring w g v S st T) (hb : Below B w w') (hB : w.heap.size ≤ B) : Ring w' g v S st T :=
  { h with blk := h.blk.below hb (Nat.lt_of_lt_of_le h.lt hB), row := h.row.below hb hB }
theorem Ring.drewN (h : Ring w g v S st T) (n : Nat) : Ring (w.drewN n) g v S st T := { h with blk := h.blk, row := h.row }
theorem Ring.alloc (h : Ring w g v S st T) (x : Obj) : Ring (w.alloc x) g v S st T := h.below ((Below.refl _ _).alloc (Nat.le_refl _) x) (Nat.le_refl _)
theorem Ring.form (h : Ring w g v S st T) : ∃ A c, v = .slice A st.length c ∧ st.length ≤ c ∧ c ≤ 9223372036854775807 ∧ AtInts w .u8 A st.length st := by
  obtain ⟨A, n, c, h1, h2, h3, h4⟩ := h.row.ints.get
  obtain rfl : st.length = n := h4.1
  exact ⟨A, c, h1, h2, h3, h4⟩
end
end Go.Proofs.Ytndgdehlnmheeaa

namespace Go.Proofs.Ytndgdehlnmheeaa
set_option maxRecDepth 100000
open Go.RowKit

/-- The pointer to a ring. -/
abbrev rp (g : Nat) : Value := .pointer (some ⟨g, 0, none⟩)

/-- No ring: nil, or a zero ring. -/
def NoRing (w : World) (p : Value) : Prop := p = .pointer none ∨ ∃ g, p = rp g ∧ Blk w g 64 #[.slice none 0 0, .int .i64 0, .int .i64 0]

theorem ring_cells {w : World} {g : Nat} {v s t : Value} (h : Blk w g 64 #[v, s, t]) :
    w.cell? ⟨g, 0, none⟩ = some v ∧ w.cell? ⟨g, 1, none⟩ = some s ∧ w.cell? ⟨g, 2, none⟩ = some t ∧ w.frozen? ⟨g, 0, none⟩ = false ∧ w.frozen? ⟨g, 1, none⟩ = false ∧ w.frozen? ⟨g, 2, none⟩ = false :=
  ⟨by rw [h.cell]; rfl, by rw [h.cell]; rfl, by rw [h.cell]; rfl, h.frozen 0, h.frozen 1, h.frozen 2⟩

theorem none_ring (w : World) {g : Nat} {v : Value} {S T : Nat} (h : Blk w g 64 #[v, .int .i64 S, .int .i64 T]) (hS : 1 ≤ S) :
    Calls Try.prog 33 #[rp g] w fun e w' => e = .returned (.bool false) ∧ w' = w := by
  obtain ⟨c0, c1, c2, -⟩ := ring_cells h
  have h0 : ((S : Int) == 0) = false := by simp; omega
  unfold rp
  go_enter Try.func33, Try.ntmps33
  go_wp2
  go_ret
  exact ⟨rfl, rfl⟩

theorem none_no (w : World) {p : Value} (h : NoRing w p) :
    Calls Try.prog 33 #[p] w fun e w' => e = .returned (.bool true) ∧ w' = w := by
  rcases h with rfl | ⟨g, rfl, h⟩
  · go_enter Try.func33, Try.ntmps33
    go_wp2
    go_ret
    exact ⟨rfl, rfl⟩
  · obtain ⟨c0, c1, c2, -⟩ := ring_cells h
    unfold rp
    go_enter Try.func33, Try.ntmps33
    go_wp2
    go_ret
    exact ⟨rfl, rfl⟩

theorem size_ring (w : World) {g : Nat} {v : Value} {S T : Nat} {st : List Int} (h : Ring w g v S st T) :
    Calls Try.prog 54 #[rp g] w fun e w' => e = .returned (.int .i64 S) ∧ w' = w := by
  obtain ⟨c0, c1, c2, -⟩ := ring_cells h.blk
  have HB := Lib.hid h.blk
  have HP := Lib.hid h.pos
  clear h
  unfold rp
  go_enter Try.func54, Try.ntmps54
  go_wp2_with (go_at_call 33; refine (none_ring _ HB.out HP.out).mono ?_; rintro e w1 ⟨rfl, rfl⟩)
  go_ret
  exact ⟨rfl, rfl⟩

theorem total_ring (w : World) {g : Nat} {v : Value} {S T : Nat} {st : List Int} (h : Ring w g v S st T) :
    Calls Try.prog 20 #[rp g] w fun e w' => e = .returned (.int .i64 T) ∧ w' = w := by
  obtain ⟨c0, c1, c2, -⟩ := ring_cells h.blk
  have HB := Lib.hid h.blk
  have HP := Lib.hid h.pos
  clear h
  unfold rp
  go_enter Try.func20, Try.ntmps20
  go_wp2_with (go_at_call 33; refine (none_ring _ HB.out HP.out).mono ?_; rintro e w1 ⟨rfl, rfl⟩)
  go_ret
  exact ⟨rfl, rfl⟩

theorem len_ring (w : World) {g : Nat} {v : Value} {S T : Nat} {st : List Int} (h : Ring w g v S st T) :
    Calls Try.prog 36 #[rp g] w fun e w' => e = .returned (.int .i64 (min S st.length : Nat)) ∧ ∃ m, w' = w.drewN m := by
  obtain ⟨A, c, rfl, -, hc, -⟩ := h.form
  obtain ⟨c0, c1, c2, -⟩ := ring_cells h.blk
  have HB := Lib.hid h.blk
  have HP := Lib.hid h.pos
  have hn : st.length ≤ 9223372036854775807 := by have := h.len; have := h.max; omega
  obtain ⟨N, hN⟩ : ∃ N, st.length = N := ⟨_, rfl⟩
  rw [hN] at hn c0 HB ⊢
  clear h hN
  unfold rp
  by_cases hlt : N < S
  · have hm : min S N = N := by omega
    rw [hm]
    clear hm
    go_enter Try.func36, Try.ntmps36
    go_wp2_with (go_at_call 33; refine (none_ring _ HB.out HP.out).mono ?_; rintro e w1 ⟨rfl, rfl⟩)
    go_region
    all_goals (go_wp2; go_ret; exact ⟨rfl, _, rfl⟩)
  · have hm : min S N = S := by omega
    rw [hm]
    clear hm
    go_enter Try.func36, Try.ntmps36
    go_wp2_with (go_at_call 33; refine (none_ring _ HB.out HP.out).mono ?_; rintro e w1 ⟨rfl, rfl⟩)
    go_region
    all_goals (go_wp2; go_ret; exact ⟨rfl, _, rfl⟩)
end Go.Proofs.Ytndgdehlnmheeaa

namespace Go.Proofs.Ytndgdehlnmheeaa
set_option maxRecDepth 100000
open Go.RowKit

/-- Where the last n of a slice of N begin. -/
def endA (v : Value) (N n : Nat) : Option Addr :=
  match v with
  | .slice A _ _ => if N = N - n then A else A.map (·.add (N - n))
  | _ => none

theorem Ring.endAt {w : World} {g : Nat} {v : Value} {S T : Nat} {st : List Int} (h : Ring w g v S st T) {n : Nat} (hn : n ≤ st.length) : AtInts w .u8 (endA v st.length n) n (lastN n st) := by
  obtain ⟨A, c, rfl, hlc, hc, hat⟩ := h.form
  refine ⟨by rw [lastN_length]; omega, fun h0 => ?_⟩
  obtain ⟨b, off, rfl, hcell⟩ := hat.2 (by omega)
  unfold endA
  simp only
  rw [if_neg (by omega)]
  refine ⟨b, off + (st.length - n), by simp [add_zero_off], fun i x hx => ?_⟩
  rw [lastN_get] at hx
  rw [Nat.add_assoc]
  exact hcell _ x hx

theorem end_q {w : World} {g : Nat} {v : Value} {S T : Nat} {st : List Int} (h : Ring w g v S st T) {n : Nat} (hn : n ≤ st.length) :
    Calls Try.prog 35 #[rp g, .int .i64 n] w fun e w' => e = .returned (.slice (endA v st.length n) n n) ∧ ∃ m, w' = w.drewN m := by
  obtain ⟨A, c, rfl, hlc, hc, -⟩ := h.form
  obtain ⟨c0, -⟩ := ring_cells h.blk
  obtain ⟨N, hN⟩ : ∃ N, st.length = N := ⟨_, rfl⟩
  rw [hN] at hn c0 hlc ⊢
  obtain ⟨D, hD⟩ : ∃ D, N - n = D := ⟨_, rfl⟩
  have h1 : (N : Int) - (n : Int) = (D : Int) := by omega
  have h4 : (D : Int) ≤ N := by omega
  have h5 : N - D = n := by omega
  have h2 : (N : Int) ≤ 9223372036854775807 := by omega
  have h3 : (n : Int) ≤ N := by omega
  have HD := Lib.hid hD
  clear h hN hD
  unfold rp
  go_enter Try.func35, Try.ntmps35
  go_wp2
  go_quiet (fail)
  go_wp2
  all_goals (go_ret; refine ⟨?_, _, rfl⟩; unfold endA; have hd := HD.out; simp only)
  · rw [if_pos (by omega)]; rfl
  · rw [if_neg (by omega), hd]; rfl

theorem end_ring (w : World) {g : Nat} {v : Value} {S T : Nat} {st : List Int} (h : Ring w g v S st T) (n : Nat) (hn : n ≤ st.length) :
    Calls Try.prog 35 #[rp g, .int .i64 n] w fun e w' => (∃ A, e = .returned (.slice A n n) ∧ AtInts w .u8 A n (lastN n st)) ∧ ∃ m, w' = w.drewN m :=
  (end_q h hn).mono fun _ _ ⟨he, hm⟩ => ⟨⟨_, he, h.endAt hn⟩, hm⟩
end Go.Proofs.Ytndgdehlnmheeaa
