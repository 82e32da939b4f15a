/-
  A slice of integers that a call makes by append. append(out, xs...) onto a slice of the call's own; the source nil, empty or not. A slice of structs that a call grows by append, one element at a time. Memory but for one block, one row and new blocks. A slice of structs that a call grows: its cells.
-/
import Derived.Test.YtndgdehlnmheeaaBase
import Derived.Maps.AppendAt
import Derived.Deep.AppendLies
import Derived.RegionTactic
import Derived.OwnWalk
namespace Go.Proofs.Ytndgdehlnmheeaa
set_option linter.all false
open Go.RowKit

/-- The value v is a slice of the integers xs of kind k, grown by append in a block of its own from B on. -/
def Grow (w : World) (B : Nat) (e : TypeId) (k : IntKind) (v : Value) (xs : List Int) : Prop := w.ownsRow B e 1 v xs.length (xs.map (Value.int k))
section
variable {w w' w0 w1 : World} {B : Nat} {e : TypeId} {k : IntKind} {v v' : Value} {xs : List Int}
theorem Grow.nil (w : World) (B : Nat) (e : TypeId) (k : IntKind) : Grow w B e k (.slice none 0 0) [] := World.ownsRow_nil _ _ _ _
theorem Grow.ints (h : Grow w B e k v xs) : Ints w k v xs := by
  rcases h.2 with ⟨rfl, h0⟩ | ⟨g, cap, cur, rfl, _, hgg, h1, h2, h3, h4⟩
  · obtain rfl := List.eq_nil_of_length_eq_zero h0
    exact Ints.nil w k
  · refine ⟨_, cap, rfl, by simp, h1, h2, fun _ => ⟨g, 0, rfl, fun j u hu => ?_⟩⟩
    have hlen := (List.getElem?_eq_some_iff.1 hu).1
    have h5 : (cur.toList.take (xs.length * 1))[j]? = some u := by rw [h4]; exact hu
    rw [List.getElem?_take, if_pos (by simp at hlen; omega)] at h5
    have : cur[j]? = some u := by simpa using h5
    simp [World.cell?, hgg, this]
theorem Grow.len (h : Grow w B e k v xs) : xs.length ≤ 9223372036854775807 := by
  obtain ⟨A, c, -, -, h1, h2, -⟩ := h.ints
  simp only [maxLen] at h2
  omega
theorem Grow.mono {B' : Nat} (h : Grow w B e k v xs) (hB : B' ≤ B) : Grow w B' e k v xs := by
  obtain ⟨h0, h⟩ := h
  refine ⟨h0, ?_⟩
  rcases h with h | ⟨g, cap, cur, h1, h2, h3⟩
  · exact .inl h
  · exact .inr ⟨g, cap, cur, h1, Nat.le_trans hB h2, h3⟩
theorem Grow.below {B' : Nat} (h : Grow w B e k v xs) (hb : Below B' w w') (hB : w.heap.size ≤ B') : Grow w' B e k v xs := by
  obtain ⟨h0, h⟩ := h
  refine ⟨h0, ?_⟩
  rcases h with h | ⟨g, cap, cur, h1, h2, h3, h4⟩
  · exact .inl h
  · refine .inr ⟨g, cap, cur, h1, h2, (hb.block g ?_).trans h3, h4⟩
    exact Nat.lt_of_lt_of_le (Array.getElem?_eq_some_iff.1 h3).1 hB
/-- What one append leaves. -/
theorem Grow.app (h : Grow w B e k v xs) (hb : Below B w0 w) (hB : B ≤ w.heap.size) {tmp : Obj} {x : Int}
    (hown : w1.ownsRow B e 1 v' (xs.length + 1) (xs.map (Value.int k) ++ [.int k x])) (hg : (w.alloc tmp).grownBy w1 v.ownBlock) :
    Grow w1 B e k v' (xs ++ [x]) ∧ Below B w0 w1 :=
  ⟨by simpa [Grow] using hown, (hb.alloc hB tmp).grown hg (by simp; omega) fun r hr => (World.ownsRow.lt h r hr).1⟩
/-- A store into it. -/
theorem Grow.store (h : Grow w B e k v xs) {i : Nat} {g n c : Nat} (hv : v = .slice (some ⟨g, 0, none⟩) n c) (x : Int) : Grow (w.setCell ⟨g, i, none⟩ (.int k x)) B e k v (xs.set i x) := by
  subst hv
  rcases h.2 with ⟨h1, -⟩ | ⟨g', cap, cur, h1, h2, h3, h4, h5, h6, h7⟩
  · cases h1
  · injection h1 with h1 h8 h9
    injection h1 with h1
    injection h1 with h1
    subst h1 h8 h9
    refine ⟨by simp, .inr ⟨g, c, cur.setIfInBounds i (.int k x), by rw [List.length_set], h2, ?_, by rw [List.length_set]; exact h4, h5, by simpa using h6, ?_⟩⟩
    · simp [World.setCell, Array.getElem?_modify, h3]
    · rw [List.length_set, Array.toList_setIfInBounds, List.take_set, h7, List.map_set]
theorem Grow.cell (h : Grow w B e k v xs) {i : Nat} (hi : i < xs.length) : ∃ g n c x, v = .slice (some ⟨g, 0, none⟩) n c ∧ B ≤ g ∧ g < w.heap.size ∧ xs[i]? = some x ∧ w.cell? ⟨g, i, none⟩ = some (.int k x) ∧ w.frozen? ⟨g, i, none⟩ = false := by
  rcases h.2 with ⟨-, h0⟩ | ⟨g, cap, cur, rfl, h2, h3, h4, h5, h6, h7⟩
  · omega
  · have hx := List.getElem?_eq_getElem hi
    have h8 : (cur.toList.take (xs.length * 1))[i]? = some (.int k (xs[i])) := by rw [h7]; simp
    rw [List.getElem?_take, if_pos (by omega)] at h8
    have h9 : cur[i]? = some (.int k (xs[i])) := by simpa using h8
    exact ⟨g, _, cap, _, rfl, h2, (Array.getElem?_eq_some_iff.1 h3).1, hx, by simp [World.cell?, h3, h9], by simp [World.frozen?, h3]⟩
end
end Go.Proofs.Ytndgdehlnmheeaa

namespace Go.Proofs.Ytndgdehlnmheeaa
set_option linter.all false
open Go.RowKit

section
variable {P : Program} (w : World)
theorem run_append_of_nil (base : Nat) (t ty e : TypeId) (i : TypeInfo) (size : Nat) (ht : P.underlying t = some (.slice e)) (hi : P.info? e = some i)
    (v : Value) (n : Nat) (xs : List Value) (hown : w.ownsRow base e size v n xs) (c : Nat) : (Builtin.append_ #[t, t] ty #[v, .slice none 0 c]).run P w = .ok v w := by
  rcases hown.2 with ⟨rfl, rfl⟩ | ⟨g, cap, cur, rfl, _, _, hnc, _⟩
  · simp [Builtin.append_, run_underlying ht, sizeOf, typeInfo, hi, Builtin.lenOf, Builtin.firstCells]
  · simp [Builtin.append_, run_underlying ht, sizeOf, typeInfo, hi, Builtin.lenOf, Builtin.firstCells, hnc, storeCells]

theorem ownsRow_form {w : World} {base : Nat} {e : TypeId} {size n : Nat} {v : Value} {xs : List Value} (h : w.ownsRow base e size v n xs) : ∃ A c, v = .slice A n c := by
  rcases h.2 with ⟨rfl, rfl⟩ | ⟨g, cap, cur, rfl, _⟩
  · exact ⟨_, _, rfl⟩
  · exact ⟨_, _, rfl⟩

theorem run_append_ints (base : Nat) (t ty e : TypeId) (i : TypeInfo) (z : Value) (bytes : Nat) (ht : P.underlying t = some (.slice e)) (hi : P.info? e = some i) (hz : i.zero = some z)
    (hsize : i.size = 1) (hby : i.bytes = bytes) (hzs : z.cells.size = 1) (k : IntKind) (v : Value) (xs ys : List Int) (hown : Grow w base e k v xs)
    (A : Option Addr) (m c : Nat) (hr : AtInts w k A m ys) (h63 : xs.length + m ≤ maxLen) (hbytes : (xs.length + m) * bytes ≤ 140737488355328) (hbase : base ≤ w.heap.size) :
    ∃ A' c' w', (Builtin.append_ #[t, t] ty #[v, .slice A m c]).run P w = .ok (.slice A' (xs.length + m) c') w' ∧ Grow w' base e k (.slice A' (xs.length + m) c') (xs ++ ys) ∧ w.grownBy w' v.ownBlock := by
  obtain ⟨hl, hr⟩ := hr
  rcases A with _ | ad
  · have hm : m = 0 := by
      rcases Nat.eq_zero_or_pos m with h0 | h0
      · exact h0
      · obtain ⟨b, off, h, _⟩ := hr h0
        cases h
    subst hm
    obtain rfl : ys = [] := List.eq_nil_of_length_eq_zero hl
    obtain ⟨A', c', hv⟩ := ownsRow_form hown
    subst hv
    exact ⟨A', c', w, run_append_of_nil w base t ty e i 1 ht hi _ _ _ hown c, by simpa using hown, World.grownBy.refl w _⟩
  · have hcells : ∀ j u, (ys.map (Value.int k))[j]? = some u → w.cell? (ad.add j) = some u := by
      intro j u hu
      have hj := (List.getElem?_eq_some_iff.1 hu).1
      simp at hj
      obtain ⟨b, off, h, hc⟩ := hr (by omega)
      injection h with h
      subst h
      rw [add_zero_off]
      simp at hu
      obtain ⟨x, hx, rfl⟩ := hu
      exact hc j x hx
    obtain ⟨v', w', hrun, h2, h3, _, _⟩ := run_append_own_at (P := P) w base t ty e i z 1 bytes ht hi hz hsize hby hzs (by decide) v xs.length (xs.map (Value.int k)) hown ad m c (ys.map (Value.int k)) (by simp [hl]) hcells
      (fun u hu => by simp at hu; obtain ⟨x, -, rfl⟩ := hu; rfl) h63 hbytes hbase
    obtain ⟨A', c', rfl⟩ := ownsRow_form h2
    refine ⟨A', c', w', hrun, ?_, h3⟩
    unfold Grow
    rw [List.length_append, hl, List.map_append]
    exact h2

theorem wp_append_ints {o : Oper} {a : Act} {K : Act → World → Prop} {Q : Exit → Act → World → Prop} (s x : Operand) (t : TypeId)
    (ho : o.op = .call { callee := .builtin .append, args := #[s, x], argTypes := #[t, t] })
    (base : Nat) (e : TypeId) (i : TypeInfo) (z : Value) (bytes : Nat) (ht : P.underlying t = some (.slice e)) (hi : P.info? e = some i) (hz : i.zero = some z)
    (hsize : i.size = 1) (hby : i.bytes = bytes) (hzs : z.cells.size = 1) (k : IntKind) (v : Value) (xs ys : List Int) (hs : a.eval s = v) (hown : Grow w base e k v xs)
    (A : Option Addr) (m c : Nat) (hx : a.eval x = .slice A m c) (hr : AtInts w k A m ys) (h63 : xs.length + m ≤ maxLen) (hbytes : (xs.length + m) * bytes ≤ 140737488355328) (hbase : base ≤ w.heap.size)
    (n : Nat) (hn : xs.length + m = n)
    (h : ∀ A' c' w', Grow w' base e k (.slice A' n c') (xs ++ ys) → w.grownBy w' v.ownBlock → K (a.put o.dst (.slice A' n c')) w') : o.wp P a w K Q := by
  obtain ⟨A', c', w', hrun, h2, h3⟩ := run_append_ints (P := P) w base t o.type e i z bytes ht hi hz hsize hby hzs k v xs ys hown A m c hr h63 hbytes hbase
  rw [hn] at hrun h2
  unfold Oper.wp execOp
  simp only [ho, resolve, invoke, builtin, Sem.run_bind, Sem.run_pure, Result.andThen_ok, List.map_toArray, List.map_cons, List.map_nil, hs, hx, hrun]
  exact h A' c' w' h2 h3

theorem wpList_append_ints {ops : Array Oper} {rest : List Oper} {o : Oper} {a : Act} {Q : Exit → Act → World → Prop} (hgd : o.guard = none) (s x : Operand) (t : TypeId)
    (ho : o.op = .call { callee := .builtin .append, args := #[s, x], argTypes := #[t, t] })
    (base : Nat) (e : TypeId) (i : TypeInfo) (z : Value) (bytes : Nat) (ht : P.underlying t = some (.slice e)) (hi : P.info? e = some i) (hz : i.zero = some z)
    (hsize : i.size = 1) (hby : i.bytes = bytes) (hzs : z.cells.size = 1) (k : IntKind) (v : Value) (xs ys : List Int) (hs : a.eval s = v) (hown : Grow w base e k v xs)
    (A : Option Addr) (m c : Nat) (hx : a.eval x = .slice A m c) (hr : AtInts w k A m ys) (h63 : xs.length + m ≤ maxLen) (hbytes : (xs.length + m) * bytes ≤ 140737488355328) (hbase : base ≤ w.heap.size)
    (n : Nat) (hn : xs.length + m = n)
    (h : ∀ A' c' w', Grow w' base e k (.slice A' n c') (xs ++ ys) → w.grownBy w' v.ownBlock → wpList P ops Q rest (a.put o.dst (.slice A' n c')) w') : wpList P ops Q (o :: rest) a w :=
  wpList_plain hgd fun _ hK => wp_append_ints w s x t ho base e i z bytes ht hi hz hsize hby hzs k v xs ys hs hown A m c hx hr h63 hbytes hbase n hn fun A' c' w' h2 h3 => hK _ _ (h A' c' w' h2 h3)

theorem step_append_ints {ops : Array Oper} {o : Oper} {a : Act} {K : Act → World → Prop} {Q : Exit → Act → World → Prop} {E : Prop} (hgd : o.guard = none) (s x : Operand) (t : TypeId)
    (ho : o.op = .call { callee := .builtin .append, args := #[s, x], argTypes := #[t, t] })
    (base : Nat) (e : TypeId) (i : TypeInfo) (z : Value) (bytes : Nat) (ht : P.underlying t = some (.slice e)) (hi : P.info? e = some i) (hz : i.zero = some z)
    (hsize : i.size = 1) (hby : i.bytes = bytes) (hzs : z.cells.size = 1) (k : IntKind) (v : Value) (xs ys : List Int) (hs : a.eval s = v) (hown : Grow w base e k v xs)
    (A : Option Addr) (m c : Nat) (hx : a.eval x = .slice A m c) (hr : AtInts w k A m ys) (h63 : xs.length + m ≤ maxLen) (hbytes : (xs.length + m) * bytes ≤ 140737488355328) (hbase : base ≤ w.heap.size)
    (n : Nat) (hn : xs.length + m = n)
    (h : ∀ A' c' w', Grow w' base e k (.slice A' n c') (xs ++ ys) → w.grownBy w' v.ownBlock → K (a.put o.dst (.slice A' n c')) w') :
    if Region.wanted o (yielded ops a.tmps) = true then Oper.wp P o a w K Q else E := by
  have hw : Region.wanted o (yielded ops a.tmps) = true := by simp [Region.wanted, hgd]
  rw [if_pos hw]
  exact wp_append_ints w s x t ho base e i z bytes ht hi hz hsize hby hzs k v xs ys hs hown A m c hx hr h63 hbytes hbase n hn h
end
theorem Grow.far {w : World} {B : Nat} {e : TypeId} {k : IntKind} {v : Value} {xs : List Int} (h : Grow w B e k v xs) {p : Addr} (hp : p.block < B) (u : Value) : Grow (w.setCell p u) B e k v xs := by
  obtain ⟨h0, h⟩ := h
  refine ⟨h0, ?_⟩
  rcases h with h | ⟨g, cap, cur, h1, h2, h3, h4⟩
  · exact .inl h
  · exact .inr ⟨g, cap, cur, h1, h2, (Below.heap_setCell w p u g (by omega)).trans h3, h4⟩
theorem AtInts.drew {w : World} {k : IntKind} {A : Option Addr} {n : Nat} {xs : List Int} (h : AtInts w k A n xs) : AtInts w.drew k A n xs := h
theorem AtInts.drewN {w : World} {k : IntKind} {A : Option Addr} {n : Nat} {xs : List Int} (h : AtInts w k A n xs) (a : Nat) : AtInts (w.drewN a) k A n xs := h
theorem AtInts.below {w w' : World} {B : Nat} {k : IntKind} {A : Option Addr} {n : Nat} {xs : List Int} (h : AtInts w k A n xs) (hb : Below B w w') (hB : w.heap.size ≤ B) : AtInts w' k A n xs := by
  refine ⟨h.1, fun h0 => ?_⟩
  obtain ⟨b, off, hA, hcell⟩ := h.2 h0
  refine ⟨b, off, hA, fun i x hx => ?_⟩
  have h1 := hcell i x hx
  exact (hb.cell (p := ⟨b, off + i, none⟩) (Nat.lt_of_lt_of_le (World.block_lt_of_cell? w _ h1) hB)).trans h1
theorem AtInts.ints {w : World} {k : IntKind} {A : Option Addr} {n c : Nat} {xs : List Int} (h : AtInts w k A n xs) (hc : n ≤ c) (hm : c ≤ maxLen) : Ints w k (.slice A n c) xs := by
  obtain ⟨hl, hr⟩ := h
  subst hl
  refine ⟨A, c, rfl, by simp, hc, hm, fun h0 => ?_⟩
  obtain ⟨b, off, hA, hcell⟩ := hr h0
  refine ⟨b, off, hA, fun j u hu => ?_⟩
  simp at hu
  obtain ⟨x, hx, rfl⟩ := hu
  exact hcell j x hx
end Go.Proofs.Ytndgdehlnmheeaa

namespace Go.Proofs.Ytndgdehlnmheeaa
set_option linter.all false
open Go.RowKit

/-- The value v is a slice of elements of type E, sz cells each, that reads as cs and lies in a block of its own. -/
def SRow (w : World) (E : TypeId) (sz : Nat) (v : Value) (cs : List (List Value)) : Prop := w.ownsRow 0 E sz v cs.length cs.flatten
section
variable {P : Program} {w w' : World} {E : TypeId} {sz : Nat} {v : Value} {cs : List (List Value)}
theorem SRow.nil (w : World) (E : TypeId) (sz : Nat) : SRow w E sz (.slice none 0 0) [] := World.ownsRow_nil _ _ _ _
theorem SRow.lt (h : SRow w E sz v cs) (k : Nat) (hk : v.ownBlock = some k) : k < w.heap.size := by
  rcases h.2 with ⟨rfl, -⟩ | ⟨g, cap, cur, rfl, -, hg, -⟩
  · cases hk
  · obtain rfl : g = k := by simpa [Value.ownBlock] using hk
    exact (Array.getElem?_eq_some_iff.1 hg).1
theorem SRow.same (h : SRow w E sz v cs) (hs : ∀ k, v.ownBlock = some k → w'.heap[k]? = w.heap[k]?) : SRow w' E sz v cs := by
  obtain ⟨h0, h⟩ := h
  refine ⟨h0, ?_⟩
  rcases h with h | ⟨g, cap, cur, rfl, h2, h3, h4⟩
  · exact .inl h
  · exact .inr ⟨g, cap, cur, rfl, h2, (hs g rfl).trans h3, h4⟩
theorem SRow.below {B : Nat} (h : SRow w E sz v cs) (hb : Below B w w') (hB : w.heap.size ≤ B) : SRow w' E sz v cs := h.same fun k hk => hb.block k (Nat.lt_of_lt_of_le (h.lt k hk) hB)
theorem SRow.far (h : SRow w E sz v cs) {p : Addr} (hp : v.ownBlock ≠ some p.block) (u : Value) : SRow (w.setCell p u) E sz v cs :=
  h.same fun k hk => Below.heap_setCell _ _ _ _ fun e => hp (by rw [hk]; exact congrArg some e)

theorem run_append_srow {T ty : TypeId} {i : TypeInfo} {z : Value} {bytes : Nat} (ht : P.underlying T = some (.slice E)) (hi : P.info? E = some i) (hz : i.zero = some z) (hsize : i.size = sz) (hby : i.bytes = bytes) (hzs : z.cells.size = sz) (hsz : 0 < sz)
    (h : SRow w E sz v cs) (g : Nat) (t : TypeId) (c : List Value) (hc : c.length = sz) (hg : Blk w g t c.toArray) (h1 : ∀ u ∈ c, u.oneCell' = true) (hb : (cs.length + 1) * bytes ≤ 140737488355328) (hb0 : 0 < bytes) :
    ∃ A' c' w', (Builtin.append_ #[T, T] ty #[v, .slice (some ⟨g, 0, none⟩) 1 1]).run P w = .ok (.slice A' (cs.length + 1) c') w' ∧ SRow w' E sz (.slice A' (cs.length + 1) c') (cs ++ [c]) ∧ w.grownBy w' v.ownBlock ∧
      ((Value.slice A' (cs.length + 1) c').ownBlock = v.ownBlock ∨ (Value.slice A' (cs.length + 1) c').ownBlock = some w.heap.size) := by
  have hlen : cs.length + 1 ≤ 140737488355328 := Nat.le_trans (Nat.le_mul_of_pos_right _ hb0) hb
  obtain ⟨v', w', hrun, h2, h3, _, h4⟩ := run_append_own_at (P := P) w 0 T ty E i z sz bytes ht hi hz hsize hby hzs hsz v cs.length cs.flatten h ⟨g, 0, none⟩ 1 1 c (by simp [hc]) (fun j u hu => by
    rw [add_zero_off, Nat.zero_add, hg.cell]; simpa using hu) h1 (by simp only [maxLen]; omega) hb (Nat.zero_le _)
  obtain ⟨A', c', rfl⟩ := ownsRow_form h2
  refine ⟨A', c', w', hrun, ?_, h3, h4⟩
  unfold SRow
  rw [List.length_append, List.flatten_append]
  simpa using h2

theorem wpList_append_srow {ops : Array Oper} {rest : List Oper} {o : Oper} {a : Act} {Q : Exit → Act → World → Prop} (hgd : o.guard = none) (s x : Operand) {T : TypeId}
    (ho : o.op = .call { callee := .builtin .append, args := #[s, x], argTypes := #[T, T] }) {i : TypeInfo} {z : Value} {bytes : Nat}
    (ht : P.underlying T = some (.slice E)) (hi : P.info? E = some i) (hz : i.zero = some z) (hsize : i.size = sz) (hby : i.bytes = bytes) (hzs : z.cells.size = sz) (hsz : 0 < sz)
    (hs : a.eval s = v) (h : SRow w E sz v cs) (g : Nat) (t : TypeId) (c : List Value) (hx : a.eval x = .slice (some ⟨g, 0, none⟩) 1 1) (hc : c.length = sz) (hg : Blk w g t c.toArray) (h1 : ∀ u ∈ c, u.oneCell' = true)
    (hb : (cs.length + 1) * bytes ≤ 140737488355328) (hb0 : 0 < bytes) (n : Nat) (hn : cs.length + 1 = n)
    (hK : ∀ A' c' w', SRow w' E sz (.slice A' n c') (cs ++ [c]) → w.grownBy w' v.ownBlock → ((Value.slice A' n c').ownBlock = v.ownBlock ∨ (Value.slice A' n c').ownBlock = some w.heap.size) → wpList P ops Q rest (a.put o.dst (.slice A' n c')) w') :
    wpList P ops Q (o :: rest) a w := by
  refine wpList_plain hgd fun K hK2 => ?_
  obtain ⟨A', c', w', hrun, h2, h3, h4⟩ := run_append_srow (ty := o.type) ht hi hz hsize hby hzs hsz h g t c hc hg h1 hb hb0
  rw [hn] at hrun h2 h4
  unfold Oper.wp execOp
  simp only [ho, resolve, invoke, builtin, Sem.run_bind, Sem.run_pure, Result.andThen_ok, List.map_toArray, List.map_cons, List.map_nil, hs, hx, hrun]
  exact hK2 _ _ (hK A' c' w' h2 h3 h4)
end
end Go.Proofs.Ytndgdehlnmheeaa

namespace Go.Proofs.Ytndgdehlnmheeaa
set_option linter.all false
open Go.RowKit

/-- w' is w but for block g, row o and new blocks. -/
structure But (w w' : World) (g : Nat) (o : Option Nat) : Prop where
  os : w'.os = w.os
  tape : w'.tape = w.tape
  output : w'.output = w.output
  size : w.heap.size ≤ w'.heap.size
  block : ∀ k, k < w.heap.size → k ≠ g → some k ≠ o → w'.heap[k]? = w.heap[k]?
section
variable {w w1 w' : World} {g : Nat} {o o' : Option Nat}
theorem But.refl (w : World) (g : Nat) (o : Option Nat) : But w w g o := ⟨rfl, rfl, rfl, Nat.le_refl _, fun _ _ _ _ => rfl⟩
theorem But.trans (h : But w w1 g o) (h' : But w1 w' g o') (ho : o' = o ∨ ∀ k, o' = some k → w.heap.size ≤ k) : But w w' g o := by
  refine ⟨h'.os.trans h.os, h'.tape.trans h.tape, h'.output.trans h.output, Nat.le_trans h.size h'.size, fun k hk hg h1 => ?_⟩
  refine (h'.block k (Nat.lt_of_lt_of_le hk h.size) hg ?_).trans (h.block k hk hg h1)
  rcases ho with rfl | ho
  · exact h1
  · intro e; have := ho k e.symm; omega
theorem But.of_grown (h : w.grownBy w' o) (g : Nat) : But w w' g o := ⟨h.os, h.tape, h.output, h.size, fun k hk _ ho => h.block k hk ho⟩
theorem But.of_below (h : Below w.heap.size w w') (g : Nat) (o : Option Nat) : But w w' g o := ⟨h.os, h.tape, h.output, h.size, fun k hk _ _ => h.block k hk⟩
theorem But.set_ (h : But w w1 g o) (i : Nat) (u : Value) : But w (w1.setCell ⟨g, i, none⟩ u) g o :=
  ⟨h.os, h.tape, h.output, by simpa using h.size, fun k hk hg ho => (Below.heap_setCell w1 _ u k hg).trans (h.block k hk hg ho)⟩
theorem But.drewN (h : But w w1 g o) (n : Nat) : But w (w1.drewN n) g o := ⟨h.os, h.tape, h.output, h.size, h.block⟩
theorem But.alloc (h : But w w1 g o) (x : Obj) : But w (w1.alloc x) g o :=
  ⟨h.os, h.tape, h.output, by have := h.size; simp; omega, fun k hk hg ho => (Below.heap_alloc w1 x k (Nat.lt_of_lt_of_le hk h.size)).trans (h.block k hk hg ho)⟩
theorem But.below (h : But w w' g o) {B : Nat} (hB : B ≤ w.heap.size) (hg : B ≤ g) (ho : ∀ k, o = some k → B ≤ k) : Below B w w' :=
  ⟨h.os, h.tape, h.output, h.size, fun k hk => h.block k (by omega) (by omega) (fun e => by have := ho k e.symm; omega)⟩
end

theorem But.far {w w1 : World} {g n : Nat} {o : Option Nat} (h : But w w1 g o) (hn : w.heap.size ≤ n) (i : Nat) (u : Value) : But w (w1.setCell ⟨n, i, none⟩ u) g o :=
  ⟨h.os, h.tape, h.output, by simpa using h.size, fun k hk hg ho => (Below.heap_setCell w1 _ u k (by show k ≠ n; omega)).trans (h.block k hk hg ho)⟩
theorem Blk.but {w w' : World} {b g : Nat} {t : TypeId} {cs : Array Value} {o : Option Nat} (h : Blk w b t cs) (hb : But w w' g o) (h1 : b ≠ g) (h2 : o ≠ some b) : Blk w' b t cs := (hb.block b h.lt h1 (fun e => h2 e.symm)).trans h

theorem SRow.but {w w' : World} {E : TypeId} {sz g : Nat} {o : Option Nat} {v : Value} {cs : List (List Value)} (h : SRow w E sz v cs) (hb : But w w' g o) (h1 : v.ownBlock ≠ some g) (h2 : ∀ k, v.ownBlock = some k → o ≠ some k) : SRow w' E sz v cs :=
  h.same fun k hk => hb.block k (h.lt k hk) (fun e => h1 (by rw [hk, e])) (fun e => h2 k hk e.symm)
theorem own_any (A : Option Addr) (n c n' c' : Nat) : (Value.slice A n c).ownBlock = (Value.slice A n' c').ownBlock := by cases A <;> rfl
theorem own_map (A : Option Addr) (D n c n' c' : Nat) : (Value.slice (A.map (·.add D)) n c).ownBlock = (Value.slice A n' c').ownBlock := by
  rcases A with _ | ⟨b, o, s⟩
  · rfl
  · show some ((⟨b, o, s⟩ : Addr).add D).block = some b
    unfold Addr.add
    split <;> rfl
end Go.Proofs.Ytndgdehlnmheeaa

namespace Go.Proofs.Ytndgdehlnmheeaa
set_option linter.all false
open Go.RowKit

theorem flatten_get {sz : Nat} : ∀ {cs : List (List Value)} {i j : Nat} {cl : List Value}, (∀ c ∈ cs, c.length = sz) → cs[i]? = some cl → j < sz → cs.flatten[i * sz + j]? = cl[j]?
  | [], _, _, _, _, h, _ => by simp at h
  | c :: r, 0, j, cl, hs, h, hj => by
    simp only [List.getElem?_cons_zero, Option.some.injEq] at h
    subst h
    rw [List.flatten_cons, List.getElem?_append_left (by rw [hs _ List.mem_cons_self]; omega)]
    simp
  | c :: r, i + 1, j, cl, hs, h, hj => by
    have hc := hs c List.mem_cons_self
    simp only [List.getElem?_cons_succ] at h
    rw [List.flatten_cons, List.getElem?_append_right (by rw [hc, Nat.succ_mul]; omega)]
    have e : (i + 1) * sz + j - c.length = i * sz + j := by rw [hc, Nat.succ_mul]; omega
    rw [e]
    exact flatten_get (fun x hx => hs x (List.mem_cons_of_mem _ hx)) h hj

theorem SRow.cell {w : World} {E : TypeId} {sz : Nat} {A : Option Addr} {n c : Nat} {cs : List (List Value)} (h : SRow w E sz (.slice A n c) cs) (hs : ∀ c ∈ cs, c.length = sz) {i : Nat} (hi : i < cs.length) :
    ∃ g, A = some ⟨g, 0, none⟩ ∧ n = cs.length ∧ ∀ (i : Nat) (cl : List Value), cs[i]? = some cl → ∀ (j : Nat) (u : Value), j < sz → cl[j]? = some u → w.cell? ⟨g, i * sz + j, none⟩ = some u := by
  rcases h.2 with ⟨-, h0⟩ | ⟨g, cap, cur, he, h2, h3, h4, h5, h6, h7⟩
  · omega
  · injection he with e1 e2 e3
    refine ⟨g, e1, e2, fun i cl hc j u hj hu => ?_⟩
    have hil := (List.getElem?_eq_some_iff.1 hc).1
    have h8 := flatten_get hs hc hj
    rw [hu, ← h7, List.getElem?_take] at h8
    split at h8
    · have h9 : cur[i * sz + j]? = some u := by simpa using h8
      simp [World.cell?, h3, h9]
    · cases h8

theorem SRow.form {w : World} {E : TypeId} {sz : Nat} {v : Value} {cs : List (List Value)} (h : SRow w E sz v cs) : ∃ A c, v = .slice A cs.length c ∧ cs.length ≤ c ∧ c ≤ maxLen := by
  rcases h.2 with ⟨hv, h0⟩ | ⟨g, cap, cur, he, h2, h3, h4, h5, h6, h7⟩
  · exact ⟨none, 0, by rw [h0]; exact hv, by omega, by simp [maxLen]⟩
  · exact ⟨_, cap, he, h4, h5⟩

end Go.Proofs.Ytndgdehlnmheeaa
