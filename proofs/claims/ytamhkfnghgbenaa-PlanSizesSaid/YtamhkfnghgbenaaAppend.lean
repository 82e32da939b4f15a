/-
  append(out, xs...) onto a slice of the call's own; the source nil, empty or not.
-/
import Derived.Test.YtamhkfnghgbenaaGrow
import Derived.Maps.AppendAt
import Derived.Deep.AppendLies
import Derived.RegionTactic
import Derived.OwnWalk
namespace Go.Proofs.Ytamhkfnghgbenaa
set_option linter.all false
open Go.RowKit

section
variable {P : Program} (w : World)
theorem run_append_of_nil (base : Nat) (t ty e : TypeId) (i : TypeInfo) (size : Nat) (ht : P.underlying t = some (.slice e)) (hi : P.info? e = some i)
    (v : Value) (n : Nat) (xs : List Value) (hown : w.ownsRow base e size v n xs) (c : Nat) : (Builtin.append_ #[t, t] ty #[v, .slice none 0 c]).run P w = .ok v w := by
  rcases hown.2 with ⟨rfl, rfl⟩ | ⟨g, cap, cur, rfl, _, _, hnc, _⟩
  · simp [Builtin.append_, run_underlying ht, sizeOf, typeInfo, hi, Builtin.lenOf, Builtin.firstCells]
  · simp [Builtin.append_, run_underlying ht, sizeOf, typeInfo, hi, Builtin.lenOf, Builtin.firstCells, hnc, storeCells]

theorem ownsRow_form {w : World} {base : Nat} {e : TypeId} {size n : Nat} {v : Value} {xs : List Value} (h : w.ownsRow base e size v n xs) : ∃ A c, v = .slice A n c := by
  rcases h.2 with ⟨rfl, rfl⟩ | ⟨g, cap, cur, rfl, _⟩
  · exact ⟨_, _, rfl⟩
  · exact ⟨_, _, rfl⟩

theorem run_append_ints (base : Nat) (t ty e : TypeId) (i : TypeInfo) (z : Value) (bytes : Nat) (ht : P.underlying t = some (.slice e)) (hi : P.info? e = some i) (hz : i.zero = some z)
    (hsize : i.size = 1) (hby : i.bytes = bytes) (hzs : z.cells.size = 1) (k : IntKind) (v : Value) (xs ys : List Int) (hown : Grow w base e k v xs)
    (A : Option Addr) (m c : Nat) (hr : AtInts w k A m ys) (h63 : xs.length + m ≤ maxLen) (hbytes : (xs.length + m) * bytes ≤ 140737488355328) (hbase : base ≤ w.heap.size) :
    ∃ A' c' w', (Builtin.append_ #[t, t] ty #[v, .slice A m c]).run P w = .ok (.slice A' (xs.length + m) c') w' ∧ Grow w' base e k (.slice A' (xs.length + m) c') (xs ++ ys) ∧ w.grownBy w' v.ownBlock := by
  obtain ⟨hl, hr⟩ := hr
  rcases A with _ | ad
  · have hm : m = 0 := by
      rcases Nat.eq_zero_or_pos m with h0 | h0
      · exact h0
      · obtain ⟨b, off, h, _⟩ := hr h0
        cases h
    subst hm
    obtain rfl : ys = [] := List.eq_nil_of_length_eq_zero hl
    obtain ⟨A', c', hv⟩ := ownsRow_form hown
    subst hv
    exact ⟨A', c', w, run_append_of_nil w base t ty e i 1 ht hi _ _ _ hown c, by simpa using hown, World.grownBy.refl w _⟩
  · have hcells : ∀ j u, (ys.map (Value.int k))[j]? = some u → w.cell? (ad.add j) = some u := by
      intro j u hu
      have hj := (List.getElem?_eq_some_iff.1 hu).1
      simp at hj
      obtain ⟨b, off, h, hc⟩ := hr (by omega)
      injection h with h
      subst h
      rw [add_zero_off]
      simp at hu
      obtain ⟨x, hx, rfl⟩ := hu
      exact hc j x hx
    obtain ⟨v', w', hrun, h2, h3, _, _⟩ := run_append_own_at (P := P) w base t ty e i z 1 bytes ht hi hz hsize hby hzs (by decide) v xs.length (xs.map (Value.int k)) hown ad m c (ys.map (Value.int k)) (by simp [hl]) hcells
      (fun u hu => by simp at hu; obtain ⟨x, -, rfl⟩ := hu; rfl) h63 hbytes hbase
    obtain ⟨A', c', rfl⟩ := ownsRow_form h2
    refine ⟨A', c', w', hrun, ?_, h3⟩
    unfold Grow
    rw [List.length_append, hl, List.map_append]
    exact h2

theorem wp_append_ints {o : Oper} {a : Act} {K : Act → World → Prop} {Q : Exit → Act → World → Prop} (s x : Operand) (t : TypeId)
    (ho : o.op = .call { callee := .builtin .append, args := #[s, x], argTypes := #[t, t] })
    (base : Nat) (e : TypeId) (i : TypeInfo) (z : Value) (bytes : Nat) (ht : P.underlying t = some (.slice e)) (hi : P.info? e = some i) (hz : i.zero = some z)
    (hsize : i.size = 1) (hby : i.bytes = bytes) (hzs : z.cells.size = 1) (k : IntKind) (v : Value) (xs ys : List Int) (hs : a.eval s = v) (hown : Grow w base e k v xs)
    (A : Option Addr) (m c : Nat) (hx : a.eval x = .slice A m c) (hr : AtInts w k A m ys) (h63 : xs.length + m ≤ maxLen) (hbytes : (xs.length + m) * bytes ≤ 140737488355328) (hbase : base ≤ w.heap.size)
    (n : Nat) (hn : xs.length + m = n)
    (h : ∀ A' c' w', Grow w' base e k (.slice A' n c') (xs ++ ys) → w.grownBy w' v.ownBlock → K (a.put o.dst (.slice A' n c')) w') : o.wp P a w K Q := by
  obtain ⟨A', c', w', hrun, h2, h3⟩ := run_append_ints (P := P) w base t o.type e i z bytes ht hi hz hsize hby hzs k v xs ys hown A m c hr h63 hbytes hbase
  rw [hn] at hrun h2
  unfold Oper.wp execOp
  simp only [ho, resolve, invoke, builtin, Sem.run_bind, Sem.run_pure, Result.andThen_ok, List.map_toArray, List.map_cons, List.map_nil, hs, hx, hrun]
  exact h A' c' w' h2 h3

theorem wpList_append_ints {ops : Array Oper} {rest : List Oper} {o : Oper} {a : Act} {Q : Exit → Act → World → Prop} (hgd : o.guard = none) (s x : Operand) (t : TypeId)
    (ho : o.op = .call { callee := .builtin .append, args := #[s, x], argTypes := #[t, t] })
    (base : Nat) (e : TypeId) (i : TypeInfo) (z : Value) (bytes : Nat) (ht : P.underlying t = some (.slice e)) (hi : P.info? e = some i) (hz : i.zero = some z)
    (hsize : i.size = 1) (hby : i.bytes = bytes) (hzs : z.cells.size = 1) (k : IntKind) (v : Value) (xs ys : List Int) (hs : a.eval s = v) (hown : Grow w base e k v xs)
    (A : Option Addr) (m c : Nat) (hx : a.eval x = .slice A m c) (hr : AtInts w k A m ys) (h63 : xs.length + m ≤ maxLen) (hbytes : (xs.length + m) * bytes ≤ 140737488355328) (hbase : base ≤ w.heap.size)
    (n : Nat) (hn : xs.length + m = n)
    (h : ∀ A' c' w', Grow w' base e k (.slice A' n c') (xs ++ ys) → w.grownBy w' v.ownBlock → wpList P ops Q rest (a.put o.dst (.slice A' n c')) w') : wpList P ops Q (o :: rest) a w :=
  wpList_plain hgd fun _ hK => wp_append_ints w s x t ho base e i z bytes ht hi hz hsize hby hzs k v xs ys hs hown A m c hx hr h63 hbytes hbase n hn fun A' c' w' h2 h3 => hK _ _ (h A' c' w' h2 h3)

theorem step_append_ints {ops : Array Oper} {o : Oper} {a : Act} {K : Act → World → Prop} {Q : Exit → Act → World → Prop} {E : Prop} (hgd : o.guard = none) (s x : Operand) (t : TypeId)
    (ho : o.op = .call { callee := .builtin .append, args := #[s, x], argTypes := #[t, t] })
    (base : Nat) (e : TypeId) (i : TypeInfo) (z : Value) (bytes : Nat) (ht : P.underlying t = some (.slice e)) (hi : P.info? e = some i) (hz : i.zero = some z)
    (hsize : i.size = 1) (hby : i.bytes = bytes) (hzs : z.cells.size = 1) (k : IntKind) (v : Value) (xs ys : List Int) (hs : a.eval s = v) (hown : Grow w base e k v xs)
    (A : Option Addr) (m c : Nat) (hx : a.eval x = .slice A m c) (hr : AtInts w k A m ys) (h63 : xs.length + m ≤ maxLen) (hbytes : (xs.length + m) * bytes ≤ 140737488355328) (hbase : base ≤ w.heap.size)
    (n : Nat) (hn : xs.length + m = n)
    (h : ∀ A' c' w', Grow w' base e k (.slice A' n c') (xs ++ ys) → w.grownBy w' v.ownBlock → K (a.put o.dst (.slice A' n c')) w') :
    if Region.wanted o (yielded ops a.tmps) = true then Oper.wp P o a w K Q else E := by
  have hw : Region.wanted o (yielded ops a.tmps) = true := by simp [Region.wanted, hgd]
  rw [if_pos hw]
  exact wp_append_ints w s x t ho base e i z bytes ht hi hz hsize hby hzs k v xs ys hs hown A m c hx hr h63 hbytes hbase n hn h
end
theorem Grow.far {w : World} {B : Nat} {e : TypeId} {k : IntKind} {v : Value} {xs : List Int} (h : Grow w B e k v xs) {p : Addr} (hp : p.block < B) (u : Value) : Grow (w.setCell p u) B e k v xs := by
  obtain ⟨h0, h⟩ := h
  refine ⟨h0, ?_⟩
  rcases h with h | ⟨g, cap, cur, h1, h2, h3, h4⟩
  · exact .inl h
  · exact .inr ⟨g, cap, cur, h1, h2, (Below.heap_setCell w p u g (by omega)).trans h3, h4⟩
theorem AtInts.drew {w : World} {k : IntKind} {A : Option Addr} {n : Nat} {xs : List Int} (h : AtInts w k A n xs) : AtInts w.drew k A n xs := h
theorem AtInts.drewN {w : World} {k : IntKind} {A : Option Addr} {n : Nat} {xs : List Int} (h : AtInts w k A n xs) (a : Nat) : AtInts (w.drewN a) k A n xs := h
theorem AtInts.below {w w' : World} {B : Nat} {k : IntKind} {A : Option Addr} {n : Nat} {xs : List Int} (h : AtInts w k A n xs) (hb : Below B w w') (hB : w.heap.size ≤ B) : AtInts w' k A n xs := by
  refine ⟨h.1, fun h0 => ?_⟩
  obtain ⟨b, off, hA, hcell⟩ := h.2 h0
  refine ⟨b, off, hA, fun i x hx => ?_⟩
  have h1 := hcell i x hx
  exact (hb.cell (p := ⟨b, off + i, none⟩) (Nat.lt_of_lt_of_le (World.block_lt_of_cell? w _ h1) hB)).trans h1
theorem AtInts.ints {w : World} {k : IntKind} {A : Option Addr} {n c : Nat} {xs : List Int} (h : AtInts w k A n xs) (hc : n ≤ c) (hm : c ≤ maxLen) : Ints w k (.slice A n c) xs := by
  obtain ⟨hl, hr⟩ := h
  subst hl
  refine ⟨A, c, rfl, by simp, hc, hm, fun h0 => ?_⟩
  obtain ⟨b, off, hA, hcell⟩ := hr h0
  refine ⟨b, off, hA, fun j u hu => ?_⟩
  simp at hu
  obtain ⟨x, hx, rfl⟩ := hu
  exact hcell j x hx
end Go.Proofs.Ytamhkfnghgbenaa
