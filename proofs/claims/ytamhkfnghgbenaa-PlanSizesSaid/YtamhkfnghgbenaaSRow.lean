/-
  A slice of structs that a call grows by append, one element at a time.
-/
import Derived.Test.YtamhkfnghgbenaaAppend
namespace Go.Proofs.Ytamhkfnghgbenaa
set_option linter.all false
open Go.RowKit

/-- The value v is a slice of elements of type E, sz cells each, that reads as cs and lies in a block of its own. -/
def SRow (w : World) (E : TypeId) (sz : Nat) (v : Value) (cs : List (List Value)) : Prop := w.ownsRow 0 E sz v cs.length cs.flatten
section
variable {P : Program} {w w' : World} {E : TypeId} {sz : Nat} {v : Value} {cs : List (List Value)}
theorem SRow.nil (w : World) (E : TypeId) (sz : Nat) : SRow w E sz (.slice none 0 0) [] := World.ownsRow_nil _ _ _ _
theorem SRow.lt (h : SRow w E sz v cs) (k : Nat) (hk : v.ownBlock = some k) : k < w.heap.size := by
  rcases h.2 with ⟨rfl, -⟩ | ⟨g, cap, cur, rfl, -, hg, -⟩
  · cases hk
  · obtain rfl : g = k := by simpa [Value.ownBlock] using hk
    exact (Array.getElem?_eq_some_iff.1 hg).1
theorem SRow.same (h : SRow w E sz v cs) (hs : ∀ k, v.ownBlock = some k → w'.heap[k]? = w.heap[k]?) : SRow w' E sz v cs := by
  obtain ⟨h0, h⟩ := h
  refine ⟨h0, ?_⟩
  rcases h with h | ⟨g, cap, cur, rfl, h2, h3, h4⟩
  · exact .inl h
  · exact .inr ⟨g, cap, cur, rfl, h2, (hs g rfl).trans h3, h4⟩
theorem SRow.below {B : Nat} (h : SRow w E sz v cs) (hb : Below B w w') (hB : w.heap.size ≤ B) : SRow w' E sz v cs := h.same fun k hk => hb.block k (Nat.lt_of_lt_of_le (h.lt k hk) hB)
theorem SRow.far (h : SRow w E sz v cs) {p : Addr} (hp : v.ownBlock ≠ some p.block) (u : Value) : SRow (w.setCell p u) E sz v cs :=
  h.same fun k hk => Below.heap_setCell _ _ _ _ fun e => hp (by rw [hk]; exact congrArg some e)

theorem run_append_srow {T ty : TypeId} {i : TypeInfo} {z : Value} {bytes : Nat} (ht : P.underlying T = some (.slice E)) (hi : P.info? E = some i) (hz : i.zero = some z) (hsize : i.size = sz) (hby : i.bytes = bytes) (hzs : z.cells.size = sz) (hsz : 0 < sz)
    (h : SRow w E sz v cs) (g : Nat) (t : TypeId) (c : List Value) (hc : c.length = sz) (hg : Blk w g t c.toArray) (h1 : ∀ u ∈ c, u.oneCell' = true) (hb : (cs.length + 1) * bytes ≤ 140737488355328) (hb0 : 0 < bytes) :
    ∃ A' c' w', (Builtin.append_ #[T, T] ty #[v, .slice (some ⟨g, 0, none⟩) 1 1]).run P w = .ok (.slice A' (cs.length + 1) c') w' ∧ SRow w' E sz (.slice A' (cs.length + 1) c') (cs ++ [c]) ∧ w.grownBy w' v.ownBlock ∧
      ((Value.slice A' (cs.length + 1) c').ownBlock = v.ownBlock ∨ (Value.slice A' (cs.length + 1) c').ownBlock = some w.heap.size) := by
  have hlen : cs.length + 1 ≤ 140737488355328 := Nat.le_trans (Nat.le_mul_of_pos_right _ hb0) hb
  obtain ⟨v', w', hrun, h2, h3, _, h4⟩ := run_append_own_at (P := P) w 0 T ty E i z sz bytes ht hi hz hsize hby hzs hsz v cs.length cs.flatten h ⟨g, 0, none⟩ 1 1 c (by simp [hc]) (fun j u hu => by
    rw [add_zero_off, Nat.zero_add, hg.cell]; simpa using hu) h1 (by simp only [maxLen]; omega) hb (Nat.zero_le _)
  obtain ⟨A', c', rfl⟩ := ownsRow_form h2
  refine ⟨A', c', w', hrun, ?_, h3, h4⟩
  unfold SRow
  rw [List.length_append, List.flatten_append]
  simpa using h2

theorem wpList_append_srow {ops : Array Oper} {rest : List Oper} {o : Oper} {a : Act} {Q : Exit → Act → World → Prop} (hgd : o.guard = none) (s x : Operand) {T : TypeId}
    (ho : o.op = .call { callee := .builtin .append, args := #[s, x], argTypes := #[T, T] }) {i : TypeInfo} {z : Value} {bytes : Nat}
    (ht : P.underlying T = some (.slice E)) (hi : P.info? E = some i) (hz : i.zero = some z) (hsize : i.size = sz) (hby : i.bytes = bytes) (hzs : z.cells.size = sz) (hsz : 0 < sz)
    (hs : a.eval s = v) (h : SRow w E sz v cs) (g : Nat) (t : TypeId) (c : List Value) (hx : a.eval x = .slice (some ⟨g, 0, none⟩) 1 1) (hc : c.length = sz) (hg : Blk w g t c.toArray) (h1 : ∀ u ∈ c, u.oneCell' = true)
    (hb : (cs.length + 1) * bytes ≤ 140737488355328) (hb0 : 0 < bytes) (n : Nat) (hn : cs.length + 1 = n)
    (hK : ∀ A' c' w', SRow w' E sz (.slice A' n c') (cs ++ [c]) → w.grownBy w' v.ownBlock → ((Value.slice A' n c').ownBlock = v.ownBlock ∨ (Value.slice A' n c').ownBlock = some w.heap.size) → wpList P ops Q rest (a.put o.dst (.slice A' n c')) w') :
    wpList P ops Q (o :: rest) a w := by
  refine wpList_plain hgd fun K hK2 => ?_
  obtain ⟨A', c', w', hrun, h2, h3, h4⟩ := run_append_srow (ty := o.type) ht hi hz hsize hby hzs hsz h g t c hc hg h1 hb hb0
  rw [hn] at hrun h2 h4
  unfold Oper.wp execOp
  simp only [ho, resolve, invoke, builtin, Sem.run_bind, Sem.run_pure, Result.andThen_ok, List.map_toArray, List.map_cons, List.map_nil, hs, hx, hrun]
  exact hK2 _ _ (hK A' c' w' h2 h3 h4)
end
end Go.Proofs.Ytamhkfnghgbenaa
