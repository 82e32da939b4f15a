/-
  plan: append(seqs, more...); []byte of a string.
-/
import Derived.Test.YtamhkfnghgbenaaPlHold
import Derived.Test.YtamhkfnghgbenaaPlWorksA
import Derived.Test.YtamhkfnghgbenaaConvB
namespace Go.Proofs.Ytamhkfnghgbenaa
set_option linter.all false
open Go.RowKit

/-- The cells of a slice of sequences, in a row. -/
theorem flat_cell {ss : List SeqD} {w : World} {b off : Nat} (h : ∀ (i : Nat) (s : SeqD), ss[i]? = some s → w.cell? ⟨b, off + i * 3, none⟩ = some (.int .i64 s.lit) ∧ w.cell? ⟨b, off + i * 3 + 1, none⟩ = some (.int .i64 s.len) ∧ w.cell? ⟨b, off + i * 3 + 2, none⟩ = some (.int .i64 s.off)) :
    ∀ (j : Nat) (u : Value), (ss.map SeqD.cells).flatten[j]? = some u → w.cell? ⟨b, off + j, none⟩ = some u := by
  intro j u hu
  have hlen : ∀ c ∈ ss.map SeqD.cells, c.length = 3 := fun c hc => by obtain ⟨x, -, rfl⟩ := List.mem_map.1 hc; rfl
  have hfl : (ss.map SeqD.cells).flatten.length = ss.length * 3 := by
    clear hu h hlen
    induction ss with
    | nil => rfl
    | cons x r ih => simp only [List.map_cons, List.flatten_cons, List.length_append, ih, List.length_cons, List.length_nil]; omega
  have hj := (List.getElem?_eq_some_iff.1 hu).1
  rw [hfl] at hj
  have hs := List.getElem?_eq_getElem (l := ss) (i := j / 3) (by omega)
  have hm : (ss.map SeqD.cells)[j / 3]? = some (ss[j / 3]'(by omega)).cells := by rw [List.getElem?_map, hs]; rfl
  have h1 := flatten_get hlen hm (Nat.mod_lt j (by decide : 0 < 3))
  rw [Nat.div_add_mod' j 3, hu] at h1
  obtain ⟨q0, q1, q2⟩ := h _ _ hs
  have e : off + j = off + j / 3 * 3 + j % 3 := by omega
  rw [e]
  have h3 := Nat.mod_lt j (by decide : 0 < 3)
  generalize j % 3 = r at h1 h3 ⊢
  match r, h3 with
  | 0, _ => simp at h1; subst h1; simpa using q0
  | 1, _ => simp at h1; subst h1; simpa using q1
  | 2, _ => simp at h1; subst h1; simpa using q2

theorem flat_len {sz : Nat} : ∀ {ds : List (List Value)}, (∀ d ∈ ds, d.length = sz) → ds.flatten.length = ds.length * sz
  | [], _ => by simp
  | d :: r, h => by
    rw [List.flatten_cons, List.length_append, flat_len (ds := r) (fun x hx => h x (List.mem_cons_of_mem _ hx)), h d (List.mem_cons_self ..), List.length_cons, Nat.succ_mul, Nat.add_comm]

theorem run_append_srows {P : Program} {w : World} {E T ty : TypeId} {sz : Nat} {v : Value} {cs ds : List (List Value)} {i : TypeInfo} {z : Value} {bytes : Nat} (ht : P.underlying T = some (.slice E)) (hi : P.info? E = some i) (hz : i.zero = some z) (hsize : i.size = sz) (hby : i.bytes = bytes) (hzs : z.cells.size = sz) (hsz : 0 < sz)
    (h : SRow w E sz v cs) {A : Option Addr} {n c : Nat} (hn : ds.length = n) (hd : ∀ d ∈ ds, d.length = sz) (hA : 0 < n → ∃ b off, A = some ⟨b, off, none⟩ ∧ ∀ j u, ds.flatten[j]? = some u → w.cell? ⟨b, off + j, none⟩ = some u) (h1 : ∀ u ∈ ds.flatten, u.oneCell' = true)
    (hb : (cs.length + n) * bytes ≤ 140737488355328) (hb0 : 0 < bytes) :
    ∃ A' c' w', (Builtin.append_ #[T, T] ty #[v, .slice A n c]).run P w = .ok (.slice A' (cs.length + n) c') w' ∧ SRow w' E sz (.slice A' (cs.length + n) c') (cs ++ ds) ∧ w.grownBy w' v.ownBlock ∧
      ((Value.slice A' (cs.length + n) c').ownBlock = v.ownBlock ∨ (Value.slice A' (cs.length + n) c').ownBlock = some w.heap.size) := by
  have hlen : cs.length + n ≤ 140737488355328 := Nat.le_trans (Nat.le_mul_of_pos_right _ hb0) hb
  rcases A with _ | ad
  · have h0 : n = 0 := by
      rcases Nat.eq_zero_or_pos n with h | h
      · exact h
      · obtain ⟨b, off, he, -⟩ := hA h
        cases he
    subst h0
    obtain rfl := List.eq_nil_of_length_eq_zero hn
    obtain ⟨A', c', rfl⟩ := ownsRow_form h
    exact ⟨A', c', w, run_append_of_nil w 0 T ty E i sz ht hi _ _ _ h c, by simpa using h, World.grownBy.refl w _, .inl rfl⟩
  · obtain ⟨v', w', hrun, h4, h5, _, h6⟩ := run_append_own_at (P := P) w 0 T ty E i z sz bytes ht hi hz hsize hby hzs hsz v cs.length cs.flatten h ad n c ds.flatten (by rw [flat_len hd, hn]) (fun j u hu => by
      have hn0 : 0 < n := by
        rcases Nat.eq_zero_or_pos n with h | h
        · rw [h] at hn
          obtain rfl := List.eq_nil_of_length_eq_zero hn
          simp at hu
        · exact h
      obtain ⟨b, off, he, hc⟩ := hA hn0
      obtain rfl := Option.some.inj he
      rw [add_zero_off]; exact hc j u hu) h1 (by simp only [maxLen]; omega) hb (Nat.zero_le _)
    obtain ⟨A'', c'', rfl⟩ := ownsRow_form h4
    refine ⟨A'', c'', w', hrun, ?_, h5, h6⟩
    unfold SRow
    rw [List.length_append, List.flatten_append, hn]
    exact h4

theorem run_append_seqs {ty : TypeId} {w : World} {v : Value} {xs ss : List SeqD} (h : SeqRow w v xs) {A : Option Addr} {n c : Nat} (hs : Seqs w (.slice A n c) ss) (hl : xs.length + n ≤ 1000000) (m : Nat) (hm : xs.length + n = m) :
    ∃ A' c' w', (Builtin.append_ #[22, 22] ty #[v, .slice A n c]).run Try.prog w = .ok (.slice A' m c') w' ∧ SeqRow w' (.slice A' m c') (xs ++ ss) ∧ w.grownBy w' v.ownBlock ∧ ((Value.slice A' m c').ownBlock = v.ownBlock ∨ (Value.slice A' m c').ownBlock = some w.heap.size) := by
  obtain ⟨i0, hi, hz, hsz, hb⟩ := info_parts infoSeq
  subst hm
  obtain ⟨A0, c0, he, h1, h2, h3⟩ := hs.at_
  injection he with e1 e2 e3
  subst e1 e2 e3
  have hone : ∀ u ∈ (ss.map SeqD.cells).flatten, u.oneCell' = true := fun u hu => by
    rw [List.mem_flatten] at hu
    obtain ⟨l, hl, hu⟩ := hu
    obtain ⟨x, -, rfl⟩ := List.mem_map.1 hl
    exact seq_oneCell x u hu
  obtain ⟨A', c', w', g1, g2, g3, g4⟩ := run_append_srows (P := Try.prog) (ty := ty) (sz := 3) (bytes := 24) (c := c) Try.underlying22 hi hz hsz hb rfl (by decide) h (ds := ss.map SeqD.cells) (n := ss.length) (List.length_map _) (fun d hd => by obtain ⟨x, -, rfl⟩ := List.mem_map.1 hd; rfl)
    (fun h0 => by obtain ⟨b, off, hA, hc⟩ := h3 h0; exact ⟨b, off, hA, flat_cell hc⟩) hone (by rw [List.length_map]; omega) (by decide)
  rw [List.length_map] at g1 g2 g4
  refine ⟨A', c', w', g1, ?_, g3, g4⟩
  unfold SeqRow
  rw [List.map_append]
  exact g2

theorem wpList_append_seqs {w : World} {ops : Array Oper} {rest : List Oper} {o : Oper} {a : Act} {Q : Exit → Act → World → Prop} (hgd : o.guard = none) (s x : Operand)
    (ho : o.op = .call { callee := .builtin .append, args := #[s, x], argTypes := #[22, 22] }) {v : Value} {xs ss : List SeqD} (hs : a.eval s = v) (h : SeqRow w v xs)
    {A : Option Addr} {n c : Nat} (hx : a.eval x = .slice A n c) (hq : Seqs w (.slice A n c) ss) (hl : xs.length + n ≤ 1000000) (m : Nat) (hm : xs.length + n = m)
    (hK : ∀ A' c' w', SeqRow w' (.slice A' m c') (xs ++ ss) → w.grownBy w' v.ownBlock → wpList Try.prog ops Q rest (a.put o.dst (.slice A' m c')) w') :
    wpList Try.prog ops Q (o :: rest) a w := by
  refine wpList_plain hgd fun K hK2 => ?_
  obtain ⟨A', c', w', hrun, h2, h3, -⟩ := run_append_seqs (ty := o.type) h hq hl m hm
  unfold Oper.wp execOp
  simp only [ho, resolve, invoke, builtin, Sem.run_bind, Sem.run_pure, Result.andThen_ok, List.map_toArray, List.map_cons, List.map_nil, hs, hx, hrun]
  exact hK2 _ _ (hK A' c' w' h2 h3)

theorem wpList_append_seqs_own {w : World} {ops : Array Oper} {rest : List Oper} {o : Oper} {a : Act} {Q : Exit → Act → World → Prop} (hgd : o.guard = none) (s x : Operand)
    (ho : o.op = .call { callee := .builtin .append, args := #[s, x], argTypes := #[22, 22] }) {v : Value} {xs ss : List SeqD} (hs : a.eval s = v) (h : SeqRow w v xs)
    {A : Option Addr} {n c : Nat} (hx : a.eval x = .slice A n c) (hq : Seqs w (.slice A n c) ss) (hl : xs.length + n ≤ 1000000) (m : Nat) (hm : xs.length + n = m)
    (hK : ∀ A' c' w', SeqRow w' (.slice A' m c') (xs ++ ss) → w.grownBy w' v.ownBlock → ((Value.slice A' m c').ownBlock = v.ownBlock ∨ (Value.slice A' m c').ownBlock = some w.heap.size) → wpList Try.prog ops Q rest (a.put o.dst (.slice A' m c')) w') :
    wpList Try.prog ops Q (o :: rest) a w := by
  refine wpList_plain hgd fun K hK2 => ?_
  obtain ⟨A', c', w', hrun, h2, h3, h4⟩ := run_append_seqs (ty := o.type) h hq hl m hm
  unfold Oper.wp execOp
  simp only [ho, resolve, invoke, builtin, Sem.run_bind, Sem.run_pure, Result.andThen_ok, List.map_toArray, List.map_cons, List.map_nil, hs, hx, hrun]
  exact hK2 _ _ (hK A' c' w' h2 h3 h4)

/-- An empty row that a literal made. -/
theorem seqRow_empty (w : World) : SeqRow (w.alloc (.cells #[] 60)) (.slice (some ⟨w.heap.size, 0, none⟩) 0 0) [] :=
  (World.ownsRow_made w #[] 0 (Nat.zero_le _) (by simp [maxLen]) rfl : World.ownsRow _ _ _ _ _ _ _)

theorem seqs_mono {w w' : World} {B : Nat} {v : Value} {ss : List SeqD} (h : Seqs w v ss) (hb : Below B w w') (hB : w.heap.size ≤ B) : Seqs w' v ss := h.below hb hB

end Go.Proofs.Ytamhkfnghgbenaa
