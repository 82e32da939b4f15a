/-
  plan: what Cut answers; two rows of sequences that grow side by side.
-/
import Derived.Test.YtamhkfnghgbenaaPlLits
namespace Go.Proofs.Ytamhkfnghgbenaa
set_option linter.all false
open Go.RowKit

/-- One step of Cut: the plans ahead and behind, the literals that go over. -/
def cutStep (at_ P : Int) (s : SeqD) (st : List SeqD × List SeqD × Int) : List SeqD × List SeqD × Int :=
  if P + s.lit + s.len ≤ at_ then (st.1 ++ [s], st.2.1, st.2.2)
  else if at_ ≤ P + s.lit then (st.1, st.2.1 ++ [⟨st.2.2 + (P + s.lit) - max P at_, s.len, s.off⟩], 0)
  else ((if 3 ≤ at_ - (P + s.lit) then st.1 ++ [⟨s.lit, at_ - (P + s.lit), s.off⟩] else st.1),
    (if 3 ≤ P + s.lit + s.len - at_ then (st.2.1 ++ [⟨0, P + s.lit + s.len - at_, s.off⟩], 0) else (st.2.1, P + s.lit + s.len - at_)))
/-- The first k steps of Cut. -/
def cutTo (ss : List SeqD) (at_ : Int) : Nat → List SeqD × List SeqD × Int
  | 0 => ([], [], 0)
  | k + 1 => match ss[k]? with
    | none => cutTo ss at_ k
    | some s => cutStep at_ (posL (ss.take k)) s (cutTo ss at_ k)
/-- What Cut answers. -/
def cutR (ss : List SeqD) (at_ : Int) : List SeqD × List SeqD × Int :=
  if (sizeR ss).2 = 0 then (if 0 ≤ at_ ∧ at_ ≤ (sizeR ss).1 then ((cutTo ss at_ ss.length).1, (cutTo ss at_ ss.length).2.1, 0) else ([], [], 21)) else ([], [], 15)

theorem cutTo_succ {ss : List SeqD} {at_ : Int} {k : Nat} {s : SeqD} (h : ss[k]? = some s) : cutTo ss at_ (k + 1) = cutStep at_ (posL (ss.take k)) s (cutTo ss at_ k) := by
  rw [cutTo, h]

/-- The lists are short and the carry small. -/
theorem cutTo_le (ss : List SeqD) (at_ : Int) : ∀ k, (cutTo ss at_ k).1.length ≤ k ∧ (cutTo ss at_ k).2.1.length ≤ k
  | 0 => ⟨Nat.le_refl _, Nat.le_refl _⟩
  | k + 1 => by
    have h := cutTo_le ss at_ k
    rw [cutTo]
    cases ss[k]? with
    | none => simp only; omega
    | some s =>
      simp only [cutStep]
      split
      · simp; omega
      · split
        · simp; omega
        · refine ⟨?_, ?_⟩
          · simp only; split
            · simp; omega
            · omega
          · simp only; split
            · simp; omega
            · simp only; omega
theorem cutTo_carry (ss : List SeqD) (at_ : Int) {k : Nat} (hk : k ≤ ss.length) (hg : Good 1 131072 0 0 ss k) : 0 ≤ (cutTo ss at_ k).2.2 ∧ (cutTo ss at_ k).2.2 ≤ 2 := by
  induction k with
  | zero => simp [cutTo]
  | succ k ih =>
    have ih := ih (by omega) (fun i s hi => hg i s (by omega))
    have hx := List.getElem?_eq_getElem (l := ss) (i := k) (by omega)
    rw [cutTo_succ hx]
    unfold cutStep
    split
    · exact ih
    · split
      · simp
      · simp only
        split
        · simp
        · simp only; omega

abbrev SeqD.cells (s : SeqD) : List Value := [.int .i64 s.lit, .int .i64 s.len, .int .i64 s.off]
theorem infoSeq : (Try.prog.info? 60).map (fun i => (i.zero, i.size, i.bytes)) = some (some (.agg #[.int .i64 0, .int .i64 0, .int .i64 0]), 3, 24) := by kernel_rfl
/-- A list of sequences in a row of the call's own. -/
abbrev SeqRow (w : World) (v : Value) (xs : List SeqD) : Prop := SRow w 60 3 v (xs.map SeqD.cells)

/-- Two rows of sequences, each in a block of its own, behind w0. -/
structure CutSt (w0 w : World) (va vb : Value) (aa bb : List SeqD) : Prop where
  bel : Below w0.heap.size w0 w
  ra : SeqRow w va aa
  rb : SeqRow w vb bb
  ga : ∀ k, va.ownBlock = some k → w0.heap.size ≤ k
  gb : ∀ k, vb.ownBlock = some k → w0.heap.size ≤ k
  ne : ∀ k, va.ownBlock = some k → vb.ownBlock ≠ some k
section
variable {w0 w w' : World} {va vb : Value} {aa bb : List SeqD}
theorem CutSt.start (w0 : World) : CutSt w0 w0 (.slice none 0 0) (.slice none 0 0) [] [] :=
  ⟨Below.refl _ _, SRow.nil _ _ _, SRow.nil _ _ _, fun k h => by simp [Value.ownBlock] at h, fun k h => by simp [Value.ownBlock] at h, fun k h => by simp [Value.ownBlock] at h⟩
theorem CutSt.below (h : CutSt w0 w va vb aa bb) (hb : Below w.heap.size w w') : CutSt w0 w' va vb aa bb :=
  ⟨h.bel.trans (hb.mono h.bel.size), h.ra.below hb (Nat.le_refl _), h.rb.below hb (Nat.le_refl _), h.ga, h.gb, h.ne⟩
theorem CutSt.alloc (h : CutSt w0 w va vb aa bb) (o : Obj) : CutSt w0 (w.alloc o) va vb aa bb := h.below ((Below.refl _ _).alloc (Nat.le_refl _) o)

theorem CutSt.growA {v' : Value} {x : SeqD} (h : CutSt w0 w va vb aa bb) (hr : SeqRow w' v' (aa ++ [x])) (hg : w.grownBy w' va.ownBlock) (ho : v'.ownBlock = va.ownBlock ∨ v'.ownBlock = some w.heap.size) : CutSt w0 w' v' vb (aa ++ [x]) bb := by
  refine ⟨h.bel.grown hg h.bel.size h.ga, hr, h.rb.same fun k hk => hg.block k (h.rb.lt k hk) (fun e => h.ne k e.symm hk), fun k hk => ?_, h.gb, fun k hk hkb => ?_⟩
  · rcases ho with e | e
    · exact h.ga k (e ▸ hk)
    · rw [e] at hk
      obtain rfl := Option.some.inj hk
      exact h.bel.size
  · rcases ho with e | e
    · exact h.ne k (e ▸ hk) hkb
    · rw [e] at hk
      obtain rfl := Option.some.inj hk
      have := h.rb.lt _ hkb
      omega
theorem CutSt.growB {v' : Value} {x : SeqD} (h : CutSt w0 w va vb aa bb) (hr : SeqRow w' v' (bb ++ [x])) (hg : w.grownBy w' vb.ownBlock) (ho : v'.ownBlock = vb.ownBlock ∨ v'.ownBlock = some w.heap.size) : CutSt w0 w' va v' aa (bb ++ [x]) := by
  refine ⟨h.bel.grown hg h.bel.size h.gb, h.ra.same fun k hk => hg.block k (h.ra.lt k hk) (fun e => h.ne k hk e.symm), hr, h.ga, fun k hk => ?_, fun k hk hkb => ?_⟩
  · rcases ho with e | e
    · exact h.gb k (e ▸ hk)
    · rw [e] at hk
      obtain rfl := Option.some.inj hk
      exact h.bel.size
  · rcases ho with e | e
    · exact h.ne k hk (e ▸ hkb)
    · rw [e] at hkb
      obtain rfl := Option.some.inj hkb
      have := h.ra.lt _ hk
      omega

theorem seq_oneCell (x : SeqD) : ∀ u ∈ x.cells, u.oneCell' = true := fun u hu => by
  simp only [SeqD.cells, List.mem_cons, List.not_mem_nil, or_false] at hu
  rcases hu with rfl | rfl | rfl <;> rfl

theorem run_append_seq {ty : TypeId} {v : Value} {xs : List SeqD} (h : SeqRow w v xs) (g : Nat) (x : SeqD) (hg : Blk w g 60 x.cells.toArray) (hl : xs.length ≤ 1000000) (n : Nat) (hn : xs.length + 1 = n) :
    ∃ A' c' w', (Builtin.append_ #[22, 22] ty #[v, .slice (some ⟨g, 0, none⟩) 1 1]).run Try.prog w = .ok (.slice A' n c') w' ∧ SeqRow w' (.slice A' n c') (xs ++ [x]) ∧ w.grownBy w' v.ownBlock ∧
      ((Value.slice A' n c').ownBlock = v.ownBlock ∨ (Value.slice A' n c').ownBlock = some w.heap.size) := by
  obtain ⟨i0, hi, hz, hs, hb⟩ := info_parts infoSeq
  subst hn
  obtain ⟨A', c', w', h1, h2, h3, h4⟩ := run_append_srow (P := Try.prog) (ty := ty) Try.underlying22 hi hz hs hb rfl (by decide) h g 60 x.cells rfl hg (seq_oneCell x) (by rw [List.length_map]; omega) (by decide)
  rw [List.length_map] at h1 h2 h4
  refine ⟨A', c', w', h1, ?_, h3, h4⟩
  unfold SeqRow
  rw [List.map_append]
  exact h2

theorem oper_append_seq {o : Oper} {a : Act} {K : Act → World → Prop} {Q : Exit → Act → World → Prop} (s x : Operand)
    (ho : o.op = .call { callee := .builtin .append, args := #[s, x], argTypes := #[22, 22] }) {v : Value} {xs : List SeqD} (hs : a.eval s = v) (h : SeqRow w v xs)
    (g : Nat) (y : SeqD) (hx : a.eval x = .slice (some ⟨g, 0, none⟩) 1 1) (hg : Blk w g 60 y.cells.toArray) (hl : xs.length ≤ 1000000) (n : Nat) (hn : xs.length + 1 = n)
    (hK : ∀ A' c' w', SeqRow w' (.slice A' n c') (xs ++ [y]) → w.grownBy w' v.ownBlock → ((Value.slice A' n c').ownBlock = v.ownBlock ∨ (Value.slice A' n c').ownBlock = some w.heap.size) → K (a.put o.dst (.slice A' n c')) w') :
    o.wp Try.prog a w K Q := by
  obtain ⟨A', c', w', hrun, h2, h3, h4⟩ := run_append_seq (ty := o.type) h g y hg hl n hn
  unfold Oper.wp execOp
  simp only [ho, resolve, invoke, builtin, Sem.run_bind, Sem.run_pure, Result.andThen_ok, List.map_toArray, List.map_cons, List.map_nil, hs, hx, hrun]
  exact hK A' c' w' h2 h3 h4

theorem step_append_seq {o : Oper} {a : Act} {K : Act → World → Prop} {Q : Exit → Act → World → Prop} {b : Bool} {E : Prop} (hb : b = true) (s x : Operand)
    (ho : o.op = .call { callee := .builtin .append, args := #[s, x], argTypes := #[22, 22] }) {v : Value} {xs : List SeqD} (hs : a.eval s = v) (h : SeqRow w v xs)
    (g : Nat) (y : SeqD) (hx : a.eval x = .slice (some ⟨g, 0, none⟩) 1 1) (hg : Blk w g 60 y.cells.toArray) (hl : xs.length ≤ 1000000) (n : Nat) (hn : xs.length + 1 = n)
    (hK : ∀ A' c' w', SeqRow w' (.slice A' n c') (xs ++ [y]) → w.grownBy w' v.ownBlock → ((Value.slice A' n c').ownBlock = v.ownBlock ∨ (Value.slice A' n c').ownBlock = some w.heap.size) → K (a.put o.dst (.slice A' n c')) w') :
    if b = true then o.wp Try.prog a w K Q else E := by
  rw [if_pos hb]
  exact oper_append_seq s x ho hs h g y hx hg hl n hn hK

theorem wpList_append_seq {ops : Array Oper} {rest : List Oper} {o : Oper} {a : Act} {Q : Exit → Act → World → Prop} (hgd : o.guard = none) (s x : Operand)
    (ho : o.op = .call { callee := .builtin .append, args := #[s, x], argTypes := #[22, 22] }) {v : Value} {xs : List SeqD} (hs : a.eval s = v) (h : SeqRow w v xs)
    (g : Nat) (y : SeqD) (hx : a.eval x = .slice (some ⟨g, 0, none⟩) 1 1) (hg : Blk w g 60 y.cells.toArray) (hl : xs.length ≤ 1000000) (n : Nat) (hn : xs.length + 1 = n)
    (hK : ∀ A' c' w', SeqRow w' (.slice A' n c') (xs ++ [y]) → w.grownBy w' v.ownBlock → ((Value.slice A' n c').ownBlock = v.ownBlock ∨ (Value.slice A' n c').ownBlock = some w.heap.size) → wpList Try.prog ops Q rest (a.put o.dst (.slice A' n c')) w') :
    wpList Try.prog ops Q (o :: rest) a w := by
  refine wpList_plain hgd fun K hK2 => ?_
  exact oper_append_seq s x ho hs h g y hx hg hl n hn fun A' c' w' h2 h3 h4 => hK2 _ _ (hK A' c' w' h2 h3 h4)
end

/-- The same, with a step's box. -/
structure CutB (w0 w : World) (va vb : Value) (aa bb : List SeqD) (g : Nat) (x : StepD) : Prop where
  st : CutSt w0 w va vb aa bb
  box : Blk w g 71 x.cells
  lo : w0.heap.size ≤ g
  na : va.ownBlock ≠ some g
  nb : vb.ownBlock ≠ some g
section
variable {w0 w w' : World} {va vb : Value} {aa bb : List SeqD} {g : Nat} {x : StepD}
theorem CutSt.box (h : CutSt w0 w va vb aa bb) (x : StepD) : CutB w0 (w.alloc (.cells x.cells 71)) va vb aa bb w.heap.size x :=
  ⟨h.alloc _, Blk.new w _ _, h.bel.size, fun e => by have := h.ra.lt _ e; omega, fun e => by have := h.rb.lt _ e; omega⟩
theorem CutB.below (h : CutB w0 w va vb aa bb g x) (hb : Below w.heap.size w w') : CutB w0 w' va vb aa bb g x :=
  ⟨h.st.below hb, h.box.below hb h.box.lt, h.lo, h.na, h.nb⟩
theorem CutB.alloc (h : CutB w0 w va vb aa bb g x) (o : Obj) : CutB w0 (w.alloc o) va vb aa bb g x := h.below ((Below.refl _ w).alloc (Nat.le_refl _) o)
theorem CutB.drew (h : CutB w0 w va vb aa bb g x) : CutB w0 w.drew va vb aa bb g x := h.below (below_drewN (Below.refl _ w) 1)
theorem CutB.growA {v' : Value} {y : SeqD} (h : CutB w0 w va vb aa bb g x) (hr : SeqRow w' v' (aa ++ [y])) (hg : w.grownBy w' va.ownBlock) (ho : v'.ownBlock = va.ownBlock ∨ v'.ownBlock = some w.heap.size) : CutB w0 w' v' vb (aa ++ [y]) bb g x := by
  refine ⟨h.st.growA hr hg ho, (hg.block g h.box.lt (fun e => h.na e.symm)).trans h.box, h.lo, ?_, h.nb⟩
  rcases ho with e | e
  · rw [e]; exact h.na
  · rw [e]; intro e2; have := Option.some.inj e2; have := h.box.lt; omega
theorem CutB.growB {v' : Value} {y : SeqD} (h : CutB w0 w va vb aa bb g x) (hr : SeqRow w' v' (bb ++ [y])) (hg : w.grownBy w' vb.ownBlock) (ho : v'.ownBlock = vb.ownBlock ∨ v'.ownBlock = some w.heap.size) : CutB w0 w' va v' aa (bb ++ [y]) g x := by
  refine ⟨h.st.growB hr hg ho, (hg.block g h.box.lt (fun e => h.nb e.symm)).trans h.box, h.lo, h.na, ?_⟩
  rcases ho with e | e
  · rw [e]; exact h.nb
  · rw [e]; intro e2; have := Option.some.inj e2; have := h.box.lt; omega
end
theorem CutSt.base {w w0 w' : World} {va vb : Value} {aa bb : List SeqD} (h : CutSt w0 w' va vb aa bb) (hb : Below w.heap.size w w0) : CutSt w w' va vb aa bb :=
  ⟨hb.trans (h.bel.mono hb.size), h.ra, h.rb, fun k hk => Nat.le_trans hb.size (h.ga k hk), fun k hk => Nat.le_trans hb.size (h.gb k hk), h.ne⟩
end Go.Proofs.Ytamhkfnghgbenaa
