/-
  exec: rows of bytes that a call makes.
-/
import Derived.Test.YtndgdehlnmheeaaExDoes
import Derived.Test.YtndgdehlnmheeaaMgRow
namespace Go.Proofs.Ytndgdehlnmheeaa
set_option linter.all false
set_option maxRecDepth 100000
open Go.RowKit

/-- A slice of byte slices that reads as the rows ps. -/
structure Pcs (w : World) (v : Value) (ps : List (List Int)) : Prop where
  at_ : ∃ A c, v = .slice A ps.length c ∧ ps.length ≤ c ∧ c ≤ maxLen ∧ (0 < ps.length → ∃ b off, A = some ⟨b, off, none⟩ ∧ ∀ (i : Nat) (p : List Int), ps[i]? = some p → ∃ e, w.cell? ⟨b, off + i, none⟩ = some e ∧ Ints w .u8 e p)
theorem Pcs.below {w w' : World} {B : Nat} {v : Value} {ps : List (List Int)} (h : Pcs w v ps) (hb : Below B w w') (hB : w.heap.size ≤ B) : Pcs w' v ps := by
  obtain ⟨A, c, h1, h2, h3, h4⟩ := h.at_
  refine ⟨A, c, h1, h2, h3, fun h0 => ?_⟩
  obtain ⟨b, off, hA, hx⟩ := h4 h0
  refine ⟨b, off, hA, fun i p hi => ?_⟩
  obtain ⟨e, hc, he⟩ := hx i p hi
  exact ⟨e, (hb.cell (p := ⟨b, off + i, none⟩) (Nat.lt_of_lt_of_le (World.block_lt_of_cell? w _ hc) hB)).trans hc, he.below hb hB⟩
theorem Pcs.nil (w : World) : Pcs w (.slice none 0 0) [] := ⟨none, 0, rfl, Nat.le_refl _, by simp [maxLen], fun h => absurd h (by simp)⟩

theorem infoSl : (Try.prog.info? 22).map (fun i => (i.zero, i.size, i.bytes)) = some (some (.slice none 0 0), 1, 24) := by kernel_rfl

/-- The block k is a call's own, made since B, and not x. -/
abbrev Mine (B x k : Nat) : Prop := B ≤ k ∧ k ≠ x
/-- Rows that a call makes beside a ring's row vo. -/
structure PcSt (w : World) (B x : Nat) (vo : Option Nat) (rv : Value) (ps : List (List Int)) (es : List Value) : Prop where
  len : es.length = ps.length
  row : SRow w 22 1 rv (es.map fun e => [e])
  own : ∀ k, rv.ownBlock = some k → Mine B x k ∧ vo ≠ some k
  el : ∀ (i : Nat) (e : Value) (p : List Int), es[i]? = some e → ps[i]? = some p → Ints w .u8 e p ∧ e.oneCell' = true ∧ ∀ k, e.ownBlock = some k → Mine B x k ∧ vo ≠ some k ∧ rv.ownBlock ≠ some k ∧ k < w.heap.size
section
variable {w w' : World} {B x g : Nat} {vo vo' : Option Nat} {rv rv' : Value} {ps : List (List Int)} {es : List Value}
theorem Ints.same {k : IntKind} {v : Value} {xs : List Int} (h : Ints w k v xs) (hs : ∀ b, v.ownBlock = some b → b < w.heap.size → w'.heap[b]? = w.heap[b]?) : Ints w' k v xs := by
  obtain ⟨A, n, c, rfl, h1, h2, h3⟩ := h.get
  exact (h3.same (c := c) hs).ints h1 (by simp only [maxLen]; omega)
theorem PcSt.start (w : World) (B x : Nat) (vo : Option Nat) : PcSt w B x vo (.slice none 0 0) [] [] := ⟨rfl, SRow.nil _ _ _, (fun k hk => by cases hk), (fun i e p hi => by simp at hi)⟩
theorem PcSt.move (h : PcSt w B x vo rv ps es) (hb : But2 w w' g x vo) (hg : g < B) (hv : vo' = vo ∨ ∀ k, vo' = some k → w.heap.size ≤ k) : PcSt w' B x vo' rv ps es := by
  have key : ∀ k, Mine B x k → vo ≠ some k → k < w.heap.size → w'.heap[k]? = w.heap[k]? := fun k h1 h2 h3 => hb.block k h3 (by omega) h1.2 (fun e => h2 e.symm)
  have ne : ∀ k, vo ≠ some k → k < w.heap.size → vo' ≠ some k := fun k h1 h2 e => by
    rcases hv with rfl | hv
    · exact h1 e
    · have := hv k e; omega
  refine ⟨h.len, h.row.same fun k hk => key k (h.own k hk).1 (h.own k hk).2 (h.row.lt k hk), fun k hk => ⟨(h.own k hk).1, ne k (h.own k hk).2 (h.row.lt k hk)⟩, fun i e p he hp => ?_⟩
  obtain ⟨h1, h2, h3⟩ := h.el i e p he hp
  refine ⟨h1.same fun k hk hlt => key k (h3 k hk).1 (h3 k hk).2.1 hlt, h2, fun k hk => ?_⟩
  obtain ⟨a1, a2, a3, a4⟩ := h3 k hk
  exact ⟨a1, ne k a2 a4, a3, Nat.lt_of_lt_of_le a4 hb.size⟩
theorem PcSt.below (h : PcSt w B x vo rv ps es) (hb : Below w.heap.size w w') (hB : 0 < B) : PcSt w' B x vo rv ps es := h.move (But2.of_below hb 0 x vo) hB (.inl rfl)
theorem PcSt.snoc {e : Value} {p : List Int} (h : PcSt w B x vo rv ps es) (hi : Ints w .u8 e p) (he : ∀ k, e.ownBlock = some k → Mine B x k ∧ vo ≠ some k ∧ rv.ownBlock ≠ some k ∧ k < w.heap.size) (hB : B ≤ w.heap.size) (hx : x < w.heap.size) (hvo : ∀ k, vo = some k → k < w.heap.size)
    (hr : SRow w' 22 1 rv' (es.map (fun e => [e]) ++ [[e]])) (hgr : w.grownBy w' rv.ownBlock) (ho : rv'.ownBlock = rv.ownBlock ∨ ∀ k, rv'.ownBlock = some k → w.heap.size ≤ k) : PcSt w' B x vo rv' (ps ++ [p]) (es ++ [e]) := by
  have ne : ∀ k, rv.ownBlock ≠ some k → k < w.heap.size → rv'.ownBlock ≠ some k := fun k h1 h2 e2 => by
    rcases ho with h3 | h3
    · exact h1 (h3 ▸ e2)
    · have := h3 k e2; omega
  refine ⟨by simp [h.len], by simpa using hr, fun k hk => ?_, fun i e' p' he' hp' => ?_⟩
  · rcases ho with h3 | h3
    · rw [h3] at hk; exact h.own k hk
    · have h4 := h3 k hk
      exact ⟨⟨by omega, by omega⟩, fun e2 => by have := hvo k e2; omega⟩
  · have one : ∀ (e' : Value) (p' : List Int), (Ints w .u8 e' p' ∧ ∀ k, e'.ownBlock = some k → Mine B x k ∧ vo ≠ some k ∧ rv.ownBlock ≠ some k ∧ k < w.heap.size) → Ints w' .u8 e' p' ∧ e'.oneCell' = true ∧ ∀ k, e'.ownBlock = some k → Mine B x k ∧ vo ≠ some k ∧ rv'.ownBlock ≠ some k ∧ k < w'.heap.size := by
      rintro e' p' ⟨h1, h3⟩
      refine ⟨h1.same fun k hk hlt => hgr.block k hlt (fun e2 => (h3 k hk).2.2.1 e2.symm), ?_, fun k hk => ?_⟩
      · obtain ⟨A, n, c, rfl, -⟩ := h1.get
        rfl
      · obtain ⟨a1, a2, a3, a4⟩ := h3 k hk
        exact ⟨a1, a2, ne k a3 a4, Nat.lt_of_lt_of_le a4 hgr.size⟩
    have hlen := h.len
    rcases Nat.lt_or_ge i es.length with hlt | hge
    · rw [List.getElem?_append_left hlt] at he'
      rw [List.getElem?_append_left (by omega)] at hp'
      obtain ⟨h1, -, h3⟩ := h.el i e' p' he' hp'
      exact one e' p' ⟨h1, h3⟩
    · have hil := (List.getElem?_eq_some_iff.1 he').1
      simp at hil
      have hie : i = es.length := by omega
      subst hie
      rw [List.getElem?_append_right (Nat.le_refl _)] at he'
      rw [List.getElem?_append_right (by omega)] at hp'
      simp [hlen] at he' hp'
      subst he' hp'
      exact one e p ⟨hi, he⟩
theorem PcSt.pcs (h : PcSt w B x vo rv ps es) : Pcs w rv ps := by
  obtain ⟨A, c, hv, h1, h2⟩ := SRow.form h.row
  rw [List.length_map, h.len] at hv h1
  subst hv
  refine ⟨A, c, rfl, h1, h2, fun h0 => ?_⟩
  obtain ⟨g, hA, -, hc⟩ := SRow.cell h.row (fun c hc => by obtain ⟨x, -, rfl⟩ := List.mem_map.1 hc; rfl) (i := 0) (by rw [List.length_map, h.len]; exact h0)
  refine ⟨g, 0, hA, fun i p hp => ?_⟩
  have hil := (List.getElem?_eq_some_iff.1 hp).1
  have he := List.getElem?_eq_getElem (l := es) (i := i) (by rw [h.len]; exact hil)
  refine ⟨_, ?_, (h.el i _ p he hp).1⟩
  have h9 := hc i [es[i]'(by rw [h.len]; exact hil)] (by rw [List.getElem?_map, he]; rfl) 0 _ (by omega) rfl
  rw [Nat.zero_add]
  simpa using h9
end

/-- Rows that are read the same where the blocks from B on, and lo, lie as they lay. -/
def PcsFar (B : Nat) (lo : Option Nat) (w : World) (v : Value) (ps : List (List Int)) : Prop :=
  ∀ w' : World, w.heap.size ≤ w'.heap.size → (∀ k, k < w.heap.size → (B ≤ k ∨ lo = some k) → w'.heap[k]? = w.heap[k]?) → Pcs w' v ps
theorem PcsFar.pcs {B : Nat} {lo : Option Nat} {w : World} {v : Value} {ps : List (List Int)} (h : PcsFar B lo w v ps) : Pcs w v ps := h w (Nat.le_refl _) fun _ _ _ => rfl
theorem PcsFar.keep {B : Nat} {lo : Option Nat} {w w2 : World} {v : Value} {ps : List (List Int)} (h : PcsFar B lo w v ps) (hs : w.heap.size ≤ w2.heap.size) (hk : ∀ k, k < w.heap.size → (B ≤ k ∨ lo = some k) → w2.heap[k]? = w.heap[k]?) : PcsFar B lo w2 v ps :=
  fun w' hs' hk' => h w' (Nat.le_trans hs hs') fun k h1 h2 => (hk' k (Nat.lt_of_lt_of_le h1 hs) h2).trans (hk k h1 h2)
theorem PcsFar.mono {B B' : Nat} {lo : Option Nat} {w : World} {v : Value} {ps : List (List Int)} (h : PcsFar B lo w v ps) (hB : B' ≤ B) : PcsFar B' lo w v ps :=
  fun w' hs hk => h w' hs fun k h1 h2 => hk k h1 (h2.imp (Nat.le_trans hB) id)
theorem PcSt.far_all {w : World} {B B' x : Nat} {vo lo : Option Nat} {rv : Value} {ps : List (List Int)} {es : List Value} (h : PcSt w B x vo rv ps es) (ho : ∀ k, rv.ownBlock = some k → B' ≤ k ∨ lo = some k)
    (he : ∀ (i : Nat) (e : Value) (p : List Int), es[i]? = some e → ps[i]? = some p → ∀ k, e.ownBlock = some k → B' ≤ k ∨ lo = some k) : PcsFar B' lo w rv ps := fun w' hs hk =>
  (show PcSt w' B x vo rv ps es from ⟨h.len, h.row.same fun k hk2 => hk k (h.row.lt k hk2) (ho k hk2), h.own, fun i e p h1 h2 => by
    obtain ⟨a1, a2, a3⟩ := h.el i e p h1 h2
    exact ⟨a1.same fun k hk2 hlt => hk k hlt (he i e p h1 h2 k hk2), a2, fun k hk2 => ⟨(a3 k hk2).1, (a3 k hk2).2.1, (a3 k hk2).2.2.1, Nat.lt_of_lt_of_le (a3 k hk2).2.2.2 hs⟩⟩⟩).pcs

/-- append of one row. -/
theorem wpList_append_pc {w : World} {ops : Array Oper} {rest : List Oper} {o : Oper} {a : Act} {Q : Exit → Act → World → Prop} (hgd : o.guard = none) (s y : Operand)
    (ho : o.op = .call { callee := .builtin .append, args := #[s, y], argTypes := #[48, 48] }) {rv : Value} {es : List Value} (hs : a.eval s = rv) (h : SRow w 22 1 rv (es.map fun e => [e]))
    (g : Nat) (e : Value) (hy : a.eval y = .slice (some ⟨g, 0, none⟩) 1 1) (hg : Blk w g 22 #[e]) (he : e.oneCell' = true) (hl : es.length ≤ 1000000) (n : Nat) (hn : es.length + 1 = n)
    (hK : ∀ A' c' w', SRow w' 22 1 (.slice A' n c') (es.map (fun e => [e]) ++ [[e]]) → w.grownBy w' rv.ownBlock → ((Value.slice A' n c').ownBlock = rv.ownBlock ∨ (Value.slice A' n c').ownBlock = some w.heap.size) → wpList Try.prog ops Q rest (a.put o.dst (.slice A' n c')) w') :
    wpList Try.prog ops Q (o :: rest) a w := by
  obtain ⟨i0, hi, hz, hsz, hb⟩ := info_parts infoSl
  exact wpList_append_srow hgd s y ho (bytes := 24) Try.underlying48 hi hz hsz hb rfl (by decide) hs h g 22 [e] hy rfl hg (fun u hu => by rw [List.mem_singleton] at hu; rw [hu]; exact he) (by rw [List.length_map]; omega) (by decide) n (by rw [List.length_map]; exact hn) hK
end Go.Proofs.Ytndgdehlnmheeaa
