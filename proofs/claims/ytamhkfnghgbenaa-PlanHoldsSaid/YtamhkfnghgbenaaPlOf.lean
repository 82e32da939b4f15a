/-
  plan: a plan of some data, as a property of lists.
-/
import Derived.Test.YtamhkfnghgbenaaPlVerify
import Derived.Test.YtamhkfnghgbenaaPlLits
import Derived.Test.YtamhkfnghgbenaaPlSq
namespace Go.Proofs.Ytamhkfnghgbenaa
set_option linter.all false
open Go.RowKit

theorem nGood_end {ss : List SeqD} (hg : Good 1 131072 0 0 ss ss.length) : nGood ss = ss.length ∧ sizeR ss = (posL ss, 0) := by
  have hb : bad 1 131072 0 0 ss = none := bad_none.2 hg
  exact ⟨by unfold nGood; rw [hb], by unfold sizeR; rw [hb]⟩
theorem whereR_eq {ss : List SeqD} {size hv wd : Int} {k : Nat} {s : SeqD} (ha : argsOk size hv wd) (hs : ss[k]? = some s) (hg : Good 2 size hv wd ss k)
    (hn : ¬ (StepD.rule1 ⟨s, k, posL (ss.take k), size, hv, wd⟩ ∧ StepD.rule2 ⟨s, k, posL (ss.take k), size, hv, wd⟩)) : whereR ss size hv wd = ((k : Int), 15) := by
  have hb : bad 2 size hv wd ss = some k := bad_some.2 ⟨s, hs, hg, fun h => hn ⟨h.1, h.2 (Nat.le_refl _)⟩⟩
  unfold whereR; rw [if_pos ha, hb]
theorem whereR_end {ss : List SeqD} {size hv wd : Int} (ha : argsOk size hv wd) (hg : Good 2 size hv wd ss ss.length) : whereR ss size hv wd = (0, 0) := by
  have hb : bad 2 size hv wd ss = none := bad_none.2 hg
  unfold whereR; rw [if_pos ha, hb]
theorem match_yes {all : List Int} {from_ len off : Nat} (ho : off ≤ from_) (h : ∀ j, from_ ≤ j → j < from_ + len → all[j]? = all[j - off]?) : matchOk all from_ len off = true := by
  unfold matchOk listEq
  rw [decide_eq_true_eq]
  apply List.ext_getElem?
  intro i
  rw [List.getElem?_take, List.getElem?_take, List.getElem?_drop, List.getElem?_drop]
  split
  · rw [h (from_ + i) (by omega) (by omega), show from_ + i - off = from_ - off + i by omega]
  · rfl
theorem match_no {all : List Int} {from_ len off j : Nat} (ho : off ≤ from_) (h1 : from_ ≤ j) (h2 : j < from_ + len) (h : all[j]? ≠ all[j - off]?) : matchOk all from_ len off = false := by
  unfold matchOk listEq
  rw [decide_eq_false_iff_not]
  intro e
  have e2 := congrArg (fun l : List Int => l[j - from_]?) e
  rw [List.getElem?_take, List.getElem?_take, List.getElem?_drop, List.getElem?_drop, if_pos (by omega), if_pos (by omega), show from_ + (j - from_) = j by omega, show from_ - off + (j - from_) = j - off by omega] at e2
  exact h e2

/-- What a sequence at position P must keep, in a plan of nd bytes behind na bytes. -/
def Cond (na nd : Nat) (wd : Int) (all : List Int) (P : Int) (s : SeqD) : Prop :=
  0 ≤ s.lit ∧ 3 ≤ s.len ∧ P + s.lit + s.len ≤ nd ∧ 1 ≤ s.off ∧ s.off ≤ wd ∧ s.off ≤ na + P + s.lit ∧ ∀ j : Nat, na + P + s.lit ≤ j → (j : Int) < na + P + s.lit + s.len → all[j]? = all[j - s.off.toNat]?
/-- A plan of nd bytes behind na bytes. -/
def PlanOf (na nd : Nat) (wd : Int) (all : List Int) (l : List SeqD) : Prop := ∀ (k : Nat) (s : SeqD), l[k]? = some s → 0 ≤ posL (l.take k) ∧ Cond na nd wd all (posL (l.take k)) s

theorem PlanOf.nil (na nd : Nat) (wd : Int) (all : List Int) : PlanOf na nd wd all [] := fun k s h => by simp at h
theorem PlanOf.snoc {na nd : Nat} {wd : Int} {all : List Int} {l : List SeqD} {s : SeqD} (h : PlanOf na nd wd all l) (hp : 0 ≤ posL l) (hc : Cond na nd wd all (posL l) s) : PlanOf na nd wd all (l ++ [s]) := fun k x hx => by
  rcases Nat.lt_or_ge k l.length with h1 | h1
  · rw [List.getElem?_append_left h1] at hx
    rw [List.take_append_of_le_length (by omega)]
    exact h k x hx
  · have hk : k = l.length := by
      have := (List.getElem?_eq_some_iff.1 hx).1
      simp at this
      omega
    subst hk
    have e : s = x := by simpa using hx
    subst e
    rw [List.take_left' rfl]
    exact ⟨hp, hc⟩

theorem verR_zero {ss : List SeqD} {aa dd : List Int} {wd : Int} : verR ss aa dd wd = 0 ↔ argsOk dd.length aa.length wd ∧ PlanOf aa.length dd.length wd (aa ++ dd) ss := by
  constructor
  · intro h
    unfold verR at h
    by_cases h0 : (whereR ss dd.length aa.length wd).2 = 0
    · rw [if_pos h0] at h
      obtain ⟨ha, hg⟩ := whereR_good h0
      refine ⟨ha, fun k s hs => ?_⟩
      have hk := (List.getElem?_eq_some_iff.1 hs).1
      have hp := Good.pos ha.1 (k := k) (by omega) (fun i x hi => hg i x (by omega))
      obtain ⟨⟨o1, o2, o3, o4⟩, h2⟩ := hg k s hk hs
      obtain ⟨o5, o6, o7⟩ := h2 (by omega)
      simp only [stepAt] at o1 o2 o3 o4 o5 o6 o7
      refine ⟨hp.1, o1, o2, by omega, o5, o6, by omega, fun j h1 h2 => ?_⟩
      have hc : copyOk (aa ++ dd) aa.length ss k = true := by
        by_cases hb : (List.range ss.length).all (copyOk (aa ++ dd) aa.length ss) = true
        · rw [List.all_eq_true] at hb
          exact hb k (List.mem_range.2 hk)
        · rw [if_neg hb] at h
          cases h
      apply Classical.byContradiction
      intro hne
      unfold copyOk at hc
      rw [hs] at hc
      simp only at hc
      rw [match_no (j := j) (by omega) (by omega) (by omega) hne] at hc
      cases hc
    · rw [if_neg h0] at h
      exact absurd h h0
  · rintro ⟨ha, hp⟩
    have hg : Good 2 dd.length aa.length wd ss ss.length := fun i s hi hs => by
      obtain ⟨h0, c1, c2, c3, c4, c5, c6, -⟩ := hp i s hs
      exact ⟨⟨c1, c2, by simp only [stepAt]; omega, by simp only [stepAt]; omega⟩, fun _ => ⟨c4, c5, by simp only [stepAt]; omega⟩⟩
    refine verR_yes (by rw [whereR_end ha hg]) fun k hk => ?_
    have hs := List.getElem?_eq_getElem hk
    obtain ⟨h0, c1, c2, c3, c4, c5, c6, c7⟩ := hp k _ hs
    unfold copyOk
    rw [hs]
    simp only
    refine match_yes (by omega) fun j h1 h2 => c7 j (by omega) (by omega)

theorem PlanOf.good {na nd : Nat} {wd : Int} {all : List Int} {ss : List SeqD} (hp : PlanOf na nd wd all ss) (hd : nd ≤ 131072) : Good 1 131072 0 0 ss ss.length := fun i s hi hs => by
  obtain ⟨h0, c1, c2, c3, c4, c5, c6, -⟩ := hp i s hs
  exact ⟨⟨c1, c2, by simp only [stepAt]; omega, by simp only [stepAt]; omega⟩, fun h => by omega⟩
theorem PlanOf.pos {na nd : Nat} {wd : Int} {all : List Int} {ss : List SeqD} (hp : PlanOf na nd wd all ss) : ∀ {k : Nat}, k ≤ ss.length → 0 ≤ posL (ss.take k) ∧ posL (ss.take k) ≤ nd
  | 0, _ => by simp [posL]
  | k + 1, hk => by
    have hs := List.getElem?_eq_getElem (l := ss) (i := k) (by omega)
    obtain ⟨h0, c1, c2, c3, -⟩ := hp k _ hs
    rw [posL_take_succ hs]
    omega
theorem PlanOf.size {na nd : Nat} {wd : Int} {all : List Int} {ss : List SeqD} (hp : PlanOf na nd wd all ss) (hd : nd ≤ 131072) : sizeR ss = (posL ss, 0) ∧ nGood ss = ss.length ∧ 0 ≤ posL ss ∧ posL ss ≤ nd := by
  have h1 := nGood_end (hp.good hd)
  have h2 := hp.pos (Nat.le_refl _)
  rw [List.take_length] at h2
  exact ⟨h1.2, h1.1, h2⟩

/-- How many bytes the matches cover. -/
def lenL : List SeqD → Int
  | [] => 0
  | s :: r => s.len + lenL r
theorem lenL_append (a : List SeqD) (s : SeqD) : lenL (a ++ [s]) = lenL a + s.len := by
  induction a with
  | nil => simp [lenL]
  | cons x r ih => simp only [List.cons_append, lenL, ih]; omega

theorem lits_length {na nd : Nat} {wd : Int} {all dd : List Int} {ss : List SeqD} (hp : PlanOf na nd wd all ss) (hd : dd.length = nd) : ∀ {k : Nat}, k ≤ ss.length → ((litsTo ss dd k).length : Int) = posL (ss.take k) - lenL (ss.take k)
  | 0, _ => by simp [litsTo, posL, lenL]
  | k + 1, hk => by
    have hs := List.getElem?_eq_getElem (l := ss) (i := k) (by omega)
    have ih := lits_length hp hd (k := k) (by omega)
    obtain ⟨h0, c1, c2, c3, -⟩ := hp k _ hs
    rw [litsTo, hs, posL_take_succ hs, List.take_add_one, hs]
    simp only [Option.toList_some, lenL_append, List.length_append, List.length_take, List.length_drop]
    omega
theorem litsR_plan {na nd : Nat} {wd : Int} {all dd : List Int} {ss : List SeqD} (hp : PlanOf na nd wd all ss) (hd : dd.length = nd) (hn : nd ≤ 131072) : (litsR ss dd).2 = 0 ∧ ((litsR ss dd).1.length : Int) = nd - lenL ss := by
  obtain ⟨h1, h2, h3, h4⟩ := hp.size hn
  have hl := lits_length hp hd (Nat.le_refl _)
  rw [List.take_length] at hl
  unfold litsR
  rw [if_pos ⟨by rw [h1], by rw [h1, hd]; exact h4⟩]
  refine ⟨rfl, ?_⟩
  simp only [List.length_append, List.length_drop]
  omega

end Go.Proofs.Ytamhkfnghgbenaa
