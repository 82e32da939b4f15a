/-
  plan: a plan of some data, cut: both parts are plans of the parts of the data.
-/
import Derived.Test.YtamhkfnghgbenaaPlCutP
import Derived.Test.YtamhkfnghgbenaaPlRefI
import Derived.Test.YtamhkfnghgbenaaPlWorks
import Derived.Test.YtamhkfnghgbenaaPlOf
namespace Go.Proofs.Ytamhkfnghgbenaa
set_option linter.all false
open Go.RowKit

/-- What the cut's lists are, behind k steps. -/
structure CutIs (na at_ nd : Nat) (wd : Int) (all : List Int) (P D : Int) (st : List SeqD × List SeqD × Int) : Prop where
  a : PlanOf na at_ wd all st.1
  apos : 0 ≤ posL st.1 ∧ posL st.1 ≤ at_
  b : PlanOf (na + at_) (nd - at_) wd all st.2.1
  bpos : 0 ≤ posL st.2.1 ∧ 0 ≤ st.2.2 ∧ posL st.2.1 + st.2.2 = max P at_ - at_
  early : P ≤ at_ → posL st.1 = P ∧ st.2.1 = [] ∧ st.2.2 = 0 ∧ lenL st.1 = D
  len : lenL st.1 + lenL st.2.1 ≤ D ∧ D ≤ lenL st.1 + lenL st.2.1 + 4
theorem CutIs.start (na at_ nd : Nat) (wd : Int) (all : List Int) : CutIs na at_ nd wd all 0 0 ([], [], 0) :=
  ⟨PlanOf.nil _ _ _ _, by simp [posL], PlanOf.nil _ _ _ _, by simp only [posL]; omega, fun _ => by simp [posL, lenL], by simp [lenL]⟩

theorem CutIs.step {na at_ nd : Nat} {wd : Int} {all : List Int} {P D : Int} {st : List SeqD × List SeqD × Int} {s : SeqD} (h : CutIs na at_ nd wd all P D st) (hP : 0 ≤ P) (hat : at_ ≤ nd) (hc : Cond na nd wd all P s) : CutIs na at_ nd wd all (P + s.lit + s.len) (D + s.len) (cutStep at_ P s st) := by
  obtain ⟨aa, bb, cy⟩ := st
  obtain ⟨ha, hap, hb, hbp, he, hl⟩ := h
  obtain ⟨c1, c2, c3, c4, c5, c6, c7⟩ := hc
  simp only at ha hap hb hbp he hl
  unfold cutStep
  simp only
  split
  · next h1 =>
    obtain ⟨e1, e2, e3, e4⟩ := he (by omega)
    subst e2 e3
    refine ⟨ha.snoc hap.1 ?_, ?_, hb, ?_, fun _ => ?_, ?_⟩
    · rw [e1]; exact ⟨c1, c2, h1, c4, c5, c6, c7⟩
    · simp only [posL_append]; omega
    · simp only at hbp ⊢; simp only [posL] at hbp ⊢; omega
    · simp only [posL_append, lenL_append]; exact ⟨by omega, trivial, trivial, by omega⟩
    · simp only [lenL_append, lenL] at hl ⊢; omega
  · next h1 =>
    split
    · next h2 =>
      have e : ((na + at_ : Nat) : Int) + posL bb + (cy + (P + s.lit) - max P at_) = na + P + s.lit := by push_cast; omega
      refine ⟨ha, hap, hb.snoc hbp.1 ⟨by simp only; omega, c2, by simp only; omega, c4, c5, by simp only; push_cast; omega, fun j h3 h4 => ?_⟩, ?_, fun h3 => by omega, ?_⟩
      · simp only at h3 h4
        rw [e] at h3 h4
        exact c7 j h3 h4
      · simp only [posL_append]; omega
      · simp only [lenL_append]; omega
    · next h2 =>
      obtain ⟨e1, e2, e3, e4⟩ := he (by omega)
      subst e2 e3
      have hA : ∀ x, x = (if 3 ≤ (at_ : Int) - (P + s.lit) then aa ++ [⟨s.lit, at_ - (P + s.lit), s.off⟩] else aa) → PlanOf na at_ wd all x ∧ (0 ≤ posL x ∧ posL x ≤ at_) ∧ (lenL x ≤ lenL aa + ((at_ : Int) - (P + s.lit)) ∧ lenL aa + ((at_ : Int) - (P + s.lit)) ≤ lenL x + 2) := by
        rintro x rfl
        split
        · next h3 =>
          refine ⟨ha.snoc hap.1 ⟨c1, h3, by simp only; omega, c4, c5, by simp only; omega, fun j h4 h5 => ?_⟩, by simp only [posL_append]; omega, by simp only [lenL_append]; omega⟩
          simp only at h4 h5
          rw [e1] at h4 h5
          exact c7 j h4 (by omega)
        · exact ⟨ha, hap, by omega⟩
      have hB : ∀ x : List SeqD × Int, x = (if 3 ≤ P + s.lit + s.len - at_ then (([] : List SeqD) ++ [⟨0, P + s.lit + s.len - at_, s.off⟩], 0) else ([], P + s.lit + s.len - at_)) → PlanOf (na + at_) (nd - at_) wd all x.1 ∧ (0 ≤ posL x.1 ∧ 0 ≤ x.2 ∧ posL x.1 + x.2 = P + s.lit + s.len - at_) ∧ (lenL x.1 ≤ P + s.lit + s.len - at_ ∧ P + s.lit + s.len - at_ ≤ lenL x.1 + 2) := by
        rintro x rfl
        split
        · next h3 =>
          refine ⟨(PlanOf.nil _ _ _ _).snoc (by simp [posL]) ⟨by simp only; omega, h3, by simp only [posL]; omega, c4, c5, by simp only [posL]; push_cast; omega, fun j h4 h5 => ?_⟩, by simp only [posL_append, posL]; omega, by simp only [lenL_append, lenL]; omega⟩
          simp only [posL] at h4 h5
          push_cast at h4 h5
          exact c7 j (by omega) (by omega)
        · exact ⟨PlanOf.nil _ _ _ _, by simp only [posL]; omega, by simp only [lenL]; omega⟩
      obtain ⟨a1, a2, a3⟩ := hA _ rfl
      obtain ⟨b1, b2, b3⟩ := hB _ rfl
      refine ⟨a1, a2, b1, ⟨b2.1, b2.2.1, by rw [b2.2.2]; omega⟩, fun h3 => by omega, ?_⟩
      simp only
      simp only [lenL] at hl
      omega

theorem cut_is {na nd at_ : Nat} {wd : Int} {all : List Int} {ss : List SeqD} (hp : PlanOf na nd wd all ss) (hat : at_ ≤ nd) : ∀ {k : Nat}, k ≤ ss.length → CutIs na at_ nd wd all (posL (ss.take k)) (lenL (ss.take k)) (cutTo ss at_ k)
  | 0, _ => by simp only [List.take_zero, posL, lenL, cutTo]; exact CutIs.start _ _ _ _ _
  | k + 1, hk => by
    have hs := List.getElem?_eq_getElem (l := ss) (i := k) (by omega)
    have ih := cut_is hp hat (k := k) (by omega)
    obtain ⟨h0, hc⟩ := hp k _ hs
    rw [cutTo_succ hs, posL_take_succ hs, List.take_add_one, hs]
    simp only [Option.toList_some, lenL_append]
    exact ih.step h0 hat hc

theorem PlanOf.congr {na nd : Nat} {wd : Int} {all all' : List Int} {l : List SeqD} (h : PlanOf na nd wd all l) (he : ∀ j : Nat, j < na + nd → all[j]? = all'[j]?) : PlanOf na nd wd all' l := fun k s hs => by
  obtain ⟨h0, c1, c2, c3, c4, c5, c6, c7⟩ := h k s hs
  refine ⟨h0, c1, c2, c3, c4, c5, c6, fun j h1 h2 => ?_⟩
  rw [← he j (by omega), ← he (j - s.off.toNat) (by omega)]
  exact c7 j h1 h2

/-- The stage's theorem. -/
theorem cut_holds {ss : List SeqD} {aa dd : List Int} {wd : Int} {at_ : Nat} (h : verR ss aa dd wd = 0) (hd : dd.length ≤ 300) (hna : aa.length ≤ 300) (hat : (at_ : Int) ≤ posL ss) :
    verR (cutTo ss at_ ss.length).1 aa (dd.take at_) wd = 0 ∧ verR (cutTo ss at_ ss.length).2.1 (aa ++ dd.take at_) (dd.drop at_) wd = 0 ∧
    (litsR (cutTo ss at_ ss.length).1 (dd.take at_)).2 = 0 ∧ (litsR (cutTo ss at_ ss.length).2.1 (dd.drop at_)).2 = 0 ∧ (litsR ss dd).2 = 0 ∧
    (litsR ss dd).1.length ≤ (litsR (cutTo ss at_ ss.length).1 (dd.take at_)).1.length + (litsR (cutTo ss at_ ss.length).2.1 (dd.drop at_)).1.length ∧
    (litsR (cutTo ss at_ ss.length).1 (dd.take at_)).1.length + (litsR (cutTo ss at_ ss.length).2.1 (dd.drop at_)).1.length ≤ (litsR ss dd).1.length + 4 ∧
    (∀ s ∈ (cutTo ss at_ ss.length).1, s.Wf) ∧ (∀ s ∈ (cutTo ss at_ ss.length).2.1, s.Wf) := by
  obtain ⟨hargs, hp⟩ := verR_zero.1 h
  obtain ⟨z1, z2, z3, z4⟩ := hp.size (by omega)
  have hle : at_ ≤ dd.length := by omega
  have hc := cut_is hp hle (Nat.le_refl _)
  rw [List.take_length] at hc
  obtain ⟨⟨aL, bL, cy⟩, hcut⟩ : ∃ x, cutTo ss at_ ss.length = x := ⟨_, rfl⟩
  rw [hcut] at hc ⊢
  obtain ⟨ha, hap, hb, hbp, -, hl⟩ := hc
  simp only at ha hap hb hbp hl ⊢
  have ht : (dd.take at_).length = at_ := by rw [List.length_take]; omega
  have hdr : (dd.drop at_).length = dd.length - at_ := by rw [List.length_drop]
  have hla : (aa ++ dd.take at_).length = aa.length + at_ := by rw [List.length_append, ht]
  have ha2 : PlanOf aa.length at_ wd (aa ++ dd.take at_) aL := ha.congr fun j hj => by
    rcases Nat.lt_or_ge j aa.length with h1 | h1
    · rw [List.getElem?_append_left h1, List.getElem?_append_left h1]
    · rw [List.getElem?_append_right h1, List.getElem?_append_right h1, List.getElem?_take, if_pos (by omega)]
  have hb2 : PlanOf (aa.length + at_) (dd.length - at_) wd ((aa ++ dd.take at_) ++ dd.drop at_) bL := by rw [List.append_assoc, List.take_append_drop]; exact hb
  obtain ⟨g1, g2, g3, g4, g5⟩ := hargs
  have l1 := litsR_plan ha2 ht (by omega)
  have l2 := litsR_plan hb2 hdr (by omega)
  have l3 := litsR_plan hp rfl (by omega)
  have hwf : ∀ {na' nd' : Nat} {all' : List Int} {l : List SeqD}, nd' ≤ 300 → PlanOf na' nd' wd all' l → ∀ s ∈ l, s.Wf := by
    intro na' nd' all' l hn hpl s hs
    obtain ⟨k, hk⟩ := List.getElem?_of_mem hs
    obtain ⟨h0, c1, c2, c3, c4, c5, c6, -⟩ := hpl k s hk
    exact ⟨⟨by omega, by omega⟩, ⟨by omega, by omega⟩, by omega, by omega⟩
  refine ⟨verR_zero.2 ⟨⟨by omega, g2, by omega, g4, g5⟩, by rw [ht]; exact ha2⟩, verR_zero.2 ⟨⟨by omega, by omega, by omega, g4, g5⟩, by rw [hla, hdr]; exact hb2⟩, l1.1, l2.1, l3.1, by omega, by omega, hwf (by omega) ha2, hwf (by omega) hb2⟩
end Go.Proofs.Ytamhkfnghgbenaa
