/-
  exec: plans and what they yield, in plain lists.
-/
import Derived.Test.YtndgdehlnmheeaaExPl
import Derived.Test.YtndgdehlnmheeaaPlOf
namespace Go.Proofs.Ytndgdehlnmheeaa
set_option linter.all false
set_option maxRecDepth 100000
open Go.RowKit

/-- What has come out, and what is left of the literals, behind k sequences. -/
def runTo (H lits : List Int) (ss : List SeqD) : Nat → List Int × List Int
  | 0 => ([], lits)
  | k + 1 => match ss[k]? with
    | none => runTo H lits ss k
    | some s => ((runTo H lits ss k).1 ++ pieceL (H ++ (runTo H lits ss k).1) (runTo H lits ss k).2 s, (runTo H lits ss k).2.drop s.lit.toNat)
theorem runTo_succ {H lits : List Int} {ss : List SeqD} {k : Nat} {s : SeqD} (h : ss[k]? = some s) :
    runTo H lits ss (k + 1) = ((runTo H lits ss k).1 ++ pieceL (H ++ (runTo H lits ss k).1) (runTo H lits ss k).2 s, (runTo H lits ss k).2.drop s.lit.toNat) := by
  rw [runTo, h]

/-- What is so behind k sequences of a plan that passes the check. -/
structure RunAt (size hv most t : Int) (H lits : List Int) (ss : List SeqD) (k : Nat) : Prop where
  ck : chk size hv most (ss.drop k) k (runTo H lits ss k).2.length (runTo H lits ss k).1.length = (0, t, 0)
  pos : ((runTo H lits ss k).1.length : Int) = posL (ss.take k)
  cont : contentL H lits ss = (runTo H lits ss k).1 ++ contentL (H ++ (runTo H lits ss k).1) (runTo H lits ss k).2 (ss.drop k)

section
variable {size hv most t : Int} {H lits : List Int} {ss : List SeqD} {k : Nat} {s : SeqD}
theorem RunAt.ok (h : RunAt size hv most t H lits ss k) (hs : ss[k]? = some s) : LookD.ok1 ⟨s, k, size, hv, (runTo H lits ss k).2.length, most, (runTo H lits ss k).1.length⟩ ∧ LookD.ok2 ⟨s, k, size, hv, (runTo H lits ss k).2.length, most, (runTo H lits ss k).1.length⟩ := by
  have h1 := h.ck
  rw [drop_cons hs] at h1
  obtain ⟨h2, h3, -⟩ := chk_inv h1
  exact ⟨h2, h3⟩
theorem RunAt.succ (h : RunAt size hv most t H lits ss k) (hs : ss[k]? = some s) : RunAt size hv most t H lits ss (k + 1) := by
  have h1 := h.ck
  rw [drop_cons hs] at h1
  obtain ⟨⟨x1, x2, x3, -⟩, h3, h4⟩ := chk_inv h1
  simp only at x1 x2 x3
  have hl := pieceL_length (C := H ++ (runTo H lits ss k).1) (ls := (runTo H lits ss k).2) (s := s) (by omega)
  refine ⟨?_, ?_, ?_⟩
  · rw [runTo_succ hs]
    simp only [List.length_append, List.length_drop]
    rw [hl]
    have e1 : (((runTo H lits ss k).2.length - s.lit.toNat : Nat) : Int) = (runTo H lits ss k).2.length - s.lit := by omega
    have e2 : (((runTo H lits ss k).1.length + (s.lit.toNat + s.len.toNat) : Nat) : Int) = (runTo H lits ss k).1.length + (s.lit + s.len) := by omega
    rw [e1, e2]
    exact h4
  · rw [runTo_succ hs, posL_take_succ hs, ← h.pos]
    simp only [List.length_append]
    rw [hl]
    omega
  · rw [runTo_succ hs]
    have h5 := h.cont
    rw [drop_cons hs] at h5
    rw [h5]
    unfold contentL
    rw [piecesL, List.flatten_cons]
    simp only [List.append_assoc]
theorem RunAt.all (h : chk size hv most ss 0 lits.length 0 = (0, t, 0)) : ∀ {k : Nat}, k ≤ ss.length → RunAt size hv most t H lits ss k
  | 0, _ => ⟨by simpa [runTo] using h, by simp [runTo, posL], by simp [runTo]⟩
  | k + 1, hk => (RunAt.all h (k := k) (by omega)).succ (List.getElem?_eq_getElem (l := ss) (i := k) (by omega))
end

theorem getD_some {l : List Int} {i : Nat} (h : i < l.length) : l[i]? = some (l.getD i 0) := by
  rw [List.getD_eq_getElem?_getD, List.getElem?_eq_getElem h]; rfl
/-- A copy repeats what lies off before it. -/
theorem copied_step {X : List Int} {off len i : Nat} (ho : 1 ≤ off) (ho2 : off ≤ X.length) (hi : i < len) :
    (X ++ copied (lastN off X) off len)[X.length + i]? = (X ++ copied (lastN off X) off len)[X.length + i - off]? := by
  have hc : ∀ j, j < len → (copied (lastN off X) off len)[j]? = some ((lastN off X).getD (j % off) 0) := fun j hj => by
    unfold copied
    rw [List.getElem?_map, List.getElem?_range hj]
    rfl
  rw [List.getElem?_append_right (by omega), Nat.add_sub_cancel_left, hc i hi]
  rcases Nat.lt_or_ge i off with h | h
  · rw [List.getElem?_append_left (by omega), Nat.mod_eq_of_lt h]
    have hl : i < (lastN off X).length := by rw [lastN_length]; omega
    rw [← getD_some hl, lastN_get]
    congr 1
    omega
  · rw [List.getElem?_append_right (by omega), show X.length + i - off - X.length = i - off by omega, hc (i - off) (by omega)]
    rw [Nat.mod_eq_sub_mod h]

/-- A plan is a plan of the content that it yields. -/
theorem exec_plan {S : Nat} {t : Int} {H lits : List Int} {ss : List SeqD} (hS : H.length ≤ S) (h : chk S H.length 131072 ss 0 lits.length 0 = (0, t, 0)) :
    PlanOf H.length (contentL H lits ss).length S (H ++ contentL H lits ss) ss := by
  intro k s hs
  have hk := (List.getElem?_eq_some_iff.1 hs).1
  have hr := RunAt.all (H := H) h (k := k) (by omega)
  have hr1 := hr.succ hs
  obtain ⟨⟨x1, x2, x3, x4, x5, x6, x7⟩, -⟩ := hr.ok hs
  simp only at x1 x2 x3 x4 x5 x6 x7
  have hp := hr.pos
  have hp1 := hr1.pos
  rw [posL_take_succ hs] at hp1
  have hc1 := hr1.cont
  have hlen := congrArg List.length hc1
  rw [List.length_append] at hlen
  refine ⟨by omega, x1, x3, by omega, x5, by omega, by omega, fun j h1 h2 => ?_⟩
  rw [hc1, runTo_succ hs]
  obtain ⟨O, hO⟩ : ∃ O, (runTo H lits ss k).1 = O := ⟨_, rfl⟩
  obtain ⟨ls, hls⟩ : ∃ ls, (runTo H lits ss k).2 = ls := ⟨_, rfl⟩
  rw [hO] at hp x7 ⊢
  rw [hls] at x2 ⊢
  simp only
  obtain ⟨R, hR⟩ : ∃ R, contentL (H ++ (O ++ pieceL (H ++ O) ls s)) (ls.drop s.lit.toNat) (ss.drop (k + 1)) = R := ⟨_, rfl⟩
  rw [hR]
  have hX : (H ++ O ++ ls.take s.lit.toNat).length = H.length + O.length + s.lit.toNat := by
    rw [List.length_append, List.length_append, List.length_take]; omega
  have hall : H ++ (O ++ pieceL (H ++ O) ls s ++ R) = (H ++ O ++ ls.take s.lit.toNat) ++ copied (lastN s.off.toNat (H ++ O ++ ls.take s.lit.toNat)) s.off.toNat s.len.toNat ++ R := by
    unfold pieceL
    simp only [List.append_assoc]
  rw [hall]
  have hst := copied_step (X := H ++ O ++ ls.take s.lit.toNat) (off := s.off.toNat) (len := s.len.toNat) (i := j - (H.length + O.length + s.lit.toNat)) (by omega) (by rw [hX]; omega) (by omega)
  rw [hX, show H.length + O.length + s.lit.toNat + (j - (H.length + O.length + s.lit.toNat)) = j by omega] at hst
  have hln : ((H ++ O ++ ls.take s.lit.toNat) ++ copied (lastN s.off.toNat (H ++ O ++ ls.take s.lit.toNat)) s.off.toNat s.len.toNat).length = H.length + O.length + s.lit.toNat + s.len.toNat := by
    rw [List.length_append, hX, copied_length]
  obtain ⟨Y, hY⟩ : ∃ Y, (H ++ O ++ ls.take s.lit.toNat) ++ copied (lastN s.off.toNat (H ++ O ++ ls.take s.lit.toNat)) s.off.toNat s.len.toNat = Y := ⟨_, rfl⟩
  rw [hY] at hst hln ⊢
  rw [List.getElem?_append_left (by omega), List.getElem?_append_left (by omega)]
  exact hst

/-- The literals of the content are the given ones. -/
theorem exec_lits {size hv most t : Int} {H lits : List Int} {ss : List SeqD} (h : chk size hv most ss 0 lits.length 0 = (0, t, 0)) :
    ∀ {k : Nat}, k ≤ ss.length → litsTo ss (contentL H lits ss) k ++ (runTo H lits ss k).2 = lits
  | 0, _ => by simp [litsTo, runTo]
  | k + 1, hk => by
    have hs := List.getElem?_eq_getElem (l := ss) (i := k) (by omega)
    obtain ⟨s, hse⟩ : ∃ s, ss[k]'(by omega) = s := ⟨_, rfl⟩
    rw [hse] at hs
    have ih := exec_lits h (H := H) (k := k) (by omega)
    have hr := RunAt.all (H := H) h (k := k) (by omega)
    obtain ⟨⟨x1, x2, -⟩, -⟩ := hr.ok hs
    simp only at x1 x2
    have hp := hr.pos
    have hc1 := (hr.succ hs).cont
    rw [litsTo, hs, runTo_succ hs]
    simp only
    rw [← hp, Int.toNat_natCast]
    have e : ((contentL H lits ss).drop (runTo H lits ss k).1.length).take s.lit.toNat = (runTo H lits ss k).2.take s.lit.toNat := by
      rw [hc1, runTo_succ hs]
      simp only
      rw [List.append_assoc, List.drop_left]
      unfold pieceL
      rw [List.append_assoc, List.take_append_of_le_length (by rw [List.length_take]; omega), List.take_take, Nat.min_self]
    rw [e, List.append_assoc, List.take_append_drop]
    exact ih

theorem exec_back {S : Nat} {a t : Int} {H lits : List Int} {ss : List SeqD} (hS : H.length ≤ S) (hS0 : 1 ≤ S) (hS1 : S ≤ 134217728) (h : chk S H.length 131072 ss 0 lits.length 0 = (a, t, 0)) :
    verR ss H (contentL H lits ss) S = 0 ∧ litsR ss (contentL H lits ss) = (lits, 0) := by
  have hl := content_length (C := H) h
  obtain ⟨h1, h2, rfl⟩ := hl
  have hp := exec_plan hS h
  refine ⟨verR_zero.2 ⟨⟨by omega, by omega, by omega, by omega, by omega⟩, hp⟩, ?_⟩
  obtain ⟨z1, z2, z3, z4⟩ := hp.size (by omega)
  unfold litsR
  rw [z1, if_pos ⟨rfl, z4⟩]
  have hr := RunAt.all (H := H) h (Nat.le_refl _)
  have hlt := exec_lits h (H := H) (Nat.le_refl _)
  have hp := hr.pos
  rw [List.take_length] at hp
  have e : (contentL H lits ss).drop (posL ss).toNat = (runTo H lits ss ss.length).2 := by
    rw [← hp, Int.toNat_natCast]
    have hc := hr.cont
    rw [List.drop_length] at hc
    rw [hc, List.drop_left]
    unfold contentL piecesL
    by_cases h0 : (runTo H lits ss ss.length).2 = []
    · rw [if_pos h0, h0]; rfl
    · rw [if_neg h0]; simp
  rw [e, hlt]
end Go.Proofs.Ytndgdehlnmheeaa
