/-
  exec: a plan executed in two parts.
-/
import Derived.Test.YtndgdehlnmheeaaExLaw
namespace Go.Proofs.Ytndgdehlnmheeaa
set_option linter.all false
set_option maxRecDepth 100000
open Go.RowKit

theorem chk_lep {size hv most a t : Int} {ss : List SeqD} {i : Nat} {ls : List Int} {P : Int} (h : chk size hv most ss i ls.length P = (a, t, 0)) : P ≤ t ∧ t ≤ most ∧ P + ls.length ≤ t := by
  induction ss generalizing i ls P with
  | nil =>
    rw [chk] at h
    split at h
    · simp at h
    · simp at h; omega
  | cons s r ih =>
    obtain ⟨h1, h2, h3⟩ := chk_inv h
    obtain ⟨x1, x2, x3, -⟩ := h1
    simp only at x1 x2 x3
    have e : ((ls.drop s.lit.toNat).length : Int) = ls.length - s.lit := by rw [List.length_drop]; omega
    rw [← e] at h3
    have := ih h3
    omega

/-- How many literals the first k sequences take. -/
def litSum (ss : List SeqD) : Nat → Int
  | 0 => 0
  | k + 1 => litSum ss k + (match ss[k]? with
    | none => 0
    | some s => s.lit)
theorem litSum_succ {ss : List SeqD} {k : Nat} {s : SeqD} (h : ss[k]? = some s) : litSum ss (k + 1) = litSum ss k + s.lit := by rw [litSum, h]

section
variable {size hv most t : Int} {H lits : List Int} {ss : List SeqD}
theorem litSum_run (h : chk size hv most ss 0 lits.length 0 = (0, t, 0)) : ∀ {k : Nat}, k ≤ ss.length → 0 ≤ litSum ss k ∧ litSum ss k ≤ lits.length ∧ (runTo H lits ss k).2 = lits.drop (litSum ss k).toNat
  | 0, _ => by simp [litSum, runTo]
  | k + 1, hk => by
    have hs := List.getElem?_eq_getElem (l := ss) (i := k) (by omega)
    obtain ⟨i1, i2, i3⟩ := litSum_run h (k := k) (by omega)
    have hr := RunAt.all (H := H) h (k := k) (by omega)
    obtain ⟨⟨x1, x2, -⟩, -⟩ := hr.ok hs
    simp only at x1 x2
    rw [i3, List.length_drop] at x2
    rw [litSum_succ hs, runTo_succ hs]
    simp only
    rw [i3, List.drop_drop]
    refine ⟨by omega, by omega, ?_⟩
    congr 1
    omega
theorem litSum_mono (h : chk size hv most ss 0 lits.length 0 = (0, t, 0)) {k m : Nat} (hk : k ≤ m) (hm : m ≤ ss.length) : litSum ss k ≤ litSum ss m := by
  induction m with
  | zero => obtain rfl : k = 0 := by omega
            exact Int.le_refl _
  | succ m ih =>
    rcases Nat.lt_or_ge m k with h1 | h1
    · obtain rfl : k = m + 1 := by omega
      exact Int.le_refl _
    · have hs := List.getElem?_eq_getElem (l := ss) (i := m) (by omega)
      have hr := RunAt.all (H := []) h (k := m) (by omega)
      obtain ⟨⟨x1, -⟩, -⟩ := hr.ok hs
      simp only at x1
      have := ih h1 (by omega)
      rw [litSum_succ hs]
      omega

/-- The first part: what it does behind k of its sequences. -/
theorem part_run (h : chk size hv most ss 0 lits.length 0 = (0, t, 0)) {m n : Nat} (hm : m ≤ ss.length) (hn : litSum ss m = n) : ∀ {k : Nat}, k ≤ m →
    (runTo H (lits.take n) (ss.take m) k).1 = (runTo H lits ss k).1 ∧ (runTo H (lits.take n) (ss.take m) k).2 = (lits.take n).drop (litSum ss k).toNat ∧
    chk size hv most (ss.take m) 0 n 0 = chk size hv most ((ss.take m).drop k) k (n - litSum ss k) (runTo H lits ss k).1.length
  | 0, _ => by simp [runTo, litSum]
  | k + 1, hk => by
    have hs := List.getElem?_eq_getElem (l := ss) (i := k) (by omega)
    obtain ⟨s, hse⟩ : ∃ s, ss[k]'(by omega) = s := ⟨_, rfl⟩
    rw [hse] at hs
    have hs2 : (ss.take m)[k]? = some s := by rw [List.getElem?_take, if_pos (by omega)]; exact hs
    obtain ⟨i1, i2, i3⟩ := part_run h hm hn (k := k) (by omega)
    obtain ⟨l1, l2, l3⟩ := litSum_run h (H := H) (k := k) (by omega)
    have hmo := litSum_mono h (k := k + 1) (m := m) (by omega) hm
    rw [litSum_succ hs, hn] at hmo
    have hnl := (litSum_run h (H := H) hm).2.1
    rw [hn] at hnl
    have hr := RunAt.all (H := H) h (k := k) (by omega)
    obtain ⟨⟨x1, x2, x3, x4, x5, x6, x7⟩, y1, y2⟩ := hr.ok hs
    simp only at x1 x2 x3 x4 x5 x6 x7 y1 y2
    have hpl := pieceL_length (C := H ++ (runTo H lits ss k).1) (ls := (runTo H lits ss k).2) (s := s) (by omega)
    have htk : ((lits.take n).drop (litSum ss k).toNat).take s.lit.toNat = (runTo H lits ss k).2.take s.lit.toNat := by
      rw [l3, List.drop_take, List.take_take]
      congr 1
      omega
    have hp : pieceL (H ++ (runTo H lits ss k).1) ((lits.take n).drop (litSum ss k).toNat) s = pieceL (H ++ (runTo H lits ss k).1) (runTo H lits ss k).2 s := by
      unfold pieceL; rw [htk]
    refine ⟨?_, ?_, ?_⟩
    · rw [runTo_succ hs2, runTo_succ hs, i1, i2, hp]
    · rw [runTo_succ hs2, i2, litSum_succ hs]
      simp only
      rw [List.drop_drop]
      congr 1
      omega
    · rw [i3, chk_succ hs2 (⟨x1, by simp only; omega, x3, x4, x5, x6, x7⟩ : LookD.ok1 ⟨s, k, size, hv, n - litSum ss k, most, _⟩) (⟨y1, y2⟩ : LookD.ok2 ⟨s, k, size, hv, n - litSum ss k, most, _⟩), litSum_succ hs, runTo_succ hs]
      simp only [List.length_append]
      rw [hpl]
      have e1 : (n : Int) - litSum ss k - s.lit = n - (litSum ss k + s.lit) := by omega
      have e2 : (((runTo H lits ss k).1.length + (s.lit.toNat + s.len.toNat) : Nat) : Int) = (runTo H lits ss k).1.length + (s.lit + s.len) := by omega
      rw [e1, e2]

theorem chk_shift {hv' D : Int} (hh : hv' = size ∨ hv + D ≤ hv') : ∀ {r : List SeqD} {i j : Nat} {L P : Int}, 0 ≤ P → chk size hv most r i L (P + D) = (0, t, 0) → chk size hv' (most - D) r j L P = (0, t - D, 0)
  | [], i, j, L, P, h0, h => by
    rw [chk] at h ⊢
    split at h
    · simp at h
    · next h1 =>
      have h2 : ¬ most - D - P < L := by omega
      rw [if_neg h2]
      simp at h ⊢
      omega
  | s :: r, i, j, L, P, h0, h => by
    obtain ⟨⟨x1, x2, x3, x4, x5, x6, x7⟩, ⟨y1, y2⟩, h3⟩ := chk_inv h
    simp only at x1 x2 x3 x4 x5 x6 x7 y1 y2
    have o1 : LookD.ok1 ⟨s, j, size, hv', L, most - D, P⟩ := ⟨x1, x2, x3, x4, x5, x6, by simp only; omega⟩
    have o2 : LookD.ok2 ⟨s, j, size, hv', L, most - D, P⟩ := ⟨by simp only; omega, by simp only; omega⟩
    rw [chk, if_pos o1, if_pos o2]
    refine chk_shift hh (r := r) (i := i + 1) (by omega) ?_
    rw [show P + (s.lit + s.len) + D = P + D + (s.lit + s.len) by omega]
    exact h3
end

/-- Executing a plan in two parts. -/
theorem exec_parts {S : Nat} {t : Int} {H lits : List Int} {ss : List SeqD} {m : Nat} (hS1 : 1 ≤ S) (hS2 : S ≤ 134217728) (hm : m ≤ ss.length) (h : chk S (min S H.length : Nat) 131072 ss 0 lits.length 0 = (0, t, 0)) :
    ∃ (n : Nat) (t1 t2 : Int), litSum ss m = n ∧ n ≤ lits.length ∧ chkR S (min S H.length : Nat) (lits.take n).length 131072 (ss.take m) = (0, t1, 0) ∧ (contentL H (lits.take n) (ss.take m)).length ≤ 131072 ∧
      chkR S (min S (H ++ contentL H (lits.take n) (ss.take m)).length : Nat) (lits.drop n).length (131072 - (contentL H (lits.take n) (ss.take m)).length) (ss.drop m) = (0, t2, 0) ∧
      contentL H lits ss = contentL H (lits.take n) (ss.take m) ++ contentL (H ++ contentL H (lits.take n) (ss.take m)) (lits.drop n) (ss.drop m) := by
  obtain ⟨l1, l2, l3⟩ := litSum_run h (H := H) hm
  obtain ⟨n, hn⟩ := Int.eq_ofNat_of_zero_le l1
  rw [hn] at l2 l3
  rw [Int.toNat_natCast] at l3
  have hr := RunAt.all (H := H) h hm
  have hc := hr.cont
  have hle := chk_lep (ls := (runTo H lits ss m).2) hr.ck
  obtain ⟨p1, p2, p3⟩ := part_run h hm hn (H := H) (Nat.le_refl _)
  have hdm : (ss.take m).drop m = [] := List.drop_of_length_le (by rw [List.length_take]; omega)
  have hln : (lits.take n).length = n := by rw [List.length_take]; omega
  rw [hdm, hn, show ((n : Int) - n) = 0 by omega, chk, if_neg (by omega), Int.add_zero] at p3
  have h1 : chk S (min S H.length : Nat) 131072 (ss.take m) 0 (lits.take n).length 0 = (0, ((runTo H lits ss m).1.length : Int), 0) := by rw [hln]; exact p3
  have hr1 := RunAt.all (H := H) h1 (k := m) (by rw [List.length_take]; omega)
  have hc1 := hr1.cont
  rw [hdm, p1, p2, hn, Int.toNat_natCast, List.drop_of_length_le (by rw [hln]; exact Nat.le_refl _)] at hc1
  have hc2 : contentL H (lits.take n) (ss.take m) = (runTo H lits ss m).1 := by
    rw [hc1]
    simp [contentL, piecesL]
  refine ⟨n, ((runTo H lits ss m).1.length : Int), t - (runTo H lits ss m).1.length, hn, by omega, ?_, ?_, ?_, ?_⟩
  · unfold chkR
    rw [if_pos ⟨by omega, by omega, by omega, by omega, by omega, by omega⟩, show min (((min S H.length : Nat)) : Int) (S : Int) = ((min S H.length : Nat) : Int) by omega]
    exact h1
  · rw [hc2]; omega
  · rw [hc2]
    unfold chkR
    rw [if_pos ⟨by omega, by omega, by omega, by omega, by omega, by omega⟩, show min (((min S (H ++ (runTo H lits ss m).1).length : Nat)) : Int) (S : Int) = ((min S (H ++ (runTo H lits ss m).1).length : Nat) : Int) by omega]
    refine chk_shift (hv := (min S H.length : Nat)) (i := m) (by rw [List.length_append]; omega) (by omega) ?_
    have h5 := hr.ck
    rw [l3] at h5
    rw [Int.zero_add]
    exact h5
  · rw [hc2, ← l3]
    exact hc
end Go.Proofs.Ytndgdehlnmheeaa
