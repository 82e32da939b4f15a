/-
  plan: a valid plan stays valid in wider limits; what stands ahead of the wrong sequence is valid. A part of a slice of sequences.
-/
import Derived.Test.YtamhkfnghgbenaaPlRefW
import Derived.Test.YtamhkfnghgbenaaPlWorks
namespace Go.Proofs.Ytamhkfnghgbenaa
set_option linter.all false
open Go.RowKit

theorem Good.take {many : Nat} {size hv wd : Int} {ss : List SeqD} {k : Nat} (hk : k ≤ ss.length) (h : Good many size hv wd ss k) : Good many size hv wd (ss.take k) (ss.take k).length := fun i s hi hs => by
  have hik : i < k := by rw [List.length_take] at hi; omega
  rw [List.getElem?_take, if_pos hik] at hs
  have := h i s hik hs
  unfold okAt stepAt at this ⊢
  rw [List.take_take, Nat.min_eq_left (by omega)]
  exact this
theorem whereR_take {ss : List SeqD} {size hv wd : Int} {q : Int} {p : Int} (h : whereR ss size hv wd = (p, q)) (hq : q ≠ 0) (ha : argsOk size hv wd) : ∃ k : Nat, p = k ∧ k < ss.length ∧ whereR (ss.take k) size hv wd = (0, 0) := by
  unfold whereR at h
  rw [if_pos ha] at h
  cases hb : bad 2 size hv wd ss with
  | none =>
    rw [hb] at h
    injection h with h1 h2
    exact absurd h2.symm hq
  | some k =>
    rw [hb] at h
    injection h with h1 h2
    obtain ⟨s, hs, hg, -⟩ := bad_some.1 hb
    have hk := (List.getElem?_eq_some_iff.1 hs).1
    exact ⟨k, h1.symm, hk, whereR_end ha (hg.take (by omega))⟩
theorem whereR_grow {ss : List SeqD} {size hv wd size' hv' wd' : Int} (h : (whereR ss size hv wd).2 = 0) (ha : argsOk size' hv' wd') (h1 : size ≤ size') (h2 : hv ≤ hv') (h3 : wd ≤ wd') : whereR ss size' hv' wd' = (0, 0) := by
  obtain ⟨-, hg⟩ := whereR_good h
  refine whereR_end ha fun i s hi hs => ?_
  obtain ⟨⟨o1, o2, o3, o4⟩, hr⟩ := hg i s hi hs
  obtain ⟨o5, o6, o7⟩ := hr (by omega)
  simp only [stepAt] at o1 o2 o3 o4 o5 o6 o7
  exact ⟨⟨o1, o2, by simp only [stepAt]; omega, by simp only [stepAt]; omega⟩, fun _ => ⟨o5, by simp only [stepAt]; omega, by simp only [stepAt]; omega⟩⟩
theorem whereR_size {ss : List SeqD} {size hv wd : Int} (h : (whereR ss size hv wd).2 = 0) : (whereR ss size hv wd).1 = 0 ∧ ∃ z : Nat, sizeR ss = ((z : Int), 0) ∧ (z : Int) ≤ size := by
  obtain ⟨ha, hg⟩ := whereR_good h
  have h1 := nGood_end (good_one ⟨ha.1, ha.2.2.1⟩ (Nat.le_refl _) hg)
  have hp := Good.pos ha.1 (Nat.le_refl _) hg
  rw [List.take_length] at hp
  refine ⟨by rw [whereR_end ha hg], (posL ss).toNat, ?_, by omega⟩
  rw [h1.2, Int.toNat_of_nonneg hp.1]

/-- The first k of a slice's sequences. -/
theorem Seqs.take {w : World} {A : Option Addr} {n c k : Nat} {ss : List SeqD} (h : Seqs w (.slice A n c) ss) (hk : k ≤ n) : Seqs w (.slice A k c) (ss.take k) := by
  obtain ⟨⟨A', c', he, h1, h2, h3⟩, hw⟩ := h
  injection he with e1 e2 e3
  subst e1 e2 e3
  refine ⟨⟨A, c, by rw [List.length_take, Nat.min_eq_left hk], by rw [List.length_take]; omega, h2, fun h0 => ?_⟩, fun s hs => hw s (List.mem_of_mem_take hs)⟩
  rw [List.length_take] at h0
  obtain ⟨b, off, hA, hx⟩ := h3 (by omega)
  refine ⟨b, off, hA, fun i s hi => ?_⟩
  rw [List.getElem?_take] at hi
  split at hi
  · exact hx i s hi
  · cases hi
end Go.Proofs.Ytamhkfnghgbenaa
