/-
  The reference of spread: Of.
-/
import Derived.Test.YtkffhfdmdcecaaaSpread
import Derived.Test.YtkffhfdmdcecaaaNormRef
namespace Go.Proofs.Ytkffhfdmdcecaaa
open Go.RowKit

def olist (N : Nat) (mf : Nat → Option Int) : List Int := (List.range N).map fun a => (mf a).getD (-1)
theorem olist_len (N : Nat) (mf : Nat → Option Int) : (olist N mf).length = N := by simp [olist]
theorem olist_at {N a : Nat} (mf : Nat → Option Int) (h : a < N) : (olist N mf)[a]? = some ((mf a).getD (-1)) := by simp [olist, h]
theorem olist_set {N a : Nat} (mf : Nat → Option Int) (v : Int) : (olist N mf).set a v = olist N (upd mf a v) := by
  apply List.ext_getElem
  · simp [olist]
  · intro i h1 h2
    rw [List.getElem_set]
    by_cases e : a = i
    · subst e; simp [olist, upd]
    · have e' : ¬ i = a := fun h => e h.symm
      simp [olist, upd, e, e']
theorem SpMap.nonneg {N : Nat} {xs : List Int} {pre : List Nat} {mf : Nat → Option Int} {a : Nat} {s : Int} (h : SpMap N xs pre mf) (ha : a < N) (hs : mf a = some s) : 0 ≤ s := by
  by_cases h1 : a < N - (rares xs).length
  · by_cases h2 : a ∈ ks (N - (rares xs).length) pre
    · obtain ⟨i, hi⟩ := List.getElem?_of_mem h2
      have h3 := h.2.1 i a hi
      rw [hs] at h3
      obtain ⟨p, x, rfl, -, -⟩ := mem_others.1 (List.mem_of_getElem? h3.symm)
      omega
    · rw [h.2.2 a h1 h2] at hs; cases hs
  · have h3 := h.1 (N - 1 - a) (by omega)
    rw [show N - 1 - (N - 1 - a) = a by omega, hs] at h3
    obtain ⟨p, rfl, -⟩ := mem_rares.1 (List.mem_of_getElem? h3.symm)
    omega
theorem SpMap.visited {N : Nat} {xs : List Int} {pre : List Nat} {mf : Nat → Option Int} {a : Nat} (h : SpMap N xs pre mf) (hall : (rares xs).length + (others xs).length = N) (ha : a < N) (hm : a ∈ pre) : (mf a).isSome = true := by
  cases hs : mf a with
  | some s => rfl
  | none =>
    obtain ⟨h1, h2⟩ := h.free hall ha hs
    exact absurd ((ks_facts _ pre).2.2 a hm h1) h2
theorem ks_range {m F q : Nat} (hm : m < 10) (hq : q ≤ 2 ^ m) : ks F ((List.range q).map (va m)) = vfree m F q := by
  rw [ks_filter]
  · rfl
  · rw [List.nodup_iff_pairwise_ne, List.pairwise_map]
    refine List.Pairwise.imp_of_mem ?_ (List.nodup_iff_pairwise_ne.1 (List.nodup_range (n := q)))
    intro a b ha hb hne he
    exact hne (va_inj hm (by have := List.mem_range.1 ha; omega) (by have := List.mem_range.1 hb; omega) he)
theorem others_at {xs : List Int} {k X j : Nat} (h : xs[k]? = some (X : Int)) (hj : j < X) : (others xs)[(others (xs.take k)).length + j]? = some (k : Int) := by
  have e : others xs = others (xs.take (k + 1) ++ xs.drop (k + 1)) := by rw [List.take_append_drop]
  have e2 : ∃ rest, others (xs.take (k + 1) ++ xs.drop (k + 1)) = others (xs.take (k + 1)) ++ rest := by
    unfold others
    rw [List.zipIdx_append, List.flatMap_append]
    exact ⟨_, rfl⟩
  obtain ⟨rest, e2⟩ := e2
  rw [e, e2, others_take h, List.append_assoc, List.getElem?_append_right (by omega), Nat.add_sub_cancel_left, List.getElem?_append_left (by simpa using hj)]
  simp [hj]

/-- Between two placings: q indices have been visited, the walker stands at the q'-th. -/
structure OfSt (m N c q q' : Nat) (xs : List Int) (mf : Nat → Option Int) : Prop where
  sp : SpMap N xs ((List.range q).map (va m)) mf
  at_ : q = q' ∨ q = q' + 1
  le : q ≤ N
  cnt : cnt m (N - (rares xs).length) q = c
theorem OfSt.start {m N : Nat} {xs : List Int} {mf : Nat → Option Int} (h : RareMap N (rares xs) mf) : OfSt m N 0 0 0 xs mf := ⟨SpMap.start h, .inl rfl, Nat.zero_le _, rfl⟩
theorem OfSt.lt {m N c q q' : Nat} {xs : List Int} {mf : Nat → Option Int} (h : OfSt m N c q q' xs mf) (hm : m < 10) (hN : 2 ^ m = N) (hall : (rares xs).length + (others xs).length = N) (hc : c < (others xs).length) : q < N := by
  have h1 := h.le
  have h2 := h.cnt
  rcases Nat.lt_or_ge q N with h3 | h3
  · exact h3
  · obtain rfl : q = N := by omega
    subst hN
    rw [cnt_top hm (by omega)] at h2
    omega
theorem OfSt.step {m N c q q' : Nat} {xs : List Int} {mf : Nat → Option Int} (h : OfSt m N c q q' xs mf) (hm : m < 10) (hN : 2 ^ m = N) (hall : (rares xs).length + (others xs).length = N) (hc : c < (others xs).length) (hs : (mf (va m q')).isSome = true) :
    q' < N ∧ ∃ q2, OfSt m N c q2 (q' + 1) xs mf := by
  have hq := h.lt hm hN hall hc
  rcases h.at_ with rfl | rfl
  · refine ⟨hq, q + 1, ?_⟩
    have h1 := h.sp.skip hs
    refine ⟨by rw [List.range_succ, List.map_append]; exact h1, .inl rfl, hq, ?_⟩
    rw [cnt_succ, if_neg, Nat.add_zero, h.cnt]
    intro hF
    have h2 := h.sp.2.2 (va m q) hF (fun hmem => by
      have h3 := ((ks_facts _ _).2.1 _ hmem).2
      obtain ⟨j, hj, e⟩ := List.mem_map.1 h3
      have hj' := List.mem_range.1 hj
      have := va_inj hm (by omega) (by omega) e
      omega)
    rw [h2] at hs; cases hs
  · exact ⟨by omega, q' + 1, ⟨h.sp, .inl rfl, h.le, h.cnt⟩⟩
theorem OfSt.put {m N c q q' : Nat} {xs : List Int} {mf : Nat → Option Int} {s : Int} (h : OfSt m N c q q' xs mf) (hm : m < 10) (hN : 2 ^ m = N) (hall : (rares xs).length + (others xs).length = N) (hc : (others xs)[c]? = some s) (hs : mf (va m q') = none) :
    OfSt m N (c + 1) (q' + 1) q' xs (upd mf (va m q') s) := by
  have hcl := (List.getElem?_eq_some_iff.1 hc).1
  have hq := h.lt hm hN hall hcl
  have hv : va m q' < N := by rw [← hN]; exact va_lt m q'
  rcases h.at_ with rfl | rfl
  · obtain ⟨h1, h2⟩ := h.sp.free hall hv hs
    have h3 : (ks (N - (rares xs).length) ((List.range q).map (va m))).length = c := by rw [ks_range hm (by omega)]; exact h.cnt
    refine ⟨?_, .inr rfl, hq, by rw [cnt_succ, if_pos h1, h.cnt]⟩
    rw [List.range_succ, List.map_append]
    exact h.sp.put h1 h2 (by rw [h3]; exact hc)
  · have := h.sp.visited hall hv (List.mem_map.2 ⟨q', by simp, rfl⟩)
    rw [hs] at this; cases this
theorem OfSt.done {m N q q' : Nat} {xs : List Int} {mf : Nat → Option Int} (h : OfSt m N (others xs).length q q' xs mf) (hm : m < 10) (hN : 2 ^ m = N) (hall : (rares xs).length + (others xs).length = N) : IsSpread m xs (olist N mf) := by
  subst hN
  have hF : freeOf m xs = (others xs).length := freeOf_eq hall
  have hF2 : 2 ^ m - (rares xs).length = freeOf m xs := rfl
  have hsp := h.sp
  have hcnt := h.cnt
  rw [SpMap, ks_range hm h.le, hF2] at hsp
  rw [hF2, hF] at hcnt
  refine ⟨olist_len _ _, fun j hj => ?_, fun k hk hf => ?_⟩
  · rw [olist_at _ (by have := pow_pos2 m; omega), hsp.1 j hj, List.getElem?_eq_getElem hj]; rfl
  · rw [olist_at _ (va_lt m k)]
    have hkq : k < q := by
      refine Classical.byContradiction fun hn => ?_
      have h1 := cnt_strict (m := m) (F := (others xs).length) (j := k) (k := 2 ^ m) (by rw [← hF]; exact hf) hk
      have h2 := cnt_mono m (others xs).length (show q ≤ k by omega)
      rw [cnt_top hm (by omega)] at h1
      omega
    have h1 := hsp.2.1 _ _ (vfree_at hkq hf)
    have h2 := cnt_lt hm hk hf
    rw [h1, List.getElem?_eq_getElem (by omega)]; rfl
theorem rares_at {xs : List Int} {k : Nat} (h : xs[k]? = some (-1)) : (rares xs)[(rares (xs.take k)).length]? = some (k : Int) := by
  have e : rares xs = rares (xs.take (k + 1) ++ xs.drop (k + 1)) := by rw [List.take_append_drop]
  have e2 : ∃ rest, rares (xs.take (k + 1) ++ xs.drop (k + 1)) = rares (xs.take (k + 1)) ++ rest := by
    unfold rares
    rw [List.zipIdx_append, List.filterMap_append]
    exact ⟨_, rfl⟩
  obtain ⟨rest, e2⟩ := e2
  rw [e, e2, rares_take h, if_pos rfl, List.append_assoc, List.getElem?_append_right (Nat.le_refl _)]
  simp
end Go.Proofs.Ytkffhfdmdcecaaa
