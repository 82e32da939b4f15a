/-
  How often a symbol stands in a spread, in plain words. No program in sight.
-/
import Derived.Test.YtkffhfdmdcecaaaSpPlain
namespace Go.Proofs.Ytkffhfdmdcecaaa
open Go.RowKit

/-- The indices at which s stands. -/
def placesOf (l : List Int) (s : Int) : List Int := l.zipIdx.filterMap fun p => if p.1 = s then some (p.2 : Int) else none
theorem placesOf_take {l : List Int} {k : Nat} {x : Int} (s : Int) (h : l[k]? = some x) : placesOf (l.take (k + 1)) s = placesOf (l.take k) s ++ if x = s then [(k : Int)] else [] := by
  unfold placesOf
  rw [take_zipIdx h, List.filterMap_append]
  by_cases hx : x = s <;> simp [hx]
theorem placesOf_len_ : ∀ (n : Nat) (l : List Int) (s : Int), ((l.zipIdx n).filterMap fun p => if p.1 = s then some (p.2 : Int) else none).length = l.count s
  | _, [], _ => rfl
  | n, x :: l, s => by
    have ih := placesOf_len_ (n + 1) l s
    rw [List.zipIdx_cons, List.filterMap_cons, List.count_cons]
    by_cases h : x = s
    · subst h
      simp [ih]
    · simp [h, ih]
theorem placesOf_len (l : List Int) (s : Int) : (placesOf l s).length = l.count s := placesOf_len_ 0 l s
theorem placesOf_take_le (l : List Int) (k : Nat) (s : Int) : (placesOf (l.take k) s).length ≤ l.length := by
  rw [placesOf_len]
  exact Nat.le_trans List.count_le_length (by rw [List.length_take]; omega)

theorem cnt_both : ∀ (n : Nat) (xs : List Int) (s : Nat), (∀ x ∈ xs, -1 ≤ x) →
    ((xs.zipIdx n).flatMap fun p => List.replicate p.1.toNat (p.2 : Int)).count (s : Int) + ((xs.zipIdx n).filterMap fun p => if p.1 = -1 then some (p.2 : Int) else none).count (s : Int) =
      if n ≤ s then (xs.getD (s - n) 0).natAbs else 0
  | n, [], s, _ => by simp
  | n, x :: xs, s, h => by
    have ih := cnt_both (n + 1) xs s fun y hy => h y (by simp [hy])
    have hx := h x (by simp)
    rw [List.zipIdx_cons, List.flatMap_cons, List.filterMap_cons, List.count_append, List.count_replicate]
    by_cases hs : n = s
    · subst hs
      rw [if_neg (by omega)] at ih
      by_cases h1 : x = -1
      · subst h1
        simp only [if_pos]
        rw [List.count_cons]
        simp
        simp at ih
        omega
      · simp only [h1, if_neg, not_false_eq_true]
        simp
        simp at ih
        omega
    · have e : (x :: xs).getD (s - n) 0 = xs.getD (s - (n + 1)) 0 ∨ ¬ n ≤ s := by
        by_cases hl : n ≤ s
        · left
          rw [show s - n = (s - (n + 1)) + 1 by omega, List.getD_cons_succ]
        · exact .inr hl
      have hc : ((n : Int) == (s : Int)) = false := by simp; omega
      by_cases hl : n ≤ s
      · rw [if_pos hl]
        rw [if_pos (by omega)] at ih
        rcases e with e | e
        · rw [e, ← ih]
          by_cases h1 : x = -1
          · subst h1
            simp only [if_pos]
            rw [List.count_cons, hc]
            simp
          · simp only [h1, if_neg, not_false_eq_true, hc]
            simp
        · exact absurd hl e
      · rw [if_neg hl]
        rw [if_neg (by omega)] at ih
        by_cases h1 : x = -1
        · subst h1
          simp only [if_pos]
          rw [List.count_cons, hc]
          simp
          simp at ih
          omega
        · simp only [h1, if_neg, not_false_eq_true, hc]
          simp
          simp at ih
          omega
theorem count_both {xs : List Int} (h : ∀ x ∈ xs, -1 ≤ x) (s : Nat) : (others xs).count (s : Int) + (rares xs).count (s : Int) = (xs.getD s 0).natAbs := by
  have := cnt_both 0 xs s h
  rw [if_pos (Nat.zero_le _), Nat.sub_zero] at this
  exact this

theorem vfree_at_ {m F : Nat} : ∀ {K k : Nat}, k < K → va m k < F → (vfree m F K)[cnt m F k]? = some (va m k)
  | 0, _, h, _ => by omega
  | K + 1, k, h, hf => by
    unfold vfree
    rw [List.range_succ, List.map_append, List.filter_append]
    by_cases e : k = K
    · subst e
      rw [List.getElem?_append_right (by unfold cnt vfree; omega)]
      simp [cnt, vfree, hf]
    · have ih := vfree_at_ (K := K) (k := k) (by omega) hf
      unfold vfree at ih
      rw [List.getElem?_append_left (List.getElem?_eq_some_iff.1 ih).1]
      exact ih
/-- What a free index holds, by its number. -/
theorem IsSpread.perm {m : Nat} {xs l : List Int} (hm : m < 10) (h : IsSpread m xs l) (hall : (rares xs).length + (others xs).length = 2 ^ m) : l.Perm (others xs ++ rares xs) := by
  have hF := freeOf_eq hall
  have hle : freeOf m xs ≤ 2 ^ m := by unfold freeOf; omega
  have h1 : l.drop (freeOf m xs) = (rares xs).reverse := by
    apply List.ext_getElem?
    intro i
    rw [List.getElem?_drop]
    by_cases hi : i < (rares xs).length
    · rw [List.getElem?_reverse hi]
      have := h.rare ((rares xs).length - 1 - i) (by omega)
      rw [← this]
      congr 1
      omega
    · rw [List.getElem?_eq_none (by rw [h.len]; omega), List.getElem?_eq_none (by rw [List.length_reverse]; omega)]
  have hvl : (vfree m (freeOf m xs) (2 ^ m)).length = freeOf m xs := cnt_top hm hle
  have h2 : (vfree m (freeOf m xs) (2 ^ m)).map (fun a => l.getD a 0) = others xs := by
    apply List.ext_getElem?
    intro c
    by_cases hc : c < freeOf m xs
    · have hv := List.getElem?_eq_getElem (l := vfree m (freeOf m xs) (2 ^ m)) (i := c) (by omega)
      obtain ⟨a, ha⟩ : ∃ a, (vfree m (freeOf m xs) (2 ^ m))[c]? = some a := ⟨_, hv⟩
      have hmem := List.mem_of_getElem? ha
      obtain ⟨hm1, hm2⟩ := List.mem_filter.1 hmem
      obtain ⟨k, hk, rfl⟩ := List.mem_map.1 hm1
      have hk' := List.mem_range.1 hk
      have hlt : va m k < freeOf m xs := by simpa using hm2
      have h3 := vfree_at_ (F := freeOf m xs) hk' hlt
      have hcl := cnt_lt hm hk' hlt
      have hn := vfree_nodup (F := freeOf m xs) hm (Nat.le_refl (2 ^ m))
      have hce : cnt m (freeOf m xs) k = c := by
        rw [List.getElem?_eq_getElem (by omega)] at h3 ha
        injection h3 with h3
        injection ha with ha
        rcases Nat.lt_trichotomy (cnt m (freeOf m xs) k) c with h | h | h
        · exact absurd (h3.trans ha.symm) (List.pairwise_iff_getElem.1 (List.nodup_iff_pairwise_ne.1 hn) _ _ _ _ h)
        · exact h
        · exact absurd (ha.trans h3.symm) (List.pairwise_iff_getElem.1 (List.nodup_iff_pairwise_ne.1 hn) _ _ _ _ h)
      have h4 := h.free k hk' hlt
      rw [hce] at h4
      rw [List.getElem?_map, ha, ← h4]
      simp [List.getD, List.getElem?_eq_getElem (l := l) (i := va m k) (by rw [h.len]; omega)]
    · rw [List.getElem?_eq_none (by rw [List.length_map]; omega), List.getElem?_eq_none (by omega)]
  have h3 : (List.range (freeOf m xs)).map (fun a => l.getD a 0) = l.take (freeOf m xs) := by
    apply List.ext_getElem?
    intro i
    rw [List.getElem?_take]
    by_cases hi : i < freeOf m xs
    · rw [if_pos hi, List.getElem?_map, List.getElem?_range hi]
      simp [List.getD, List.getElem?_eq_getElem (l := l) (i := i) (by rw [h.len]; omega)]
    · rw [if_neg hi, List.getElem?_eq_none (by simpa using hi)]
  have hp := (pigeon_perm (vfree_nodup (F := freeOf m xs) hm (Nat.le_refl (2 ^ m))) (fun x hx => vfree_lt hx) hvl).map (fun a => l.getD a 0)
  rw [h2, h3] at hp
  have h4 : l = l.take (freeOf m xs) ++ (rares xs).reverse := by rw [← h1, List.take_append_drop]
  rw [h4]
  exact hp.symm.append (List.reverse_perm _)
/-- Each symbol has as many indices as states. -/
theorem IsSpread.count {m : Nat} {xs l : List Int} (hm : m < 10) (h : IsSpread m xs l) (hall : (rares xs).length + (others xs).length = 2 ^ m) (hge : ∀ x ∈ xs, -1 ≤ x) (s : Nat) :
    l.count (s : Int) = (xs.getD s 0).natAbs := by
  rw [(h.perm hm hall).count_eq, List.count_append, count_both hge]
theorem IsSpread.mem {m : Nat} {xs l : List Int} (hm : m < 10) (h : IsSpread m xs l) (hall : (rares xs).length + (others xs).length = 2 ^ m) {s : Int} (hs : s ∈ l) : ∃ p : Nat, s = p ∧ p < xs.length := by
  have h1 := (h.perm hm hall).mem_iff.1 hs
  rcases List.mem_append.1 h1 with h1 | h1
  · obtain ⟨i, x, e, hx, -⟩ := mem_others.1 h1
    exact ⟨i, e, (List.getElem?_eq_some_iff.1 hx).1⟩
  · obtain ⟨i, e, hx⟩ := mem_rares.1 h1
    exact ⟨i, e, (List.getElem?_eq_some_iff.1 hx).1⟩
/-- The numbers of symbols that stood among the first k. -/
def tally (n : Nat) (l : List Int) : List Int := (List.range n).map fun (s : Nat) => (l.count (s : Int) : Int)
theorem tally_len (n : Nat) (l : List Int) : (tally n l).length = n := by simp [tally]
theorem tally_nil (n : Nat) : tally n [] = List.replicate n 0 := by
  unfold tally
  apply List.ext_getElem
  · simp
  · intro i h1 h2
    simp
theorem tally_at {n s : Nat} (l : List Int) (h : s < n) : (tally n l)[s]? = some (l.count (s : Int) : Int) := by simp [tally, h]
theorem tally_succ {n k s : Nat} {l : List Int} (h : l[k]? = some (s : Int)) : tally n (l.take (k + 1)) = (tally n (l.take k)).set s (((l.take k).count (s : Int) : Int) + 1) := by
  rw [List.take_add_one, h]
  apply List.ext_getElem
  · simp [tally]
  · intro i h1 h2
    rw [List.getElem_set]
    simp only [tally, List.getElem_map, List.getElem_range, List.count_append, Option.toList_some]
    by_cases e : s = i
    · subst e
      simp
    · have e' : ((s : Int) == (i : Int)) = false := by simp; omega
      rw [if_neg e, List.count_cons, e']
      simp
/-- Two tables with one spread have the same numbers of states. -/
theorem IsSpread.alike {m m' : Nat} {xs ys l : List Int} (hm : m < 10) (hm' : m' < 10) (h : IsSpread m xs l) (h' : IsSpread m' ys l) (hall : (rares xs).length + (others xs).length = 2 ^ m) (hall' : (rares ys).length + (others ys).length = 2 ^ m')
    (hge : ∀ x ∈ xs, -1 ≤ x) (hge' : ∀ x ∈ ys, -1 ≤ x) (hl : xs.getLast? ≠ some 0) (hl' : ys.getLast? ≠ some 0) :
    m = m' ∧ xs.length = ys.length ∧ ∀ s : Nat, (xs.getD s 0).natAbs = (ys.getD s 0).natAbs := by
  have hc : ∀ s : Nat, (xs.getD s 0).natAbs = (ys.getD s 0).natAbs := fun s => by rw [← h.count hm hall hge s, ← h'.count hm' hall' hge' s]
  have key : ∀ {us ws : List Int}, us.getLast? ≠ some 0 → (∀ s : Nat, (us.getD s 0).natAbs = (ws.getD s 0).natAbs) → us.length ≤ ws.length := by
    intro us ws h1 h2
    refine Classical.byContradiction fun hn => ?_
    have h3 := h2 (us.length - 1)
    rw [show ws.getD (us.length - 1) 0 = 0 by simp [List.getD, List.getElem?_eq_none (show ws.length ≤ us.length - 1 by omega)]] at h3
    rw [List.getLast?_eq_getElem?, List.getElem?_eq_getElem (by omega)] at h1
    rw [List.getD, List.getElem?_eq_getElem (by omega)] at h3
    simp at h1 h3
    exact h1 h3
  refine ⟨?_, Nat.le_antisymm (key hl hc) (key hl' fun s => (hc s).symm), hc⟩
  have e : 2 ^ m = 2 ^ m' := by rw [← h.len, ← h'.len]
  have key2 : ∀ a b : Nat, a < b → 2 ^ a < 2 ^ b := fun a b hab => Nat.pow_lt_pow_right (by decide) hab
  rcases Nat.lt_trichotomy m m' with h1 | h1 | h1
  · have := key2 _ _ h1; omega
  · exact h1
  · have := key2 _ _ h1; omega
end Go.Proofs.Ytkffhfdmdcecaaa
