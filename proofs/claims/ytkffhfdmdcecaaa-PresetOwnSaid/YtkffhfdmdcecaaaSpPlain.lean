/-
  The spread in plain words: the visiting order, the rare and the other symbols, what a spread is. No program in sight.
-/
import Derived.Test.YtkffhfdmdcecaaaNormCheck
namespace Go.Proofs.Ytkffhfdmdcecaaa
open Go.RowKit

/-- The step for a size. -/
def stepOf (s : Nat) : Nat := if min s 512 < 16 then 1 else min s 512 / 2 + min s 512 / 8 + 3
/-- The k-th visited index of 2 ^ m. -/
def va (m k : Nat) : Nat := k * stepOf (2 ^ m) % 2 ^ m
def qinv : Nat → Nat
  | 4 => 5 | 5 => 7 | 6 => 3 | 7 => 91 | 8 => 11 | 9 => 363 | _ => 1
theorem step_qinv : ∀ m : Fin 10, stepOf (2 ^ m.1) * qinv m.1 % 2 ^ m.1 = 1 % 2 ^ m.1 := by decide
theorem step_le : ∀ m : Fin 10, 1 ≤ stepOf (2 ^ m.1) ∧ stepOf (2 ^ m.1) ≤ 323 ∧ 2 ^ m.1 ≤ 512 := by decide
theorem mod_mul_inv {N p q : Nat} (h : p * q % N = 1 % N) (k : Nat) : (k * p % N) * q % N = k % N := by
  rw [Nat.mod_mul_mod, Nat.mul_assoc, Nat.mul_mod, h, ← Nat.mul_mod, Nat.mul_one]
theorem pow_pos2 (m : Nat) : 0 < 2 ^ m := Nat.pow_pos (by decide)
theorem va_lt (m k : Nat) : va m k < 2 ^ m := Nat.mod_lt _ (pow_pos2 m)
theorem va_inj {m j k : Nat} (hm : m < 10) (hj : j < 2 ^ m) (hk : k < 2 ^ m) (h : va m j = va m k) : j = k := by
  have h1 := mod_mul_inv (step_qinv ⟨m, hm⟩) j
  have h2 := mod_mul_inv (step_qinv ⟨m, hm⟩) k
  unfold va at h
  simp only at h1 h2
  rw [h, h2, Nat.mod_eq_of_lt hj, Nat.mod_eq_of_lt hk] at h1
  exact h1.symm
theorem va_onto {m a : Nat} (hm : m < 10) (ha : a < 2 ^ m) : ∃ k, k < 2 ^ m ∧ va m k = a := by
  refine ⟨a * qinv m % 2 ^ m, Nat.mod_lt _ (pow_pos2 m), ?_⟩
  have h1 := step_qinv ⟨m, hm⟩
  simp only at h1
  rw [Nat.mul_comm] at h1
  have h2 := mod_mul_inv h1 a
  unfold va
  rw [h2, Nat.mod_eq_of_lt ha]
theorem va_zero (m : Nat) : va m 0 = 0 := by simp [va]
theorem va_succ (m k : Nat) : va m (k + 1) = (va m k + stepOf (2 ^ m)) % 2 ^ m := by
  unfold va
  rw [Nat.add_mul, Nat.one_mul, Nat.mod_add_mod]
theorem va_top (m : Nat) : va m (2 ^ m) = 0 := by simp [va]

/-! ### the pigeons -/
theorem pigeon_le : ∀ (F : Nat) (l : List Nat), l.Nodup → (∀ x ∈ l, x < F) → l.length ≤ F
  | 0, l, _, h => by
    cases l with
    | nil => simp
    | cons x xs => exact absurd (h x (by simp)) (by omega)
  | F + 1, l, hn, h => by
    have h1 := pigeon_le F (l.erase F) (hn.erase F) fun x hx => by
      have h2 := h x (List.mem_of_mem_erase hx)
      have h3 : x ≠ F := fun e => by subst e; exact hn.not_mem_erase hx
      omega
    have h2 := List.length_erase (a := F) (l := l)
    split at h2 <;> omega
theorem pigeon_ge : ∀ (F : Nat) (l : List Nat), (∀ x, x < F → x ∈ l) → F ≤ l.length
  | 0, _, _ => Nat.zero_le _
  | F + 1, l, h => by
    have h1 := pigeon_ge F (l.erase F) fun x hx => (List.mem_erase_of_ne (by omega)).2 (h x (by omega))
    have h2 := List.length_erase_of_mem (h F (by omega))
    have h3 : 0 < l.length := List.length_pos_of_mem (h F (by omega))
    omega
theorem pigeon_mem {F : Nat} {l : List Nat} (hn : l.Nodup) (hlt : ∀ x ∈ l, x < F) (hl : l.length = F) {a : Nat} (ha : a < F) : a ∈ l := by
  refine Classical.byContradiction fun hna => ?_
  have := pigeon_le F (a :: l) (List.nodup_cons.2 ⟨hna, hn⟩) fun x hx => by
    rcases List.mem_cons.1 hx with rfl | hx
    · exact ha
    · exact hlt x hx
  simp at this
  omega
theorem pigeon_perm {F : Nat} {l : List Nat} (hn : l.Nodup) (hlt : ∀ x ∈ l, x < F) (hl : l.length = F) : l.Perm (List.range F) := by
  rw [List.perm_iff_count]
  intro a
  by_cases ha : a < F
  · rw [hn.count, if_pos (pigeon_mem hn hlt hl ha), List.nodup_range.count, if_pos (List.mem_range.2 ha)]
  · rw [List.count_eq_zero.2 fun h => ha (hlt a h), List.count_eq_zero.2 fun h => ha (List.mem_range.1 h)]

/-! ### the visited free indices -/
def vfree (m F k : Nat) : List Nat := ((List.range k).map (va m)).filter fun a => decide (a < F)
def cnt (m F k : Nat) : Nat := (vfree m F k).length
theorem cnt_zero (m F : Nat) : cnt m F 0 = 0 := rfl
theorem cnt_succ (m F k : Nat) : cnt m F (k + 1) = cnt m F k + if va m k < F then 1 else 0 := by
  unfold cnt vfree
  rw [List.range_succ, List.map_append, List.filter_append, List.length_append]
  congr 1
  by_cases h : va m k < F <;> simp [h]
theorem cnt_mono (m F : Nat) {j k : Nat} (h : j ≤ k) : cnt m F j ≤ cnt m F k := by
  induction k with
  | zero => obtain rfl : j = 0 := by omega
            exact Nat.le_refl _
  | succ k ih =>
    rcases Nat.lt_or_ge j (k + 1) with hlt | hge
    · have := ih (by omega)
      rw [cnt_succ]; omega
    · obtain rfl : j = k + 1 := by omega
      exact Nat.le_refl _
theorem vfree_nodup {m F k : Nat} (hm : m < 10) (hk : k ≤ 2 ^ m) : (vfree m F k).Nodup := by
  unfold vfree
  rw [List.nodup_iff_pairwise_ne]
  refine List.Pairwise.filter _ ?_
  rw [List.pairwise_map]
  refine List.Pairwise.imp_of_mem ?_ (List.nodup_iff_pairwise_ne.1 (List.nodup_range (n := k)))
  intro a b ha hb hne he
  exact hne (va_inj hm (by have := List.mem_range.1 ha; omega) (by have := List.mem_range.1 hb; omega) he)
theorem vfree_lt {m F k x : Nat} (h : x ∈ vfree m F k) : x < F := by
  have := (List.mem_filter.1 h).2
  simpa using this
theorem cnt_le {m F k : Nat} (hm : m < 10) (hk : k ≤ 2 ^ m) : cnt m F k ≤ F := pigeon_le F _ (vfree_nodup hm hk) fun _ h => vfree_lt h
theorem cnt_lt {m F k : Nat} (hm : m < 10) (hk : k < 2 ^ m) (h : va m k < F) : cnt m F k < F := by
  have h1 := cnt_le (F := F) hm (Nat.succ_le_of_lt hk)
  rw [Nat.succ_eq_add_one, cnt_succ, if_pos h] at h1
  omega
theorem cnt_top {m F : Nat} (hm : m < 10) (hF : F ≤ 2 ^ m) : cnt m F (2 ^ m) = F := by
  refine Nat.le_antisymm (cnt_le hm (Nat.le_refl _)) (pigeon_ge F _ fun a ha => ?_)
  obtain ⟨k, hk, hv⟩ := va_onto hm (show a < 2 ^ m by omega)
  exact List.mem_filter.2 ⟨List.mem_map.2 ⟨k, List.mem_range.2 hk, hv⟩, by simpa using ha⟩
theorem cnt_strict {m F j k : Nat} (hj : va m j < F) (h : j < k) : cnt m F j < cnt m F k := by
  have h1 := cnt_mono m F (show j + 1 ≤ k from h)
  rw [cnt_succ, if_pos hj] at h1
  omega

/-! ### the symbols -/
/-- The rare symbols, rising. -/
def rares (xs : List Int) : List Int := xs.zipIdx.filterMap fun p => if p.1 = -1 then some (p.2 : Int) else none
/-- Each other symbol as often as it has states, rising. -/
def others (xs : List Int) : List Int := xs.zipIdx.flatMap fun p => List.replicate p.1.toNat (p.2 : Int)
theorem take_zipIdx {xs : List Int} {k : Nat} {x : Int} (h : xs[k]? = some x) : (xs.take (k + 1)).zipIdx = (xs.take k).zipIdx ++ [(x, k)] := by
  have hk : k < xs.length := (List.getElem?_eq_some_iff.1 h).1
  rw [List.take_add_one, h, List.zipIdx_append]
  simp [Nat.min_eq_left (Nat.le_of_lt hk)]
theorem rares_take {xs : List Int} {k : Nat} {x : Int} (h : xs[k]? = some x) : rares (xs.take (k + 1)) = rares (xs.take k) ++ if x = -1 then [(k : Int)] else [] := by
  unfold rares
  rw [take_zipIdx h, List.filterMap_append]
  by_cases hx : x = -1 <;> simp [hx]
theorem others_take {xs : List Int} {k : Nat} {x : Int} (h : xs[k]? = some x) : others (xs.take (k + 1)) = others (xs.take k) ++ List.replicate x.toNat (k : Int) := by
  unfold others
  rw [take_zipIdx h, List.flatMap_append]
  simp
theorem len_both : ∀ (n : Nat) (xs : List Int), (∀ x ∈ xs, -1 ≤ x) →
    (((xs.zipIdx n).filterMap fun p => if p.1 = -1 then some (p.2 : Int) else none).length : Int) + ((xs.zipIdx n).flatMap fun p => List.replicate p.1.toNat (p.2 : Int)).length = statesSum xs
  | _, [], _ => rfl
  | n, x :: xs, h => by
    have ih := len_both (n + 1) xs fun y hy => h y (by simp [hy])
    have hx := h x (by simp)
    rw [List.zipIdx_cons, List.filterMap_cons, List.flatMap_cons, List.length_append, statesSum_cons]
    by_cases h1 : x = -1
    · simp only [h1, if_pos]
      simp
      simp at ih
      omega
    · simp only [h1, if_neg, not_false_eq_true]
      simp
      simp at ih
      omega
theorem len_all {xs : List Int} (h : ∀ x ∈ xs, -1 ≤ x) : ((rares xs).length : Int) + (others xs).length = statesSum xs := len_both 0 xs h
theorem mem_rares {xs : List Int} {s : Int} : s ∈ rares xs ↔ ∃ i : Nat, s = i ∧ xs[i]? = some (-1) := by
  unfold rares
  rw [List.mem_filterMap]
  constructor
  · rintro ⟨⟨x, i⟩, hp, h⟩
    simp only at h
    split at h
    · injection h with h
      rename_i hx
      subst hx
      exact ⟨i, h.symm, by simpa using List.mem_zipIdx_iff_getElem?.1 hp⟩
    · cases h
  · rintro ⟨i, rfl, hi⟩
    exact ⟨(-1, i), List.mem_zipIdx_iff_getElem?.2 (by simpa using hi), by simp⟩
theorem mem_others {xs : List Int} {s : Int} : s ∈ others xs ↔ ∃ (i : Nat) (x : Int), s = i ∧ xs[i]? = some x ∧ 0 < x := by
  unfold others
  rw [List.mem_flatMap]
  constructor
  · rintro ⟨⟨x, i⟩, hp, h⟩
    simp only [List.mem_replicate] at h
    exact ⟨i, x, h.2, by simpa using List.mem_zipIdx_iff_getElem?.1 hp, by omega⟩
  · rintro ⟨i, x, rfl, hi, hx⟩
    exact ⟨(x, i), List.mem_zipIdx_iff_getElem?.2 (by simpa using hi), by simp [List.mem_replicate]; omega⟩

theorem others_take_le (xs : List Int) (k : Nat) : (others (xs.take k)).length ≤ (others xs).length := by
  have e : others xs = others (xs.take k ++ xs.drop k) := by rw [List.take_append_drop]
  rw [e]
  unfold others
  rw [List.zipIdx_append, List.flatMap_append, List.length_append]
  omega
theorem rares_take_le (xs : List Int) (k : Nat) : (rares (xs.take k)).length ≤ (rares xs).length := by
  have e : rares xs = rares (xs.take k ++ xs.drop k) := by rw [List.take_append_drop]
  rw [e]
  unfold rares
  rw [List.zipIdx_append, List.filterMap_append, List.length_append]
  omega

/-- The number of free indices. -/
def freeOf (m : Nat) (xs : List Int) : Nat := 2 ^ m - (rares xs).length

/-- l is the table's spread. -/
structure IsSpread (m : Nat) (xs l : List Int) : Prop where
  len : l.length = 2 ^ m
  rare : ∀ j, j < (rares xs).length → l[2 ^ m - 1 - j]? = (rares xs)[j]?
  free : ∀ k, k < 2 ^ m → va m k < freeOf m xs → l[va m k]? = (others xs)[cnt m (freeOf m xs) k]?

theorem IsSpread.unique {m : Nat} {xs l l' : List Int} (hm : m < 10) (h : IsSpread m xs l) (h' : IsSpread m xs l') (hr : (rares xs).length ≤ 2 ^ m) : l = l' := by
  apply List.ext_getElem?
  intro a
  by_cases ha : a < 2 ^ m
  · by_cases hf : a < freeOf m xs
    · obtain ⟨k, hk, rfl⟩ := va_onto hm ha
      rw [h.free k hk hf, h'.free k hk hf]
    · unfold freeOf at hf
      have e : a = 2 ^ m - 1 - (2 ^ m - 1 - a) := by omega
      have hj : 2 ^ m - 1 - a < (rares xs).length := by omega
      rw [e, h.rare _ hj, h'.rare _ hj]
  · rw [List.getElem?_eq_none (by rw [h.len]; omega), List.getElem?_eq_none (by rw [h'.len]; omega)]

/-- What a valid table gives. -/
theorem valid_facts {log : Int} {xs : List Int} {symbols most : Int} (h : Valid log xs symbols most) :
    ∃ m : Nat, m < 10 ∧ log = m ∧ (rares xs).length + (others xs).length = 2 ^ m ∧ (∀ x ∈ xs, -1 ≤ x) := by
  obtain ⟨h0, h1, h9, -, -, -, hx, hs⟩ := h
  refine ⟨log.toNat, by omega, by omega, ?_, hx⟩
  have h2 := len_all hx
  rw [hs] at h2
  have : ((2 ^ log.toNat : Nat) : Int) = 2 ^ log.toNat := Int.natCast_pow 2 _
  omega
theorem freeOf_eq {m : Nat} {xs : List Int} (h : (rares xs).length + (others xs).length = 2 ^ m) : freeOf m xs = (others xs).length := by unfold freeOf; omega
end Go.Proofs.Ytkffhfdmdcecaaa
