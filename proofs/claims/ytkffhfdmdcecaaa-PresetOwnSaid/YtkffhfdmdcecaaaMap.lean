/-
  A map from small numbers to numbers, in plain words.
-/
import Derived.Maps.OwnIn
import Derived.Test.YtkffhfdmdcecaaaSpPlain
namespace Go.Proofs.Ytkffhfdmdcecaaa
open Go.RowKit

def upd (mf : Nat → Option Int) (a : Nat) (v : Int) : Nat → Option Int := fun x => if x = a then some v else mf x
theorem upd_same (mf : Nat → Option Int) (a : Nat) (v : Int) : upd mf a v a = some v := if_pos rfl
theorem upd_other (mf : Nat → Option Int) {a x : Nat} (v : Int) (h : x ≠ a) : upd mf a v x = mf x := if_neg h
/-- The datum D is the map mf of c entries, as far as keys below 512 go. -/
def MapAs (D : DataW Unit) (mf : Nat → Option Int) (c : Nat) : Prop :=
  Maps.Tidy D ∧ Maps.size D = c ∧ ∀ a : Nat, a < 512 → Maps.has D (.int .i64 a) = (mf a).isSome ∧ D.atKey (.int .i64 a) (.lit (.int .i64 0)) = .lit (.int .i64 ((mf a).getD 0))
theorem MapAs.empty : MapAs (.map []) (fun _ => none) 0 := ⟨Maps.tidy_empty, rfl, fun a _ => ⟨rfl, by simp [DataW.atKey]⟩⟩
theorem MapAs.put {D : DataW Unit} {mf : Nat → Option Int} {c a : Nat} (h : MapAs D mf c) (ha : a < 512) (hn : mf a = none) (v : Int) :
    MapAs (D.put (.int .i64 a) (.lit (.int .i64 v))) (upd mf a v) (c + 1) := by
  obtain ⟨ht, hs, hx⟩ := h
  have hk : WideAt.IsKeyLit (.int .i64 (a : Int)) := by simp [WideAt.IsKeyLit]
  refine ⟨ht.put hk _, ?_, fun x hx' => ?_⟩
  · rw [Maps.size_put ht, (hx a ha).1, hn, hs]; rfl
  · by_cases e : x = a
    · subst e
      rw [upd_same]
      exact ⟨Maps.has_put_same ht.isMap hk _, Maps.atKey_put_same ht.isMap hk _ _⟩
    · rw [upd_other _ _ e]
      have hne : (Lit.int .i64 (x : Int)) ≠ Lit.int .i64 (a : Int) := fun h => e (by injection h with _ h; omega)
      rw [Maps.has_put_other hne, Maps.atKey_put_other hne]
      exact hx x hx'

/-- The free indices of pre in the order in which they first come. -/
def ks (F : Nat) (pre : List Nat) : List Nat := pre.foldl (fun l a => if a < F ∧ a ∉ l then l ++ [a] else l) []
theorem ks_snoc (F : Nat) (pre : List Nat) (a : Nat) : ks F (pre ++ [a]) = if a < F ∧ a ∉ ks F pre then ks F pre ++ [a] else ks F pre := by
  unfold ks
  rw [List.foldl_append]
  rfl
theorem snoc_cases (l : List Nat) : l = [] ∨ ∃ l' a, l = l' ++ [a] := by
  rcases List.eq_nil_or_concat l with h | ⟨l', a, h⟩
  · exact .inl h
  · exact .inr ⟨l', a, by simpa using h⟩
theorem snoc_ind {p : List Nat → Prop} (h0 : p []) (hs : ∀ l a, p l → p (l ++ [a])) (l : List Nat) : p l := by
  rw [← List.reverse_reverse l]
  induction l.reverse with
  | nil => exact h0
  | cons a l ih => rw [List.reverse_cons]; exact hs _ _ ih
theorem ks_facts (F : Nat) (pre : List Nat) : (ks F pre).Nodup ∧ (∀ a ∈ ks F pre, a < F ∧ a ∈ pre) ∧ ∀ a ∈ pre, a < F → a ∈ ks F pre := by
  induction pre using snoc_ind with
  | h0 => simp [ks]
  | hs l a ih =>
    rw [ks_snoc]
    obtain ⟨h1, h2, h3⟩ := ih
    by_cases h : a < F ∧ a ∉ ks F l
    · rw [if_pos h]
      refine ⟨?_, fun x hx => ?_, fun x hx hF => ?_⟩
      · rw [List.nodup_append]
        exact ⟨h1, by simp, fun x hx y hy e => by simp at hy; subst hy; subst e; exact h.2 hx⟩
      · rcases List.mem_append.1 hx with hx | hx
        · exact ⟨(h2 x hx).1, by simp [(h2 x hx).2]⟩
        · simp at hx; subst hx; exact ⟨h.1, by simp⟩
      · rcases List.mem_append.1 hx with hx | hx
        · simp [h3 x hx hF]
        · simp at hx; simp [hx]
    · rw [if_neg h]
      refine ⟨h1, fun x hx => ⟨(h2 x hx).1, by simp [(h2 x hx).2]⟩, fun x hx hF => ?_⟩
      rcases List.mem_append.1 hx with hx | hx
      · exact h3 x hx hF
      · simp at hx; subst hx
        exact Classical.byContradiction fun hn => h ⟨hF, hn⟩
theorem ks_le (F : Nat) (pre : List Nat) : (ks F pre).length ≤ F := pigeon_le F _ (ks_facts F pre).1 fun a ha => ((ks_facts F pre).2.1 a ha).1
theorem ks_lt {F : Nat} {pre : List Nat} {a : Nat} (h : a < F) (hn : a ∉ ks F pre) : (ks F pre).length < F := by
  have := ks_le F (pre ++ [a])
  rw [ks_snoc, if_pos ⟨h, hn⟩] at this
  simp at this; omega
theorem ks_filter (F : Nat) (pre : List Nat) (hn : pre.Nodup) : ks F pre = pre.filter fun a => decide (a < F) := by
  induction pre using snoc_ind with
  | h0 => rfl
  | hs l a ih =>
    have hn' := List.nodup_append.1 hn
    have hl := ih hn'.1
    rw [ks_snoc, List.filter_append, ← hl]
    have hna : a ∉ ks F l := fun h => hn'.2.2 a ((ks_facts F l).2.1 a h).2 a (by simp) rfl
    by_cases h : a < F <;> simp [h, hna]
theorem ks_all {m F : Nat} (hm : m < 10) : ks F ((List.range (2 ^ m)).map (va m)) = vfree m F (2 ^ m) := by
  rw [ks_filter]
  · rfl
  · rw [List.nodup_iff_pairwise_ne, List.pairwise_map]
    refine List.Pairwise.imp_of_mem ?_ (List.nodup_iff_pairwise_ne.1 (List.nodup_range (n := 2 ^ m)))
    intro a b ha hb hne he
    exact hne (va_inj hm (List.mem_range.1 ha) (List.mem_range.1 hb) he)
theorem vfree_at {m F K k : Nat} (hk : k < K) (h : va m k < F) : (vfree m F K)[cnt m F k]? = some (va m k) := by
  have e : List.range K = List.range k ++ (k :: ((List.range K).drop (k + 1))) := by
    have h1 := (List.take_append_drop k (List.range K)).symm
    rw [List.drop_eq_getElem_cons (by simpa using hk)] at h1
    simpa [List.take_range, Nat.min_eq_left (Nat.le_of_lt hk)] using h1
  unfold vfree
  rw [e, List.map_append, List.filter_append, List.map_cons, List.filter_cons, if_pos (by simpa using h)]
  rw [List.getElem?_append_right (by exact Nat.le_refl _)]
  simp [cnt, vfree]

/-- What the map holds when the indices pre have been visited. -/
def SpMap (N : Nat) (xs : List Int) (pre : List Nat) (mf : Nat → Option Int) : Prop :=
  (∀ j, j < (rares xs).length → mf (N - 1 - j) = (rares xs)[j]?) ∧
  (∀ (i a : Nat), (ks (N - (rares xs).length) pre)[i]? = some a → mf a = (others xs)[i]?) ∧
  ∀ a : Nat, a < N - (rares xs).length → a ∉ ks (N - (rares xs).length) pre → mf a = none
/-- What the map holds while the rare symbols are laid. -/
def RareMap (N : Nat) (rs : List Int) (mf : Nat → Option Int) : Prop := (∀ j, j < rs.length → mf (N - 1 - j) = rs[j]?) ∧ ∀ a, a < N - rs.length → mf a = none
theorem RareMap.start (N : Nat) : RareMap N [] (fun _ => none) := ⟨fun j h => absurd h (by simp), fun _ _ => rfl⟩
theorem RareMap.snoc {N : Nat} {rs : List Int} {mf : Nat → Option Int} (h : RareMap N rs mf) (hl : rs.length < N) (s : Int) : RareMap N (rs ++ [s]) (upd mf (N - 1 - rs.length) s) := by
  refine ⟨fun j hj => ?_, fun a ha => ?_⟩
  · simp at hj
    rcases Nat.lt_or_ge j rs.length with h1 | h1
    · rw [upd_other _ _ (by omega), h.1 j h1, List.getElem?_append_left h1]
    · obtain rfl : j = rs.length := by omega
      rw [upd_same]; simp
  · simp at ha
    rw [upd_other _ _ (by omega)]
    exact h.2 a (by omega)
theorem SpMap.start {N : Nat} {xs : List Int} {mf : Nat → Option Int} (h : RareMap N (rares xs) mf) : SpMap N xs [] mf :=
  ⟨h.1, fun i a hi => by simp [ks] at hi, fun a ha _ => h.2 a ha⟩
theorem SpMap.skip {N : Nat} {xs : List Int} {pre : List Nat} {mf : Nat → Option Int} {a : Nat} (h : SpMap N xs pre mf) (hs : (mf a).isSome = true) : SpMap N xs (pre ++ [a]) mf := by
  have e : ks (N - (rares xs).length) (pre ++ [a]) = ks (N - (rares xs).length) pre := by
    rw [ks_snoc, if_neg]
    rintro ⟨h1, h2⟩
    rw [h.2.2 a h1 h2] at hs
    cases hs
  exact ⟨h.1, fun i b hi => h.2.1 i b (by rw [e] at hi; exact hi), fun b hb hn => h.2.2 b hb (by rw [e] at hn; exact hn)⟩
theorem SpMap.free {N : Nat} {xs : List Int} {pre : List Nat} {mf : Nat → Option Int} {a : Nat} (h : SpMap N xs pre mf) (hall : (rares xs).length + (others xs).length = N) (ha : a < N) (hs : mf a = none) :
    a < N - (rares xs).length ∧ a ∉ ks (N - (rares xs).length) pre := by
  have h1 : a < N - (rares xs).length := by
    refine Classical.byContradiction fun hn => ?_
    have h2 := h.1 (N - 1 - a) (by omega)
    rw [show N - 1 - (N - 1 - a) = a by omega, hs, List.getElem?_eq_getElem (by omega)] at h2
    cases h2
  refine ⟨h1, fun hm => ?_⟩
  obtain ⟨i, hi⟩ := List.getElem?_of_mem hm
  have h2 := h.2.1 i a hi
  have h3 := ks_le (N - (rares xs).length) pre
  have h4 := (List.getElem?_eq_some_iff.1 hi).1
  rw [hs, List.getElem?_eq_getElem (by omega)] at h2
  cases h2
theorem SpMap.put {N : Nat} {xs : List Int} {pre : List Nat} {mf : Nat → Option Int} {a : Nat} {s : Int} (h : SpMap N xs pre mf) (ha : a < N - (rares xs).length) (hn : a ∉ ks (N - (rares xs).length) pre)
    (hs : (others xs)[(ks (N - (rares xs).length) pre).length]? = some s) : SpMap N xs (pre ++ [a]) (upd mf a s) := by
  have e : ks (N - (rares xs).length) (pre ++ [a]) = ks (N - (rares xs).length) pre ++ [a] := by rw [ks_snoc, if_pos ⟨ha, hn⟩]
  refine ⟨fun j hj => ?_, fun i b hi => ?_, fun b hb hnb => ?_⟩
  · rw [upd_other _ _ (by omega)]; exact h.1 j hj
  · rw [e] at hi
    rcases Nat.lt_or_ge i (ks (N - (rares xs).length) pre).length with h1 | h1
    · rw [List.getElem?_append_left h1] at hi
      have hb : b ≠ a := fun e => hn (by rw [← e]; exact List.mem_of_getElem? hi)
      rw [upd_other _ _ hb]; exact h.2.1 i b hi
    · rw [List.getElem?_append_right h1] at hi
      have h2 := (List.getElem?_eq_some_iff.1 hi).1
      simp at h2
      obtain rfl : i = (ks (N - (rares xs).length) pre).length := by omega
      simp at hi
      subst hi
      rw [upd_same, hs]
  · rw [e] at hnb
    simp at hnb
    rw [upd_other _ _ hnb.2]; exact h.2.2 b hb hnb.1
/-- At the end the map is the spread. -/
theorem SpMap.done {m : Nat} {xs : List Int} {mf : Nat → Option Int} (hm : m < 10) (hall : (rares xs).length + (others xs).length = 2 ^ m) (h : SpMap (2 ^ m) xs ((List.range (2 ^ m)).map (va m)) mf) :
    (∀ a, a < 2 ^ m → (mf a).isSome = true) ∧ IsSpread m xs ((List.range (2 ^ m)).map fun a => (mf a).getD 0) := by
  rw [SpMap, ks_all hm] at h
  have hsome : ∀ a, a < 2 ^ m → (mf a).isSome = true := fun a ha => by
    by_cases hf : a < 2 ^ m - (rares xs).length
    · obtain ⟨k, hk, rfl⟩ := va_onto hm ha
      have h1 := h.2.1 _ _ (vfree_at (K := 2 ^ m) hk hf)
      have h2 := cnt_lt hm hk hf
      rw [h1, List.getElem?_eq_getElem (by omega)]; rfl
    · have h1 := h.1 (2 ^ m - 1 - a) (by omega)
      rw [show 2 ^ m - 1 - (2 ^ m - 1 - a) = a by omega, List.getElem?_eq_getElem (by omega)] at h1
      rw [h1]; rfl
  have hat : ∀ a, a < 2 ^ m → ((List.range (2 ^ m)).map fun a => (mf a).getD 0)[a]? = mf a := fun a ha => by
    rw [List.getElem?_map, List.getElem?_range ha]
    have := hsome a ha
    cases hm' : mf a with
    | none => rw [hm'] at this; cases this
    | some s => simp [hm']
  refine ⟨hsome, by simp, fun j hj => ?_, fun k hk hf => ?_⟩
  · rw [hat _ (by have := pow_pos2 m; omega)]; exact h.1 j hj
  · rw [hat _ (va_lt m k)]
    exact h.2.1 _ _ (vfree_at hk hf)
end Go.Proofs.Ytkffhfdmdcecaaa
