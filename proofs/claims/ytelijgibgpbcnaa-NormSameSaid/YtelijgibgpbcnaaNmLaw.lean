/-
  What the normalized table obeys, in plain words. No program in sight.
-/
import Derived.Test.YtelijgibgpbcnaaNmPlain
namespace Go.Proofs.Ytelijgibgpbcnaa
open Go.RowKit

/-! ### a factor -/
theorem best_congr {sel sel' : Nat → Bool} {f f' : Nat → Int} : ∀ {k : Nat}, (∀ i, i < k → sel i = sel' i) → (∀ i j, i < k → j < k → (f i < f j ↔ f' i < f' j)) → best sel f k = best sel' f' k
  | 0, _, _ => rfl
  | k + 1, hs, hf => by
    have ih := best_congr (k := k) (fun i hi => hs i (by omega)) (fun i j hi hj => hf i j (by omega) (by omega))
    have hj : ∀ j, best sel f k = some j → j < k := fun j h => (best_facts h).1
    unfold best
    rw [ih, hs k (by omega)]
    cases hb : best sel' f' k with
    | none => rfl
    | some j =>
      have h1 : j < k := hj j (by rw [ih, hb])
      have h2 := hf j k (by omega) (by omega)
      simp only
      by_cases h3 : f j < f k
      · rw [decide_eq_true h3, decide_eq_true (h2.1 h3)]
      · rw [decide_eq_false h3, decide_eq_false fun h4 => h3 (h2.2 h4)]
theorem gt_map (cs : List Int) (t : Int) (i : Nat) : gt (cs.map (· * t)) i = gt cs i * t := by
  unfold gt
  rw [List.getD, List.getD, List.getElem?_map]
  cases cs[i]? <;> simp
theorem sum_map_mul (cs : List Int) (t : Int) : (cs.map (· * t)).sum = cs.sum * t := by
  induction cs with
  | nil => simp
  | cons c cs ih => rw [List.map_cons, List.sum_cons, List.sum_cons, ih, Int.add_mul]
theorem mul_lt_iff {a b t : Int} (ht : 0 < t) : a * t < b * t ↔ a < b := by
  constructor
  · intro h; exact Int.lt_of_mul_lt_mul_right h (by omega)
  · intro h; exact Int.mul_lt_mul_of_pos_right h ht
theorem mul_pos_iff {a t : Int} (ht : 0 < t) : 0 < a * t ↔ 0 < a := by
  have := mul_lt_iff (a := 0) (b := a) ht
  rwa [Int.zero_mul] at this
theorem usedOf_map {cs : List Int} {t : Int} (ht : 0 < t) : usedOf (cs.map (· * t)) = usedOf cs := by
  unfold usedOf
  induction cs with
  | nil => rfl
  | cons c cs ih =>
    rw [List.map_cons, List.filter_cons, List.filter_cons]
    by_cases hc : 0 < c
    · rw [if_pos (by simpa using (mul_pos_iff ht).2 hc), if_pos (by simpa using hc), List.length_cons, List.length_cons, ih]
    · rw [if_neg (by simpa using fun h => hc ((mul_pos_iff ht).1 h)), if_neg (by simpa using hc), ih]
theorem start_mul {S T c t : Int} (ht : 0 < t) : start S (T * t) (c * t) = start S T c := by
  unfold start
  have e : c * t * S / (T * t) = c * S / T := by
    rw [show c * t * S = c * S * t by rw [Int.mul_assoc, Int.mul_comm t S, Int.mul_assoc]]
    exact Int.mul_ediv_mul_of_pos_left _ _ ht
  by_cases hc : 0 < c
  · rw [if_pos hc, if_pos ((mul_pos_iff ht).2 hc), e]
  · rw [if_neg hc, if_neg fun h => hc ((mul_pos_iff ht).1 h)]
theorem firstOf_mul {cs : List Int} {S T t : Int} (ht : 0 < t) : firstOf (cs.map (· * t)) S (T * t) = firstOf cs S T := by
  unfold firstOf
  rw [List.map_map]
  exact List.map_congr_left fun c _ => start_mul ht
theorem above_mul (cs ns : List Int) (S T t : Int) (i : Nat) : above (cs.map (· * t)) ns S (T * t) i = above cs ns S T i * t := by
  unfold above
  rw [gt_map, Int.sub_mul, Int.mul_assoc, Int.mul_comm t S, ← Int.mul_assoc, ← Int.mul_assoc]
theorem iter_congr {g g' : List Int → List Int} (h : ∀ l, g l = g' l) : ∀ (k : Nat) (l : List Int), iter g k l = iter g' k l
  | 0, _ => rfl
  | k + 1, l => by unfold iter; rw [h, iter_congr h k]
theorem stepUp_mul {cs : List Int} {S T t : Int} (ht : 0 < t) (ns : List Int) : stepUp (cs.map (· * t)) S (T * t) ns = stepUp cs S T ns := by
  have e : bestUp (cs.map (· * t)) S (T * t) ns = bestUp cs S T ns := by
    unfold bestUp
    rw [List.length_map]
    refine best_congr (fun i _ => ?_) fun i j _ _ => ?_
    · unfold selUp
      rw [gt_map]
      by_cases h : 0 < gt cs i
      · rw [decide_eq_true h, decide_eq_true ((mul_pos_iff ht).2 h)]
      · rw [decide_eq_false h, decide_eq_false fun h2 => h ((mul_pos_iff ht).1 h2)]
    · rw [above_mul, above_mul]; exact mul_lt_iff ht
  unfold stepUp
  rw [e]
theorem stepDn_mul {cs : List Int} {S T t : Int} (ht : 0 < t) (ns : List Int) : stepDn (cs.map (· * t)) S (T * t) ns = stepDn cs S T ns := by
  have e : bestDn (cs.map (· * t)) S (T * t) ns = bestDn cs S T ns := by
    unfold bestDn
    rw [List.length_map]
    refine best_congr (fun i _ => rfl) fun i j _ _ => ?_
    have h1 : ∀ i, below_ (cs.map (· * t)) ns S (T * t) i = below_ cs ns S T i * t := fun i => by
      have := above_mul cs ns S T t i
      unfold above at this
      unfold below_
      rw [this, Int.neg_mul]
    rw [h1, h1]; exact mul_lt_iff ht
  unfold stepDn
  rw [e]
theorem mended_mul {cs : List Int} {S T t : Int} (ht : 0 < t) : mended (cs.map (· * t)) S (T * t) = mended cs S T := by
  unfold mended
  rw [firstOf_mul ht]
  split
  · exact iter_congr (stepUp_mul ht) _ _
  · exact iter_congr (stepDn_mul ht) _ _
theorem fin_mul {S T c n t : Int} (ht : 0 < t) : fin S (T * t) (c * t) n = fin S T c n := by
  unfold fin
  have h1 : c * t * S < T * t ↔ c * S < T := by
    rw [show c * t * S = c * S * t by rw [Int.mul_assoc, Int.mul_comm t S, Int.mul_assoc]]
    exact mul_lt_iff ht
  have h2 := mul_pos_iff (a := c) ht
  by_cases h : 0 < c ∧ c * S < T
  · rw [if_pos h, if_pos ⟨h2.2 h.1, h1.2 h.2⟩]
  · rw [if_neg h, if_neg fun h3 => h ⟨h2.1 h3.1, h1.1 h3.2⟩]
theorem pEnd_mul {cs : List Int} {t : Int} (ht : 0 < t) (d : Int) : ∀ k, pEnd (cs.map (· * t)) d k = pEnd cs d k
  | 0 => rfl
  | k + 1 => by
    unfold pEnd
    rw [gt_map, pEnd_mul ht d k]
    by_cases h : 0 < gt cs k
    · rw [if_pos h, if_pos ((mul_pos_iff ht).2 h)]
    · rw [if_neg h, if_neg fun h2 => h ((mul_pos_iff ht).1 h2)]
theorem normsOf_mul {cs : List Int} {t S : Int} (ht : 0 < t) : normsOf (cs.map (· * t)) S = normsOf cs S := by
  unfold normsOf fullOf
  rw [sum_map_mul, mended_mul ht, List.length_map, pEnd_mul ht]
  congr 1
  unfold partOf
  refine List.map_congr_left fun i _ => ?_
  simp only [gt_map, fin_mul ht]

/-! ### counts that are a multiple of norms -/
theorem sum_pos_last {xs : List Int} (h0 : ∀ x ∈ xs, 0 ≤ x) : statesSum xs = xs.sum := by
  induction xs with
  | nil => rfl
  | cons x xs ih =>
    rw [statesSum_cons, List.sum_cons, ih fun y hy => h0 y (by simp [hy])]
    have := h0 x (by simp)
    omega
theorem normsOf_whole {xs : List Int} {S t : Int} (h0 : ∀ x ∈ xs, 0 ≤ x) (hne : xs ≠ []) (hl : xs.getLast? ≠ some 0) (hs : xs.sum = S) (hS : 0 < S) (ht : 0 < t) : normsOf (xs.map (· * t)) S = xs := by
  rw [normsOf_mul ht]
  have hg : ∀ i, 0 ≤ gt xs i := fun i => by
    by_cases hi : i < xs.length
    · exact h0 _ (List.mem_of_getElem? (gt_of hi))
    · rw [gt_none (by omega)]; exact Int.le_refl _
  have hfirst : firstOf xs S xs.sum = xs := by
    apply gt_ext (by simp [firstOf])
    intro i _
    rw [gt_first, start, hs, Int.mul_ediv_cancel _ (by omega)]
    have := hg i
    split <;> omega
  have hm : mended xs S xs.sum = xs := by
    unfold mended
    rw [hfirst, hs, if_pos (Int.le_refl _), Int.sub_self]
    rfl
  have hf : fullOf xs S xs.sum = xs := by
    unfold fullOf
    rw [hm]
    refine partOf_top _ rfl fun i _ => ?_
    rw [fin, if_neg]
    rintro ⟨h1, h2⟩
    rw [hs] at h2
    have := Int.mul_le_mul_of_nonneg_right (show 1 ≤ gt xs i by omega) (show 0 ≤ S by omega)
    omega
  have hlen : 0 < xs.length := List.length_pos_iff.2 hne
  have hp : pEnd xs 1 xs.length = xs.length := by
    obtain ⟨n, hn⟩ : ∃ n, xs.length = n + 1 := ⟨xs.length - 1, by omega⟩
    rw [hn, pEnd, if_pos]
    · rfl
    · rw [List.getLast?_eq_getElem?, hn, Nat.add_sub_cancel, gt_of (by omega)] at hl
      have := hg n
      have h2 : gt xs n ≠ 0 := fun e => hl (by rw [e])
      omega
  rw [normsOf, hf, hp, Int.toNat_natCast, List.take_length]

/-! ### the mending, step by step -/
theorem iter_ind {p : Nat → List Int → Prop} {g : List Int → List Int} (hstep : ∀ k l, p (k + 1) l → p k (g l)) : ∀ (k : Nat) (l : List Int), p k l → p 0 (iter g k l)
  | 0, _, h => h
  | k + 1, l, h => by unfold iter; exact iter_ind hstep k _ (hstep k l h)
/-- A property that both kinds of steps keep holds of the mended numbers. -/
theorem mended_ind {cs : List Int} {S : Int} (hc : COk cs S) (p : List Int → Prop) (h0 : p (firstOf cs S cs.sum))
    (hup : ∀ ns b (k : Nat), NSt cs ns S ((k : Int) + 1) → p ns → bestUp cs S cs.sum ns = some b → b < cs.length → p (ns.set b (gt ns b + 1)))
    (hdn : ∀ ns b (k : Nat), NSt cs ns S (-((k : Int) + 1)) → p ns → bestDn cs S cs.sum ns = some b → b < cs.length → 2 ≤ gt ns b → S < (firstOf cs S cs.sum).sum → p (ns.set b (gt ns b - 1))) :
    p (mended cs S cs.sum) ∧ NSt cs (mended cs S cs.sum) S 0 := by
  have hst := NSt.start hc
  unfold mended
  by_cases hle : (firstOf cs S cs.sum).sum ≤ S
  · rw [if_pos hle]
    refine iter_ind (p := fun k ns => p ns ∧ NSt cs ns S k) (fun k ns ⟨h1, h2⟩ => ?_) _ _ ⟨h0, by rw [Int.toNat_of_nonneg (by omega)]; exact hst⟩
    obtain ⟨b, hb, hlt, he, hn⟩ := NSt.up (k := k) (by simpa using h2) hc
    rw [he]
    exact ⟨hup ns b k (by simpa using h2) h1 hb hlt, hn⟩
  · rw [if_neg hle]
    have := iter_ind (p := fun k ns => p ns ∧ NSt cs ns S (-(k : Int))) (g := stepDn cs S cs.sum) (fun k ns ⟨h1, h2⟩ => by
      obtain ⟨b, hb, hlt, he, h2b, hn⟩ := NSt.dn (k := k) (by simpa using h2) hc
      rw [he]
      exact ⟨hdn ns b k (by simpa using h2) h1 hb hlt h2b (by omega), hn⟩) ((firstOf cs S cs.sum).sum - S).toNat (firstOf cs S cs.sum) ⟨h0, by rw [Int.toNat_of_nonneg (by omega)]; rw [show -((firstOf cs S cs.sum).sum - S) = S - (firstOf cs S cs.sum).sum by omega]; exact hst⟩
    simpa using this

/-- Some index lies below its share while states are left. -/
theorem sumTo_sub (F G : Nat → Int) (S T : Int) : ∀ k, sumTo (fun i => F i * S - G i * T) k = sumTo F k * S - sumTo G k * T
  | 0 => by simp [sumTo]
  | k + 1 => by
    unfold sumTo
    rw [sumTo_sub F G S T k, Int.add_mul, Int.add_mul]
    omega
theorem sumTo_pos {F : Nat → Int} : ∀ {k : Nat}, 0 < sumTo F k → ∃ i, i < k ∧ 0 < F i
  | 0, h => by simp [sumTo] at h
  | k + 1, h => by
    unfold sumTo at h
    by_cases hk : 0 < F k
    · exact ⟨k, by omega, hk⟩
    · obtain ⟨i, hi, hp⟩ := sumTo_pos (F := F) (k := k) (by omega)
      exact ⟨i, by omega, hp⟩
theorem best_above_pos {cs ns : List Int} {S : Int} {k b : Nat} (hc : COk cs S) (h : NSt cs ns S ((k : Int) + 1)) (hb : bestUp cs S cs.sum ns = some b) : 0 < above cs ns S cs.sum b := by
  have hT := total_pos hc.valid hc.used
  have e1 := sumTo_list cs cs.length rfl
  have e2 := sumTo_list ns cs.length h.len
  have e3 := sumTo_sub (gt cs) (gt ns) S cs.sum cs.length
  rw [e1, e2] at e3
  have h1 : 0 < sumTo (fun i => gt cs i * S - gt ns i * cs.sum) cs.length := by
    rw [e3, Int.mul_comm ns.sum]
    have h2 : cs.sum * ns.sum < cs.sum * S := Int.mul_lt_mul_of_pos_left (by have := h.sum; omega) hT
    omega
  obtain ⟨i, hi, hp⟩ := sumTo_pos h1
  obtain ⟨-, -, hmax⟩ := best_facts hb
  have h2 : selUp cs i = true := by
    unfold selUp
    rw [decide_eq_true_eq]
    have h3 := gt_nonneg hc.valid i
    refine Classical.byContradiction fun hn => ?_
    have h4 : gt cs i = 0 := by omega
    rw [h4, h.zero i h4] at hp
    simp at hp
  have h5 := hmax i hi h2
  unfold above at h5 ⊢
  omega
theorem first_share {S T c : Int} (hT : 0 < T) (hS : 0 < S) (hc : 0 < c) : c * S - start S T c * T > -T ∧ (¬ c * S < T → c * S - start S T c * T < T ∧ start S T c * T ≤ c * S) ∧ (c * S < T → start S T c = 1) := by
  unfold start
  rw [if_pos hc]
  have h1 := Int.mul_ediv_add_emod (c * S) T
  have h2 := Int.emod_nonneg (c * S) (show T ≠ 0 by omega)
  have h3 := Int.emod_lt_of_pos (c * S) hT
  have h4 : 0 < c * S := Int.mul_pos hc hS
  by_cases hq : 1 ≤ c * S / T
  · rw [show max (c * S / T) 1 = c * S / T by omega, Int.mul_comm (c * S / T) T]
    refine ⟨by omega, fun _ => ⟨by omega, by omega⟩, fun hlt => ?_⟩
    have := Int.ediv_eq_zero_of_lt (by omega) hlt
    omega
  · rw [show max (c * S / T) 1 = 1 by omega]
    refine ⟨by omega, fun hge => ?_, fun _ => rfl⟩
    have h5 : 0 ≤ c * S / T := Int.ediv_nonneg (by omega) (by omega)
    have h6 : c * S / T = 0 := by omega
    rw [h6, Int.mul_zero] at h1
    omega

/-- What the laws say of the mended numbers. -/
structure Mended (cs ns : List Int) (S T : Int) : Prop where
  order : ∀ i k, gt cs i < gt cs k → gt ns i ≤ gt ns k
  low : ∀ i, 0 < gt cs i → -T < above cs ns S T i
  rare : ∀ i, 0 < gt cs i → gt cs i * S < T → gt ns i = 1
  high : (∀ i, 0 < gt cs i → ¬ gt cs i * S < T) → ∀ i, 0 < gt cs i → above cs ns S T i < T
theorem mended_facts {cs : List Int} {S : Int} (hc : COk cs S) : Mended cs (mended cs S cs.sum) S cs.sum ∧ NSt cs (mended cs S cs.sum) S 0 := by
  have hT := total_pos hc.valid hc.used
  have hS : 0 < S := by have := hc.s1; omega
  have hfs : ∀ i, 0 < gt cs i → _ := fun i hi => first_share (S := S) (T := cs.sum) hT hS hi
  refine mended_ind hc (fun ns => Mended cs ns S cs.sum) ⟨fun i k h => ?_, fun i hi => ?_, fun i hi hr => ?_, fun hn i hi => ?_⟩ ?_ ?_
  · rw [gt_first, gt_first]
    unfold start
    have h1 : gt cs i * S / cs.sum ≤ gt cs k * S / cs.sum := Int.ediv_le_ediv hT (Int.mul_le_mul_of_nonneg_right (by omega) (by omega))
    have h2 := gt_nonneg hc.valid i
    rw [if_pos (show 0 < gt cs k by omega)]
    split <;> omega
  · unfold above
    rw [gt_first]
    have := (hfs i hi).1
    omega
  · rw [gt_first]; exact (hfs i hi).2.2 hr
  · unfold above
    rw [gt_first]
    exact ((hfs i hi).2.1 (hn i hi)).1
  · intro ns b k hst hm hb hlt
    have hl := hst.len
    have hpos := best_above_pos hc hst hb
    obtain ⟨-, hsel, hmax⟩ := best_facts hb
    have hsel' : 0 < gt cs b := by simpa [selUp] using hsel
    have ha : ∀ i, above cs (ns.set b (gt ns b + 1)) S cs.sum i = if b = i then above cs ns S cs.sum b - cs.sum else above cs ns S cs.sum i := fun i => by
      unfold above
      rw [gt_set _ (by omega)]
      split
      · rename_i e; subst e; rw [Int.add_mul, Int.one_mul]; omega
      · rfl
    refine ⟨fun i j h => ?_, fun i hi => ?_, fun i hi hr => ?_, fun hn i hi => ?_⟩
    · have h1 := hm.order i j h
      rw [gt_set _ (by omega), gt_set _ (by omega)]
      by_cases e1 : b = i
      · subst e1
        rw [if_pos rfl, if_neg (by rintro rfl; omega)]
        refine Classical.byContradiction fun hn => ?_
        have e2 : gt ns j = gt ns b := by omega
        have hj : j < cs.length := by
          refine Classical.byContradiction fun h2 => ?_
          rw [gt_none (l := cs) (i := j) (by omega)] at h; omega
        have h3 := hmax j hj (by simp [selUp]; omega)
        unfold above at h3
        rw [e2] at h3
        have h4 : gt cs b * S < gt cs j * S := Int.mul_lt_mul_of_pos_right h hS
        omega
      · rw [if_neg e1]
        split
        · rename_i e2; subst e2; omega
        · exact h1
    · rw [ha]
      split
      · omega
      · exact hm.low i hi
    · rw [gt_set _ (by omega)]
      split
      · rename_i e
        subst e
        have h1 := hm.rare b hi hr
        unfold above at hpos
        rw [h1] at hpos
        omega
      · exact hm.rare i hi hr
    · rw [ha]
      split
      · have := hm.high hn b hsel'; omega
      · exact hm.high hn i hi
  · intro ns b k hst hm hb hlt h2b hS1
    have hl := hst.len
    obtain ⟨-, hsel, hmax⟩ := best_facts hb
    have ha : ∀ i, above cs (ns.set b (gt ns b - 1)) S cs.sum i = if b = i then above cs ns S cs.sum b + cs.sum else above cs ns S cs.sum i := fun i => by
      unfold above
      rw [gt_set _ (by omega)]
      split
      · rename_i e; subst e; rw [Int.sub_mul, Int.one_mul]; omega
      · rfl
    refine ⟨fun i j h => ?_, fun i hi => ?_, fun i hi hr => ?_, fun hn i hi => ?_⟩
    · have h1 := hm.order i j h
      rw [gt_set _ (by omega), gt_set _ (by omega)]
      by_cases e1 : b = j
      · subst e1
        rw [if_pos rfl, if_neg (by rintro rfl; omega)]
        refine Classical.byContradiction fun hn => ?_
        have e2 : gt ns i = gt ns b := by omega
        have hi : i < cs.length := by
          refine Classical.byContradiction fun h2 => ?_
          rw [gt_none (l := ns) (i := i) (by omega)] at e2; omega
        have h3 := hmax i hi (by simp [selDn]; omega)
        unfold below_ at h3
        rw [e2] at h3
        have h4 : gt cs i * S < gt cs b * S := Int.mul_lt_mul_of_pos_right h hS
        omega
      · rw [if_neg e1]
        split
        · rename_i e2; subst e2; omega
        · exact h1
    · rw [ha]
      split
      · rename_i e; subst e; have := hm.low b hi; omega
      · exact hm.low i hi
    · rw [gt_set _ (by omega)]
      split
      · rename_i e
        subst e
        have h1 := hm.rare b hi hr
        omega
      · exact hm.rare i hi hr
    · exfalso
      have h1 : (firstOf cs S cs.sum).sum * cs.sum ≤ cs.sum * S := by
        have e1 := sumTo_list cs cs.length rfl
        have e2 := sumTo_list (firstOf cs S cs.sum) cs.length (by simp [firstOf])
        have e3 := sumTo_sub (gt cs) (gt (firstOf cs S cs.sum)) S cs.sum cs.length
        rw [e1, e2] at e3
        have h2 : ∀ k, 0 ≤ sumTo (fun i => gt cs i * S - gt (firstOf cs S cs.sum) i * cs.sum) k := by
          intro k
          induction k with
          | zero => exact Int.le_refl _
          | succ k ih =>
            unfold sumTo
            have h3 := gt_nonneg hc.valid k
            by_cases h4 : 0 < gt cs k
            · have h5 := ((hfs k h4).2.1 (hn k h4)).2
              rw [gt_first]
              omega
            · have h5 : gt cs k = 0 := by omega
              rw [gt_first, h5]
              simp [start]
              exact ih
        have := h2 cs.length
        omega
      have h2 : cs.sum * S < (firstOf cs S cs.sum).sum * cs.sum := by
        rw [Int.mul_comm]
        exact Int.mul_lt_mul_of_pos_right hS1 hT
      omega

/-! ### the table -/
theorem full_len (cs : List Int) (S T : Int) : (fullOf cs S T).length = cs.length := partOf_len _ _ _ _
theorem full_gt {cs : List Int} {S T : Int} {i : Nat} (hi : i < cs.length) : gt (fullOf cs S T) i = fin S T (gt cs i) (gt (mended cs S T) i) := by
  unfold fullOf
  rw [partOf_gt _ _ _ hi, if_pos hi]
/-- What the laws ask of the norms. -/
structure Norms (cs ns : List Int) (S : Int) : Prop where
  len : ns.length ≤ cs.length
  pos : 0 < ns.length
  last : ns.getLast? ≠ some 0
  out : ∀ i, ns.length ≤ i → gt cs i ≤ 0
  ge : ∀ i, -1 ≤ gt ns i
  zero : ∀ i, 0 < gt cs i ↔ i < ns.length ∧ gt ns i ≠ 0
  rare : ∀ i, i < ns.length → (gt ns i = -1 ↔ 0 < gt cs i ∧ gt cs i * S < cs.sum)
  sum : statesSum ns = S
  order : ∀ i k, i < ns.length → k < ns.length → gt cs i < gt cs k → (gt ns i).natAbs ≤ (gt ns k).natAbs
  over : ∀ i, 0 < gt cs i → ((gt ns i).natAbs : Int) * cs.sum - gt cs i * S < cs.sum
  under : (∀ i, 0 < gt cs i → ¬ gt cs i * S < cs.sum) → ∀ i, -cs.sum < ((gt ns i).natAbs : Int) * cs.sum - gt cs i * S
  small : ∀ i, (gt ns i).natAbs ≤ 512
theorem statesSum_list : ∀ (l : List Int) (n : Nat), l.length = n → sumTo (fun i => ((gt l i).natAbs : Int)) n = statesSum l := by
  intro l n hn
  subst hn
  have key : ∀ k, k ≤ l.length → sumTo (fun i => ((gt l i).natAbs : Int)) k = statesSum (l.take k) := by
    intro k
    induction k with
    | zero => intro _; simp [sumTo, statesSum]
    | succ k ih =>
      intro hk
      rw [sumTo, ih (by omega), statesSum_take_succ (gt_of (by omega))]
  rw [key _ (Nat.le_refl _), List.take_length]
theorem sumTo_congr {F G : Nat → Int} : ∀ {k : Nat}, (∀ i, i < k → F i = G i) → sumTo F k = sumTo G k
  | 0, _ => rfl
  | k + 1, h => by unfold sumTo; rw [sumTo_congr (k := k) fun i hi => h i (by omega), h k (by omega)]
theorem sumTo_tail {F : Nat → Int} {j : Nat} : ∀ {k : Nat}, j ≤ k → (∀ i, j ≤ i → i < k → F i = 0) → sumTo F k = sumTo F j
  | 0, h, _ => by obtain rfl : j = 0 := by omega
                  rfl
  | k + 1, h, h0 => by
    rcases Nat.lt_or_ge j (k + 1) with h1 | h1
    · rw [sumTo, sumTo_tail (k := k) (by omega) fun i h2 h3 => h0 i h2 (by omega), h0 k (by omega) (by omega), Int.add_zero]
    · obtain rfl : j = k + 1 := by omega
      rfl
theorem norms_facts {cs : List Int} {S : Int} (hc : COk cs S) : Norms cs (normsOf cs S) S := by
  obtain ⟨hm, hst⟩ := mended_facts hc
  have hT := total_pos hc.valid hc.used
  have hS := hc.s1
  obtain ⟨i0, hi0, hp0⟩ := used_pos hc.used
  obtain ⟨j, hj, hjl, hjp, hjo⟩ := pEnd_facts (d := 1) hi0 hp0
  have hlen : (normsOf cs S).length = j + 1 := by
    rw [normsOf, List.length_take, full_len, hj]; omega
  have hgt : ∀ i, i < j + 1 → gt (normsOf cs S) i = fin S cs.sum (gt cs i) (gt (mended cs S cs.sum) i) := fun i hi => by
    rw [← full_gt (by omega), normsOf, hj]
    unfold gt
    rw [List.getD, List.getD, List.getElem?_take, if_pos (by omega)]
  have hnn := NSt.nonneg hst hc.valid
  have hout : ∀ i, j + 1 ≤ i → gt cs i ≤ 0 := fun i hi => by
    by_cases h : i < cs.length
    · exact hjo i (by omega) h
    · rw [gt_none (by omega)]; exact Int.le_refl _
  have hfin : ∀ i, i < j + 1 → ((gt (normsOf cs S) i).natAbs : Int) = gt (mended cs S cs.sum) i := fun i hi => by
    rw [hgt i hi, fin]
    split
    · rename_i h; rw [hm.rare i h.1 h.2]; rfl
    · have := hnn i; omega
  have hz : ∀ i, gt cs i = 0 → gt (mended cs S cs.sum) i = 0 := hst.zero
  have hg0 := gt_nonneg hc.valid
  have hnsz : ∀ i, i < j + 1 → (gt (normsOf cs S) i = 0 ↔ gt cs i = 0) := fun i hi => by
    rw [hgt i hi, fin]
    split
    · rename_i h; omega
    · constructor
      · intro h
        have := hg0 i
        refine Classical.byContradiction fun hn => ?_
        have := hst.pos i (by omega)
        omega
      · exact hz i
  refine ⟨by omega, by omega, ?_, fun i hi => hout i (by omega), fun i => ?_, fun i => ?_, fun i hi => ?_, ?_, fun i k hi hk h => ?_, fun i hi => ?_, fun hn i => ?_, fun i => ?_⟩
  · rw [List.getLast?_eq_getElem?, hlen, Nat.add_sub_cancel, gt_of (by omega)]
    intro h
    injection h with h
    have := (hnsz j (by omega)).1 h
    omega
  · by_cases hi : i < j + 1
    · rw [hgt i hi, fin]
      split
      · exact Int.le_refl _
      · have := hnn i; omega
    · rw [gt_none (by omega)]; omega
  · constructor
    · intro h
      have hi : i < j + 1 := by
        refine Classical.byContradiction fun hn => ?_
        have := hout i (by omega); omega
      exact ⟨by omega, fun h2 => by have := (hnsz i hi).1 h2; omega⟩
    · rintro ⟨h1, h2⟩
      have h3 := hg0 i
      refine Classical.byContradiction fun hn => h2 ((hnsz i (by omega)).2 (by omega))
  · rw [hgt i (by omega), fin]
    constructor
    · intro h
      split at h
      · assumption
      · have := hnn i; omega
    · intro h; rw [if_pos h]
  · rw [← statesSum_list _ _ hlen, sumTo_congr hfin]
    have h1 := sumTo_tail (F := gt (mended cs S cs.sum)) (j := j + 1) (k := cs.length) (by omega) fun i h1 h2 => hz i (by have := hout i h1; have := hg0 i; omega)
    rw [← h1, sumTo_list _ _ hst.len]
    have := hst.sum
    omega
  · have h1 := hm.order i k h
    have h2 := hfin i (by omega)
    have h3 := hfin k (by omega)
    omega
  · have hi' : i < j + 1 := by
      refine Classical.byContradiction fun hn => ?_
      have := hout i (by omega); omega
    rw [hfin i hi']
    have := hm.low i hi
    unfold above at this
    omega
  · by_cases hi : i < j + 1
    · rw [hfin i hi]
      by_cases hp : 0 < gt cs i
      · have := hm.high hn i hp
        unfold above at this
        omega
      · have h1 : gt cs i = 0 := by have := hg0 i; omega
        rw [h1, hz i h1]
        simp
        exact hT
    · have h1 : gt cs i = 0 := by have := hg0 i; have := hout i (by omega); omega
      rw [gt_none (l := normsOf cs S) (by omega), h1]
      simp
      exact hT
  · by_cases hi : i < j + 1
    · have h1 := hfin i hi
      have h2 := hst.le i
      omega
    · rw [gt_none (by omega)]; decide
end Go.Proofs.Ytelijgibgpbcnaa
