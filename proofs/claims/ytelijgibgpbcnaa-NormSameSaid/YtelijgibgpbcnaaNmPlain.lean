/-
  Normalization in plain words: the best index, the mending, the table. No program in sight.
-/
import Derived.Test.YtelijgibgpbcnaaNormAll
namespace Go.Proofs.Ytelijgibgpbcnaa
open Go.RowKit

/-- The i-th number, 0 beyond the end. -/
def gt (l : List Int) (i : Nat) : Int := l.getD i 0
theorem gt_at {l : List Int} {i : Nat} {x : Int} (h : l[i]? = some x) : gt l i = x := by simp [gt, List.getD, h]
theorem gt_of {l : List Int} {i : Nat} (h : i < l.length) : l[i]? = some (gt l i) := by
  rw [gt, List.getD, List.getElem?_eq_getElem h]; rfl
theorem gt_none {l : List Int} {i : Nat} (h : l.length ≤ i) : gt l i = 0 := by simp [gt, List.getD, List.getElem?_eq_none h]
theorem gt_set {l : List Int} {i j : Nat} (x : Int) (h : i < l.length) : gt (l.set i x) j = if i = j then x else gt l j := by
  unfold gt
  rw [List.getD, List.getElem?_set]
  by_cases e : i = j
  · subst e; simp [h]
  · simp [e]
theorem gt_ext {l l' : List Int} (hl : l.length = l'.length) (h : ∀ i, i < l.length → gt l i = gt l' i) : l = l' := by
  apply List.ext_getElem? 
  intro i
  by_cases hi : i < l.length
  · rw [gt_of hi, gt_of (by omega), h i hi]
  · rw [List.getElem?_eq_none (by omega), List.getElem?_eq_none (by omega)]

/-- The first index below k, among those selected, that maximizes f. -/
def best (sel : Nat → Bool) (f : Nat → Int) : Nat → Option Nat
  | 0 => none
  | k + 1 => match best sel f k with
    | none => if sel k then some k else none
    | some j => if sel k && decide (f j < f k) then some k else some j
def bI : Option Nat → Int
  | none => -1
  | some j => j
theorem best_zero (sel : Nat → Bool) (f : Nat → Int) : best sel f 0 = none := rfl
theorem best_succ (sel : Nat → Bool) (f : Nat → Int) (k : Nat) : best sel f (k + 1) = match best sel f k with
    | none => if sel k then some k else none
    | some j => if sel k && decide (f j < f k) then some k else some j := rfl
theorem best_no {sel : Nat → Bool} {f : Nat → Int} {k : Nat} (h : sel k = false) : best sel f (k + 1) = best sel f k := by
  rw [best_succ]
  cases best sel f k <;> simp [h]
theorem best_first {sel : Nat → Bool} {f : Nat → Int} {k : Nat} (h : sel k = true) (hb : best sel f k = none) : best sel f (k + 1) = some k := by
  rw [best_succ, hb]; simp [h]
theorem best_more {sel : Nat → Bool} {f : Nat → Int} {k j : Nat} (h : sel k = true) (hb : best sel f k = some j) (hf : f j < f k) : best sel f (k + 1) = some k := by
  rw [best_succ, hb]; simp [h, hf]
theorem best_less {sel : Nat → Bool} {f : Nat → Int} {k j : Nat} (hb : best sel f k = some j) (hf : ¬ f j < f k) : best sel f (k + 1) = some j := by
  rw [best_succ, hb]; simp [hf]
theorem best_spec {sel : Nat → Bool} {f : Nat → Int} : ∀ {k : Nat}, match best sel f k with
    | none => ∀ i, i < k → sel i = false
    | some j => j < k ∧ sel j = true ∧ ∀ i, i < k → sel i = true → f i ≤ f j
  | 0 => fun i h => absurd h (by omega)
  | k + 1 => by
    have ih := best_spec (sel := sel) (f := f) (k := k)
    cases hs : sel k with
    | false =>
      rw [best_no hs]
      cases hb : best sel f k with
      | none =>
        rw [hb] at ih
        intro i hi
        rcases Nat.lt_or_ge i k with h | h
        · exact ih i h
        · obtain rfl : i = k := by omega
          exact hs
      | some j =>
        rw [hb] at ih
        refine ⟨by have := ih.1; omega, ih.2.1, fun i hi h => ?_⟩
        rcases Nat.lt_or_ge i k with h2 | h2
        · exact ih.2.2 i h2 h
        · obtain rfl : i = k := by omega
          rw [hs] at h; cases h
    | true =>
      cases hb : best sel f k with
      | none =>
        rw [hb] at ih
        rw [best_first hs hb]
        refine ⟨by omega, hs, fun i hi h => ?_⟩
        rcases Nat.lt_or_ge i k with h2 | h2
        · rw [ih i h2] at h; cases h
        · obtain rfl : i = k := by omega
          exact Int.le_refl _
      | some j =>
        rw [hb] at ih
        by_cases hf : f j < f k
        · rw [best_more hs hb hf]
          refine ⟨by omega, hs, fun i hi h => ?_⟩
          rcases Nat.lt_or_ge i k with h2 | h2
          · have := ih.2.2 i h2 h; omega
          · obtain rfl : i = k := by omega
            exact Int.le_refl _
        · rw [best_less hb hf]
          refine ⟨by have := ih.1; omega, ih.2.1, fun i hi h => ?_⟩
          rcases Nat.lt_or_ge i k with h2 | h2
          · exact ih.2.2 i h2 h
          · obtain rfl : i = k := by omega
            omega
theorem best_some {sel : Nat → Bool} {f : Nat → Int} {k i : Nat} (hi : i < k) (hs : sel i = true) : ∃ j, best sel f k = some j := by
  have h := best_spec (sel := sel) (f := f) (k := k)
  cases hb : best sel f k with
  | none => rw [hb] at h; rw [h i hi] at hs; cases hs
  | some j => exact ⟨j, rfl⟩
theorem best_facts {sel : Nat → Bool} {f : Nat → Int} {k j : Nat} (hb : best sel f k = some j) : j < k ∧ sel j = true ∧ ∀ i, i < k → sel i = true → f i ≤ f j := by
  have h := best_spec (sel := sel) (f := f) (k := k)
  rw [hb] at h
  exact h

/-- A symbol's first number of states. -/
def start (S T c : Int) : Int := if 0 < c then max (c * S / T) 1 else 0
def above (cs ns : List Int) (S T : Int) (i : Nat) : Int := gt cs i * S - gt ns i * T
def below_ (cs ns : List Int) (S T : Int) (i : Nat) : Int := -(gt cs i * S - gt ns i * T)
def selUp (cs : List Int) (i : Nat) : Bool := decide (0 < gt cs i)
def selDn (ns : List Int) (i : Nat) : Bool := decide (1 < gt ns i)
def bestUp (cs : List Int) (S T : Int) (ns : List Int) : Option Nat := best (selUp cs) (above cs ns S T) cs.length
def bestDn (cs : List Int) (S T : Int) (ns : List Int) : Option Nat := best (selDn ns) (below_ cs ns S T) cs.length
def stepUp (cs : List Int) (S T : Int) (ns : List Int) : List Int := match bestUp cs S T ns with
  | some b => ns.set b (gt ns b + 1)
  | none => ns
def stepDn (cs : List Int) (S T : Int) (ns : List Int) : List Int := match bestDn cs S T ns with
  | some b => ns.set b (gt ns b - 1)
  | none => ns
def iter (g : List Int → List Int) : Nat → List Int → List Int
  | 0, ns => ns
  | k + 1, ns => iter g k (g ns)
/-- The numbers of states before the mending; behind it. -/
def firstOf (cs : List Int) (S T : Int) : List Int := cs.map (start S T)
def mended (cs : List Int) (S T : Int) : List Int :=
  if (firstOf cs S T).sum ≤ S then iter (stepUp cs S T) (S - (firstOf cs S T).sum).toNat (firstOf cs S T)
  else iter (stepDn cs S T) ((firstOf cs S T).sum - S).toNat (firstOf cs S T)

theorem sum_set : ∀ {l : List Int} {i : Nat} (x : Int), i < l.length → (l.set i x).sum = l.sum - gt l i + x
  | [], _, _, h => by simp at h
  | y :: l, 0, x, _ => by simp [gt]; omega
  | y :: l, i + 1, x, h => by
    have ih := sum_set (l := l) (i := i) x (by simpa using h)
    have e : gt (y :: l) (i + 1) = gt l i := by simp [gt, List.getD]
    rw [List.set_cons_succ, List.sum_cons, List.sum_cons, ih, e]
    omega
theorem gt_le_sum : ∀ {l : List Int}, (∀ i, 0 ≤ gt l i) → ∀ i, gt l i ≤ l.sum
  | [], _, i => by simp [gt]
  | y :: l, h, i => by
    have ht : ∀ i, 0 ≤ gt l i := fun i => by have := h (i + 1); simpa [gt, List.getD] using this
    have ih := gt_le_sum ht
    have h0 : 0 ≤ y := by have := h 0; simpa [gt] using this
    have hs : 0 ≤ l.sum := by
      cases l with
      | nil => simp
      | cons z l => have := ih 0; have := ht 0; omega
    rw [List.sum_cons]
    cases i with
    | zero => simp [gt]; omega
    | succ i => have e : gt (y :: l) (i + 1) = gt l i := by simp [gt, List.getD]
                have := ih i; omega

/-- What holds of the numbers of states all through the mending; L states are left. -/
structure NSt (cs ns : List Int) (S L : Int) : Prop where
  len : ns.length = cs.length
  pos : ∀ i, 0 < gt cs i → 1 ≤ gt ns i
  zero : ∀ i, gt cs i = 0 → gt ns i = 0
  sum : ns.sum + L = S
  le : ∀ i, gt ns i ≤ 512

/-- The counts serve. -/
structure COk (cs : List Int) (S : Int) : Prop where
  valid : CValid cs
  used : 0 < usedOf cs
  fits : (usedOf cs : Int) ≤ S
  s1 : 1 ≤ S
  s5 : S ≤ 512

theorem gt_nonneg {cs : List Int} (h : CValid cs) (i : Nat) : 0 ≤ gt cs i := by
  by_cases hi : i < cs.length
  · exact h.1 _ (List.mem_of_getElem? (gt_of hi))
  · rw [gt_none (by omega)]; exact Int.le_refl _
theorem gt_le_total {cs : List Int} (h : CValid cs) (i : Nat) : gt cs i ≤ cs.sum := gt_le_sum (gt_nonneg h) i
theorem used_pos {cs : List Int} (h : 0 < usedOf cs) : ∃ i, i < cs.length ∧ 0 < gt cs i := by
  unfold usedOf at h
  obtain ⟨c, hc⟩ := List.exists_mem_of_length_pos h
  obtain ⟨hm, hp⟩ := List.mem_filter.1 hc
  obtain ⟨i, hi⟩ := List.getElem?_of_mem hm
  exact ⟨i, (List.getElem?_eq_some_iff.1 hi).1, by rw [gt_at hi]; simpa using hp⟩
theorem total_pos {cs : List Int} (h : CValid cs) (hu : 0 < usedOf cs) : 0 < cs.sum := by
  obtain ⟨i, -, hp⟩ := used_pos hu
  have := gt_le_total h i
  omega
theorem start_bounds {S T c : Int} (hS : 1 ≤ S) (hc : 0 ≤ c) (hcT : c ≤ T) : 0 ≤ start S T c ∧ start S T c ≤ S ∧ (0 < c → 1 ≤ start S T c) ∧ (c = 0 → start S T c = 0) := by
  unfold start
  by_cases h : 0 < c
  · rw [if_pos h]
    have h1 : c * S / T ≤ S := by
      apply Int.ediv_le_of_le_mul (by omega)
      rw [Int.mul_comm S T]
      exact Int.mul_le_mul_of_nonneg_right hcT (by omega)
    omega
  · rw [if_neg h]; omega
theorem gt_first (cs : List Int) (S T : Int) (i : Nat) : gt (firstOf cs S T) i = start S T (gt cs i) := by
  unfold firstOf gt
  rw [List.getD, List.getD, List.getElem?_map]
  cases cs[i]? with
  | none => simp [start]
  | some c => simp
theorem NSt.start {cs : List Int} {S : Int} (h : COk cs S) : NSt cs (firstOf cs S cs.sum) S (S - (firstOf cs S cs.sum).sum) := by
  have hb := fun i => start_bounds (S := S) h.s1 (gt_nonneg h.valid i) (gt_le_total h.valid i)
  have hs := h.s5
  exact ⟨by simp [firstOf], fun i hi => by rw [gt_first]; exact (hb i).2.2.1 hi, fun i hi => by rw [gt_first]; exact (hb i).2.2.2 hi, by omega, fun i => by rw [gt_first]; have := (hb i).2.1; omega⟩
theorem NSt.nonneg {cs ns : List Int} {S L : Int} (h : NSt cs ns S L) (hv : CValid cs) (i : Nat) : 0 ≤ gt ns i := by
  have h1 := gt_nonneg hv i
  by_cases h2 : 0 < gt cs i
  · have := h.pos i h2; omega
  · have := h.zero i (by omega); omega
theorem NSt.up {cs ns : List Int} {S : Int} {k : Nat} (h : NSt cs ns S ((k : Int) + 1)) (hc : COk cs S) : ∃ b, bestUp cs S cs.sum ns = some b ∧ b < cs.length ∧ stepUp cs S cs.sum ns = ns.set b (gt ns b + 1) ∧ NSt cs (ns.set b (gt ns b + 1)) S k := by
  obtain ⟨i, hi, hp⟩ := used_pos hc.used
  obtain ⟨b, hb⟩ := best_some (sel := selUp cs) (f := above cs ns S cs.sum) hi (by simpa [selUp] using hp)
  obtain ⟨hlt, hs, -⟩ := best_facts hb
  have hs' : 0 < gt cs b := by simpa [selUp] using hs
  have hl := h.len
  have hsum : (ns.set b (gt ns b + 1)).sum + k = S := by
    rw [sum_set _ (by omega)]; have := h.sum; omega
  have hpos : ∀ j, 0 < gt cs j → 1 ≤ gt (ns.set b (gt ns b + 1)) j := fun j hj => by
    rw [gt_set _ (by omega)]
    have := h.pos j hj
    split
    · rename_i e; subst e; omega
    · exact this
  have hzero : ∀ j, gt cs j = 0 → gt (ns.set b (gt ns b + 1)) j = 0 := fun j hj => by
    rw [gt_set _ (by omega), if_neg (by rintro rfl; omega)]
    exact h.zero j hj
  refine ⟨b, hb, hlt, ?_, ⟨by rw [List.length_set]; exact hl, hpos, hzero, hsum, fun j => ?_⟩⟩
  · rw [stepUp, show bestUp cs S cs.sum ns = some b from hb]
  · have h1 := gt_le_sum (l := ns.set b (gt ns b + 1)) (fun j => by
      have h2 := gt_nonneg hc.valid j
      by_cases h3 : 0 < gt cs j
      · have := hpos j h3; omega
      · have := hzero j (by omega); omega) j
    have := hc.s5
    omega
theorem sum_le_used : ∀ {cs ns : List Int}, ns.length = cs.length → (∀ i, gt ns i ≤ if 0 < gt cs i then 1 else 0) → ns.sum ≤ usedOf cs
  | [], [], _, _ => by simp [usedOf]
  | [], _ :: _, h, _ => by simp at h
  | _ :: _, [], h, _ => by simp at h
  | c :: cs, x :: ns, h, hh => by
    have ih := sum_le_used (cs := cs) (ns := ns) (by simpa using h) fun i => hh (i + 1)
    have h0 := hh 0
    have e1 : gt (x :: ns) 0 = x := by simp [gt]
    have e2 : gt (c :: cs) 0 = c := by simp [gt]
    rw [e1, e2] at h0
    rw [List.sum_cons]
    unfold usedOf at ih ⊢
    rw [List.filter_cons]
    by_cases hc : 0 < c
    · rw [if_pos hc] at h0
      rw [if_pos (by simpa using hc), List.length_cons]
      omega
    · rw [if_neg hc] at h0
      rw [if_neg (by simpa using hc)]
      omega
theorem NSt.dn {cs ns : List Int} {S : Int} {k : Nat} (h : NSt cs ns S (-((k : Int) + 1))) (hc : COk cs S) : ∃ b, bestDn cs S cs.sum ns = some b ∧ b < cs.length ∧ stepDn cs S cs.sum ns = ns.set b (gt ns b - 1) ∧ 2 ≤ gt ns b ∧ NSt cs (ns.set b (gt ns b - 1)) S (-(k : Int)) := by
  have hl := h.len
  have hex : ∃ i, i < cs.length ∧ 1 < gt ns i := by
    refine Classical.byContradiction fun hn => ?_
    have h1 := sum_le_used hl fun i => by
      by_cases hi : i < cs.length
      · have h2 : ¬ 1 < gt ns i := fun h2 => hn ⟨i, hi, h2⟩
        have h3 := gt_nonneg hc.valid i
        by_cases h4 : 0 < gt cs i
        · rw [if_pos h4]; omega
        · rw [if_neg h4, h.zero i (by omega)]; exact Int.le_refl _
      · rw [gt_none (l := ns) (by omega)]
        split <;> omega
    have := h.sum
    have := hc.fits
    omega
  obtain ⟨i, hi, hp⟩ := hex
  obtain ⟨b, hb⟩ := best_some (sel := selDn ns) (f := below_ cs ns S cs.sum) hi (by simpa [selDn] using hp)
  obtain ⟨hlt, hs, -⟩ := best_facts hb
  have hs' : 1 < gt ns b := by simpa [selDn] using hs
  refine ⟨b, hb, hlt, ?_, by omega, ⟨by rw [List.length_set]; exact hl, fun j hj => ?_, fun j hj => ?_, ?_, fun j => ?_⟩⟩
  · rw [stepDn, show bestDn cs S cs.sum ns = some b from hb]
  · rw [gt_set _ (by omega)]
    have := h.pos j hj
    split
    · omega
    · exact this
  · rw [gt_set _ (by omega)]
    have := h.zero j hj
    split
    · rename_i e; subst e; omega
    · exact this
  · rw [sum_set _ (by omega)]; have := h.sum; omega
  · rw [gt_set _ (by omega)]
    have := h.le j
    have := h.le b
    split <;> omega
/-- The end of the symbols with a positive count; d if there is none. -/
def pEnd (cs : List Int) (d : Int) : Nat → Int
  | 0 => d
  | k + 1 => if 0 < gt cs k then (k : Int) + 1 else pEnd cs d k
theorem pEnd_indep {cs : List Int} {d d' : Int} : ∀ {k i : Nat}, i < k → 0 < gt cs i → pEnd cs d k = pEnd cs d' k
  | k + 1, i, hi, h => by
    unfold pEnd
    by_cases hk : 0 < gt cs k
    · rw [if_pos hk, if_pos hk]
    · rw [if_neg hk, if_neg hk]
      have : i ≠ k := by rintro rfl; exact hk h
      exact pEnd_indep (by omega) h
theorem pEnd_le (cs : List Int) {d : Int} (k : Nat) (hd : d ≤ k) : pEnd cs d k ≤ k ∨ pEnd cs d k = d := by
  induction k with
  | zero => exact .inr rfl
  | succ k ih =>
    unfold pEnd
    by_cases hk : 0 < gt cs k
    · rw [if_pos hk]; left; omega
    · rw [if_neg hk]
      by_cases hd' : d ≤ k
      · rcases ih hd' with h | h
        · left; omega
        · exact .inr h
      · have : ∀ j, j ≤ k → pEnd cs d j ≤ k ∨ pEnd cs d j = d := by
          intro j
          induction j with
          | zero => intro _; exact .inr rfl
          | succ j ih2 =>
            intro hj
            unfold pEnd
            split
            · left; omega
            · exact ih2 (by omega)
        rcases this k (Nat.le_refl _) with h | h
        · left; omega
        · exact .inr h
theorem pEnd_facts {cs : List Int} {d : Int} : ∀ {k i : Nat}, i < k → 0 < gt cs i → ∃ j : Nat, pEnd cs d k = (j : Int) + 1 ∧ j < k ∧ 0 < gt cs j ∧ ∀ l, j < l → l < k → gt cs l ≤ 0
  | k + 1, i, hi, h => by
    unfold pEnd
    by_cases hk : 0 < gt cs k
    · rw [if_pos hk]
      exact ⟨k, rfl, by omega, hk, fun l h1 h2 => by omega⟩
    · rw [if_neg hk]
      have : i ≠ k := by rintro rfl; exact hk h
      obtain ⟨j, h1, h2, h3, h4⟩ := pEnd_facts (d := d) (show i < k by omega) h
      refine ⟨j, h1, by omega, h3, fun l h5 h6 => ?_⟩
      rcases Nat.lt_or_ge l k with h7 | h7
      · exact h4 l h5 h7
      · obtain rfl : l = k := by omega
        omega
/-- A norm. -/
def fin (S T c n : Int) : Int := if 0 < c ∧ c * S < T then -1 else n
/-- The first k indices turned by F, the others as G says. -/
def partOf (n : Nat) (F G : Nat → Int) (k : Nat) : List Int := (List.range n).map fun i => if i < k then F i else G i
theorem partOf_len (n : Nat) (F G : Nat → Int) (k : Nat) : (partOf n F G k).length = n := by simp [partOf]
theorem partOf_at {n i : Nat} (F G : Nat → Int) (k : Nat) (h : i < n) : (partOf n F G k)[i]? = some (if i < k then F i else G i) := by simp [partOf, h]
theorem partOf_succ (n : Nat) (F G : Nat → Int) (k : Nat) : partOf n F G (k + 1) = (partOf n F G k).set k (F k) := by
  apply List.ext_getElem
  · simp [partOf]
  · intro i h1 h2
    rw [List.getElem_set]
    simp only [partOf, List.getElem_map, List.getElem_range]
    by_cases e : k = i
    · subst e; simp
    · simp only [e, if_false]
      by_cases hlt : i < k
      · rw [if_pos hlt, if_pos (by omega)]
      · rw [if_neg hlt, if_neg (by omega)]
theorem partOf_zero {l : List Int} {n : Nat} (F : Nat → Int) (h : l.length = n) : partOf n F (gt l) 0 = l := by
  apply gt_ext (by rw [partOf_len, h])
  intro i hi
  rw [partOf_len] at hi
  exact gt_at (by rw [partOf_at _ _ _ hi, if_neg (by omega)])
theorem partOf_gt {n i : Nat} (F G : Nat → Int) (k : Nat) (h : i < n) : gt (partOf n F G k) i = if i < k then F i else G i := gt_at (partOf_at F G k h)
theorem partOf_top {n : Nat} {F : Nat → Int} (G : Nat → Int) {l : List Int} (hl : l.length = n) (h : ∀ i, i < n → F i = gt l i) : partOf n F G n = l := by
  apply gt_ext (by rw [partOf_len, hl])
  intro i hi
  rw [partOf_len] at hi
  rw [partOf_gt _ _ _ hi, if_pos hi, h i hi]
/-- The sum of the first k. -/
def sumTo (F : Nat → Int) : Nat → Int
  | 0 => 0
  | k + 1 => sumTo F k + F k
theorem sumTo_list : ∀ (l : List Int) (n : Nat), l.length = n → sumTo (gt l) n = l.sum := by
  intro l n hn
  subst hn
  have key : ∀ k, k ≤ l.length → sumTo (gt l) k = (l.take k).sum := by
    intro k
    induction k with
    | zero => intro _; simp [sumTo]
    | succ k ih =>
      intro hk
      rw [sumTo, ih (by omega), sum_take_succ (gt_of (by omega))]
  rw [key _ (Nat.le_refl _), List.take_length]
/-- All norms; the table's norms. -/
def fullOf (cs : List Int) (S T : Int) : List Int := partOf cs.length (fun i => fin S T (gt cs i) (gt (mended cs S T) i)) (gt (mended cs S T)) cs.length
def normsOf (cs : List Int) (S : Int) : List Int := (fullOf cs S cs.sum).take (pEnd cs 1 cs.length).toNat
/-- Normalize finds a table. -/
def NOk (cs : List Int) (log : Int) : Prop := CValid cs ∧ 0 < usedOf cs ∧ 0 ≤ log ∧ log ≤ 9 ∧ (usedOf cs : Int) ≤ 2 ^ log.toNat
instance (cs : List Int) (log : Int) : Decidable (NOk cs log) := by unfold NOk; infer_instance
theorem NOk.cok {cs : List Int} {log : Int} (h : NOk cs log) : COk cs (2 ^ log.toNat) := by
  have := two_pow_le h.2.2.1 h.2.2.2.1
  exact ⟨h.1, h.2.1, h.2.2.2.2, by omega, by omega⟩
/-- The marking may stop behind the last symbol with a positive count. -/
theorem full_part {cs ms : List Int} {S T : Int} {k : Nat} (hT : ∀ l, k ≤ l → gt cs l ≤ 0) :
    partOf cs.length (fun i => fin S T (gt cs i) (gt ms i)) (gt ms) k = partOf cs.length (fun i => fin S T (gt cs i) (gt ms i)) (gt ms) cs.length := by
  apply gt_ext (by rw [partOf_len, partOf_len])
  intro i hi
  rw [partOf_len] at hi
  rw [partOf_gt _ _ _ hi, partOf_gt _ _ _ hi, if_pos hi]
  by_cases h : i < k
  · rw [if_pos h]
  · rw [if_neg h, fin, if_neg]
    have := hT i (by omega)
    omega
end Go.Proofs.Ytelijgibgpbcnaa
