/-
  What the laws of norm hold in memory; plain lemmas for them.
-/
import Derived.Test.YtelijgibgpbcnaaNmAllc
import Derived.Test.YtelijgibgpbcnaaArgs
import Derived.Deep.RegionHeld3
namespace Go.Proofs.Ytelijgibgpbcnaa
open Go.RowKit

theorem AtInts.moved {w w' : World} {k : IntKind} {A : Option Addr} {n B : Nat} {xs : List Int} (h : AtInts w k A n xs) (hb : Below B w w') (hB : w.heap.size ≤ B) : AtInts w' k A n xs := h.below hb hB
/-- The counts, the table's box, its norms. -/
structure LwSt (w W : World) (B : Nat) (log : Int) (A2 : Option Addr) (l c2 : Nat) (ns : List Int) (A : Option Addr) (n : Nat) (cs : List Int) : Prop where
  below : Below w.heap.size w W
  box : Blk W B 25 #[.int .i64 log, .slice A2 l c2]
  tab : AtInts W .i64 A2 l ns
  cnt : AtInts W .i64 A n cs
section
variable {w W W' : World} {B : Nat} {log : Int} {A2 : Option Addr} {l c2 : Nat} {ns : List Int} {A : Option Addr} {n : Nat} {cs : List Int}
theorem LwSt.drewN (h : LwSt w W B log A2 l c2 ns A n cs) (a : Nat) : LwSt w (W.drewN a) B log A2 l c2 ns A n cs := ⟨below_drewN h.below a, h.box, h.tab, h.cnt⟩
theorem LwSt.next (h : LwSt w W B log A2 l c2 ns A n cs) (hb : Below W.heap.size W W') : LwSt w W' B log A2 l c2 ns A n cs :=
  ⟨h.below.trans (hb.mono h.below.size), h.box.below hb h.box.lt, h.tab.below hb (Nat.le_refl _), h.cnt.below hb (Nat.le_refl _)⟩
theorem LwSt.start {w1 : World} (hb : Below w.heap.size w w1) (ht : AtInts w1 .i64 A2 l ns) (hc : AtInts w .i64 A n cs) : LwSt w (w1.alloc (.cells #[.int .i64 log, .slice A2 l c2] 25)) w1.heap.size log A2 l c2 ns A n cs :=
  ⟨hb.alloc hb.size _, Blk.new _ _ _, ht.alloc _, (hc.below hb (Nat.le_refl _)).alloc _⟩
end
theorem AtInts.one {w : World} {k : IntKind} {A : Option Addr} {n : Nat} {xs : List Int} (h : AtInts w k A n xs) {i : Nat} (hi : i < n) :
    ∃ b off, A = some ⟨b, off, none⟩ ∧ w.cell? ⟨b, off + i, none⟩ = some (.int k (gt xs i)) := by
  obtain ⟨b, off, x, hA, -, hc, hx⟩ := h.at_ hi
  exact ⟨b, off, hA, by rw [gt_at hx.out]; exact hc⟩
theorem Ints.at__ {w : World} {k : IntKind} {A : Option Addr} {l c : Nat} {ns : List Int} (h : Ints w k (.slice A l c) ns) : AtInts w k A l ns := by
  obtain ⟨A', n', c', hv, -, -, ha⟩ := h.get
  injection hv with h1 h2 h3
  subst h1 h2 h3
  exact ha

/-! ### a factor on all counts -/
theorem sum_bound {cs : List Int} {M : Int} (h : ∀ x ∈ cs, x ≤ M) : cs.sum ≤ M * cs.length := by
  induction cs with
  | nil => simp
  | cons c cs ih =>
    have h1 := h c (by simp)
    have h2 := ih fun x hx => h x (by simp [hx])
    rw [List.sum_cons, List.length_cons, Int.natCast_add, Int.mul_add]
    simp
    omega
theorem NOk_mul {cs : List Int} {t log : Int} (h : ∀ x ∈ cs, 0 ≤ x ∧ x ≤ 100000000) (hl : cs.length ≤ 300) (ht : 1 ≤ t) (ht2 : t ≤ 30) : NOk (cs.map (· * t)) log ↔ NOk cs log := by
  have h1 := sum_bound (fun x hx => (h x hx).2)
  have h0 : 0 ≤ cs.sum := sum_nonneg fun x hx => (h x hx).1
  have h2 : cs.sum * t ≤ 30000000000 * 30 := Int.mul_le_mul (by omega) ht2 (by omega) (by omega)
  have hv : CValid cs := ⟨fun x hx => (h x hx).1, by omega⟩
  have hv' : CValid (cs.map (· * t)) := by
    refine ⟨fun x hx => ?_, by rw [sum_map_mul]; omega⟩
    obtain ⟨y, hy, rfl⟩ := List.mem_map.1 hx
    exact Int.mul_nonneg (h y hy).1 (by omega)
  unfold NOk
  rw [usedOf_map (by omega)]
  constructor
  · rintro ⟨-, h3⟩; exact ⟨hv, h3⟩
  · rintro ⟨-, h3⟩; exact ⟨hv', h3⟩
theorem nAll_mul {cs : List Int} {t log : Int} (h : ∀ x ∈ cs, 0 ≤ x ∧ x ≤ 100000000) (hl : cs.length ≤ 300) (ht : 1 ≤ t) (ht2 : t ≤ 30) : nL (cs.map (· * t)) log = nL cs log ∧ nN (cs.map (· * t)) log = nN cs log ∧ nE (cs.map (· * t)) log = nE cs log := by
  have e := NOk_mul (log := log) h hl ht ht2
  unfold nL nN nE
  by_cases hk : NOk cs log
  · rw [if_pos hk, if_pos (e.2 hk), if_pos hk, if_pos (e.2 hk), if_pos hk, if_pos (e.2 hk), normsOf_mul (by omega)]
    exact ⟨rfl, rfl, rfl⟩
  · rw [if_neg hk, if_neg fun h2 => hk (e.1 h2), if_neg hk, if_neg fun h2 => hk (e.1 h2), if_neg hk, if_neg fun h2 => hk (e.1 h2)]
    exact ⟨rfl, rfl, rfl⟩
/-- Counts that are a multiple of a table's norms. -/
theorem used_le_sum {xs : List Int} (h : ∀ x ∈ xs, 0 ≤ x) : (usedOf xs : Int) ≤ xs.sum := by
  induction xs with
  | nil => simp [usedOf]
  | cons x xs ih =>
    have h1 := ih fun y hy => h y (by simp [hy])
    have h2 := h x (by simp)
    unfold usedOf at h1 ⊢
    rw [List.filter_cons, List.sum_cons]
    by_cases hx : 0 < x
    · rw [if_pos (by simpa using hx), List.length_cons]; omega
    · rw [if_neg (by simpa using hx)]; omega
theorem whole_ok {log : Int} {xs : List Int} {t s m : Int} (hv : Valid log xs s m) (h0 : ∀ x ∈ xs, 0 ≤ x) (ht : 1 ≤ t) (ht2 : t ≤ 1000000) : NOk (xs.map (· * t)) log ∧ normsOf (xs.map (· * t)) (2 ^ log.toNat) = xs := by
  obtain ⟨l0, -, l9, hne, -, hl, -, hs⟩ := hv
  have hS := two_pow_le l0 l9
  rw [sum_pos_last h0] at hs
  have hw := normsOf_whole (t := t) h0 hne hl hs (by omega) (by omega)
  refine ⟨⟨⟨fun x hx => ?_, ?_⟩, ?_, l0, l9, ?_⟩, hw⟩
  · obtain ⟨y, hy, rfl⟩ := List.mem_map.1 hx
    exact Int.mul_nonneg (h0 y hy) (by omega)
  · rw [sum_map_mul, hs]
    have : (2 : Int) ^ log.toNat * t ≤ 512 * 1000000 := Int.mul_le_mul hS.2 ht2 (by omega) (by omega)
    omega
  · rw [usedOf_map (by omega)]
    have h1 : 0 < xs.length := List.length_pos_iff.2 hne
    rw [List.getLast?_eq_getElem?, List.getElem?_eq_getElem (by omega)] at hl
    have h2 := h0 _ (List.getElem_mem (l := xs) (n := xs.length - 1) (by omega))
    have h3 : 0 < xs[xs.length - 1] := by
      have : xs[xs.length - 1] ≠ 0 := fun e => hl (by rw [e])
      omega
    unfold usedOf
    exact List.length_pos_of_mem (List.mem_filter.2 ⟨List.getElem_mem (l := xs) (n := xs.length - 1) (by omega), by simpa using h3⟩)
  · rw [usedOf_map (by omega)]
    have := used_le_sum h0
    omega
/-- What a recommendation gives. -/
theorem logOf_facts {cs : List Int} {most : Int} (h : 0 ≤ logOf cs most) : NOk cs (logOf cs most) ∧ logOf cs most ≤ most ∧ 0 ≤ logOf cs most := by
  unfold logOf at h ⊢
  split at h
  · rename_i hc
    obtain ⟨hv, hu, hb, hf⟩ := hc
    have hcond : CValid cs ∧ 0 < usedOf cs ∧ 0 ≤ min most 9 ∧ (usedOf cs : Int) ≤ 2 ^ (min most 9).toNat := ⟨hv, hu, hb, hf⟩
    rw [if_pos hcond]
    by_cases h1 : usedOf cs = 1
    · rw [if_pos h1]
      exact ⟨⟨hv, hu, by omega, by omega, by rw [h1]; decide⟩, by omega, by omega⟩
    · rw [if_neg h1] at h ⊢
      refine ⟨⟨hv, hu, h, by unfold logIn; omega, ?_⟩, by unfold logIn; omega, h⟩
      by_cases hm : logIn cs (min most 9) = min most 9
      · rw [hm]; exact hf
      · have hge : (logU cs : Int) ≤ logIn cs (min most 9) := by unfold logIn at hm ⊢; omega
        have h9 : usedOf cs ≤ 512 := by
          have := (two_pow_le hb (by omega)).2
          omega
        obtain ⟨-, -, h3⟩ := bitLen_oct (usedOf cs - 1) (by omega) (by omega)
        have h4 : 2 ^ logU cs ≤ 2 ^ (logIn cs (min most 9)).toNat := Nat.pow_le_pow_right (by decide) (by omega)
        unfold logU at h4
        rw [pow_int]
        omega
  · omega
theorem logOf_neg {cs : List Int} {most : Int} (h : logOf cs most < 0) (h9 : ¬ 9 < most) : ¬ NOk cs most := by
  intro hk
  unfold logOf at h
  rw [if_pos ⟨hk.1, hk.2.1, by have := hk.2.2.1; omega, by rw [show min most 9 = most by omega]; exact hk.2.2.2.2⟩] at h
  split at h
  · omega
  · unfold logIn at h
    have := hk.2.2.1
    omega
theorem norms_valid {cs : List Int} {log most : Int} (hk : NOk cs log) (hm : log ≤ most) : Valid log (normsOf cs (2 ^ log.toNat)) cs.length most := by
  have hn := norms_facts hk.cok
  refine ⟨hk.2.2.1, hm, hk.2.2.2.1, fun e => by have := hn.pos; rw [e] at this; simp at this, by have := hn.len; omega, hn.last, fun x hx => ?_, hn.sum⟩
  obtain ⟨i, hi⟩ := List.getElem?_of_mem hx
  have := hn.ge i
  rw [gt_at hi] at this
  exact this
end Go.Proofs.Ytelijgibgpbcnaa
