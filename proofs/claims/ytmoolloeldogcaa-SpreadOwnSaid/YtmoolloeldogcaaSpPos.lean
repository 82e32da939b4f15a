/-
  spread.Positions; the reference's Places.
-/
import Derived.Test.YtmoolloeldogcaaSpread
import Derived.Test.YtmoolloeldogcaaSpCount
import Derived.Test.YtmoolloeldogcaaGrow
namespace Go.Proofs.Ytmoolloeldogcaa
open Go.RowKit

theorem pos_bad (log : Int) (v : Value) (xs : List Int) (s : Int) (w : World) (hx : Ints w .i64 v xs) (hw : ∀ x ∈ xs, x ≤ 9223372036854775807) (hv : ¬ Valid log xs 256 9) :
    Calls Try.prog 21 #[.agg #[.int .i64 log, v], .int .i64 s] w fun e w' => e = .returned (.tuple #[.slice none 0 0, .int .i64 13]) ∧ Below w.heap.size w w' := by
  have HI := Lib.hid hx
  have HV := Lib.hid hv
  have HW := Lib.hid hw
  obtain ⟨A, n, c, rfl, -, -, -⟩ := hx.get
  clear hx hv hw
  go_enter Try.func21, Try.ntmps21
  go_wp2_with fail
  refine (spread_bad log _ xs _ (HI.out.alloc _) HW.out HV.out).mono ?_
  rintro e w1 ⟨rfl, hb⟩
  have HB1 := Lib.hid (((Below.refl _ w).alloc (Nat.le_refl _) _).trans (hb.mono (by simp)))
  clear hb
  go_wp2
  go_ret2
  exact ⟨rfl, HB1.out⟩

set_option maxHeartbeats 1600000 in
theorem pos_ok (m : Nat) (v : Value) (xs : List Int) (s : Int) (w : World) (hx : Ints w .i64 v xs) (hw : ∀ x ∈ xs, x ≤ 9223372036854775807) (hm : m < 10) (hv : Valid m xs 256 9) (hall : (rares xs).length + (others xs).length = 2 ^ m) :
    Calls Try.prog 21 #[.agg #[.int .i64 m, v], .int .i64 s] w fun e w' => ∃ pv l, e = .returned (.tuple #[pv, .int .i64 0]) ∧ Grow w' w.heap.size 3 .i64 pv (placesOf l s) ∧ IsSpread m xs l ∧ Below w.heap.size w w' := by
  have HI := Lib.hid hx
  have HV := Lib.hid hv
  have HW := Lib.hid hw
  have HALL := Lib.hid hall
  obtain ⟨A, n, c, rfl, -, -, -⟩ := hx.get
  clear hx hv hw hall
  obtain ⟨i0, hi, hz0, hz1, hz2⟩ := info_parts infoInt
  go_enter Try.func21, Try.ntmps21
  go_wp2_with fail
  refine (spread_ok m _ xs _ (HI.out.alloc _) HW.out hm HV.out HALL.out).mono ?_
  rintro e w1 ⟨sv, l, rfl, ⟨g, t, rfl, hg, hk⟩, hsp, hb⟩
  have HB1 := Lib.hid (((Below.refl _ w).alloc (Nat.le_refl _) _).trans (hb.mono (by simp)))
  have hlt := hk.lt
  have hl5 : l.length ≤ 512 := by rw [hsp.len]; exact (step_le ⟨m, hm⟩).2.2
  obtain ⟨N, hN⟩ : ∃ N, l.length = N := ⟨_, rfl⟩
  have hpl : ∀ k, (placesOf (l.take k) s).length ≤ 512 := fun k => Nat.le_trans (placesOf_take_le l k s) hl5
  rw [hN] at hl5 ⊢
  have HN := Lib.hid hN
  have HPL := Lib.hid hpl
  have HK := Lib.hid hk
  have HSP := Lib.hid hsp
  clear hb hk hsp hN hpl
  go_wp2
  go_loopw [8, 21] (fun out i wr => ∃ k : Nat, k ≤ N ∧ i = .int .i64 k ∧ Hid (Grow wr w1.heap.size 3 .i64 out (placesOf (l.take k) s)) ∧ Hid (Below w1.heap.size w1 wr)) (fun _ i _ => N - (intOf i).toNat)
  case atStart => exact ⟨0, Nat.zero_le _, rfl, (Grow.nil _ _ _ _ : Grow _ _ _ _ _ (placesOf (l.take 0) s)), (Below.refl _ _ : Below _ _ _)⟩
  case round =>
    obtain ⟨k, hk, rfl, HG, HBL⟩ := hrel
    by_cases hlt2 : k < N
    · obtain ⟨x, hx⟩ : ∃ x, l[k]? = some x := ⟨_, List.getElem?_eq_getElem (by rw [HN.out]; exact hlt2)⟩
      have cx : wr.cell? ⟨g, k, none⟩ = some (.int .i64 x) := (HBL.out.cell (p := ⟨g, k, none⟩) hlt).trans (HK.out.int_at hx)
      have hpt := placesOf_take s hx
      have k0 : (0 : Int) ≤ (k : Int) := by omega
      have k1 : (k : Int) < (N : Int) := by omega
      clear hx
      by_cases hxs : x = s
      · subst hxs
        rw [if_pos rfl] at hpt
        have HPT := Lib.hid hpt
        have hrow : wr.ownsRow w1.heap.size 3 1 _ _ _ := HG.out
        have hp5 := HPL.out k
        have hwsz : w1.heap.size ≤ wr.heap.size := HBL.out.size
        clear hpt
        go_wp2_with (at_builtin; refine wpList_append_own _ rfl _ _ 22 rfl w1.heap.size 3 i0 (.int .i64 0) 1 8 Try.underlying22 hi hz0 hz1 hz2 rfl (by decide) _ _ _ rfl (hrow.alloc _) ⟨wr.heap.size, 0, none⟩ 1 1 [.int .i64 (k : Int)] rfl rfl (cell_one_new _ _ _) (by simp [Value.oneCell']) (by unfold maxLen; omega) (by omega) (by simp; omega) ?_; intro v2 w2 hown2 hgrow2 _; have H2 := Lib.hid (HG.out.app HBL.out hwsz hown2 hgrow2); clear hown2 hgrow2)
        go_roundw
        case rel => exact ⟨k + 1, by omega, by go_num, (by rw [HPT.out]; exact H2.out.1 : Grow _ _ _ _ _ _), (H2.out.2 : Below _ _ _)⟩
        case measure => simp [intOf]; omega
      · have hne : (x == s) = false := by simpa using hxs
        rw [if_neg hxs, List.append_nil] at hpt
        have HPT := Lib.hid hpt
        clear hpt hxs
        go_wp2
        go_roundw
        case rel => exact ⟨k + 1, by omega, by go_num, (by rw [HPT.out]; exact HG.out : Grow _ _ _ _ _ _), HBL⟩
        case measure => simp [intOf]; omega
    · obtain rfl : k = N := by omega
      have htk : l.take k = l := List.take_of_length_le (by rw [HN.out]; omega)
      have hg2 := HG.out
      rw [htk] at hg2
      have HG2 := Lib.hid hg2
      clear hg2 htk
      go_wp2
      go_ret2
      exact ⟨_, l, rfl, HG2.out.mono HB1.out.size, HSP.out, HB1.out.trans (HBL.out.mono HB1.out.size)⟩

set_option maxHeartbeats 1600000 in
theorem places_any (v : Value) (l : List Int) (s : Int) (w : World) (hx : Ints w .i64 v l) (hl : l.length ≤ 600) :
    Calls Try.prog 22 #[v, .int .i64 s] w fun e w' => ∃ pv, e = .returned pv ∧ Grow w' w.heap.size 3 .i64 pv (placesOf l s) ∧ Below w.heap.size w w' := by
  obtain ⟨A, N, c, rfl, hc, hcm, hx⟩ := hx.get
  have HX := Lib.hid hx
  have hN : N ≤ 600 := by rw [← HX.out.1]; exact hl
  have hpl : ∀ k, (placesOf (l.take k) s).length ≤ 600 := fun k => Nat.le_trans (placesOf_take_le l k s) hl
  have HPL := Lib.hid hpl
  clear hx hl hpl
  obtain ⟨i0, hi, hz0, hz1, hz2⟩ := info_parts infoInt
  go_enter Try.func22, Try.ntmps22
  go_wp2
  go_loopw [5, 6] (fun out i wr => ∃ k : Nat, k ≤ N ∧ i = .int .i64 k ∧ Hid (Grow wr w.heap.size 3 .i64 out (placesOf (l.take k) s)) ∧ Hid (Below w.heap.size w wr)) (fun _ i _ => N - (intOf i).toNat)
  case atStart => exact ⟨0, Nat.zero_le _, rfl, (Grow.nil _ _ _ _ : Grow _ _ _ _ _ (placesOf (l.take 0) s)), (Below.refl _ _ : Below _ _ _)⟩
  case round =>
    obtain ⟨k, hk, rfl, HG, HBL⟩ := hrel
    by_cases hlt2 : k < N
    · obtain ⟨b, off, x, rfl, hb, cx, EX⟩ := HX.out.at_ hlt2
      replace cx := (HBL.out.cell hb).trans cx
      have hpt := placesOf_take s EX.out
      have k0 : (0 : Int) ≤ (k : Int) := by omega
      have k1 : (k : Int) < (N : Int) := by omega
      by_cases hxs : x = s
      · subst hxs
        rw [if_pos rfl] at hpt
        have HPT := Lib.hid hpt
        have hrow : wr.ownsRow w.heap.size 3 1 _ _ _ := HG.out
        have hp5 := HPL.out k
        have hwsz : w.heap.size ≤ wr.heap.size := HBL.out.size
        clear hpt
        go_wp2_with (at_builtin; refine wpList_append_own _ rfl _ _ 22 rfl w.heap.size 3 i0 (.int .i64 0) 1 8 Try.underlying22 hi hz0 hz1 hz2 rfl (by decide) _ _ _ rfl (hrow.alloc _) ⟨wr.heap.size, 0, none⟩ 1 1 [.int .i64 (k : Int)] rfl rfl (cell_one_new _ _ _) (by simp [Value.oneCell']) (by unfold maxLen; omega) (by omega) (by simp; omega) ?_; intro v2 w2 hown2 hgrow2 _; have H2 := Lib.hid (HG.out.app HBL.out hwsz hown2 hgrow2); clear hown2 hgrow2)
        go_roundw
        case rel => exact ⟨k + 1, by omega, by go_num, (by rw [HPT.out]; exact H2.out.1 : Grow _ _ _ _ _ _), (H2.out.2 : Below _ _ _)⟩
        case measure => simp [intOf]; omega
      · have hne : (x == s) = false := by simpa using hxs
        rw [if_neg hxs, List.append_nil] at hpt
        have HPT := Lib.hid hpt
        clear hpt hxs
        go_wp2
        go_roundw
        case rel => exact ⟨k + 1, by omega, by go_num, (by rw [HPT.out]; exact HG.out : Grow _ _ _ _ _ _), HBL⟩
        case measure => simp [intOf]; omega
    · obtain rfl : k = N := by omega
      have htk : l.take k = l := List.take_of_length_le (by rw [HX.out.1]; omega)
      have hg2 := HG.out
      rw [htk] at hg2
      have HG2 := Lib.hid hg2
      clear hg2 htk
      go_wp2
      go_ret
      exact ⟨_, rfl, HG2.out, HBL.out⟩
end Go.Proofs.Ytmoolloeldogcaa
