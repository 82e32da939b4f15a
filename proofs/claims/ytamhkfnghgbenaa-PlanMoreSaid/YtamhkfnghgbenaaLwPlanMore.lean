/-
  PlanMore: the law's walk.
-/
import Derived.Test.YtamhkfnghgbenaaPlWorksA
import Derived.Test.YtamhkfnghgbenaaPlMore
import Derived.Test.YtamhkfnghgbenaaArgSeqs
namespace Go.Proofs.Ytamhkfnghgbenaa
set_option linter.all false
open Go.RowKit

set_option maxRecDepth 100000 in
set_option maxHeartbeats 3200000 in
theorem planMore_walk {w : World} (v : Value) (ss : List SeqD) (h : Seqs w v ss) (sz : Int) (_hsz : (Lit.int .i64 sz).wf = true) (hv : Int) (hhv : (Lit.int .i64 hv).wf = true) (wd : Int) (_hwd : (Lit.int .i64 wd).wf = true)
    (x y z : Int) (hx : 0 ≤ x ∧ x < 65536) (hy : 0 ≤ y ∧ y < 65536) (hz : 0 ≤ z ∧ z < 65536) :
    Calls Try.prog 7 #[v, .int .i64 sz, .int .i64 hv, .int .i64 wd, .agg #[.int .u16 x, .int .u16 y, .int .u16 z]] w fun e w' => e = .returned (.bool true) ∧ Below w.heap.size w w' := by
  have HS := Lib.hid h
  obtain ⟨⟨A, c, hv', hlc, hcm, -⟩, -⟩ := h
  obtain ⟨n, hn⟩ : ∃ n, ss.length = n := ⟨_, rfl⟩
  rw [hn] at hv' hlc
  subst hv'
  have HN := Lib.hid hn
  have hni : (n : Int) ≤ 9223372036854775807 := by have := hcm; simp only [maxLen] at this; omega
  have hci : (c : Int) ≤ 9223372036854775807 := by have := hcm; simp only [maxLen] at this; omega
  clear hhv hn
  have hb0 := (Below.refl w.heap.size w).alloc (Nat.le_refl _) (.cells #[.int .u16 x, .int .u16 y, .int .u16 z] 50)
  have HB0 := Lib.hid hb0
  have HS0 := Lib.hid (HS.out.below hb0 (Nat.le_refl _))
  clear hb0
  by_cases hg : n ≤ 100 ∧ 0 ≤ sz ∧ sz ≤ 50000 ∧ 0 ≤ hv ∧ hv ≤ 1099511627776 ∧ 1 ≤ wd ∧ wd ≤ 1048576
  · obtain ⟨g1, g2, g3, g4, g5, g6, g7⟩ := hg
    have gi1 : (n : Int) ≤ 100 := by omega
    have HL : Hid (ss.length ≤ 100000) := (by rw [HN.out]; omega : ss.length ≤ 100000)
    have HOK : Hid (argsOk sz hv wd) := (⟨g2, g4, by omega, g6, by omega⟩ : argsOk sz hv wd)
    obtain ⟨⟨q1, q2⟩, hq⟩ : ∃ p, whereR ss sz hv wd = p := ⟨_, rfl⟩
    have HQ := Lib.hid hq
    by_cases hq0 : q2 = 0
    · subst hq0
      obtain ⟨hq1, s1, hs1, hs2⟩ := whereR_size (by rw [hq] : (whereR ss sz hv wd).2 = 0)
      rw [hq] at hq1
      simp only at hq1
      subst hq1
      have HSZ := Lib.hid hs1
      obtain ⟨a, ha⟩ : ∃ a, x.tmod 10001 = a := ⟨_, rfl⟩
      obtain ⟨b, hb⟩ : ∃ b, y.tmod 10001 = b := ⟨_, rfl⟩
      obtain ⟨d, hd⟩ : ∃ d, z.tmod 10001 = d := ⟨_, rfl⟩
      have ba : 0 ≤ a ∧ a ≤ 10000 := by rw [← ha, Int.tmod_eq_emod_of_nonneg hx.1]; omega
      have bb : 0 ≤ b ∧ b ≤ 10000 := by rw [← hb, Int.tmod_eq_emod_of_nonneg hy.1]; omega
      have bd : 0 ≤ d ∧ d ≤ 10000 := by rw [← hd, Int.tmod_eq_emod_of_nonneg hz.1]; omega
      have HW : Hid (whereR ss (sz + a) (hv + b) (wd + d) = (0, 0)) := (whereR_grow (by rw [hq]) ⟨by omega, by omega, by omega, by omega, by omega⟩ (by omega) (by omega) (by omega) : _ = _)
      have ex : IntKind.i64.wrap x = x := wrap_in _ (by omega) (by omega)
      have ey : IntKind.i64.wrap y = y := wrap_in _ (by omega) (by omega)
      have ez : IntKind.i64.wrap z = z := wrap_in _ (by omega) (by omega)
      have ea : IntKind.i64.wrap a = a := wrap_in _ (by omega) (by omega)
      have eb : IntKind.i64.wrap b = b := wrap_in _ (by omega) (by omega)
      have ed : IntKind.i64.wrap d = d := wrap_in _ (by omega) (by omega)
      have e1 : IntKind.i64.wrap (sz + a) = sz + a := wrap_in _ (by omega) (by omega)
      have e2 : IntKind.i64.wrap (hv + b) = hv + b := wrap_in _ (by omega) (by omega)
      have e3 : IntKind.i64.wrap (wd + d) = wd + d := wrap_in _ (by omega) (by omega)
      clear hq hs1 ba bb bd hx hy hz
      go_enter Try.func7, Try.ntmps7
      go_wp2_with fail
      refine (first_any _ _ ss sz hv wd HS0.out).mono ?_
      unfold FirstPost
      rw [HQ.out]
      rintro e w1 ⟨rfl, hb⟩
      have HC1 := Lib.hid hb
      have HB1 := Lib.hid (HB0.out.trans (hb.mono HB0.out.size))
      have HS1 := Lib.hid (HS0.out.below hb (Nat.le_refl _))
      clear hb
      go_wp2_with fail
      refine (num_any _ _).mono ?_
      rintro e w5 ⟨rfl, rfl⟩
      go_wp2_with fail
      refine (size_any _ _ ss HS1.out HL.out).mono ?_
      rw [HSZ.out]
      rintro e w2 ⟨rfl, hb⟩
      have HB2 := Lib.hid (HB1.out.trans (hb.mono HB1.out.size))
      have HS2 := Lib.hid (HS1.out.below hb (Nat.le_refl _))
      have hc := HC1.out.trans (hb.mono HC1.out.size)
      have p0 : w2.cell? ⟨w.heap.size, 0, none⟩ = some (.int .u16 x) := (hc.cell (p := ⟨w.heap.size, 0, none⟩) (by simp)).trans (by simp)
      have p1 : w2.cell? ⟨w.heap.size, 1, none⟩ = some (.int .u16 y) := (hc.cell (p := ⟨w.heap.size, 1, none⟩) (by simp)).trans (by simp)
      have p2 : w2.cell? ⟨w.heap.size, 2, none⟩ = some (.int .u16 z) := (hc.cell (p := ⟨w.heap.size, 2, none⟩) (by simp)).trans (by simp)
      clear hb hc HS1 HC1
      go_wp2
      go_quiet (fail)
      clear p0 p1 p2
      go_wp2_with fail
      refine (num_any _ _).mono ?_
      rintro e w7 ⟨rfl, rfl⟩
      go_wp2_with fail
      refine (check_any _ _ ss (sz + a) (hv + b) (wd + d) (HS2.out.below (below_drewN (Below.refl _ _) _) (Nat.le_refl _))).mono ?_
      rw [HW.out]
      rintro e w7 ⟨rfl, hb⟩
      have HB7 := Lib.hid ((below_drewN HB2.out _).trans (hb.mono HB2.out.size))
      clear hb HS2
      go_wp2_with fail
      refine (num_any _ _).mono ?_
      rintro e w8 ⟨rfl, rfl⟩
      go_wp2_with (go_at_call 11; refine (works_at HB7.out).mono ?_; rintro e w9 ⟨rfl, hb⟩; have HB := Lib.hid hb; clear hb)
      go_ret
      exact ⟨rfl, HB.out⟩
    · obtain ⟨k, rfl, hk, hw⟩ := whereR_take hq hq0 HOK.out
      have HW := Lib.hid hw
      have hk1 : (k : Int) < (n : Int) := by rw [HN.out] at hk; omega
      have hk0 : (0 : Int) ≤ (k : Int) := by omega
      have hkc : (k : Int) ≤ (c : Int) := by omega
      have hkn : k ≤ n := by omega
      have HKN := Lib.hid hkn
      have hq0b : (q2 == 0) = false := by simpa using hq0
      clear hq hw hk hkn hx hy hz
      go_enter Try.func7, Try.ntmps7
      go_wp2_with fail
      refine (first_any _ _ ss sz hv wd HS0.out).mono ?_
      unfold FirstPost
      rw [HQ.out]
      rintro e w1 ⟨rfl, hb⟩
      have HB1 := Lib.hid (HB0.out.trans (hb.mono HB0.out.size))
      have HS1 := Lib.hid (HS0.out.below hb (Nat.le_refl _))
      clear hb
      go_wp2_with fail
      refine (num_any _ _).mono ?_
      rintro e w5 ⟨rfl, rfl⟩
      go_wp2_with fail
      refine (check_any _ _ (ss.take k) sz hv wd (HS1.out.take HKN.out)).mono ?_
      rw [HW.out]
      rintro e w7 ⟨rfl, hb⟩
      have HB7 := Lib.hid (HB1.out.trans (hb.mono HB1.out.size))
      clear hb HS1
      go_wp2_with fail
      refine (num_any _ _).mono ?_
      rintro e w8 ⟨rfl, rfl⟩
      go_wp2_with (go_at_call 11; refine (works_at HB7.out).mono ?_; rintro e w9 ⟨rfl, hb⟩; have HB := Lib.hid hb; clear hb)
      go_ret
      exact ⟨rfl, HB.out⟩
  · have hcase : 100 < n ∨ (n ≤ 100 ∧ sz < 0) ∨ (n ≤ 100 ∧ 0 ≤ sz ∧ 50000 < sz) ∨ (n ≤ 100 ∧ 0 ≤ sz ∧ sz ≤ 50000 ∧ hv < 0) ∨ (n ≤ 100 ∧ 0 ≤ sz ∧ sz ≤ 50000 ∧ 0 ≤ hv ∧ 1099511627776 < hv) ∨ (n ≤ 100 ∧ 0 ≤ sz ∧ sz ≤ 50000 ∧ 0 ≤ hv ∧ hv ≤ 1099511627776 ∧ wd < 1) ∨ (n ≤ 100 ∧ 0 ≤ sz ∧ sz ≤ 50000 ∧ 0 ≤ hv ∧ hv ≤ 1099511627776 ∧ 1 ≤ wd ∧ 1048576 < wd) := by omega
    clear hg hx hy hz
    rcases hcase with g1 | ⟨g1, g2⟩ | ⟨g1, g2, g3⟩ | ⟨g1, g2, g3, g4⟩ | ⟨g1, g2, g3, g4, g5⟩ | ⟨g1, g2, g3, g4, g5, g6⟩ | ⟨g1, g2, g3, g4, g5, g6, g7⟩
    · have gi1 : (100 : Int) < (n : Int) := by omega
      go_enter Try.func7, Try.ntmps7
      go_wp2_with (go_at_call 11; refine (works_at HB0.out).mono ?_; rintro e w1 ⟨rfl, hb⟩; have HB := Lib.hid hb; clear hb)
      go_ret
      exact ⟨rfl, HB.out⟩
    all_goals
      have gi1 : (n : Int) ≤ 100 := by omega
      go_enter Try.func7, Try.ntmps7
      go_wp2_with (go_at_call 11; refine (works_at HB0.out).mono ?_; rintro e w1 ⟨rfl, hb⟩; have HB := Lib.hid hb; clear hb)
      go_ret
      exact ⟨rfl, HB.out⟩
end Go.Proofs.Ytamhkfnghgbenaa
