/-
  PlanSizes: the law's walk.
-/
import Derived.Test.YtamhkfnghgbenaaPlWorksA
import Derived.Test.YtamhkfnghgbenaaPlRefW
import Derived.Test.YtamhkfnghgbenaaArgSeqs
namespace Go.Proofs.Ytamhkfnghgbenaa
set_option linter.all false
open Go.RowKit

set_option maxRecDepth 100000 in
set_option maxHeartbeats 1600000 in
theorem planSizes_walk {w : World} (v : Value) (ss : List SeqD) (h : Seqs w v ss) (sz : Int) (_hsz : (Lit.int .i64 sz).wf = true) (hv : Int) (hhv : (Lit.int .i64 hv).wf = true) (wd : Int) (_hwd : (Lit.int .i64 wd).wf = true) :
    Calls Try.prog 3 #[v, .int .i64 sz, .int .i64 hv, .int .i64 wd] w fun e w' => e = .returned (.bool true) ∧ Below w.heap.size w w' := by
  have HS := Lib.hid h
  have HV : Hid (hv ≤ 9223372036854775807) := ((wf_i64 hhv).2 : hv ≤ _)
  obtain ⟨⟨A, c, hv', hlc, hcm, -⟩, -⟩ := h
  obtain ⟨n, hn⟩ : ∃ n, ss.length = n := ⟨_, rfl⟩
  rw [hn] at hv' hlc
  subst hv'
  have HN := Lib.hid hn
  have hni : (n : Int) ≤ 9223372036854775807 := by have := hcm; simp only [maxLen] at this; omega
  clear hhv hn
  by_cases hg : 200 < n
  · have hgi : (200 : Int) < (n : Int) := by omega
    go_enter Try.func3, Try.ntmps3
    go_wp2_with (go_at_call 11; refine (works_at (Below.refl _ w)).mono ?_; rintro e w1 ⟨rfl, hb⟩; have HB := Lib.hid hb; clear hb)
    go_ret
    exact ⟨rfl, HB.out⟩
  · have hgi : (n : Int) ≤ 200 := by omega
    have HL : Hid (ss.length ≤ 100000) := (by rw [HN.out]; omega : ss.length ≤ 100000)
    obtain ⟨⟨s1, s2⟩, hs⟩ : ∃ p, sizeR ss = p := ⟨_, rfl⟩
    obtain ⟨⟨q1, q2⟩, hq⟩ : ∃ p, whereR ss sz hv wd = p := ⟨_, rfl⟩
    have HSZ := Lib.hid hs
    have HQ := Lib.hid hq
    clear hs hq
    go_enter Try.func3, Try.ntmps3
    go_wp2_with fail
    refine (size_any _ _ ss HS.out HL.out).mono ?_
    rw [HSZ.out]
    rintro e w1 ⟨rfl, hb⟩
    have HB1 := Lib.hid hb
    have HS1 := Lib.hid (HS.out.below hb (Nat.le_refl _))
    clear hb
    go_wp2_with fail
    refine (rsize_any _ _ ss HS1.out HL.out).mono ?_
    rw [HSZ.out]
    rintro e w2 ⟨rfl, hb⟩
    have HB2 := Lib.hid (HB1.out.trans (hb.mono HB1.out.size))
    have HS2 := Lib.hid (HS1.out.below hb (Nat.le_refl _))
    clear hb HS1
    go_wp2_with fail
    refine (first_any _ _ ss sz hv wd HS2.out).mono ?_
    unfold FirstPost
    rw [HQ.out]
    rintro e w3 ⟨rfl, hb⟩
    have HB3 := Lib.hid (HB2.out.trans (hb.mono HB2.out.size))
    have HS3 := Lib.hid (HS2.out.below hb (Nat.le_refl _))
    clear hb HS2
    go_wp2_with fail
    refine (rwhere_any _ _ ss sz hv wd HS3.out HL.out HV.out).mono ?_
    rw [HQ.out]
    rintro e w4 ⟨rfl, hb⟩
    have HB4 := Lib.hid (HB3.out.trans (hb.mono HB3.out.size))
    have HS4 := Lib.hid (HS3.out.below hb (Nat.le_refl _))
    clear hb HS3
    go_wp2_with fail
    refine (num_any _ _).mono ?_
    rintro e w5 ⟨rfl, rfl⟩
    go_wp2_with fail
    refine (num_any _ _).mono ?_
    rintro e w6 ⟨rfl, rfl⟩
    go_wp2_with fail
    refine (check_any _ _ ss sz hv wd HS4.out).mono ?_
    rw [HQ.out]
    rintro e w7 ⟨rfl, hb⟩
    have HB7 := Lib.hid (HB4.out.trans (hb.mono HB4.out.size))
    clear hb HS4
    go_wp2_with fail
    refine (num_any _ _).mono ?_
    rintro e w8 ⟨rfl, rfl⟩
    go_wp2_with (go_at_call 11; refine (works_at HB7.out).mono ?_; rintro e w9 ⟨rfl, hb⟩; have HB := Lib.hid hb; clear hb)
    go_ret
    exact ⟨rfl, HB.out⟩
end Go.Proofs.Ytamhkfnghgbenaa
