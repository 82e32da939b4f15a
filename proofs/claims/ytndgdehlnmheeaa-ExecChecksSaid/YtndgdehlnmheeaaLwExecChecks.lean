/-
  ExecChecks: the law's walk.
-/
import Derived.Test.YtndgdehlnmheeaaExWorks
import Derived.Test.YtndgdehlnmheeaaExWhere
import Derived.Test.YtndgdehlnmheeaaArgSeqs
namespace Go.Proofs.Ytndgdehlnmheeaa
set_option linter.all false
set_option maxRecDepth 100000
open Go.RowKit

set_option maxHeartbeats 1600000 in
theorem execChecks_walk {w : World} (sz : Int) (_hsz : (Lit.int .i64 sz).wf = true) (hv : Int) (hhv : (Lit.int .i64 hv).wf = true) (lt : Int) (hlt : (Lit.int .i64 lt).wf = true) (most : Int) (_hm : (Lit.int .i64 most).wf = true) (v : Value) (ss : List SeqD) (h : Seqs w v ss) :
    Calls Try.prog 5 #[.int .i64 sz, .int .i64 hv, .int .i64 lt, .int .i64 most, v] w fun e w' => e = .returned (.bool true) ∧ Below w.heap.size w w' := by
  have HS := Lib.hid h
  have HW : Hid ((-9223372036854775808 ≤ hv ∧ hv ≤ 9223372036854775807) ∧ (-9223372036854775808 ≤ lt ∧ lt ≤ 9223372036854775807)) := (⟨wf_i64 hhv, wf_i64 hlt⟩ : _ ∧ _)
  obtain ⟨⟨A, c, hv', hlc, hcm, -⟩, -⟩ := h
  obtain ⟨n, hn⟩ : ∃ n, ss.length = n := ⟨_, rfl⟩
  rw [hn] at hv' hlc
  subst hv'
  have hni : (n : Int) ≤ 9223372036854775807 := by have := hcm; simp only [maxLen] at this; omega
  obtain ⟨⟨ra, rt, re⟩, hr⟩ : ∃ p, chkR sz hv lt most ss = p := ⟨_, rfl⟩
  have HR := Lib.hid hr
  clear hhv hlt hn hr
  by_cases hg : 200 < n
  · have hgi : (200 : Int) < (n : Int) := by omega
    go_enter Try.func5, Try.ntmps5
    go_wp2_with (go_at_call 12; refine (works_at (Below.refl _ w)).mono ?_; rintro e w1 ⟨rfl, hb⟩; have HB := Lib.hid hb; clear hb)
    go_ret
    exact ⟨rfl, HB.out⟩
  · have hgi : (n : Int) ≤ 200 := by omega
    go_enter Try.func5, Try.ntmps5
    go_wp2_with fail
    refine (exfirst_any _ sz hv lt most _ ss HS.out HW.out).mono ?_
    rw [HR.out]
    rintro e w1 ⟨rfl, hb⟩
    have HB1 := Lib.hid hb
    have HS1 := Lib.hid (HS.out.below hb (Nat.le_refl _))
    clear hb
    go_wp2_with fail
    refine (excheck_any _ sz hv lt most _ ss HS1.out HW.out).mono ?_
    rw [HR.out]
    rintro e w2 ⟨rfl, hb⟩
    have HB2 := Lib.hid (HB1.out.trans (hb.mono HB1.out.size))
    have HS2 := Lib.hid (HS1.out.below hb (Nat.le_refl _))
    clear hb HS1
    go_wp2_with fail
    refine (refWhere_any _ sz hv lt most _ ss HS2.out HW.out).mono ?_
    rw [HR.out]
    rintro e w3 ⟨rfl, hb⟩
    have HB3 := Lib.hid (HB2.out.trans (hb.mono HB2.out.size))
    clear hb HS2
    go_wp2_with fail
    refine (num_any _ _).mono ?_
    rintro e w5 ⟨rfl, hw⟩
    obtain rfl : w3 = w5 := hw.symm
    go_wp2_with fail
    refine (num_any _ _).mono ?_
    rintro e w5 ⟨rfl, hw⟩
    obtain rfl : w3 = w5 := hw.symm
    go_wp2_with (go_at_call 12; refine (works_at HB3.out).mono ?_; rintro e w9 ⟨rfl, hb⟩; have HB := Lib.hid hb; clear hb)
    go_ret
    exact ⟨rfl, HB.out⟩
end Go.Proofs.Ytndgdehlnmheeaa
