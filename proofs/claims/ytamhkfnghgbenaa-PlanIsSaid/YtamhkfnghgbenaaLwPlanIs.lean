/-
  PlanIs: the law's walk.
-/
import Derived.Test.YtamhkfnghgbenaaPlWorksA
import Derived.Test.YtamhkfnghgbenaaPlRefI
import Derived.Test.YtamhkfnghgbenaaArgSeqs
namespace Go.Proofs.Ytamhkfnghgbenaa
set_option linter.all false
open Go.RowKit

set_option maxRecDepth 100000 in
set_option maxHeartbeats 1600000 in
theorem planIs_walk {w : World} (v : Value) (ss : List SeqD) (h : Seqs w v ss) (va : Value) (aa : List Int) (ha : Ints w .u8 va aa ∧ ∀ z ∈ aa, (Lit.int .u8 z).wf = true) (vd : Value) (dd : List Int) (hd : Ints w .u8 vd dd ∧ ∀ z ∈ dd, (Lit.int .u8 z).wf = true) (wd : Int) (hwd : (Lit.int .i64 wd).wf = true) :
    Calls Try.prog 4 #[v, va, vd, .int .i64 wd] w fun e w' => e = .returned (.bool true) ∧ Below w.heap.size w w' := by
  have HS := Lib.hid h
  have HA := Lib.hid ha.1
  have HD := Lib.hid hd.1
  obtain ⟨A1, c1, rfl, a1, a2, -⟩ := ints_form ha.1
  obtain ⟨A2, c2, rfl, d1, d2, -⟩ := ints_form hd.1
  obtain ⟨⟨A, c, hv', hlc, hcm, -⟩, -⟩ := h
  obtain ⟨n, hn⟩ : ∃ n, ss.length = n := ⟨_, rfl⟩
  obtain ⟨na, hna⟩ : ∃ n, aa.length = n := ⟨_, rfl⟩
  obtain ⟨nd, hnd⟩ : ∃ n, dd.length = n := ⟨_, rfl⟩
  rw [hn] at hv' hlc
  rw [hna] at a1 HA ⊢
  rw [hnd] at d1 HD ⊢
  subst hv'
  have HN := Lib.hid hn
  have HNA := Lib.hid hna
  have HND := Lib.hid hnd
  have hni : (n : Int) ≤ 9223372036854775807 := by have := hcm; simp only [maxLen] at this; omega
  have hnai : (na : Int) ≤ 9223372036854775807 := by omega
  have hndi : (nd : Int) ≤ 9223372036854775807 := by omega
  clear ha hd hwd hn hna hnd
  by_cases hg : n ≤ 60 ∧ na ≤ 300 ∧ nd ≤ 300
  · obtain ⟨g1, g2, g3⟩ := hg
    have gi1 : (n : Int) ≤ 60 := by omega
    have gi2 : (na : Int) ≤ 300 := by omega
    have gi3 : (nd : Int) ≤ 300 := by omega
    have HL : Hid (ss.length ≤ 100000 ∧ aa.length ≤ 300000 ∧ dd.length ≤ 300000) := (by rw [HN.out, HNA.out, HND.out]; omega : _ ∧ _ ∧ _)
    obtain ⟨q, hq⟩ : ∃ p, verR ss aa dd wd = p := ⟨_, rfl⟩
    have HQ := Lib.hid hq
    clear hq
    go_enter Try.func4, Try.ntmps4
    go_wp2_with fail
    refine (verify_any _ _ _ _ ss aa dd wd HS.out HA.out HD.out HL.out.1 HL.out.2.1 HL.out.2.2).mono ?_
    rw [HQ.out]
    rintro e w1 ⟨rfl, hb⟩
    have HB1 := Lib.hid hb
    have HS1 := Lib.hid (HS.out.below hb (Nat.le_refl _))
    have HA1 := Lib.hid (HA.out.below hb (Nat.le_refl _))
    have HD1 := Lib.hid (HD.out.below hb (Nat.le_refl _))
    clear hb
    go_wp2_with fail
    refine (num_any _ _).mono ?_
    rintro e w5 ⟨rfl, rfl⟩
    go_wp2_with fail
    refine (ris_any _ _ _ _ ss aa dd wd HS1.out HA1.out HD1.out HL.out.1 HL.out.2.1 HL.out.2.2).mono ?_
    rw [HQ.out]
    rintro e w2 ⟨rfl, hb⟩
    have HB2 := Lib.hid (HB1.out.trans (hb.mono HB1.out.size))
    clear hb HS1 HA1 HD1
    go_wp2_with (go_at_call 11; refine (works_at HB2.out).mono ?_; rintro e w9 ⟨rfl, hb⟩; have HB := Lib.hid hb; clear hb)
    go_ret
    exact ⟨rfl, HB.out⟩
  · have hcase : 60 < n ∨ (n ≤ 60 ∧ 300 < na) ∨ (n ≤ 60 ∧ na ≤ 300 ∧ 300 < nd) := by omega
    clear hg
    rcases hcase with g1 | ⟨g1, g2⟩ | ⟨g1, g2, g3⟩
    · have gi1 : (60 : Int) < (n : Int) := by omega
      go_enter Try.func4, Try.ntmps4
      go_wp2_with (go_at_call 11; refine (works_at (Below.refl _ w)).mono ?_; rintro e w1 ⟨rfl, hb⟩; have HB := Lib.hid hb; clear hb)
      go_ret
      exact ⟨rfl, HB.out⟩
    · have gi1 : (n : Int) ≤ 60 := by omega
      have gi2 : (300 : Int) < (na : Int) := by omega
      go_enter Try.func4, Try.ntmps4
      go_wp2_with (go_at_call 11; refine (works_at (Below.refl _ w)).mono ?_; rintro e w1 ⟨rfl, hb⟩; have HB := Lib.hid hb; clear hb)
      go_ret
      exact ⟨rfl, HB.out⟩
    · have gi1 : (n : Int) ≤ 60 := by omega
      have gi2 : (na : Int) ≤ 300 := by omega
      have gi3 : (300 : Int) < (nd : Int) := by omega
      go_enter Try.func4, Try.ntmps4
      go_wp2_with (go_at_call 11; refine (works_at (Below.refl _ w)).mono ?_; rintro e w1 ⟨rfl, hb⟩; have HB := Lib.hid hb; clear hb)
      go_ret
      exact ⟨rfl, HB.out⟩
end Go.Proofs.Ytamhkfnghgbenaa
