/-
  PlanLits: the law's walk.
-/
import Derived.Test.YtamhkfnghgbenaaPlApp
import Derived.Test.YtamhkfnghgbenaaPlRefL
import Derived.Test.YtamhkfnghgbenaaArgSeqs
namespace Go.Proofs.Ytamhkfnghgbenaa
set_option linter.all false
open Go.RowKit

theorem u8s_of_wf {l : List Int} (h : ∀ z ∈ l, (Lit.int .u8 z).wf = true) : U8s l := fun x hx => by
  have h1 := h x hx
  have h2 : IntKind.u8.min = 0 := rfl
  have h3 : IntKind.u8.max = 255 := rfl
  simp only [Lit.wf, Bool.and_eq_true, decide_eq_true_eq] at h1
  omega
theorem U8s.take {l : List Int} (h : U8s l) (n : Nat) : U8s (l.take n) := fun x hx => h x (List.mem_of_mem_take hx)
theorem U8s.drop {l : List Int} (h : U8s l) (n : Nat) : U8s (l.drop n) := fun x hx => h x (List.mem_of_mem_drop hx)
theorem U8s.nil : U8s [] := fun x hx => by cases hx
theorem litsTo_u8 {ss : List SeqD} {dd : List Int} (h : U8s dd) : ∀ k, U8s (litsTo ss dd k)
  | 0 => by unfold litsTo; exact U8s.nil
  | k + 1 => by
    unfold litsTo
    refine (litsTo_u8 h k).append ?_
    cases ss[k]? with
    | none => exact U8s.nil
    | some s => exact (h.drop _).take _
theorem litsR_u8 {ss : List SeqD} {dd : List Int} (h : U8s dd) : U8s (litsR ss dd).1 := by
  unfold litsR
  split
  · exact (litsTo_u8 h _).append (h.drop _)
  · exact U8s.nil

set_option maxRecDepth 100000 in
set_option maxHeartbeats 3200000 in
theorem planLits_walk {w : World} (v : Value) (ss : List SeqD) (h : Seqs w v ss) (vd : Value) (dd : List Int) (hd : Ints w .u8 vd dd ∧ ∀ z ∈ dd, (Lit.int .u8 z).wf = true) :
    Calls Try.prog 5 #[v, vd] w fun e w' => e = .returned (.bool true) ∧ Below w.heap.size w w' := by
  have HS := Lib.hid h
  have HU := Lib.hid (u8s_of_wf hd.2)
  have HD := Lib.hid hd.1
  obtain ⟨A2, c2, rfl, d1, d2, -⟩ := ints_form hd.1
  obtain ⟨⟨A, c, hv', hlc, hcm, -⟩, -⟩ := h
  obtain ⟨n, hn⟩ : ∃ n, ss.length = n := ⟨_, rfl⟩
  obtain ⟨nd, hnd⟩ : ∃ n, dd.length = n := ⟨_, rfl⟩
  rw [hn] at hv' hlc
  rw [hnd] at d1 HD ⊢
  subst hv'
  have HN := Lib.hid hn
  have HND := Lib.hid hnd
  have hni : (n : Int) ≤ 9223372036854775807 := by have := hcm; simp only [maxLen] at this; omega
  have hndi : (nd : Int) ≤ 9223372036854775807 := by omega
  clear hd hn hnd
  by_cases hg : n ≤ 100 ∧ nd ≤ 400
  · obtain ⟨g1, g3⟩ := hg
    have gi1 : (n : Int) ≤ 100 := by omega
    have gi3 : (nd : Int) ≤ 400 := by omega
    have HL : Hid (ss.length ≤ 100 ∧ dd.length ≤ 131072) := (by rw [HN.out, HND.out]; omega : _ ∧ _)
    have hru := litsR_u8 (ss := ss) HU.out
    obtain ⟨⟨rs, q⟩, hq⟩ : ∃ p, litsR ss dd = p := ⟨_, rfl⟩
    have HQ := Lib.hid hq
    rw [hq] at hru
    have HRU := Lib.hid hru
    obtain ⟨m, hm⟩ : ∃ m, rs.length = m := ⟨_, rfl⟩
    have HM := Lib.hid hm
    clear hq hru hm
    have qw : (convert 34 9 (.slice A2 nd c2)).run Try.prog w = .ok (.string (strOfNums dd)) w := conv_str HD.out
    go_enter Try.func5, Try.ntmps5
    go_wp2_with fail
    refine (lits_any _ _ _ ss dd HS.out HD.out HL.out.1 HL.out.2).mono ?_
    rw [HQ.out]
    simp only
    rw [HM.out]
    rintro e w1 ⟨A5, c5, rfl, hg, hb⟩
    have HB1 := Lib.hid hb
    have HS1 := Lib.hid (HS.out.below hb (Nat.le_refl _))
    have HD1 := Lib.hid (HD.out.below hb (Nat.le_refl _))
    have HG1 := Lib.hid hg
    clear hb hg qw
    obtain ⟨c3, w2, hrun, hi, hb⟩ := conv_bytes w1 HU.out (by have := HND.out; omega)
    rw [HND.out] at hrun hi
    have HB2 := Lib.hid (HB1.out.trans (hb.mono HB1.out.size))
    have HS2 := Lib.hid (HS1.out.below hb (Nat.le_refl _))
    have HD2 := Lib.hid (HD1.out.below hb (Nat.le_refl _))
    have HG2 := Lib.hid (HG1.out.below hb (Nat.le_refl _))
    have HI2 := Lib.hid hi
    clear hb hi HS1 HD1 HG1
    go_wp2_with fail
    refine (rlits_any _ _ _ ss dd HS2.out HI2.out HL.out.1 HL.out.2).mono ?_
    rw [HQ.out]
    simp only
    rw [HM.out]
    rintro e w3 ⟨A6, c6, rfl, hg, hb⟩
    have HB3 := Lib.hid (HB2.out.trans (hb.mono HB2.out.size))
    have HD3 := Lib.hid (HD2.out.below hb (Nat.le_refl _))
    have HG3 := Lib.hid (HG2.out.below hb (Nat.le_refl _))
    have q1 : (convert 34 9 (.slice A5 m c5)).run Try.prog w3 = .ok (.string (strOfNums rs)) w3 := conv_str HG3.out.ints
    have q2 : (convert 34 9 (.slice A6 m c6)).run Try.prog w3 = .ok (.string (strOfNums rs)) w3 := conv_str hg.ints
    clear hb hg HD2 HG2 HI2 hrun
    go_wp2_with fail
    refine (num_any _ _).mono ?_
    rintro e w5 ⟨rfl, rfl⟩
    go_wp2
    generalize hwe : w5 = w6
    rw [hwe] at HG3 HB3
    clear hwe q1 q2 HD3
    go_loopw [10] (fun i wr => ∃ (k : Nat) (xs : List Int), k ≤ m ∧ i = .int .i64 k ∧ Hid (Below w.heap.size w wr) ∧ Hid (Grow wr w.heap.size 5 .u8 (.slice A5 m c5) xs) ∧ Hid (xs.length = m)) (fun i _ => m - (intOf i).toNat)
    case atStart => exact ⟨0, rs, Nat.zero_le _, rfl, (HB3.out : Below _ _ _), (HG3.out : Grow _ _ _ _ _ _), (HM.out : _ = _)⟩
    case round =>
      clear HB3 HG3
      obtain ⟨k, xs, hk, rfl, HB, HG, HX⟩ := hrel
      have k0 : (0 : Int) ≤ (k : Int) := by omega
      by_cases hlt : k < m
      · have k1 : (k : Int) < (m : Int) := by omega
        have hmc := HG.out.cap
        have hmi : (m : Int) ≤ 9223372036854775807 := by omega
        clear hmc
        obtain ⟨g, n', c', x, hv, hg1, hg2, -, hcell, hfz⟩ := HG.out.cell (i := k) (by rw [HX.out]; exact hlt)
        injection hv with e1 e2 e3
        subst e1 e2 e3
        go_wp2
        go_roundw
        case rel => exact ⟨k + 1, _, by omega, by go_num, (HB.out.setCell hg1 _ : Below _ _ _), (HG.out.store rfl _ : Grow _ _ _ _ _ _), (by rw [List.length_set]; exact HX.out : _ = _)⟩
        case measure => simp [intOf]; omega
      · obtain rfl : k = m := by omega
        have qe : (convert 34 9 (.slice A2 nd c2)).run Try.prog wr = .ok (.string (strOfNums dd)) wr := conv_str (HD.out.below HB.out (Nat.le_refl _))
        go_wp2_with (go_at_call 11; refine (works_at HB.out).mono ?_; rintro e w9 ⟨rfl, hb⟩; have HB9 := Lib.hid hb; clear hb)
        go_ret
        exact ⟨rfl, HB9.out⟩
  · have hcase : 100 < n ∨ (n ≤ 100 ∧ 400 < nd) := by omega
    clear hg
    rcases hcase with g1 | ⟨g1, g3⟩
    · have gi1 : (100 : Int) < (n : Int) := by omega
      go_enter Try.func5, Try.ntmps5
      go_wp2_with (go_at_call 11; refine (works_at (Below.refl _ w)).mono ?_; rintro e w1 ⟨rfl, hb⟩; have HB := Lib.hid hb; clear hb)
      go_ret
      exact ⟨rfl, HB.out⟩
    · have gi1 : (n : Int) ≤ 100 := by omega
      have gi3 : (400 : Int) < (nd : Int) := by omega
      go_enter Try.func5, Try.ntmps5
      go_wp2_with (go_at_call 11; refine (works_at (Below.refl _ w)).mono ?_; rintro e w1 ⟨rfl, hb⟩; have HB := Lib.hid hb; clear hb)
      go_ret
      exact ⟨rfl, HB.out⟩
end Go.Proofs.Ytamhkfnghgbenaa
