/-
  SpreadUnlike: the law's walk.
-/
import Derived.Test.YtmoolloeldogcaaLwSpreadTells
import Derived.Test.YtmoolloeldogcaaSpCount
namespace Go.Proofs.Ytmoolloeldogcaa
open Go.RowKit

theorem lEq_no {xs ys : List Int} (h : xs ≠ ys) : lEq xs ys = false := decide_eq_false h
theorem lEq_yes {xs ys : List Int} (h : xs = ys) : lEq xs ys = true := decide_eq_true h

theorem states_q (n : Int) (a : Nat) (w : World) (hn : -1 ≤ n) (ha : Hid (n.natAbs = a)) : Calls Try.prog 20 #[.int .i64 n] w fun e w' => e = .returned (.int .i64 a) ∧ w' = w :=
  (states_any n w hn).mono fun _ _ ⟨he, hw⟩ => ⟨by rw [he, ha.out], hw.symm⟩

set_option maxHeartbeats 3200000 in
theorem spreadUnlike_walk (la : Int) (va : Value) (xs : List Int) (_ : (Lit.int .i64 la).wf = true) {w : World} (hI : Ints w .i64 va xs ∧ ∀ z ∈ xs, (Lit.int .i64 z).wf = true)
    (lb : Int) (vb : Value) (ys : List Int) (_ : (Lit.int .i64 lb).wf = true) (hJ : Ints w .i64 vb ys ∧ ∀ z ∈ ys, (Lit.int .i64 z).wf = true) :
    Calls Try.prog 7 #[.agg #[.int .i64 la, va], .agg #[.int .i64 lb, vb]] w fun e w' => e = .returned (.bool true) ∧ Below w.heap.size w w' := by
  obtain ⟨hI, hwf⟩ := hI
  obtain ⟨hJ, hwf2⟩ := hJ
  have HW := Lib.hid (wfAll_i64 hwf)
  have HW2 := Lib.hid (wfAll_i64 hwf2)
  have HI := Lib.hid hI
  have HJ := Lib.hid hJ
  obtain ⟨A, n, c, rfl, hc, hmx, hx⟩ := hI.get
  obtain ⟨A2, n2, c2, rfl, hc2, hmx2, hx2⟩ := hJ.get
  have HX := Lib.hid hx
  have HX2 := Lib.hid hx2
  clear hx hx2 hwf hI hwf2 hJ
  have hb0 : ∀ o o', Below w.heap.size w ((w.alloc o).alloc o') := fun o o' => ((Below.refl _ w).alloc (Nat.le_refl _) o).alloc (by simp) o'
  have HB0 := Lib.hid hb0
  clear hb0
  by_cases h6 : 300 < (n : Int)
  · go_enter Try.func7, Try.ntmps7
    go_wp2_with (go_at_call 11; refine (known_any _).mono ?_; rintro e w2 ⟨rfl, hb⟩; have HB := Lib.hid ((HB0.out _ _).trans (hb.mono (by simp; omega))); clear hb)
    go_ret
    exact ⟨rfl, HB.out⟩
  by_cases h62 : 300 < (n2 : Int)
  · go_enter Try.func7, Try.ntmps7
    go_wp2_with (go_at_call 11; refine (known_any _).mono ?_; rintro e w2 ⟨rfl, hb⟩; have HB := Lib.hid ((HB0.out _ _).trans (hb.mono (by simp; omega))); clear hb)
    go_ret
    exact ⟨rfl, HB.out⟩
  by_cases hv : Valid la xs 256 9
  · have HV := Lib.hid hv
    obtain ⟨m, hm, rfl, hall, hge⟩ := valid_facts hv
    have HALL := Lib.hid hall
    have HGE := Lib.hid hge
    clear hv hall hge
    by_cases hv2 : Valid lb ys 256 9
    · have HV2 := Lib.hid hv2
      obtain ⟨m2, hm2, rfl, hall2, hge2⟩ := valid_facts hv2
      have HALL2 := Lib.hid hall2
      have HGE2 := Lib.hid hge2
      clear hv2 hall2 hge2
      go_enter Try.func7, Try.ntmps7
      go_wp2_with fail
      refine (may_any m _ xs 256 9 _ (HI.out.alloc2 _ _)).mono ?_
      rw [chk_0 HV.out]
      rintro e w1 ⟨rfl, hb⟩
      have HB1 := Lib.hid ((HB0.out _ _).trans (hb.mono (by simp; omega)))
      have HR1 := Lib.hid (((Blk.new w 24 #[.int .i64 m, .slice A n c]).alloc (.cells #[.int .i64 m2, .slice A2 n2 c2] 24)).below hb (by simp; omega))
      have HS1 := Lib.hid ((Blk.new1 w (.cells #[.int .i64 m, .slice A n c] 24) 24 #[.int .i64 m2, .slice A2 n2 c2]).below hb (by simp))
      clear hb
      obtain ⟨c0, c1, -, -⟩ := HR1.out.two
      obtain ⟨d0, d1, -, -⟩ := HS1.out.two
      go_wp2_with fail
      refine (may_any m2 _ ys 256 9 _ (HJ.out.below HB1.out (Nat.le_refl _))).mono ?_
      rw [chk_0 HV2.out]
      rintro e w2 ⟨rfl, hb⟩
      have HB2 := Lib.hid (HB1.out.trans (hb.mono HB1.out.size))
      have HR2 := Lib.hid (HR1.out.below hb HR1.out.lt)
      have HS2 := Lib.hid (HS1.out.below hb HS1.out.lt)
      clear hb c0 c1 d0 d1 HR1 HS1 HB1
      obtain ⟨c0, c1, -, -⟩ := HR2.out.two
      obtain ⟨d0, d1, -, -⟩ := HS2.out.two
      go_wp2_with fail
      refine (spread_ok m _ xs _ (HI.out.below HB2.out (Nat.le_refl _)) HW.out hm HV.out HALL.out).mono ?_
      rintro e w3 ⟨sv, l, rfl, hf, hsp, hb⟩
      have HB3 := Lib.hid (HB2.out.trans (hb.mono HB2.out.size))
      have HR3 := Lib.hid (HR2.out.below hb HR2.out.lt)
      have HS3 := Lib.hid (HS2.out.below hb HS2.out.lt)
      have HF := Lib.hid (hf.ints (hsp.le512 hm))
      have HSP := Lib.hid hsp
      clear hb hf hsp c0 c1 d0 d1 HR2 HS2 HB2
      obtain ⟨c0, c1, -, -⟩ := HR3.out.two
      obtain ⟨d0, d1, -, -⟩ := HS3.out.two
      go_wp2_with fail
      refine (spread_ok m2 _ ys _ (HJ.out.below HB3.out (Nat.le_refl _)) HW2.out hm2 HV2.out HALL2.out).mono ?_
      rintro e w4 ⟨sv2, l2, rfl, hf2, hsp2, hb⟩
      have HB4 := Lib.hid (HB3.out.trans (hb.mono HB3.out.size))
      have HR4 := Lib.hid (HR3.out.below hb HR3.out.lt)
      have HS4 := Lib.hid (HS3.out.below hb HS3.out.lt)
      have HF1 := Lib.hid (HF.out.below hb (Nat.le_refl _))
      have HF2 := Lib.hid (hf2.ints (hsp2.le512 hm2))
      have HSP2 := Lib.hid hsp2
      clear hb hf2 hsp2 c0 c1 d0 d1 HR3 HS3 HB3 HF
      obtain ⟨c0, c1, -, -⟩ := HR4.out.two
      obtain ⟨d0, d1, -, -⟩ := HS4.out.two
      by_cases hl : l = l2
      · subst hl
        have HYES := Lib.hid (lEq_yes (rfl : l = l))
        obtain ⟨e1, e2, e3⟩ := HSP.out.alike hm hm2 HSP2.out HALL.out HALL2.out HGE.out HGE2.out HV.out.2.2.2.2.2.1 HV2.out.2.2.2.2.2.1
        have HST := Lib.hid e3
        have e4 : n = n2 := by rw [← HX.out.1, ← HX2.out.1, e2]
        subst e1 e4
        clear e2 e3
        go_wp2_with fail
        refine (same08_any _ _ _ _ _ HF1.out HF2.out).mono ?_
        rw [HYES.out]
        rintro e w5 ⟨rfl, hb⟩
        have HB5 := Lib.hid (HB4.out.trans (hb.mono HB4.out.size))
        have HR5 := Lib.hid (HR4.out.below hb HR4.out.lt)
        have HS5 := Lib.hid (HS4.out.below hb HS4.out.lt)
        clear hb c0 c1 d0 d1 HR4 HS4 HB4 HF1 HF2
        obtain ⟨c0, c1, -, -⟩ := HR5.out.two
        obtain ⟨d0, d1, -, -⟩ := HS5.out.two
        go_wp2
        go_loopw [9] (fun i wr => ∃ k : Nat, k ≤ n ∧ i = .int .i64 k ∧ Below w5.heap.size w5 wr) (fun i _ => n - (intOf i).toNat)
        case atStart => exact ⟨0, Nat.zero_le _, rfl, Below.refl _ _⟩
        case round =>
          obtain ⟨k, hk, rfl, hbel⟩ := hrel
          have k1 : wr.cell? ⟨w.heap.size, 1, none⟩ = some (.slice A n c) := (hbel.cell (p := ⟨w.heap.size, 1, none⟩) HR5.out.lt).trans c1
          have k2 : wr.cell? ⟨w.heap.size + 1, 1, none⟩ = some (.slice A2 n c2) := (hbel.cell (p := ⟨w.heap.size + 1, 1, none⟩) HS5.out.lt).trans d1
          by_cases hlt : k < n
          · obtain ⟨b, off, x, rfl, hb, cx, EX⟩ := HX.out.at_ hlt
            obtain ⟨b2, off2, y, rfl, hb2, cy, EY⟩ := HX2.out.at_ hlt
            replace cx := (hbel.cell (Nat.lt_of_lt_of_le hb HB5.out.size)).trans ((HB5.out.cell hb).trans cx)
            replace cy := (hbel.cell (Nat.lt_of_lt_of_le hb2 HB5.out.size)).trans ((HB5.out.cell hb2).trans cy)
            have j0 : (0 : Int) ≤ (k : Int) := by omega
            have j1 : (k : Int) < (n : Int) := by omega
            have hx1 := HGE.out x (List.mem_of_getElem? EX.out)
            have hy1 := HGE2.out y (List.mem_of_getElem? EY.out)
            obtain ⟨a, ha⟩ : ∃ a, x.natAbs = a := ⟨_, rfl⟩
            have hax : Hid (x.natAbs = a) := ha
            have hay : Hid (y.natAbs = a) := by
              have := HST.out k
              rw [List.getD, EX.out, List.getD, EY.out] at this
              exact this.symm.trans ha
            clear ha
            go_wp2
            go_quiet ((go_at_call 20; exact Calls.quiet_of_same (states_q _ a _ (by assumption) (by assumption))))
            go_wp2
            go_roundw
            case rel => exact ⟨k + 1, by omega, by go_num, below_drewN hbel _⟩
            case measure => simp [intOf]; omega
          · have HBL := Lib.hid (HB5.out.trans (hbel.mono HB5.out.size))
            obtain rfl : k = n := by omega
            go_wp2_with (go_at_call 11; refine (known_any _).mono ?_; rintro e w6 ⟨rfl, hb⟩; have HB := Lib.hid (HBL.out.trans (hb.mono HBL.out.size)); clear hb)
            go_ret
            exact ⟨rfl, HB.out⟩
      · have HNO := Lib.hid (lEq_no hl)
        have hne : ¬ ((m : Int) = (m2 : Int) ∧ xs = ys) := by
          rintro ⟨e1, rfl⟩
          obtain rfl : m = m2 := by omega
          exact hl (HSP.out.unique hm HSP2.out (by have := HALL.out; omega))
        have HNE : Hid (tabEq (m : Int) (m2 : Int) xs ys = false) := (decide_eq_false hne : tabEq _ _ _ _ = false)
        clear hl hne
        go_wp2_with fail
        refine (same08_any _ _ _ _ _ HF1.out HF2.out).mono ?_
        rw [HNO.out]
        rintro e w5 ⟨rfl, hb⟩
        have HB5 := Lib.hid (HB4.out.trans (hb.mono HB4.out.size))
        have HR5 := Lib.hid (HR4.out.below hb HR4.out.lt)
        have HS5 := Lib.hid (HS4.out.below hb HS4.out.lt)
        clear hb c0 c1 d0 d1 HR4 HS4 HB4 HF1 HF2
        obtain ⟨c0, c1, -, -⟩ := HR5.out.two
        obtain ⟨d0, d1, -, -⟩ := HS5.out.two
        go_wp2_with fail
        refine (same_any m m2 _ _ xs ys _ (HI.out.below HB5.out (Nat.le_refl _)) (HJ.out.below HB5.out (Nat.le_refl _))).mono ?_
        rw [HNE.out]
        rintro e w6 ⟨rfl, hb⟩
        have HB6 := Lib.hid (HB5.out.trans (hb.mono HB5.out.size))
        clear hb
        go_wp2_with (go_at_call 11; refine (known_any _).mono ?_; rintro e w7 ⟨rfl, hb⟩; have HB := Lib.hid (HB6.out.trans (hb.mono HB6.out.size)); clear hb)
        go_ret
        exact ⟨rfl, HB.out⟩
    · have HV2 := Lib.hid hv2
      clear hv2
      go_enter Try.func7, Try.ntmps7
      go_wp2_with fail
      refine (may_any m _ xs 256 9 _ (HI.out.alloc2 _ _)).mono ?_
      rw [chk_0 HV.out]
      rintro e w1 ⟨rfl, hb⟩
      have HB1 := Lib.hid ((HB0.out _ _).trans (hb.mono (by simp; omega)))
      have HS1 := Lib.hid ((Blk.new1 w (.cells #[.int .i64 m, .slice A n c] 24) 24 #[.int .i64 lb, .slice A2 n2 c2]).below hb (by simp))
      clear hb
      obtain ⟨d0, d1, -, -⟩ := HS1.out.two
      go_wp2_with fail
      refine (may_any lb _ ys 256 9 _ (HJ.out.below HB1.out (Nat.le_refl _))).mono ?_
      rw [chk_13 HV2.out]
      rintro e w2 ⟨rfl, hb⟩
      have HB2 := Lib.hid (HB1.out.trans (hb.mono HB1.out.size))
      clear hb
      go_wp2_with (go_at_call 11; refine (known_any _).mono ?_; rintro e w7 ⟨rfl, hb⟩; have HB := Lib.hid (HB2.out.trans (hb.mono HB2.out.size)); clear hb)
      go_ret
      exact ⟨rfl, HB.out⟩
  · have HV := Lib.hid hv
    clear hv
    go_enter Try.func7, Try.ntmps7
    go_wp2_with fail
    refine (may_any la _ xs 256 9 _ (HI.out.alloc2 _ _)).mono ?_
    rw [chk_13 HV.out]
    rintro e w1 ⟨rfl, hb⟩
    have HB1 := Lib.hid ((HB0.out _ _).trans (hb.mono (by simp; omega)))
    clear hb
    go_wp2_with (go_at_call 11; refine (known_any _).mono ?_; rintro e w7 ⟨rfl, hb⟩; have HB := Lib.hid (HB1.out.trans (hb.mono HB1.out.size)); clear hb)
    go_ret
    exact ⟨rfl, HB.out⟩
end Go.Proofs.Ytmoolloeldogcaa
