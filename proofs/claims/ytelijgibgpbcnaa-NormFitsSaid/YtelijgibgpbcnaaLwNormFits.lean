/-
  NormFits: the law's walk.
-/
import Derived.Test.YtelijgibgpbcnaaNmSt
namespace Go.Proofs.Ytelijgibgpbcnaa
open Go.RowKit

set_option maxHeartbeats 3200000 in
theorem normFits_walk (v : Value) (cs : List Int) {w : World} (hI : Ints w .i64 v cs ∧ ∀ z ∈ cs, (Lit.int .i64 z).wf = true) (most : Int) (_ : (Lit.int .i64 most).wf = true) :
    Calls Try.prog 11 #[v, .int .i64 most] w fun e w' => e = .returned (.bool true) ∧ Below w.heap.size w w' := by
  obtain ⟨hI, -⟩ := hI
  have HI := Lib.hid hI
  obtain ⟨A, n, c, rfl, hc, hmx, hx⟩ := hI.get
  have hcl : cs.length = n := hx.1
  have HCL := Lib.hid hcl
  have HX := Lib.hid hx
  clear hx hI hcl
  by_cases h6 : 300 < (n : Int)
  · go_enter Try.func11, Try.ntmps11
    go_wp2_with (go_at_call 12; refine (known_any _).mono ?_; rintro e w2 ⟨rfl, hb⟩; have HB := Lib.hid hb; clear hb)
    go_ret
    exact ⟨rfl, HB.out⟩
  have HLEN : Hid (cs.length ≤ 1000) := (by rw [HCL.out]; omega : cs.length ≤ 1000)
  obtain ⟨lg, hlg⟩ : ∃ lg, logOf cs most = lg := ⟨_, rfl⟩
  have HLG := Lib.hid hlg
  clear hlg
  by_cases hneg : lg < 0
  · by_cases h9 : 9 < most
    · by_cases hok : NOk cs most
      · have HE := Lib.hid (nE_ok hok)
        clear hok
        go_enter Try.func11, Try.ntmps11
        go_wp2_with fail
        refine (recLog_any _ cs most _ HI.out).mono ?_
        rw [HLG.out]
        rintro e w' ⟨rfl, rfl⟩
        go_wp2_with fail
        refine (normalize_all _ cs most _ HI.out HLEN.out).mono ?_
        rintro e w1 ⟨A1, l1, c1, rfl, HI1, hb⟩
        rw [HE.out]
        have HB1 := Lib.hid hb
        clear hb
        go_wp2_with (go_at_call 12; refine (known_any _).mono ?_; rintro e w4 ⟨rfl, hb⟩; have HB4 := Lib.hid ((HB1.out.alloc HB1.out.size _).trans (hb.mono (by have := HB1.out.size; simp; omega))); clear hb)
        go_ret
        exact ⟨rfl, HB4.out⟩
      · have HE := Lib.hid (nE_no hok)
        clear hok
        go_enter Try.func11, Try.ntmps11
        go_wp2_with fail
        refine (recLog_any _ cs most _ HI.out).mono ?_
        rw [HLG.out]
        rintro e w' ⟨rfl, rfl⟩
        go_wp2_with fail
        refine (normalize_all _ cs most _ HI.out HLEN.out).mono ?_
        rintro e w1 ⟨A1, l1, c1, rfl, HI1, hb⟩
        rw [HE.out]
        have HB1 := Lib.hid hb
        clear hb
        go_wp2_with (go_at_call 12; refine (known_any _).mono ?_; rintro e w4 ⟨rfl, hb⟩; have HB4 := Lib.hid ((HB1.out.alloc HB1.out.size _).trans (hb.mono (by have := HB1.out.size; simp; omega))); clear hb)
        go_ret
        exact ⟨rfl, HB4.out⟩
    · have HE := Lib.hid (nE_no (logOf_neg (by rw [HLG.out]; exact hneg) h9))
      go_enter Try.func11, Try.ntmps11
      go_wp2_with fail
      refine (recLog_any _ cs most _ HI.out).mono ?_
      rw [HLG.out]
      rintro e w' ⟨rfl, rfl⟩
      go_wp2_with fail
      refine (normalize_all _ cs most _ HI.out HLEN.out).mono ?_
      rintro e w1 ⟨A1, l1, c1, rfl, HI1, hb⟩
      rw [HE.out]
      have HB1 := Lib.hid hb
      clear hb
      go_wp2_with (go_at_call 12; refine (known_any _).mono ?_; rintro e w4 ⟨rfl, hb⟩; have HB4 := Lib.hid ((HB1.out.alloc HB1.out.size _).trans (hb.mono (by have := HB1.out.size; simp; omega))); clear hb)
      go_ret
      exact ⟨rfl, HB4.out⟩
  · have hlf := logOf_facts (cs := cs) (most := most) (by rw [HLG.out]; omega)
    rw [HLG.out] at hlf
    obtain ⟨hok, hlm, -⟩ := hlf
    have HOK := Lib.hid hok
    have HNF := Lib.hid (norms_facts hok.cok)
    have hval := norms_valid hok hlm
    rw [HCL.out] at hval
    have HVAL := Lib.hid hval
    obtain ⟨ns, hns⟩ : ∃ ns, normsOf cs (2 ^ lg.toNat) = ns := ⟨_, rfl⟩
    rw [hns] at HNF HVAL
    have HNS := Lib.hid hns
    clear hok hval hns
    go_enter Try.func11, Try.ntmps11
    go_wp2_with fail
    refine (recLog_any _ cs most _ HI.out).mono ?_
    rw [HLG.out]
    rintro e w' ⟨rfl, rfl⟩
    go_wp2_with fail
    refine (normalize_ok _ cs lg _ HI.out HOK.out HLEN.out).mono ?_
    intro e w1 hp
    obtain ⟨g, l, c1, rfl, hg, HI2, hb, HL, hl⟩ := hp.get HLEN.out
    rw [HNS.out] at HI2 HL
    have HST := Lib.hid (LwSt.start (log := lg) (c2 := c1) hb HI2.out.at__ HX.out)
    have hln : l ≤ n := by have := HNF.out.len; rw [HL.out, HCL.out] at this; exact this
    have HB1 := Lib.hid hb
    clear hp hb
    go_wp2_with fail
    refine (check_any lg _ ns n most _ (HI2.out.alloc _) (fun x hx => by
      obtain ⟨i, hi⟩ := List.getElem?_of_mem hx
      have := HNF.out.small i
      rw [gt_at hi] at this
      omega)).mono ?_
    rw [chk_0 HVAL.out]
    rintro e w2 ⟨rfl, hb⟩
    have HS2 := Lib.hid (HST.out.next hb)
    have hlt2 : w1.heap.size < w2.heap.size := HS2.out.box.lt
    clear hb
    go_wp2
    go_loopw [10] (fun i wr => ∃ k : Nat, k ≤ n ∧ i = .int .i64 k ∧ Hid (LwSt w wr w1.heap.size lg (some ⟨g, 0, none⟩) l c1 ns A n cs)) (fun i _ => n - (intOf i).toNat)
    case atStart => exact ⟨0, Nat.zero_le _, rfl, HS2⟩
    case round =>
      clear HS2 HST
      obtain ⟨k, hk, rfl, HS⟩ := hrel
      have k0 : (0 : Int) ≤ (k : Int) := by omega
      obtain ⟨b0, b1, -, -⟩ := HS.out.box.two
      by_cases hlt : k < n
      · have k1 : (k : Int) < (n : Int) := by omega
        obtain ⟨b, off, rfl, cx⟩ := HS.out.cnt.one hlt
        obtain ⟨x, hx⟩ : ∃ x, gt cs k = x := ⟨_, rfl⟩
        rw [hx] at cx
        have hz := HNF.out.zero k
        rw [hx, HL.out] at hz
        have HZ := Lib.hid hz
        clear hz hx
        by_cases hkl : k < l
        · have kl : (k : Int) < (l : Int) := by omega
          obtain ⟨b', off', hA, cy⟩ := HS.out.tab.one hkl
          injection hA with hA
          injection hA with h1 h2
          subst h1 h2
          obtain ⟨y, hy⟩ : ∃ y, gt ns k = y := ⟨_, rfl⟩
          rw [hy] at cy HZ
          have cy' : wr.cell? ⟨g, k, none⟩ = some (.int .i64 y) := by simpa using cy
          clear cy hy
          by_cases hy0 : y = 0
          · subst hy0
            have hxn : ¬ 0 < x := fun h => (HZ.out.1 h).2 rfl
            have hxb : decide (0 < x) = false := decide_eq_false hxn
            go_wp2
            go_quiet (fail)
            go_wp2
            go_roundw
            case rel => exact ⟨k + 1, by omega, by go_num, (HS.out.drewN _ : LwSt _ _ _ _ _ _ _ _ _ _ _)⟩
            case measure => simp [intOf]; omega
          · have hxn : 0 < x := HZ.out.2 ⟨hkl, hy0⟩
            have hyb : (y != 0) = true := by simpa using hy0
            clear hy0
            go_wp2
            go_quiet (fail)
            go_wp2
            go_roundw
            case rel => exact ⟨k + 1, by omega, by go_num, (HS.out.drewN _ : LwSt _ _ _ _ _ _ _ _ _ _ _)⟩
            case measure => simp [intOf]; omega
        · have hxn : ¬ 0 < x := fun h => hkl (HZ.out.1 h).1
          have hxb : decide (0 < x) = false := decide_eq_false hxn
          have hkb : decide (k < l) = false := decide_eq_false hkl
          have hkb' : decide ((k : Int) < (l : Int)) = false := decide_eq_false (by omega)
          go_wp2
          go_quiet (fail)
          go_wp2
          go_roundw
          case rel => exact ⟨k + 1, by omega, by go_num, (HS.out.drewN _ : LwSt _ _ _ _ _ _ _ _ _ _ _)⟩
          case measure => simp [intOf]; omega
      · go_wp2_with (go_at_call 12; refine (known_any _).mono ?_; rintro e w4 ⟨rfl, hb⟩; have HB4 := Lib.hid (HS.out.below.trans (hb.mono HS.out.below.size)); clear hb)
        go_ret
        exact ⟨rfl, HB4.out⟩
end Go.Proofs.Ytelijgibgpbcnaa
