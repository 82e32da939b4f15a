/-
  ExecBack: the law's walk.
-/
import Derived.Test.YtndgdehlnmheeaaExFew
import Derived.Test.YtndgdehlnmheeaaExLaw
import Derived.Test.YtndgdehlnmheeaaArgSeqs
namespace Go.Proofs.Ytndgdehlnmheeaa
set_option linter.all false
set_option maxRecDepth 100000
open Go.RowKit

set_option maxHeartbeats 3200000 in
theorem execBack_walk {w : World} (sz : Int) (_hsz : (Lit.int .i64 sz).wf = true) (va : Value) (aa : List Int) (ha : Ints w .u8 va aa ∧ ∀ z ∈ aa, (Lit.int .u8 z).wf = true) (vl : Value) (ls : List Int) (hl : Ints w .u8 vl ls ∧ ∀ z ∈ ls, (Lit.int .u8 z).wf = true) (v : Value) (ss : List SeqD) (h : Seqs w v ss) :
    Calls Try.prog 3 #[.int .i64 sz, va, vl, v] w fun e w' => e = .returned (.bool true) ∧ Below w.heap.size w w' := by
  have HS := Lib.hid h
  have HA := Lib.hid ha.1
  have HL := Lib.hid hl.1
  have HUA : Hid (U8s aa) := ((fun z hz => u8_wf (ha.2 z hz)) : U8s aa)
  have HUL : Hid (U8s ls) := ((fun z hz => u8_wf (hl.2 z hz)) : U8s ls)
  obtain ⟨A1, c1, rfl, a1, a2, -⟩ := ints_form ha.1
  obtain ⟨A2, c2, rfl, d1, d2, -⟩ := ints_form hl.1
  obtain ⟨⟨A, c, hv', hlc, hcm, h4⟩, -⟩ := h
  have hown : ∀ k, 0 < ss.length → v.ownBlock = some k → k < w.heap.size := fun k h0 hk => by
    obtain ⟨b, off, rfl, hcell⟩ := h4 h0
    rw [hv'] at hk
    obtain rfl : b = k := by simpa [Value.ownBlock] using hk
    exact World.block_lt_of_cell? w _ (hcell 0 _ (List.getElem?_eq_getElem h0)).1
  have HOWN := Lib.hid hown
  clear hown h4
  obtain ⟨n, hn⟩ : ∃ n, ss.length = n := ⟨_, rfl⟩
  obtain ⟨na, hna⟩ : ∃ n, aa.length = n := ⟨_, rfl⟩
  obtain ⟨nl, hnl⟩ : ∃ n, ls.length = n := ⟨_, rfl⟩
  have HN := Lib.hid hn
  have HNA := Lib.hid hna
  have HNL := Lib.hid hnl
  rw [hn] at hv' hlc
  rw [hna] at a1 HA ⊢
  rw [hnl] at d1 HL ⊢
  subst hv'
  clear ha hl hn hna hnl
  have hF : ∀ W, Below w.heap.size w W → Calls Try.prog 11 #[.slice A n c, .slice A1 na c1, .slice A2 nl c2] W (FewPost ss na nl W) := fun W hW => few_any W _ ss (HS.out.below hW (Nat.le_refl _)) A1 A2 na nl c1 c2 (by omega) (by omega)
  have HF := Lib.hid (hF w (Below.refl _ _))
  clear hF
  by_cases hsz : 1 ≤ sz ∧ sz ≤ 134217728
  · obtain ⟨S, rfl⟩ := Int.eq_ofNat_of_zero_le (show 0 ≤ sz by omega)
    have hS1 : 1 ≤ S := by omega
    have hS2 : S ≤ 134217728 := by omega
    clear hsz
    obtain ⟨H, hH⟩ : ∃ H, lastN S aa = H := ⟨_, rfl⟩
    have hHl : H.length ≤ S := by rw [← hH, lastN_length]; omega
    obtain ⟨⟨ra, rt, re⟩, hr⟩ : ∃ p, chkOf S H ls 131072 ss = p := ⟨_, rfl⟩
    have hmin : min S H.length = H.length := by omega
    by_cases hre : re = 0
    · subst hre
      obtain ⟨-, -, hck⟩ := chkOf_ok hr
      obtain ⟨q1, q2, rfl⟩ := content_length (C := H) hck
      have hbk := exec_back (lits := ls) hHl hS1 hS2 (by rw [← hmin]; exact hck)
      obtain ⟨O, hO⟩ : ∃ O, contentL H ls ss = O := ⟨_, rfl⟩
      rw [hO] at hbk q1
      obtain ⟨m, hm⟩ : ∃ m, O.length = m := ⟨_, rfl⟩
      have HM := Lib.hid hm
      have HV := Lib.hid hbk.1
      have HLR := Lib.hid hbk.2
      have HCH := Lib.hid hr
      have HH := Lib.hid hH
      have HHL := Lib.hid hHl
      have HO := Lib.hid hO
      have HMB : Hid (m ≤ 131072) := (by rw [← hm]; omega : _ ≤ _)
      clear hck q1 q2 hbk hr hH hHl hO hm hmin
      go_enter Try.func3, Try.ntmps3
      go_wp2_with fail
      refine HF.out.mono ?_
      rintro e w1 ⟨bo, rfl, hw, hbo⟩
      obtain rfl : w = w1 := hw.symm
      cases bo
      · clear hbo
        go_wp2_with (go_at_call 12; refine (works_at (Below.refl _ w)).mono ?_; rintro e w9 ⟨rfl, hb⟩; have HB := Lib.hid hb; clear hb)
        go_ret
        exact ⟨rfl, HB.out⟩
      · have HBO := Lib.hid (hbo rfl)
        clear hbo
        go_wp2_with fail
        refine (new_ok _ (S := S) (bs := aa) hS1 hS2 HA.out HUA.out (by have := HBO.out; have := HNA.out; omega)).mono ?_
        rintro e w1 ⟨g, v1, rfl, hm⟩
        have hgl := hm.at_
        have hvl := hm.own
        have HO1 : Hid (OwnRing w w1 g v1 S (keepL S aa) 0) := (OwnRing.made hm (Below.refl _ w) : OwnRing _ _ _ _ _ _ _)
        have HSF : Hid (SeqFar (.slice A n c) ss g v1.ownBlock) := (fun k h0 hk => by
          have := HOWN.out k h0 hk
          exact ⟨by omega, fun e => by have := hvl _ e; omega⟩ : SeqFar _ _ _ _)
        have HS1 := Lib.hid (HS.out.below hm.below (Nat.le_refl _))
        have HL1 := Lib.hid (HL.out.below hm.below (Nat.le_refl _))
        clear hm hgl hvl
        go_wp2_with fail
        refine (num_any _ _).mono ?_
        rintro e w2 ⟨rfl, hw⟩
        obtain rfl : w1 = w2 := hw.symm
        go_wp2_with fail
        refine (last_some _ HO1.out.ring S hS1).mono ?_
        rw [lastN_lastN _ (Nat.le_refl S), keepL_last, HH.out]
        rintro e w2 ⟨ov, rfl, hc⟩
        have HO2 := Lib.hid (HO1.out.next hc.below)
        obtain ⟨A3, n3, c3, rfl, -, -, -⟩ := hc.row.ints.get
        have HW2 := Lib.hid hc.row.ints
        have HWO := Lib.hid hc.own
        have hgl1 := HO1.out.ring.lt
        have HVL1 := Lib.hid (fun k => HO1.out.ring.row.lt k)
        have HS2 := Lib.hid (HS1.out.below hc.below (Nat.le_refl _))
        have HL2 := Lib.hid (HL1.out.below hc.below (Nat.le_refl _))
        clear hc HO1 HS1 HL1
        go_wp2_with fail
        refine (run_ok _ HO2.out.ring (C := H) (by rw [keepL_last, ← HH.out, lastN_lastN _ (Nat.le_refl S)]) _ ls HL2.out HUL.out (by have := HBO.out; have := HNL.out; omega) _ ss HS2.out (by have := HBO.out; omega) HSF.out 131072 rt HCH.out (by decide)).mono ?_
        rw [HO.out, HM.out]
        rintro e w3 ⟨v3, st3, A4, c4, rfl, hok, hg⟩
        have HO3 := Lib.hid (HO2.out.ran hok)
        have hbt : Below w.heap.size w w3 := HO3.out.below
        have HBT := Lib.hid hbt
        have HS3 := Lib.hid (HS.out.below hbt (Nat.le_refl _))
        have HL3 := Lib.hid (HL.out.below hbt (Nat.le_refl _))
        have HW3 : Hid (Ints w3 .u8 (.slice A3 n3 c3) H) := (HW2.out.same fun k hk hlt => by
          have h1 := HWO.out k hk
          exact hok.but.block k hlt (by omega) (fun e => by have := HVL1.out k e.symm; omega) : Ints _ _ _ _)
        have HG3 := Lib.hid hg.ints
        clear hok hg hbt HO2 HO3 HS2 HL2 HW2 HWO HVL1 hgl1 HSF
        go_wp2_with fail
        refine (num_any _ _).mono ?_
        rintro e w4 ⟨rfl, hw⟩
        obtain rfl : w3 = w4 := hw.symm
        go_wp2_with fail
        refine (lits_any _ _ _ ss O HS3.out HG3.out (by have := HBO.out; omega) (by rw [HM.out]; exact HMB.out)).mono ?_
        rw [HLR.out]
        simp only
        rw [HNL.out]
        rintro e w4 ⟨A5, c5, rfl, hg, hb⟩
        have HG4 := Lib.hid hg.ints
        have HS4 := Lib.hid (HS3.out.below hb (Nat.le_refl _))
        have HL4 := Lib.hid (HL3.out.below hb (Nat.le_refl _))
        have HW4 := Lib.hid (HW3.out.below hb (Nat.le_refl _))
        have HC4 := Lib.hid (HG3.out.below hb (Nat.le_refl _))
        have HB4 := Lib.hid (HBT.out.trans (hb.mono HBT.out.size))
        clear hg hb HS3 HL3 HW3 HG3 HBT
        go_wp2_with fail
        refine (verify_any _ _ _ _ ss H O S HS4.out HW4.out HC4.out (by have := HBO.out; omega) (by have h8 := HHL.out; have h9 : H.length ≤ aa.length := (by rw [← HH.out, lastN_length]; omega); have h10 := HBO.out; have h11 := HNA.out; omega) (by rw [HM.out]; have := HMB.out; omega)).mono ?_
        rw [HV.out]
        rintro e w5 ⟨rfl, hb⟩
        have q1 : (convert 22 9 (.slice A5 nl c5)).run Try.prog w5 = .ok (.string (strOfNums ls)) w5 := conv_str (HG4.out.below hb (Nat.le_refl _))
        have q2 : (convert 22 9 (.slice A2 nl c2)).run Try.prog w5 = .ok (.string (strOfNums ls)) w5 := conv_str (HL4.out.below hb (Nat.le_refl _))
        have HB5 := Lib.hid (HB4.out.trans (hb.mono HB4.out.size))
        clear hb HS4 HL4 HW4 HC4 HG4 HB4
        go_wp2_with fail
        refine (num_any _ _).mono ?_
        rintro e w6 ⟨rfl, hw⟩
        obtain rfl : w5 = w6 := hw.symm
        go_wp2_with fail
        refine (num_any _ _).mono ?_
        rintro e w6 ⟨rfl, hw⟩
        obtain rfl : w5 = w6 := hw.symm
        go_wp2_with (go_at_call 12; refine (works_at HB5.out).mono ?_; rintro e w9 ⟨rfl, hb⟩; have HB := Lib.hid hb; clear hb)
        go_ret
        exact ⟨rfl, HB.out⟩
    · have hre2 : (re == 0) = false := by simpa using hre
      have hre3 : (re != 0) = true := by simpa using hre
      have HCH := Lib.hid hr
      have HH := Lib.hid hH
      clear hr hH hHl hmin
      go_enter Try.func3, Try.ntmps3
      go_wp2_with fail
      refine HF.out.mono ?_
      rintro e w1 ⟨bo, rfl, hw, hbo⟩
      obtain rfl : w = w1 := hw.symm
      cases bo
      · clear hbo
        go_wp2_with (go_at_call 12; refine (works_at (Below.refl _ w)).mono ?_; rintro e w9 ⟨rfl, hb⟩; have HB := Lib.hid hb; clear hb)
        go_ret
        exact ⟨rfl, HB.out⟩
      · have HBO := Lib.hid (hbo rfl)
        clear hbo
        go_wp2_with fail
        refine (new_ok _ (S := S) (bs := aa) hS1 hS2 HA.out HUA.out (by have := HBO.out; have := HNA.out; omega)).mono ?_
        rintro e w1 ⟨g, v1, rfl, hm⟩
        have HO1 : Hid (OwnRing w w1 g v1 S (keepL S aa) 0) := (OwnRing.made hm (Below.refl _ w) : OwnRing _ _ _ _ _ _ _)
        have HS1 := Lib.hid (HS.out.below hm.below (Nat.le_refl _))
        have HL1 := Lib.hid (HL.out.below hm.below (Nat.le_refl _))
        clear hm
        go_wp2_with fail
        refine (num_any _ _).mono ?_
        rintro e w2 ⟨rfl, hw⟩
        obtain rfl : w1 = w2 := hw.symm
        go_wp2_with fail
        refine (last_some _ HO1.out.ring S hS1).mono ?_
        rintro e w2 ⟨ov, rfl, hc⟩
        have HO2 := Lib.hid (HO1.out.next hc.below)
        obtain ⟨A3, n3, c3, rfl, -, -, -⟩ := hc.row.ints.get
        have HS2 := Lib.hid (HS1.out.below hc.below (Nat.le_refl _))
        have HL2 := Lib.hid (HL1.out.below hc.below (Nat.le_refl _))
        clear hc HO1 HS1 HL1
        go_wp2_with fail
        refine (run_bad _ HO2.out.ring (C := H) (by rw [keepL_last, ← HH.out, lastN_lastN _ (Nat.le_refl S)]) _ ls HL2.out _ ss HS2.out 131072 ra rt re HCH.out hre2).mono ?_
        rintro e w3 ⟨A4, c4, rfl, hb, -⟩
        have HB3 := Lib.hid (HO2.out.next hb).below
        clear hb HO2 HS2 HL2
        go_wp2_with fail
        refine (num_any _ _).mono ?_
        rintro e w4 ⟨rfl, hw⟩
        obtain rfl : w3 = w4 := hw.symm
        go_wp2_with (go_at_call 12; refine (works_at HB3.out).mono ?_; rintro e w9 ⟨rfl, hb⟩; have HB := Lib.hid hb; clear hb)
        go_ret
        exact ⟨rfl, HB.out⟩
  · have hbad : sz < 1 ∨ 134217728 < sz := by omega
    have HBAD := Lib.hid hbad
    clear hsz hbad
    go_enter Try.func3, Try.ntmps3
    go_wp2_with fail
    refine HF.out.mono ?_
    rintro e w1 ⟨bo, rfl, hw, hbo⟩
    obtain rfl : w = w1 := hw.symm
    clear hbo
    cases bo
    · go_wp2_with (go_at_call 12; refine (works_at (Below.refl _ w)).mono ?_; rintro e w9 ⟨rfl, hb⟩; have HB := Lib.hid hb; clear hb)
      go_ret
      exact ⟨rfl, HB.out⟩
    · go_wp2_with fail
      refine (new_bad _ sz _ HBAD.out).mono ?_
      rintro e w1 ⟨rfl, hb⟩
      have HB1 := Lib.hid hb
      clear hb
      go_wp2_with fail
      refine (num_any _ _).mono ?_
      rintro e w4 ⟨rfl, hw⟩
      obtain rfl : w1 = w4 := hw.symm
      go_wp2_with (go_at_call 12; refine (works_at HB1.out).mono ?_; rintro e w9 ⟨rfl, hb⟩; have HB := Lib.hid hb; clear hb)
      go_ret
      exact ⟨rfl, HB.out⟩
end Go.Proofs.Ytndgdehlnmheeaa
