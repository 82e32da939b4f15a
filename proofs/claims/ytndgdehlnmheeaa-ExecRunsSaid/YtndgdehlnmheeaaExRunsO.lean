/-
  ExecRuns: the law's walk where the ring stands and the check passes.
-/
import Derived.Test.YtndgdehlnmheeaaExRunsP
namespace Go.Proofs.Ytndgdehlnmheeaa
set_option linter.all false
set_option maxRecDepth 100000
open Go.RowKit

set_option maxHeartbeats 6400000 in
theorem er_ok {w : World} (S : Nat) (hS1 : 1 ≤ S) (hS2 : S ≤ 134217728) (va : Value) (aa : List Int) (ha : Ints w .u8 va aa) (hua : U8s aa) (vl : Value) (ls : List Int) (hl : Ints w .u8 vl ls) (hul : U8s ls) (v : Value) (ss : List SeqD) (h : Seqs w v ss) (most : Int) (t : Int) (hchk : chkOf S aa ls most ss = (0, t, 0)) :
    Calls Try.prog 6 #[.int .i64 S, va, vl, v, .int .i64 most] w fun e w' => e = .returned (.bool true) ∧ Below w.heap.size w w' := by
  have HS := Lib.hid h
  have HA := Lib.hid ha
  have HL := Lib.hid hl
  have HUA := Lib.hid hua
  have HUL := Lib.hid hul
  obtain ⟨A1, c1, rfl, a1, a2, -⟩ := ints_form0 ha
  obtain ⟨A2, c2, rfl, d1, d2, -⟩ := ints_form0 hl
  obtain ⟨⟨A, c, hv', hlc, hcm, h4⟩, -⟩ := h
  have hown : ∀ k, 0 < ss.length → v.ownBlock = some k → k < w.heap.size := fun k h0 hk => by
    obtain ⟨b, off, rfl, hcell⟩ := h4 h0
    rw [hv'] at hk
    obtain rfl : b = k := by simpa [Value.ownBlock] using hk
    exact World.block_lt_of_cell? w _ (hcell 0 _ (List.getElem?_eq_getElem h0)).1
  have HOWN := Lib.hid hown
  clear hown h4
  obtain ⟨n, hn⟩ : ∃ n, ss.length = n := ⟨_, rfl⟩
  obtain ⟨na, hna⟩ : ∃ n, aa.length = n := ⟨_, rfl⟩
  obtain ⟨nl, hnl⟩ : ∃ n, ls.length = n := ⟨_, rfl⟩
  have HN := Lib.hid hn
  have HNA := Lib.hid hna
  have HNL := Lib.hid hnl
  rw [hn] at hv' hlc
  rw [hna] at a1 HA ⊢
  rw [hnl] at d1 HL ⊢
  subst hv'
  have HCH := Lib.hid hchk
  have hF := few_any w _ ss HS.out A1 A2 na nl c1 c2 (by omega) (by omega)
  have HF := Lib.hid hF
  clear ha hl hn hna hnl hua hul hchk hF
  go_enter Try.func6, Try.ntmps6
  go_wp2_with fail
  refine HF.out.mono ?_
  rintro e w1 ⟨bo, rfl, hw, hbo⟩
  obtain rfl : w = w1 := hw.symm
  cases bo
  · clear hbo
    go_wp2_with (go_at_call 12; refine (works_at (Below.refl _ w)).mono ?_; rintro e w9 ⟨rfl, hb⟩; have HB := Lib.hid hb; clear hb)
    go_ret
    exact ⟨rfl, HB.out⟩
  have HBO := Lib.hid (hbo rfl)
  clear hbo
  go_wp2_with fail
  refine (rings_ok w hS1 hS2 HA.out HUA.out (by have := HBO.out; have := HNA.out; omega)).mono ?_
  rintro e w1 ⟨g, v1, bv1, rfl, hm, hi, hk⟩
  obtain ⟨Ab, nb, cb, rfl, -⟩ := hi.get
  have HM := Lib.hid hm
  have HI1 := Lib.hid hi
  have HK1 := Lib.hid hk
  have cvl := conv_str ((HL.out.below hm.below (Nat.le_refl _)).alloc (.cells #[.int .i64 S, .slice Ab nb cb, .int .i64 0] 45))
  clear hm hi hk
  unfold rv
  go_wp2_with fail
  obtain ⟨w2, hw2⟩ : ∃ w2, w1.alloc (.cells #[.int .i64 S, .slice Ab nb cb, .int .i64 0] 45) = w2 := ⟨_, rfl⟩
  have hb12 : Below w1.heap.size w1 w2 := by rw [← hw2]; exact (Below.refl _ _).alloc (Nat.le_refl _) _
  have hq2 : Blk w2 w1.heap.size 45 #[.int .i64 S, .slice Ab nb cb, .int .i64 0] := by rw [← hw2]; exact Blk.new w1 _ _
  rw [hw2]
  have HB12 := Lib.hid hb12
  have HQ2 := Lib.hid hq2
  have HBW2 := Lib.hid (HM.out.below.trans (hb12.mono HM.out.below.size))
  have hsf : SeqFar (.slice A n c) ss g v1.ownBlock := fun k h0 hk => by
    have := HOWN.out k h0 hk
    have := HM.out.at_
    exact ⟨by omega, fun e => by have := HM.out.own _ e; omega⟩
  have HSF := Lib.hid hsf
  have hR2 := HM.out.ring.below hb12 (Nat.le_refl _)
  have HR2 := Lib.hid hR2
  clear hw2 hb12 hq2 hsf hR2 cvl
  refine (run_own w2 HR2.out (keepL_last S aa) (.slice A2 nl c2) ls (HL.out.below HBW2.out (Nat.le_refl _)) HUL.out (by have := HBO.out; have := HNL.out; omega) (.slice A n c) ss (HS.out.below HBW2.out (Nat.le_refl _)) (by have := HBO.out; omega) HSF.out most t HCH.out (by decide)).mono ?_
  rintro e w3 ⟨v3, st, A5, c5, rfl, hok, hgr, -⟩
  have hlen := content_length (C := aa) (chkOf_ok HCH.out).2.2
  have hmost := (chkOf_ok HCH.out).2.1
  obtain ⟨X, hX⟩ : ∃ X, contentL aa ls ss = X := ⟨_, rfl⟩
  rw [hX] at hok hgr hlen ⊢
  obtain ⟨m, hmm⟩ : ∃ m, X.length = m := ⟨_, rfl⟩
  have HMX : Hid (X.length = m ∧ m ≤ 131072) := (by omega : _ ∧ _)
  have HX := Lib.hid hX
  have hlast := hok.last
  have hring := hok.ring
  rw [hmm] at hgr hring ⊢
  have hlt2 := HM.out.ring.lt
  have hown2 := HM.out.ring.row.lt
  have hs12 := HB12.out.size
  have hq3 := HQ2.out.but hok.but (by omega) (fun e => by have := hown2 _ e; omega)
  have hb3 : Below w.heap.size w w3 := HBW2.out.trans (hok.but.below HBW2.out.size HM.out.at_ (fun k hk => HM.out.own k hk))
  have hi3 : Ints w3 .u8 (.slice Ab nb cb) (lastN S aa) := (HI1.out.below HB12.out (Nat.le_refl _)).same fun k hk hlt => hok.but.block k hlt (HK1.out k hk).1 (fun e => (HK1.out k hk).2.1 e.symm)
  have HQ3 := Lib.hid hq3
  have HB3 := Lib.hid hb3
  have HI3 := Lib.hid hi3
  have HR3 := Lib.hid hring
  have HLAST := Lib.hid hlast
  have HBV3 := Lib.hid hgr.ints
  obtain ⟨cs, w4, hcv, hib, hbb⟩ := conv_bytes w3 HUL.out (by have := HBO.out; have := HNL.out; omega)
  have hrr := refRun_ok w4 S 0 (.slice Ab nb cb) (.slice (some ⟨w3.heap.size, 0, none⟩) ls.length cs) (.slice A n c) aa ls (HI3.out.below hbb (Nat.le_refl _)) hib HUL.out ss (HS.out.below (HB3.out.trans (hbb.mono HB3.out.size)) (Nat.le_refl _)) (by have := HBO.out; omega) most t HCH.out hS2 (by decide)
  rw [HNL.out] at hcv hrr
  rw [HX.out, HMX.out.1, Nat.zero_add] at hrr
  have HRR := Lib.hid hrr
  have HBB := Lib.hid hbb
  obtain ⟨q0, q1, q2, -⟩ := HQ3.out.three
  clear hok hgr hX hmm hlen hmost hlast hring hlt2 hown2 hs12 hq3 hb3 hi3 hib hbb hrr
  go_wp2_with fail
  refine HRR.out.mono ?_
  rintro e w5 ⟨bv5, ov5, rfl, hb5, hi5, hp5⟩
  obtain ⟨Bq, nq, cq, rfl, -⟩ := hi5.get
  obtain ⟨Ao, no, co, hov, -⟩ : ∃ A n c, ov5 = .slice A n c ∧ True := by obtain ⟨A, c, h, -⟩ := hp5.at_; exact ⟨A, _, c, h, trivial⟩
  subst hov
  have HB5 := Lib.hid (HBB.out.trans (hb5.mono HBB.out.size))
  have HI5 := Lib.hid hi5
  have HP5 := Lib.hid hp5
  clear hb5 hi5 hp5 hcv q0 q1 q2
  unfold rv
  go_wp2
  obtain ⟨LS, hLS⟩ : ∃ LS, lastN S st = LS := ⟨_, rfl⟩
  have HR0 : Hid (RsSt w (w5.alloc (.cells #[.int .i64 S, .slice Bq nq cq, .int .i64 m] 45)) g v3 S st m w5.heap.size (.slice Bq nq cq) X (.slice A5 m c5) (.slice Ao no co) (piecesL aa ls ss) (.slice A2 nl c2) ls) := (by
    have ha : Below w5.heap.size w5 (w5.alloc (.cells #[.int .i64 S, .slice Bq nq cq, .int .i64 m] 45)) := (Below.refl _ _).alloc (Nat.le_refl _) _
    have h35 : Below w3.heap.size w3 (w5.alloc (.cells #[.int .i64 S, .slice Bq nq cq, .int .i64 m] 45)) := HB5.out.trans (ha.mono HB5.out.size)
    have hw := HB3.out.trans (h35.mono HB3.out.size)
    have hr := HR3.out.below h35 (Nat.le_refl _)
    rw [Nat.zero_add] at hr
    have hi := HI5.out.below ha (Nat.le_refl _)
    rw [← HLAST.out] at hi
    exact ⟨hw, hr, Blk.new _ _ _, hi, HBV3.out.below h35 (Nat.le_refl _), HP5.out.below ha (Nat.le_refl _), HX.out, HL.out.below hw (Nat.le_refl _)⟩ : RsSt _ _ _ _ _ _ _ _ _ _ _ _ _ _ _)
  generalize w5.heap.size = q at HR0 ⊢
  generalize w5.alloc (.cells #[.int .i64 S, .slice Bq nq cq, .int .i64 m] 45) = w6' at HR0 ⊢
  obtain ⟨PS, hPS⟩ : ∃ PS, piecesL aa ls ss = PS := ⟨_, rfl⟩
  rw [hPS] at HR0
  clear hPS
  have HLS := Lib.hid hLS
  have hc0 := fun W (h : RsSt w W g v3 S st m q (.slice Bq nq cq) X (.slice A5 m c5) (.slice Ao no co) PS (.slice A2 nl c2) ls) => h.cond HLS.out
  have HC0 := Lib.hid hc0
  clear hc0 hLS
  refine wp_region_held_drew (S := (fun w' => w'.cell? ⟨q, 1, none⟩ = some (.slice Bq nq cq) ∧ w'.cell? ⟨q, 2, none⟩ = some (.int .i64 m) ∧ (convert 22 9 (.slice A5 m c5)).run Try.prog w' = .ok (.string (strOfNums X)) w' ∧ (convert 22 9 (.slice A2 nl c2)).run Try.prog w' = .ok (.string (strOfNums ls)) w' ∧ (convert 22 9 (.slice Bq nq cq)).run Try.prog w' = .ok (.string (strOfNums LS)) w')) (by kernel_rfl) ?_ (fun hHeld => ?_)
  · (try dsimp only); exact HC0.out _ (HR0.out.next (below_drewN (Below.refl _ _) 1))
  refine wpAnyH_take2 (i := 0) (oi := _) (d := some 56) (v := ?_) rfl rfl (by kernel_rfl) (by kernel_rfl) (by kernel_rfl) (fun _ _ _ h => h) (Or.inl ⟨by rfl, ?_⟩) (by assumption) ?_
  rotate_left 1
  · (intro w' hSw; (try dsimp only at hSw); go_simp; try with_reducible rfl)
  try simp only [Act.put, List.setIfInBounds_toArray, List.set_cons_zero, List.set_cons_succ]
  refine wpAnyH_take2 (i := 1) (oi := _) (d := some 57) (v := ?_) rfl rfl (by kernel_rfl) (by kernel_rfl) (by kernel_rfl) (fun _ _ _ h => h) (Or.inl ⟨by rfl, ?_⟩) (by assumption) ?_
  rotate_left 1
  · (intro w' hSw; (try dsimp only at hSw); go_simp; try with_reducible rfl)
  try simp only [Act.put, List.setIfInBounds_toArray, List.set_cons_zero, List.set_cons_succ]
  refine wpAnyH_take2 (i := 2) (oi := _) (d := some 58) (v := ?_) rfl rfl (by kernel_rfl) (by kernel_rfl) (by kernel_rfl) (fun _ _ _ h => h) (Or.inl ⟨by rfl, ?_⟩) (by assumption) ?_
  rotate_left 1
  · (intro w' hSw; (try dsimp only at hSw); go_simp; try with_reducible rfl)
  try simp only [Act.put, List.setIfInBounds_toArray, List.set_cons_zero, List.set_cons_succ]
  refine wpAnyH_ready (rs := [3]) (by kernel_rfl) (by simp) ?_
  refine AllReadyH.cons (o := _) rfl (fun K hK => ?_) ?_
  rotate_left
  · exact AllReadyH.nil
  go_simp
  go_at_call 25; refine (refJoined_any _ _ _ (HR0.out.next (below_drewN (Below.refl _ _) 1)).pc (by have := HMX.out; rw [HR0.out.flat]; omega)).mono ?_; rintro e w6 ⟨A6, c6, rfl, hg6, hb6⟩; rw [HR0.out.flat, HMX.out.1] at hg6 ⊢; have q6 := conv_str hg6.ints; have HR6 := Lib.hid ((HR0.out.next (below_drewN (Below.refl _ _) 1)).next hb6); have HG6 := Lib.hid hg6; clear hg6 hb6
  refine hK.out _ _ ?_ (fun hHeld => ?_)
  · (try dsimp only); exact HC0.out _ HR6.out
  clear hK K
  try simp only [Act.put, List.setIfInBounds_toArray, List.set_cons_zero, List.set_cons_succ]
  refine wpAnyH_mono (S' := fun w' => w'.cell? ⟨q, 1, none⟩ = some (.slice Bq nq cq) ∧ w'.cell? ⟨q, 2, none⟩ = some (.int .i64 m) ∧ (convert 22 9 (.slice A5 m c5)).run Try.prog w' = .ok (.string (strOfNums X)) w' ∧ (convert 22 9 (.slice A2 nl c2)).run Try.prog w' = .ok (.string (strOfNums ls)) w' ∧ (convert 22 9 (.slice Bq nq cq)).run Try.prog w' = .ok (.string (strOfNums LS)) w' ∧ (convert 22 9 (.slice A6 m c6)).run Try.prog w' = .ok (.string (strOfNums X)) w') (fun w' h => ⟨h.1, h.2.1, h.2.2.1, h.2.2.2.1, h.2.2.2.2.1⟩) _ _ _ _ ?_
  have hHeld2 : (fun w' => w'.cell? ⟨q, 1, none⟩ = some (.slice Bq nq cq) ∧ w'.cell? ⟨q, 2, none⟩ = some (.int .i64 m) ∧ (convert 22 9 (.slice A5 m c5)).run Try.prog w' = .ok (.string (strOfNums X)) w' ∧ (convert 22 9 (.slice A2 nl c2)).run Try.prog w' = .ok (.string (strOfNums ls)) w' ∧ (convert 22 9 (.slice Bq nq cq)).run Try.prog w' = .ok (.string (strOfNums LS)) w' ∧ (convert 22 9 (.slice A6 m c6)).run Try.prog w' = .ok (.string (strOfNums X)) w') _ := ⟨hHeld.1, hHeld.2.1, hHeld.2.2.1, hHeld.2.2.2.1, hHeld.2.2.2.2, q6⟩
  refine wpAnyH_take2 (i := 4) (oi := _) (d := some 60) (v := ?_) rfl rfl (by kernel_rfl) (by kernel_rfl) (by kernel_rfl) (fun _ _ _ h => h) (Or.inl ⟨by rfl, ?_⟩) (by assumption) ?_
  rotate_left 1
  · (intro w' hSw; (try dsimp only at hSw); go_simp; try with_reducible rfl)
  try simp only [Act.put, List.setIfInBounds_toArray, List.set_cons_zero, List.set_cons_succ]
  refine wpAnyH_take2 (i := 5) (oi := _) (d := some 61) (v := ?_) rfl rfl (by kernel_rfl) (by kernel_rfl) (by kernel_rfl) (fun _ _ _ h => h) (Or.inl ⟨by rfl, ?_⟩) (by assumption) ?_
  rotate_left 1
  · (intro w' hSw; (try dsimp only at hSw); go_simp; try with_reducible rfl)
  try simp only [Act.put, List.setIfInBounds_toArray, List.set_cons_zero, List.set_cons_succ]
  refine wpAnyH_take2 (i := 6) (oi := _) (d := some 62) (v := ?_) rfl rfl (by kernel_rfl) (by kernel_rfl) (by kernel_rfl) (fun _ _ _ h => h) (Or.inl ⟨by rfl, ?_⟩) (by assumption) ?_
  rotate_left 1
  · (intro w' hSw; (try dsimp only at hSw); go_simp; try with_reducible rfl)
  try simp only [Act.put, List.setIfInBounds_toArray, List.set_cons_zero, List.set_cons_succ]
  refine wpAnyH_take2 (i := 7) (oi := _) (d := some 63) (v := ?_) rfl rfl (by kernel_rfl) (by kernel_rfl) (by kernel_rfl) (fun _ _ _ h => h) (Or.inl ⟨by rfl, ?_⟩) (by assumption) ?_
  rotate_left 1
  · (intro w' hSw; (try dsimp only at hSw); go_simp; try with_reducible rfl)
  try simp only [Act.put, List.setIfInBounds_toArray, List.set_cons_zero, List.set_cons_succ]
  refine wpAnyH_take2 (i := 9) (oi := _) (d := some 65) (v := ?_) rfl rfl (by kernel_rfl) (by kernel_rfl) (by kernel_rfl) (fun _ _ _ h => h) (Or.inl ⟨by rfl, ?_⟩) (by assumption) ?_
  rotate_left 1
  · (intro w' hSw; (try dsimp only at hSw); go_simp; try with_reducible rfl)
  try simp only [Act.put, List.setIfInBounds_toArray, List.set_cons_zero, List.set_cons_succ]
  refine wpAnyH_ready (rs := [8]) (by kernel_rfl) (by simp) ?_
  refine AllReadyH.cons (o := _) rfl (fun K hK => ?_) ?_
  rotate_left
  · exact AllReadyH.nil
  go_simp
  go_at_call 14; refine (num_any _ _).mono ?_; rintro e w7 ⟨rfl, hw⟩; obtain rfl : w6 = w7 := hw.symm
  refine hK.out _ _ ?_ (fun hHeld => ?_)
  · (try dsimp only); exact ⟨(HC0.out _ HR6.out).1, (HC0.out _ HR6.out).2.1, (HC0.out _ HR6.out).2.2.1, (HC0.out _ HR6.out).2.2.2.1, (HC0.out _ HR6.out).2.2.2.2, conv_str HG6.out.ints⟩
  clear hK K
  try simp only [Act.put, List.setIfInBounds_toArray, List.set_cons_zero, List.set_cons_succ]
  refine wpAnyH_take2 (i := 10) (oi := _) (d := some 66) (v := ?_) rfl rfl (by kernel_rfl) (by kernel_rfl) (by kernel_rfl) (fun _ _ _ h => h) (Or.inl ⟨by rfl, ?_⟩) (by assumption) ?_
  rotate_left 1
  · (intro w' hSw; (try dsimp only at hSw); go_simp; try with_reducible rfl)
  try simp only [Act.put, List.setIfInBounds_toArray, List.set_cons_zero, List.set_cons_succ]
  refine wpAnyH_take2 (i := 11) (oi := _) (d := some 67) (v := ?_) rfl rfl (by kernel_rfl) (by kernel_rfl) (by kernel_rfl) (fun _ _ _ h => h) (Or.inl ⟨by rfl, ?_⟩) (by assumption) ?_
  rotate_left 1
  · (intro w' hSw; (try dsimp only at hSw); go_simp; try with_reducible rfl)
  try simp only [Act.put, List.setIfInBounds_toArray, List.set_cons_zero, List.set_cons_succ]
  refine wpAnyH_take2 (i := 12) (oi := _) (d := some 68) (v := ?_) rfl rfl (by kernel_rfl) (by kernel_rfl) (by kernel_rfl) (fun _ _ _ h => h) (Or.inl ⟨by rfl, ?_⟩) (by assumption) ?_
  rotate_left 1
  · (intro w' hSw; (try dsimp only at hSw); go_simp; try with_reducible rfl)
  try simp only [Act.put, List.setIfInBounds_toArray, List.set_cons_zero, List.set_cons_succ]
  refine wpAnyH_take2 (i := 13) (oi := _) (d := some 69) (v := ?_) rfl rfl (by kernel_rfl) (by kernel_rfl) (by kernel_rfl) (fun _ _ _ h => h) (Or.inl ⟨by rfl, ?_⟩) (by assumption) ?_
  rotate_left 1
  · (intro w' hSw; (try dsimp only at hSw); go_simp; try with_reducible rfl)
  try simp only [Act.put, List.setIfInBounds_toArray, List.set_cons_zero, List.set_cons_succ]
  refine wpAnyH_take2 (i := 14) (oi := _) (d := some 70) (v := ?_) rfl rfl (by kernel_rfl) (by kernel_rfl) (by kernel_rfl) (fun _ _ _ h => h) (Or.inl ⟨by rfl, ?_⟩) (by assumption) ?_
  rotate_left 1
  · (intro w' hSw; (try dsimp only at hSw); go_simp; try with_reducible rfl)
  try simp only [Act.put, List.setIfInBounds_toArray, List.set_cons_zero, List.set_cons_succ]
  refine wpAnyH_take2 (i := 17) (oi := _) (d := some 73) (v := ?_) rfl rfl (by kernel_rfl) (by kernel_rfl) (by kernel_rfl) (fun _ _ _ h => h) (Or.inl ⟨by rfl, ?_⟩) (by assumption) ?_
  rotate_left 1
  · (intro w' hSw; (try dsimp only at hSw); go_simp; try with_reducible rfl)
  try simp only [Act.put, List.setIfInBounds_toArray, List.set_cons_zero, List.set_cons_succ]
  refine wpAnyH_take2 (i := 18) (oi := _) (d := some 74) (v := ?_) rfl rfl (by kernel_rfl) (by kernel_rfl) (by kernel_rfl) (fun _ _ _ h => h) (Or.inl ⟨by rfl, ?_⟩) (by assumption) ?_
  rotate_left 1
  · (intro w' hSw; (try dsimp only at hSw); go_simp; try with_reducible rfl)
  try simp only [Act.put, List.setIfInBounds_toArray, List.set_cons_zero, List.set_cons_succ]
  refine wpAnyH_take2 (i := 19) (oi := _) (d := some 75) (v := ?_) rfl rfl (by kernel_rfl) (by kernel_rfl) (by kernel_rfl) (fun _ _ _ h => h) (Or.inl ⟨by rfl, ?_⟩) (by assumption) ?_
  rotate_left 1
  · (intro w' hSw; (try dsimp only at hSw); go_simp; try with_reducible rfl)
  try simp only [Act.put, List.setIfInBounds_toArray, List.set_cons_zero, List.set_cons_succ]
  refine wpAnyH_ready (rs := [15]) (by kernel_rfl) (by simp) ?_
  refine AllReadyH.cons (o := _) rfl (fun K hK => ?_) ?_
  rotate_left
  · exact AllReadyH.nil
  go_simp
  go_at_call 15; refine (last_some _ HR6.out.ring S hS1).mono ?_; rw [lastN_lastN _ (Nat.le_refl S), HLS.out]; rintro e w7 ⟨ov7, rfl, hc7⟩; obtain ⟨A7, n7, c7, rfl, -⟩ := hc7.row.ints.get; have q7 := conv_str hc7.row.ints; have HR7 := Lib.hid (HR6.out.next hc7.below); have HG7 := Lib.hid (HG6.out.ints.below hc7.below (Nat.le_refl _)); have HI7 := Lib.hid hc7.row.ints; clear hc7
  refine hK.out _ _ ?_ (fun hHeld => ?_)
  · (try dsimp only); exact ⟨(HC0.out _ HR7.out).1, (HC0.out _ HR7.out).2.1, (HC0.out _ HR7.out).2.2.1, (HC0.out _ HR7.out).2.2.2.1, (HC0.out _ HR7.out).2.2.2.2, conv_str HG7.out⟩
  clear hK K
  try simp only [Act.put, List.setIfInBounds_toArray, List.set_cons_zero, List.set_cons_succ]
  refine wpAnyH_mono (S' := fun w' => w'.cell? ⟨q, 1, none⟩ = some (.slice Bq nq cq) ∧ w'.cell? ⟨q, 2, none⟩ = some (.int .i64 m) ∧ (convert 22 9 (.slice A5 m c5)).run Try.prog w' = .ok (.string (strOfNums X)) w' ∧ (convert 22 9 (.slice A2 nl c2)).run Try.prog w' = .ok (.string (strOfNums ls)) w' ∧ (convert 22 9 (.slice Bq nq cq)).run Try.prog w' = .ok (.string (strOfNums LS)) w' ∧ (convert 22 9 (.slice A6 m c6)).run Try.prog w' = .ok (.string (strOfNums X)) w' ∧ (convert 22 9 (.slice A7 n7 c7)).run Try.prog w' = .ok (.string (strOfNums LS)) w') (fun w' h => ⟨h.1, h.2.1, h.2.2.1, h.2.2.2.1, h.2.2.2.2.1, h.2.2.2.2.2.1⟩) _ _ _ _ ?_
  have hHeld2 : (fun w' => w'.cell? ⟨q, 1, none⟩ = some (.slice Bq nq cq) ∧ w'.cell? ⟨q, 2, none⟩ = some (.int .i64 m) ∧ (convert 22 9 (.slice A5 m c5)).run Try.prog w' = .ok (.string (strOfNums X)) w' ∧ (convert 22 9 (.slice A2 nl c2)).run Try.prog w' = .ok (.string (strOfNums ls)) w' ∧ (convert 22 9 (.slice Bq nq cq)).run Try.prog w' = .ok (.string (strOfNums LS)) w' ∧ (convert 22 9 (.slice A6 m c6)).run Try.prog w' = .ok (.string (strOfNums X)) w' ∧ (convert 22 9 (.slice A7 n7 c7)).run Try.prog w' = .ok (.string (strOfNums LS)) w') _ := ⟨hHeld.1, hHeld.2.1, hHeld.2.2.1, hHeld.2.2.2.1, hHeld.2.2.2.2.1, hHeld.2.2.2.2.2, q7⟩
  refine wpAnyH_take2 (i := 16) (oi := _) (d := some 72) (v := ?_) rfl rfl (by kernel_rfl) (by kernel_rfl) (by kernel_rfl) (fun _ _ _ h => h) (Or.inl ⟨by rfl, ?_⟩) (by assumption) ?_
  rotate_left 1
  · (intro w' hSw; (try dsimp only at hSw); go_simp; try with_reducible rfl)
  try simp only [Act.put, List.setIfInBounds_toArray, List.set_cons_zero, List.set_cons_succ]
  refine wpAnyH_take2 (i := 20) (oi := _) (d := some 76) (v := ?_) rfl rfl (by kernel_rfl) (by kernel_rfl) (by kernel_rfl) (fun _ _ _ h => h) (Or.inl ⟨by rfl, ?_⟩) (by assumption) ?_
  rotate_left 1
  · (intro w' hSw; (try dsimp only at hSw); go_simp; try with_reducible rfl)
  try simp only [Act.put, List.setIfInBounds_toArray, List.set_cons_zero, List.set_cons_succ]
  refine wpAnyH_take2 (i := 21) (oi := _) (d := some 77) (v := ?_) rfl rfl (by kernel_rfl) (by kernel_rfl) (by kernel_rfl) (fun _ _ _ h => h) (Or.inl ⟨by rfl, ?_⟩) (by assumption) ?_
  rotate_left 1
  · (intro w' hSw; (try dsimp only at hSw); go_simp; try with_reducible rfl)
  try simp only [Act.put, List.setIfInBounds_toArray, List.set_cons_zero, List.set_cons_succ]
  refine wpAnyH_take2 (i := 22) (oi := _) (d := some 78) (v := ?_) rfl rfl (by kernel_rfl) (by kernel_rfl) (by kernel_rfl) (fun _ _ _ h => h) (Or.inl ⟨by rfl, ?_⟩) (by assumption) ?_
  rotate_left 1
  · (intro w' hSw; (try dsimp only at hSw); go_simp; try with_reducible rfl)
  try simp only [Act.put, List.setIfInBounds_toArray, List.set_cons_zero, List.set_cons_succ]
  refine wpAnyH_take2 (i := 23) (oi := _) (d := some 79) (v := ?_) rfl rfl (by kernel_rfl) (by kernel_rfl) (by kernel_rfl) (fun _ _ _ h => h) (Or.inl ⟨by rfl, ?_⟩) (by assumption) ?_
  rotate_left 1
  · (intro w' hSw; (try dsimp only at hSw); go_simp; try with_reducible rfl)
  try simp only [Act.put, List.setIfInBounds_toArray, List.set_cons_zero, List.set_cons_succ]
  refine wpAnyH_take2 (i := 25) (oi := _) (d := some 81) (v := ?_) rfl rfl (by kernel_rfl) (by kernel_rfl) (by kernel_rfl) (fun _ _ _ h => h) (Or.inl ⟨by rfl, ?_⟩) (by assumption) ?_
  rotate_left 1
  · (intro w' hSw; (try dsimp only at hSw); go_simp; try with_reducible rfl)
  try simp only [Act.put, List.setIfInBounds_toArray, List.set_cons_zero, List.set_cons_succ]
  refine wpAnyH_take2 (i := 26) (oi := _) (d := some 82) (v := ?_) rfl rfl (by kernel_rfl) (by kernel_rfl) (by kernel_rfl) (fun _ _ _ h => h) (Or.inl ⟨by rfl, ?_⟩) (by assumption) ?_
  rotate_left 1
  · (intro w' hSw; (try dsimp only at hSw); go_simp; try with_reducible rfl)
  try simp only [Act.put, List.setIfInBounds_toArray, List.set_cons_zero, List.set_cons_succ]
  refine wpAnyH_ready (rs := [24]) (by kernel_rfl) (by simp) ?_
  refine AllReadyH.cons (o := _) rfl (fun K hK => ?_) ?_
  rotate_left
  · exact AllReadyH.nil
  go_simp
  go_at_call 20; refine (total_ring _ HR7.out.ring).mono ?_; rintro e w8 ⟨rfl, hw⟩; obtain rfl : w7 = w8 := hw.symm
  refine hK.out _ _ ?_ (fun hHeld => ?_)
  · (try dsimp only); exact ⟨(HC0.out _ HR7.out).1, (HC0.out _ HR7.out).2.1, (HC0.out _ HR7.out).2.2.1, (HC0.out _ HR7.out).2.2.2.1, (HC0.out _ HR7.out).2.2.2.2, conv_str HG7.out, conv_str HI7.out⟩
  clear hK K
  try simp only [Act.put, List.setIfInBounds_toArray, List.set_cons_zero, List.set_cons_succ]
  refine wpAnyH_take2 (i := 27) (oi := _) (d := some 83) (v := ?_) rfl rfl (by kernel_rfl) (by kernel_rfl) (by kernel_rfl) (fun _ _ _ h => h) (Or.inl ⟨by rfl, ?_⟩) (by assumption) ?_
  rotate_left 1
  · (intro w' hSw; (try dsimp only at hSw); go_simp; try with_reducible rfl)
  try simp only [Act.put, List.setIfInBounds_toArray, List.set_cons_zero, List.set_cons_succ]
  refine wpAnyH_take2 (i := 28) (oi := _) (d := some 84) (v := ?_) rfl rfl (by kernel_rfl) (by kernel_rfl) (by kernel_rfl) (fun _ _ _ h => h) (Or.inl ⟨by rfl, ?_⟩) (by assumption) ?_
  rotate_left 1
  · (intro w' hSw; (try dsimp only at hSw); go_simp; try with_reducible rfl)
  try simp only [Act.put, List.setIfInBounds_toArray, List.set_cons_zero, List.set_cons_succ]
  refine wpAnyH_take2 (i := 29) (oi := _) (d := some 85) (v := ?_) rfl rfl (by kernel_rfl) (by kernel_rfl) (by kernel_rfl) (fun _ _ _ h => h) (Or.inl ⟨by rfl, ?_⟩) (by assumption) ?_
  rotate_left 1
  · (intro w' hSw; (try dsimp only at hSw); go_simp; try with_reducible rfl)
  try simp only [Act.put, List.setIfInBounds_toArray, List.set_cons_zero, List.set_cons_succ]
  refine wpAnyH_take2 (i := 30) (oi := _) (d := some 86) (v := ?_) rfl rfl (by kernel_rfl) (by kernel_rfl) (by kernel_rfl) (fun _ _ _ h => h) (Or.inl ⟨by rfl, ?_⟩) (by assumption) ?_
  rotate_left 1
  · (intro w' hSw; (try dsimp only at hSw); go_simp; try with_reducible rfl)
  try simp only [Act.put, List.setIfInBounds_toArray, List.set_cons_zero, List.set_cons_succ]
  refine wpAnyH_take2 (i := 31) (oi := _) (d := some 87) (v := ?_) rfl rfl (by kernel_rfl) (by kernel_rfl) (by kernel_rfl) (fun _ _ _ h => h) (Or.inl ⟨by rfl, ?_⟩) (by assumption) ?_
  rotate_left 1
  · (intro w' hSw; (try dsimp only at hSw); go_simp; try with_reducible rfl)
  try simp only [Act.put, List.setIfInBounds_toArray, List.set_cons_zero, List.set_cons_succ]
  refine wpAnyH_take2 (i := 32) (oi := _) (d := some 88) (v := ?_) rfl rfl (by kernel_rfl) (by kernel_rfl) (by kernel_rfl) (fun _ _ _ h => h) (Or.inl ⟨by rfl, ?_⟩) (by assumption) ?_
  rotate_left 1
  · (intro w' hSw; (try dsimp only at hSw); go_simp; try with_reducible rfl)
  try simp only [Act.put, List.setIfInBounds_toArray, List.set_cons_zero, List.set_cons_succ]
  refine wpAnyH_take2 (i := 33) (oi := _) (d := some 89) (v := ?_) rfl rfl (by kernel_rfl) (by kernel_rfl) (by kernel_rfl) (fun _ _ _ h => h) (Or.inl ⟨by rfl, ?_⟩) (by assumption) ?_
  rotate_left 1
  · (intro w' hSw; (try dsimp only at hSw); go_simp; try with_reducible rfl)
  try simp only [Act.put, List.setIfInBounds_toArray, List.set_cons_zero, List.set_cons_succ]
  refine wpAnyH_take2 (i := 34) (oi := _) (d := some 90) (v := ?_) rfl rfl (by kernel_rfl) (by kernel_rfl) (by kernel_rfl) (fun _ _ _ h => h) (Or.inl ⟨by rfl, ?_⟩) (by assumption) ?_
  rotate_left 1
  · (intro w' hSw; (try dsimp only at hSw); go_simp; try with_reducible rfl)
  try simp only [Act.put, List.setIfInBounds_toArray, List.set_cons_zero, List.set_cons_succ]
  refine wpAnyH_take2 (i := 35) (oi := _) (d := some 91) (v := ?_) rfl rfl (by kernel_rfl) (by kernel_rfl) (by kernel_rfl) (fun _ _ _ h => h) (Or.inl ⟨by rfl, ?_⟩) (by assumption) ?_
  rotate_left 1
  · (intro w' hSw; (try dsimp only at hSw); go_simp; try with_reducible rfl)
  try simp only [Act.put, List.setIfInBounds_toArray, List.set_cons_zero, List.set_cons_succ]
  refine wpAnyH_ready (rs := [36]) (by kernel_rfl) (by simp) ?_
  refine AllReadyH.cons (o := _) rfl (fun K hK => ?_) ?_
  rotate_left
  · exact AllReadyH.nil
  go_simp
  go_at_call 12; refine (works_any _).mono ?_; rintro e w8 ⟨rfl, hb8⟩; have HR8 := Lib.hid (HR7.out.next hb8); have HG8 := Lib.hid (HG7.out.below hb8 (Nat.le_refl _)); have HI8 := Lib.hid (HI7.out.below hb8 (Nat.le_refl _)); clear hb8
  refine hK.out _ _ ?_ (fun hHeld => ?_)
  · (try dsimp only); exact ⟨(HC0.out _ HR8.out).1, (HC0.out _ HR8.out).2.1, (HC0.out _ HR8.out).2.2.1, (HC0.out _ HR8.out).2.2.2.1, (HC0.out _ HR8.out).2.2.2.2, conv_str HG8.out, conv_str HI8.out⟩
  clear hK K
  try simp only [Act.put, List.setIfInBounds_toArray, List.set_cons_zero, List.set_cons_succ]
  refine wpAnyH_take2 (i := 37) (oi := _) (d := some 93) (v := ?_) rfl rfl (by kernel_rfl) (by kernel_rfl) (by kernel_rfl) (fun _ _ _ h => h) (Or.inl ⟨by rfl, ?_⟩) (by assumption) ?_
  rotate_left 1
  · (intro w' hSw; (try dsimp only at hSw); go_simp; try with_reducible rfl)
  try simp only [Act.put, List.setIfInBounds_toArray, List.set_cons_zero, List.set_cons_succ]
  refine wpAnyH_take2 (i := 38) (oi := _) (d := some 10) (v := ?_) rfl rfl (by kernel_rfl) (by kernel_rfl) (by kernel_rfl) (fun _ _ _ h => h) (Or.inl ⟨by rfl, ?_⟩) (by assumption) ?_
  rotate_left 1
  · (intro w' hSw; (try dsimp only at hSw); go_simp; try with_reducible rfl)
  try simp only [Act.put, List.setIfInBounds_toArray, List.set_cons_zero, List.set_cons_succ]
  refine wpAnyH_done (by kernel_rfl) ?_ _
  go_wp2
  go_ret
  exact ⟨rfl, HR8.out.below⟩
end Go.Proofs.Ytndgdehlnmheeaa
