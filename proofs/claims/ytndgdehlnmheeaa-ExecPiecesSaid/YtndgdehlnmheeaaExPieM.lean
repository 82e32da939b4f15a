/-
  ExecPieces: the law's walk where the ring stands.
-/
import Derived.Test.YtndgdehlnmheeaaExPieP
namespace Go.Proofs.Ytndgdehlnmheeaa
set_option linter.all false
set_option maxRecDepth 100000
open Go.RowKit Go.Shelf

attribute [local go_sem] Oper.semAt_some eql_func_nil

set_option maxHeartbeats 6400000 in
theorem pie_main {w : World} (S : Nat) (hS1 : 1 ≤ S) (hS2 : S ≤ 134217728) (va : Value) (aa : List Int) (ha : Ints w .u8 va aa) (hua : U8s aa) (vl : Value) (ls : List Int) (hl : Ints w .u8 vl ls) (hul : U8s ls) (v : Value) (ss : List SeqD) (h : Seqs w v ss) (most many : Int) (hmany : -9223372036854775808 ≤ many ∧ many ≤ 9223372036854775807)
    (vm : Value) (mr : List Int) (hm : Ints w .u8 vm mr) (hum : U8s mr) (hml : mr.length ≤ 100) (a t q : Int) (hchk : chkOf S aa ls most ss = (a, t, q)) :
    Calls Try.prog 8 #[.int .i64 S, va, vl, v, .int .i64 most, .int .i64 many, vm] w fun e w' => e = .returned (.bool true) ∧ Below w.heap.size w w' := by
  have HS := Lib.hid h
  have HA := Lib.hid ha
  have HL := Lib.hid hl
  have HM := Lib.hid hm
  have HUA := Lib.hid hua
  have HUL := Lib.hid hul
  have HUM := Lib.hid hum
  have HMANY := Lib.hid hmany
  have HCH := Lib.hid hchk
  have HFL := Lib.hid (piecesOf_le hchk)
  obtain ⟨A1, c1, rfl, a1, a2, -⟩ := ints_form0 ha
  obtain ⟨A2, c2, rfl, d1, d2, hat2⟩ := ints_form0 hl
  obtain ⟨A0, c0, rfl, m1, m2, -⟩ := ints_form0 hm
  have HOWS := Lib.hid (seqs_own h)
  obtain ⟨⟨A, c, rfl, hlc, hcm, -⟩, -⟩ := h
  obtain ⟨n, hn⟩ : ∃ n, ss.length = n := ⟨_, rfl⟩
  obtain ⟨na, hna⟩ : ∃ n, aa.length = n := ⟨_, rfl⟩
  obtain ⟨nl, hnl⟩ : ∃ n, ls.length = n := ⟨_, rfl⟩
  obtain ⟨nm, hnm⟩ : ∃ n, mr.length = n := ⟨_, rfl⟩
  have HN := Lib.hid hn
  have HNA := Lib.hid hna
  have HNL := Lib.hid hnl
  have HNM := Lib.hid hnm
  rw [hn] at hlc HS HOWS ⊢
  rw [hna] at a1 HA ⊢
  rw [hnl] at d1 hat2 HL ⊢
  rw [hnm] at m1 hml HM ⊢
  have HAT := Lib.hid hat2
  have HML : Hid (nm ≤ 100) := (hml : _ ≤ _)
  have hnm100 : ¬ (100 < (nm : Int)) := by omega
  have hnmi : (nm : Int) ≤ 9223372036854775807 := by omega
  have hnli : (nl : Int) ≤ 9223372036854775807 := by omega
  obtain ⟨PS, hPS⟩ : ∃ PS, piecesOf q aa ls ss = PS := ⟨_, rfl⟩
  have HPS := Lib.hid hPS
  rw [hPS] at HFL
  obtain ⟨w0, hw0⟩ : ∃ w0, (w.alloc (.cells #[.int .i64 many] 3)).alloc (.cells #[.bool false] 4) = w0 := ⟨_, rfl⟩
  have hb0 : Below w.heap.size w w0 := by rw [← hw0]; exact ((Below.refl _ w).alloc (Nat.le_refl _) _).alloc (by simp) _
  have hs0 : w0.heap.size = w.heap.size + 1 + 1 := by rw [← hw0]; simp
  have hC0 : Blk w0 w.heap.size 3 #[.int .i64 many] := by
    rw [← hw0]
    exact (Blk.new w 3 #[.int .i64 many]).below ((Below.refl _ _).alloc (Nat.le_refl _) _) (by simp)
  have hC1 : Blk w0 (w.heap.size + 1) 4 #[.bool false] := by
    rw [← hw0]
    have := Blk.new (w.alloc (.cells #[.int .i64 many] 3)) 4 #[.bool false]
    rwa [World.size_alloc] at this
  have HC0 := Lib.hid hC0
  have HC1 := Lib.hid hC1
  have HB0 := Lib.hid hb0
  have HS0 := Lib.hid hs0
  have hF := few_any w0 _ ss (HS.out.below hb0 (Nat.le_refl _)) A1 A2 na nl c1 c2 (by omega) (by omega)
  have HF := Lib.hid hF
  clear ha hl hm hn hna hnl hnm hua hul hum hmany hchk hF hat2 hml hPS hC0 hC1 hb0 hs0
  refine (callsIn_wide (n := 20)).1 ?_
  refine callsIn_of_wp_marks Try.func8 rfl trivial ?_ rfl
  simp only [Try.ntmps8, List.size_toArray, List.length_cons, List.length_nil, Nat.reduceAdd, Nat.reduceSub, Array.replicate_succ, Array.replicate_zero, List.push_toArray, List.append_toArray, List.nil_append, List.cons_append]
  refine wpIn_wide.2 ?_
  go_wp2_with fail
  refine HF.out.mono ?_
  rintro e w1 ⟨bo, rfl, hw, hbo⟩
  obtain rfl : w0 = w1 := hw.symm
  cases bo
  · clear hbo
    go_wp2_with fail
    refine (works_any _).mono ?_
    rintro e w9 ⟨rfl, hb⟩
    have hk := HC1.out.below hb HC1.out.lt
    have hc9 : w9.cell? ⟨w.heap.size + 1, 0, none⟩ = some (.bool false) := by rw [hk.cell]; rfl
    have hf9 := hk.frozen 0
    have hb9 := HB0.out.trans (hb.mono HB0.out.size)
    clear hb
    go_wp2
    refine ⟨.bool true, ?_, rfl, hb9.setCell (p := ⟨w.heap.size + 1, 0, none⟩) (by show _ ≤ w.heap.size + 1; omega) _⟩
    have hc5 := World.cell?_setCell_same' w9 ⟨w.heap.size + 1, 0, none⟩ (.bool true) (by rw [hc9]; rfl)
    simp [results, Try.f8, go_sem, hc5]
  have HBO := Lib.hid (hbo rfl)
  clear hbo HF
  go_wp2_with fail
  refine (rings_ok w0 hS1 hS2 (HA.out.below HB0.out (Nat.le_refl _)) HUA.out (by have := HBO.out; have := HNA.out; omega)).mono ?_
  rintro e w1 ⟨g, v1, bv1, rfl, hmd, hi, hk⟩
  obtain ⟨Ab, nb, cb, rfl, -⟩ := hi.get
  have HMD := Lib.hid hmd
  have HI1 := Lib.hid hi
  have HK1 := Lib.hid hk
  clear hmd hi hk
  unfold rv
  go_upto_region 6 with fail
  obtain ⟨w2, hw2⟩ : ∃ w2, w1.alloc (.cells #[.int .i64 S, .slice Ab nb cb, .int .i64 0] 45) = w2 := ⟨_, rfl⟩
  have hb12 : Below w1.heap.size w1 w2 := by rw [← hw2]; exact (Below.refl _ _).alloc (Nat.le_refl _) _
  have hq2 : Blk w2 w1.heap.size 45 #[.int .i64 S, .slice Ab nb cb, .int .i64 0] := by rw [← hw2]; exact Blk.new w1 _ _
  rw [hw2]
  have HS12 : Hid (w1.heap.size < w2.heap.size) := (by rw [← hw2]; simp : _ < _)
  have HB12 := Lib.hid hb12
  have HQ2 := Lib.hid hq2
  have HBW2 := Lib.hid (HB0.out.trans ((HMD.out.below.trans (hb12.mono HMD.out.below.size)).mono HB0.out.size))
  have HR2 := Lib.hid (HMD.out.ring.below hb12 (Nat.le_refl _))
  have HI2 := Lib.hid (HI1.out.below hb12 (Nat.le_refl _))
  have HG0 := Lib.hid (World.ownsRow_made (e := 5) (size := 1) (base := w2.heap.size) w2 #[] 0 (Nat.le_refl _) (by simp [maxLen]) rfl)
  clear hw2 hb12 hq2
  go_wp2_with (at_builtin; refine wpList_append_bs rfl _ _ rfl w2.heap.size _ [] ls rfl HG0.out A2 nl c2 rfl ((HAT.out.below HBW2.out (Nat.le_refl _)).alloc _) (by have := HBO.out; have := HNL.out; simp only [List.length_nil]; omega) (by simp) nl (by simp) ?_; intro A6 c6 w3 hg hgr; rw [List.nil_append] at hg; have HG3 := Lib.hid hg; have HB23 := Lib.hid (((Below.refl w2.heap.size w2).alloc (Nat.le_refl _) (.cells #[] 5)).grown hgr (by simp) (fun r hr => (World.ownsRow.lt HG0.out r hr).1)); have HS23 : Hid (w2.heap.size < w3.heap.size) := (by have := hgr.size; simp at this; omega : _ < _); clear hg hgr)
  have HBW3 := Lib.hid (HBW2.out.trans (HB23.out.mono HBW2.out.size))
  have HR3 := Lib.hid (HR2.out.below HB23.out (Nat.le_refl _))
  refine (pieces_ring w3 HR3.out (keepL_last S aa) _ ls (Grow.ints HG3.out) HUL.out (by have := HBO.out; have := HNL.out; omega) _ ss (HS.out.below HBW3.out (Nat.le_refl _)) (by have := HBO.out; omega) most a t q HCH.out (by decide)).mono ?_
  rw [HPS.out]
  rintro e w4 ⟨B, pv, rfl, hBg, hBb, hpp, hb4⟩
  have HBG := Lib.hid hBg
  have HBB := Lib.hid hBb
  have HPP := Lib.hid hpp
  have HB4 := Lib.hid hb4
  have hq4 := (HQ2.out.below HB23.out HQ2.out.lt).below hb4 (by have := HQ2.out.lt; have := HS23.out; omega)
  have hrr := refRun_all w4 S 0 (.slice Ab nb cb) (.slice A2 nl c2) (.slice A n c) aa ls ((HI2.out.below HB23.out (Nat.le_refl _)).below hb4 (Nat.le_refl _)) (HL.out.below (HBW3.out.trans (hb4.mono HBW3.out.size)) (Nat.le_refl _)) HUL.out ss (HS.out.below (HBW3.out.trans (hb4.mono HBW3.out.size)) (Nat.le_refl _)) (by have := HBO.out; omega) most a t q HCH.out hS2 (by decide)
  rw [HPS.out] at hrr
  have HRR := Lib.hid hrr
  have HQ4 := Lib.hid hq4
  obtain ⟨q0, q1, q2, -⟩ := hq4.three
  clear hBg hBb hpp hb4 hq4 hrr
  go_wp2_with fail
  refine HRR.out.mono ?_
  rintro e w5 ⟨Aq, nq, cq, T5, ov, rfl, hb5, hpo⟩
  obtain ⟨Ao, co, rfl, hco1, hco2⟩ := hpo.form
  obtain ⟨m, hmm⟩ : ∃ m, PS.length = m := ⟨_, rfl⟩
  rw [hmm] at hpo hco1 ⊢
  have HMM := Lib.hid hmm
  have HB5 := Lib.hid hb5
  have HPO := Lib.hid hpo
  clear hb5 hpo hmm q0 q1 q2 HRR
  unfold rv
  obtain ⟨i1, hi1, hz3, hz4, hz5⟩ := info_parts infoBss
  go_upto_region 9 with fail
  obtain ⟨x, hx1, hx2, hx3⟩ := Grow.block_ HG3.out (Nat.le_refl _) HS23.out
  have HXE := Lib.hid hx3
  obtain ⟨lo, hlo⟩ : ∃ lo, (if ls = [] then none else (Value.slice A2 nl c2).ownBlock) = lo := ⟨_, rfl⟩
  rw [hlo] at HPO
  have hlo2 : ∀ k, lo = some k → k < w.heap.size := fun k hk => by
    rw [← hlo] at hk
    by_cases e : ls = []
    · rw [if_pos e] at hk; cases hk
    · rw [if_neg e] at hk
      exact Ints.own_lt0 HL.out e hk
  obtain ⟨w6, hw6⟩ : ∃ w6, (w5.alloc (.cells #[.int .i64 S, .slice Aq nq cq, .int .i64 T5] 45)).alloc (.cells #[.slice Ao m co] 48) = w6 := ⟨_, rfl⟩
  have hb56 : Below w5.heap.size w5 w6 := by rw [← hw6]; exact ((Below.refl _ _).alloc (Nat.le_refl _) _).alloc (by simp) _
  have hp6 : Blk w6 (w5.heap.size + 1) 48 #[.slice Ao m co] := by rw [← hw6]; exact Blk.new1 w5 _ _ _
  have hb46 : Below w4.heap.size w4 w6 := HB5.out.trans (hb56.mono HB5.out.size)
  have hb36 : Below w3.heap.size w3 w6 := HB4.out.trans (hb46.mono HB4.out.size)
  have hb26 : Below w2.heap.size w2 w6 := HB23.out.trans (hb36.mono HB23.out.size)
  have hb06 : Below w0.heap.size w0 w6 := HMD.out.below.trans ((HB12.out.trans (hb26.mono HB12.out.size)).mono HMD.out.below.size)
  rw [hw6]
  have hq6 : PieQ w w6 many (w5.heap.size + 1) (.slice Ao m co) B pv PS g x v1.ownBlock w3.heap.size w4.heap.size lo := by
    have z0 := HS0.out
    have z1 := HMD.out.at_
    have z2 := HMD.out.ring.lt
    have z3 := HS12.out
    have z4 := HS23.out
    have z5 := HB4.out.size
    have z6 := HB5.out.size
    have z7 := HMD.out.below.size
    exact ⟨HBW3.out.trans (hb36.mono HBW3.out.size), HC0.out.below hb06 HC0.out.lt, HC1.out.below hb06 HC1.out.lt, hp6, HBB.out.below hb46 HBB.out.lt, HPO.out.below hb56, HPP.out.below hb46, by omega, by omega, fun k hk => by have := HMD.out.own k hk; have := HMD.out.ring.row.lt k hk; omega, hlo2, by have := HBG.out; omega⟩
  have HQ6 := Lib.hid hq6
  have HR6 := Lib.hid (HR3.out.below hb36 (Nat.le_refl _))
  have HG6 := Lib.hid (Grow.below HG3.out hb36 (Nat.le_refl _))
  have hk6 := HQ4.out.below hb46 HQ4.out.lt
  obtain ⟨LS, hLS⟩ : ∃ LS, lastN S aa = LS := ⟨_, rfl⟩
  have HLS : Hid (lastN S (keepL S aa) = LS) := ((keepL_last S aa).trans hLS : _ = _)
  have hi6 := HI2.out.below hb26 (Nat.le_refl _)
  rw [hLS] at hi6
  have hc0 : ∀ W, Below w6.heap.size w6 W → (fun w' => w'.cell? ⟨w1.heap.size, 1, none⟩ = some (.slice Ab nb cb) ∧ (convert 22 9 (.slice Ab nb cb)).run Try.prog w' = .ok (.string (strOfNums LS)) w') W := fun W hW => ⟨(hk6.below hW hk6.lt).three.2.1, conv_str (hi6.below hW (Nat.le_refl _))⟩
  have HC2 := Lib.hid hc0
  have HXX : Hid (x ≠ g ∧ v1.ownBlock ≠ some x ∧ x < w6.heap.size) := (by
    have z2 := HMD.out.ring.lt
    have z3 := HS12.out
    have z5 := hb36.size
    exact ⟨by omega, fun e => by have := HMD.out.ring.row.lt x e; omega, by omega⟩ : _ ∧ _)
  have hw6s : w5.heap.size + 1 < w6.heap.size := hp6.lt
  clear hw6 hb56 hp6 hb46 hb36 hb26 hb06 hq6 hk6 hi6 hLS hlo hlo2 hx1 hx2 hx3 hc0 hi1 hz3 hz4 hz5 HR2 HR3 HG3 HI1 HI2 HQ2 HQ4 HK1 HG0
  refine wp_region_noPanic ?_
  refine wp_region_held_drew (S := (fun w' => w'.cell? ⟨w1.heap.size, 1, none⟩ = some (.slice Ab nb cb) ∧ (convert 22 9 (.slice Ab nb cb)).run Try.prog w' = .ok (.string (strOfNums LS)) w')) (by kernel_rfl) ?_ (fun hHeld => ?_)
  · (try dsimp only); exact HC2.out _ (below_drewN (Below.refl _ _) 1)
  refine wpAnyH_take2 (i := 0) (oi := _) (d := some 67) (v := ?_) rfl rfl (by kernel_rfl) (by kernel_rfl) (by kernel_rfl) (fun _ _ _ h => h) (Or.inl ⟨by rfl, ?_⟩) (by assumption) ?_
  rotate_left 1
  · (intro w' hSw; (try dsimp only at hSw); go_simp; try with_reducible rfl)
  try simp only [Act.put, List.setIfInBounds_toArray, List.set_cons_zero, List.set_cons_succ]
  refine wpAnyH_take2 (i := 1) (oi := _) (d := some 68) (v := ?_) rfl rfl (by kernel_rfl) (by kernel_rfl) (by kernel_rfl) (fun _ _ _ h => h) (Or.inl ⟨by rfl, ?_⟩) (by assumption) ?_
  rotate_left 1
  · (intro w' hSw; (try dsimp only at hSw); go_simp; try with_reducible rfl)
  try simp only [Act.put, List.setIfInBounds_toArray, List.set_cons_zero, List.set_cons_succ]
  refine wpAnyH_take2 (i := 2) (oi := _) (d := some 69) (v := ?_) rfl rfl (by kernel_rfl) (by kernel_rfl) (by kernel_rfl) (fun _ _ _ h => h) (Or.inl ⟨by rfl, ?_⟩) (by assumption) ?_
  rotate_left 1
  · (intro w' hSw; (try dsimp only at hSw); go_simp; try with_reducible rfl)
  try simp only [Act.put, List.setIfInBounds_toArray, List.set_cons_zero, List.set_cons_succ]
  refine wpAnyH_take2 (i := 3) (oi := _) (d := some 70) (v := ?_) rfl rfl (by kernel_rfl) (by kernel_rfl) (by kernel_rfl) (fun _ _ _ h => h) (Or.inl ⟨by rfl, ?_⟩) (by assumption) ?_
  rotate_left 1
  · (intro w' hSw; (try dsimp only at hSw); go_simp; try with_reducible rfl)
  try simp only [Act.put, List.setIfInBounds_toArray, List.set_cons_zero, List.set_cons_succ]
  refine wpAnyH_take2 (i := 4) (oi := _) (d := some 71) (v := ?_) rfl rfl (by kernel_rfl) (by kernel_rfl) (by kernel_rfl) (fun _ _ _ h => h) (Or.inl ⟨by rfl, ?_⟩) (by assumption) ?_
  rotate_left 1
  · (intro w' hSw; (try dsimp only at hSw); go_simp; try with_reducible rfl)
  try simp only [Act.put, List.setIfInBounds_toArray, List.set_cons_zero, List.set_cons_succ]
  refine wpAnyH_take2 (i := 7) (oi := _) (d := some 74) (v := ?_) rfl rfl (by kernel_rfl) (by kernel_rfl) (by kernel_rfl) (fun _ _ _ h => h) (Or.inl ⟨by rfl, ?_⟩) (by assumption) ?_
  rotate_left 1
  · (intro w' hSw; (try dsimp only at hSw); go_simp; try with_reducible rfl)
  try simp only [Act.put, List.setIfInBounds_toArray, List.set_cons_zero, List.set_cons_succ]
  refine wpAnyH_take2 (i := 8) (oi := _) (d := some 75) (v := ?_) rfl rfl (by kernel_rfl) (by kernel_rfl) (by kernel_rfl) (fun _ _ _ h => h) (Or.inl ⟨by rfl, ?_⟩) (by assumption) ?_
  rotate_left 1
  · (intro w' hSw; (try dsimp only at hSw); go_simp; try with_reducible rfl)
  try simp only [Act.put, List.setIfInBounds_toArray, List.set_cons_zero, List.set_cons_succ]
  refine wpAnyH_take2 (i := 9) (oi := _) (d := some 76) (v := ?_) rfl rfl (by kernel_rfl) (by kernel_rfl) (by kernel_rfl) (fun _ _ _ h => h) (Or.inl ⟨by rfl, ?_⟩) (by assumption) ?_
  rotate_left 1
  · (intro w' hSw; (try dsimp only at hSw); go_simp; try with_reducible rfl)
  try simp only [Act.put, List.setIfInBounds_toArray, List.set_cons_zero, List.set_cons_succ]
  refine wpAnyH_ready (rs := [5]) (by kernel_rfl) (by simp) ?_
  refine AllReadyH.cons (o := _) rfl (fun K hK => ?_) ?_
  rotate_left
  · exact AllReadyH.nil
  go_simp
  go_at_call 15; refine (last_some _ (HR6.out.below (below_drewN (Below.refl _ _) 1) (Nat.le_refl _)) S hS1).mono ?_; rw [lastN_lastN _ (Nat.le_refl S), HLS.out]; rintro e w7 ⟨ov7, rfl, hc7⟩; obtain ⟨A7, n7, c7, rfl, -⟩ := hc7.row.ints.get; have q7 := conv_str hc7.row.ints; have HB7 : Hid (Below w6.heap.size w6 w7) := ((below_drewN (Below.refl _ _) 1 : Below w6.heap.size w6 _).trans hc7.below : Below _ _ _); clear hc7
  refine hK.out _ _ ?_ (fun hHeld => ?_)
  · (try dsimp only); exact HC2.out _ HB7.out
  clear hK K
  try simp only [Act.put, List.setIfInBounds_toArray, List.set_cons_zero, List.set_cons_succ]
  refine wpAnyH_mono (S' := fun w' => w'.cell? ⟨w1.heap.size, 1, none⟩ = some (.slice Ab nb cb) ∧ (convert 22 9 (.slice Ab nb cb)).run Try.prog w' = .ok (.string (strOfNums LS)) w' ∧ (convert 22 9 (.slice A7 n7 c7)).run Try.prog w' = .ok (.string (strOfNums LS)) w') (fun w' h => ⟨h.1, h.2.1⟩) _ _ _ _ ?_
  have hHeld2 : (fun w' => w'.cell? ⟨w1.heap.size, 1, none⟩ = some (.slice Ab nb cb) ∧ (convert 22 9 (.slice Ab nb cb)).run Try.prog w' = .ok (.string (strOfNums LS)) w' ∧ (convert 22 9 (.slice A7 n7 c7)).run Try.prog w' = .ok (.string (strOfNums LS)) w') _ := ⟨hHeld.1, hHeld.2, q7⟩
  refine wpAnyH_take2 (i := 6) (oi := _) (d := some 73) (v := ?_) rfl rfl (by kernel_rfl) (by kernel_rfl) (by kernel_rfl) (fun _ _ _ h => h) (Or.inl ⟨by rfl, ?_⟩) (by assumption) ?_
  rotate_left 1
  · (intro w' hSw; (try dsimp only at hSw); go_simp; try with_reducible rfl)
  try simp only [Act.put, List.setIfInBounds_toArray, List.set_cons_zero, List.set_cons_succ]
  refine wpAnyH_take2 (i := 10) (oi := _) (d := some 77) (v := ?_) rfl rfl (by kernel_rfl) (by kernel_rfl) (by kernel_rfl) (fun _ _ _ h => h) (Or.inl ⟨by rfl, ?_⟩) (by assumption) ?_
  rotate_left 1
  · (intro w' hSw; (try dsimp only at hSw); go_simp; try with_reducible rfl)
  try simp only [Act.put, List.setIfInBounds_toArray, List.set_cons_zero, List.set_cons_succ]
  refine wpAnyH_take2 (i := 11) (oi := _) (d := some 78) (v := ?_) rfl rfl (by kernel_rfl) (by kernel_rfl) (by kernel_rfl) (fun _ _ _ h => h) (Or.inl ⟨by rfl, ?_⟩) (by assumption) ?_
  rotate_left 1
  · (intro w' hSw; (try dsimp only at hSw); go_simp; try with_reducible rfl)
  try simp only [Act.put, List.setIfInBounds_toArray, List.set_cons_zero, List.set_cons_succ]
  refine wpAnyH_done (by kernel_rfl) ?_ _
  refine NoPanic.normal ?_
  go_wp2_with fail
  refine (add_any w7 (HR6.out.below HB7.out (Nat.le_refl _)) (HM.out.below (HQ6.out.below.trans (HB7.out.mono HQ6.out.below.size)) (Nat.le_refl _)) HUM.out (by have := HNM.out; have := HML.out; omega) (by have := HNM.out; have := HML.out; omega)).mono ?_
  rintro e w8 ⟨rfl, v8, hp8⟩
  have HQ8 := Lib.hid ((HQ6.out.next (But2.of_below HB7.out _ _ _)).next (But2.of_but hp8.but x))
  have HG8 : Hid (Grow w8 w2.heap.size 5 .u8 (.slice A6 nl c6) ls) := (Grow.same' (Grow.below HG6.out HB7.out (Nat.le_refl _)) fun j hj => by
    obtain rfl := HXE.out j hj
    obtain ⟨y1, y2, y3⟩ := HXX.out
    exact hp8.but.block j (Nat.lt_of_lt_of_le y3 HB7.out.size) y1 (fun e => y2 e.symm) : Grow _ _ _ _ _ _)
  clear hp8 q7 hHeld hHeld2 HQ6 HG6 HR6 HC2
  go_wp2
  generalize decide (100 < (nm : Int)) = bd
  go_loopg [23] nl (fun gg i wr => ∃ (k : Nat) (ys : List Int), k ≤ nl ∧ gg = nl - k ∧ i = .int .i64 k ∧ Hid (ys.length = nl) ∧ Hid (Grow wr w2.heap.size 5 .u8 (.slice A6 nl c6) ys) ∧ Hid (PieQ w wr many (w5.heap.size + 1) (.slice Ao m co) B pv PS g x v1.ownBlock w3.heap.size w4.heap.size lo))
  case atStart => exact ⟨0, ls, Nat.zero_le _, by omega, rfl, HNL, HG8, HQ8⟩
  case round =>
    clear HG8 HQ8
    obtain ⟨k, ys, hk, hgk, rfl, HYL, HG, HQ⟩ := hrel
    have HGK := Lib.hid hgk
    clear hgk
    have k0 : (0 : Int) ≤ (k : Int) := by omega
    by_cases hlt : k < nl
    · have k1 : (k : Int) < (nl : Int) := by omega
      obtain ⟨g6, n6, c6', x6, hv6, -, hl6, -, hc6, hf6⟩ := HG.out.cell (i := k) (by rw [HYL.out]; exact hlt)
      injection hv6 with e1 e2 e3
      subst e1 e2 e3
      have HX6 : Hid (g6 = x) := (HXE.out g6 rfl : _ = _)
      go_wp2
      go_roundg (nl - (k + 1))
      case measure => have := HGK.out; omega
      case rel => exact ⟨k + 1, _, by omega, rfl, by go_num, (by rw [List.length_set]; exact HYL.out : _ = _), (HG.out.store (i := k) rfl _ : Grow _ _ _ _ _ _), (by have e := HX6.out; rw [e]; exact HQ.out.next ((But2.refl _ _ _ _).setx k _) : PieQ _ _ _ _ _ _ _ _ _ _ _ _ _ _)⟩
    · obtain rfl : k = nl := by omega
      have HPW := Lib.hid HQ.out.pieW
      clear HQ HG
      go_wp2
      obtain ⟨wt, hwt⟩ : ∃ wt, wr.alloc (.cells #[.int .i64 0] 3) = wt := ⟨_, rfl⟩
      have hbt : Below wr.heap.size wr wt := by rw [← hwt]; exact (Below.refl _ _).alloc (Nat.le_refl _) _
      have HT : Hid (Blk wt wr.heap.size 3 #[.int .i64 0]) := (by rw [← hwt]; exact Blk.new wr _ _ : Blk _ _ _ _)
      have HPT := Lib.hid (HPW.out.next hbt)
      rw [hwt]
      refine wp_loop_rounds 3 ?_
      rw [rounds_succ]
      have zt : wt.cell? ⟨wr.heap.size, 0, none⟩ = some (.int .i64 0) := by rw [HT.out.cell]; rfl
      have htl := HT.out.lt
      go_wp2
      obtain ⟨wn, hwn⟩ : ∃ wn, (wt.alloc (.cells #[.int .i64 0] 3)).alloc (.cells #[.int .i64 0] 3) = wn := ⟨_, rfl⟩
      have hbn : Below wt.heap.size wt wn := by rw [← hwn]; exact ((Below.refl _ _).alloc (Nat.le_refl _) _).alloc (by simp) _
      have hsn : wn.heap.size = wt.heap.size + 1 + 1 := by rw [← hwn]; simp
      have hcn : Blk wn wt.heap.size 3 #[.int .i64 0] := by rw [← hwn]; exact (Blk.new wt _ _).below ((Below.refl _ _).alloc (Nat.le_refl _) _) (by simp)
      have hca : Blk wn (wt.heap.size + 1) 3 #[.int .i64 0] := by rw [← hwn]; exact Blk.new1 wt _ _ _
      rw [hwn]
      refine (wpIn_wide (n := 20)).1 ?_
      refine rangeFunc_yieldE (by omega) (gf := 51) (lb := #[.pointer (some ⟨B, 0, none⟩)]) rfl (enters_of Try.func51 (by kernel_rfl) rfl)
        (pieces1_yields wt B pv PS HPT.out.pp (by rw [HPT.out.kb.cell]; rfl) (by have := HFL.out; omega)) hbn (fun k hk => ?_) (fun x args W h => ?_)
        (fun pre X => Below wt.heap.size wt X ∧ Blk X wr.heap.size 3 #[.int .i64 0] ∧ Blk X wt.heap.size 3 #[.int .i64 pre.length] ∧ Blk X (wt.heap.size + 1) 3 #[.int .i64 (PS.take pre.length).flatten.length] ∧ (pre.length = 0 ∨ (pre.length : Int) < many))
        (fun c' pre X => c' = .exit 4 ∧ Below wt.heap.size wt X ∧ Blk X wr.heap.size 3 #[.int .i64 0] ∧ Blk X wt.heap.size 3 #[.int .i64 pre.length] ∧ (pre.length = 1 ∨ (pre.length : Int) - 1 < many) ∧ 1 ≤ pre.length ∧ many ≤ pre.length) ?_ ?_ ?_ ?round ?done ?stop
      · have : k < wt.heap.size := hk; omega
      · obtain ⟨A', c', rfl, -⟩ := h; rfl
      · rintro pre X Y ⟨h1, h2, h3, h3', h4⟩ hX hXY
        exact ⟨h1.trans (hXY.mono (by omega)), h2.below hXY (by omega), h3.below hXY (by omega), h3'.below hXY (by omega), h4⟩
      · rintro c' pre X Y ⟨h1, h2, h3, h4, h5⟩ hX hXY
        exact ⟨h1, h2.trans (hXY.mono (by omega)), h3.below hXY (by omega), h4.below hXY (by omega), h5⟩
      · exact ⟨hbn, HT.out.below hbn HT.out.lt, hcn, by simpa using hca, .inl rfl⟩
      case round =>
        rintro l' pre ⟨x1, x2⟩ args W0' K hl' ⟨rl, hrl⟩ ⟨A5, c5, rfl, hI5⟩ hIp hpre hK
        obtain ⟨p1, p2, p3⟩ := placesL_pre hpre
        simp only at p2 p3 hI5
        subst p3
        dsimp only
        obtain ⟨k, hk⟩ : ∃ k, pre.length = k := ⟨_, rfl⟩
        have HKL := Lib.hid hk
        have HLEN : Hid (∀ y : Nat × List Int, (pre ++ [y]).length = k + 1) := ((fun y => by rw [List.length_append, hk]; rfl) : ∀ y : Nat × List Int, _ = _)
        rw [hk] at p1 p2 ⊢
        obtain ⟨at_, hat⟩ : ∃ a, (PS.take k).flatten.length = a := ⟨_, rfl⟩
        have HAT_ := Lib.hid hat
        rw [hat]
        obtain ⟨n5, hn5⟩ : ∃ n5, x2.length = n5 := ⟨_, rfl⟩
        have hfl : (PS.take (k + 1)).flatten.length = at_ + n5 := by rw [flat_take_succ p2, List.length_append, hat, hn5]
        have hle := flat_take_le (ps := PS) (k + 1)
        rw [hfl] at hle
        rw [hn5] at hI5 ⊢
        have HFL5 := Lib.hid hfl
        have HN5 := Lib.hid hn5
        have HI5 := Lib.hid hI5
        have HRL := Lib.hid hrl
        have HP2 := Lib.hid p2
        have hfl9 := HFL.out
        have s0 : (0 : Int) ≤ (at_ : Int) + (n5 : Int) := by omega
        have s1 : (at_ : Int) + (n5 : Int) ≤ 9223372036854775807 := by omega
        have s2 : (n5 : Int) ≤ 9223372036854775807 := by omega
        have g0 : (0 : Int) ≤ (k : Int) := by omega
        have g1 : (k : Int) < (m : Int) := by have := HMM.out; omega
        have hmi : (m : Int) ≤ 9223372036854775807 := by simp only [maxLen] at hco2; omega
        have hd1 : decide ((m : Int) ≤ (k : Int)) = false := decide_eq_false (by omega)
        have hd2 : decide (m ≤ k) = false := decide_eq_false (by omega)
        clear hpre hk hat hn5 hfl hle hfl9 hI5 hrl p1 p2 hIp
        gi_wp2
        refine ⟨Below.refl _ _, ?_⟩
        rintro X hXs hXk ⟨h1, h2, h3, h3', h4⟩
        rw [HKL.out] at h3 h3' h4
        rw [HAT_.out] at h3'
        have hi5 := ints_noloop HI5.out HRL.out hXk
        have hpx := HPT.out.next h1
        have c0 : X.cell? ⟨w.heap.size, 0, none⟩ = some (.int .i64 many) := by rw [hpx.km.cell]; rfl
        have c1 : X.cell? ⟨w5.heap.size + 1, 0, none⟩ = some (.slice Ao m co) := by rw [hpx.kp.cell]; rfl
        have c3 : X.cell? ⟨wr.heap.size, 0, none⟩ = some (.int .i64 0) := by rw [h2.cell]; rfl
        have c4 : X.cell? ⟨wt.heap.size, 0, none⟩ = some (.int .i64 k) := by rw [h3.cell]; rfl
        have c5' : X.cell? ⟨wt.heap.size + 1, 0, none⟩ = some (.int .i64 at_) := by rw [h3'.cell]; rfl
        have f4 := h3.frozen 0
        have f5 := h3'.frozen 0
        obtain ⟨b7, o7, A7', c7', rfl, d0, d1⟩ := Pcs.cell_at hpx.po HP2.out
        rw [HN5.out] at d0 d1
        have hcv1 := fun nq => conv_str (w := X.drewN nq) (A := A5) (n := n5) (c := c5) (xs := x2) (hi5.below (below_drewN (Below.refl _ X) nq) (Nat.le_refl _))
        have hcv2 := fun nq => conv_str (w := X.drewN nq) (A := A7') (n := n5) (c := c7') (xs := x2) (d1.below (below_drewN (Below.refl _ X) nq) (Nat.le_refl _))
        have hwl := HPT.out.below.size
        have hm0 := HPT.out.km.lt
        have hp0 := HPT.out.kp.lt
        have hne1 : wt.heap.size ≠ wr.heap.size := by omega
        have hne2 : wt.heap.size ≠ w.heap.size := by omega
        have hne3 : wt.heap.size ≠ wt.heap.size + 1 := by omega
        have hne4 : wt.heap.size + 1 ≠ wr.heap.size := by omega
        have hne5 : wt.heap.size + 1 ≠ w.heap.size := by omega
        have H1 := Lib.hid h1
        have H2 := Lib.hid h2
        have H3 := Lib.hid h3
        have H3' := Lib.hid h3'
        have H4 := Lib.hid h4
        clear h1 h2 h3 h3' h4 hpx hXs hXk hi5 d1
        gi_wp2
        refine wpIn_region_quiet_round (F := Fence.wide) rfl (by kernel_rfl) (by kernel_rfl) (by kernel_rfl) ?_
        repeat (gi_big_quiet_step (fail))
        refine wpQuietIn_nil ?_
        intro _ hw'
        obtain ⟨nq, hw''⟩ := hw'
        subst hw''
        gi_wp2
        · obtain ⟨t1, t2, t3, t3', t4⟩ := pie_tick nq H1.out H2.out H3.out H3'.out (Ne.symm hne1) (Ne.symm hne4) hne3 (Nat.le_refl _) (Nat.le_succ _)
          refine ⟨t4 _ (fun h => by omega) (fun h => by omega), rfl, t1, t2, ?_, ?_⟩
          · rw [HLEN.out]; exact t3
          · rw [HLEN.out]; have := H4.out; omega
        · obtain ⟨t1, t2, t3, t3', t4⟩ := pie_tick nq H1.out H2.out H3.out H3'.out (Ne.symm hne1) (Ne.symm hne4) hne3 (Nat.le_refl _) (Nat.le_succ _)
          refine ⟨t4 _ (fun h => by simp only at h; omega) (fun h => by simp only at h; omega), t1, t2, ?_, ?_, ?_⟩
          · rw [HLEN.out]; exact t3
          · rw [HLEN.out, HFL5.out]; exact t3'
          · rw [HLEN.out]; omega
      case done =>
        rintro D W' hD hW' ⟨h1, h2, h3, -, h4⟩ hK
        rw [placesL_length, HMM.out] at h3 h4
        obtain ⟨mm, hmm⟩ : ∃ mm, mm = m := ⟨_, rfl⟩
        rw [← hmm] at h3
        have hmm0 : (mm = m ∧ (m = 0 ∨ (m : Int) < many)) ∨ (1 ≤ mm ∧ mm ≤ m ∧ (mm = 1 ∨ (mm : Int) - 1 < many) ∧ many ≤ mm) := .inl ⟨hmm, h4⟩
        clear hmm h4
        have hpx := HPT.out.next h1
        have c1 : W'.cell? ⟨w.heap.size, 0, none⟩ = some (.int .i64 many) := by rw [hpx.km.cell]; rfl
        have c2' : W'.cell? ⟨w5.heap.size + 1, 0, none⟩ = some (.slice Ao m co) := by rw [hpx.kp.cell]; rfl
        have c3 : W'.cell? ⟨wr.heap.size, 0, none⟩ = some (.int .i64 0) := by rw [h2.cell]; rfl
        have c4 : W'.cell? ⟨wt.heap.size, 0, none⟩ = some (.int .i64 mm) := by rw [h3.cell]; rfl
        have htl' := h2.lt
        have HP0 := Lib.hid hpx
        clear h1 h2 h3 hpx
        obtain ⟨mx, hmx⟩ : ∃ mx, (if (1 : Int) < many then many else 1) = mx := ⟨_, rfl⟩
        have hmn : (if mx < (m : Int) then mx else (m : Int)) = (mm : Int) := by rw [← hmx]; split <;> split <;> omega
        clear hmm0
        go_wp2
        clear hmx hmn c1 c2' c3 c4
        obtain ⟨wt2, hwt2⟩ : ∃ wt2, W'.alloc (.cells #[.int .i64 1] 3) = wt2 := ⟨_, rfl⟩
        have hbt2 : Below W'.heap.size W' wt2 := by rw [← hwt2]; exact (Below.refl _ _).alloc (Nat.le_refl _) _
        have HT2 : Hid (Blk wt2 W'.heap.size 3 #[.int .i64 1]) := (by rw [← hwt2]; exact Blk.new W' _ _ : Blk _ _ _ _)
        have HPT2 := Lib.hid (HP0.out.next hbt2)
        have hDlt := (Array.getElem?_eq_some_iff.1 hK).1
        have HK1 : Hid (wt2.heap[D]? = some (.deferred (some []))) := ((hbt2.block _ hDlt).trans hK : _ = _)
        have hDlt2 : D < wt2.heap.size := by have := hbt2.size; omega
        rw [hwt2]
        clear hK HP0
        rw [rounds_succ]
        have zt : wt2.cell? ⟨W'.heap.size, 0, none⟩ = some (.int .i64 1) := by rw [HT2.out.cell]; rfl
        have htl := HT2.out.lt
        go_wp2
        obtain ⟨wn, hwn⟩ : ∃ wn, (wt2.alloc (.cells #[.int .i64 0] 3)).alloc (.cells #[.int .i64 0] 3) = wn := ⟨_, rfl⟩
        have hbn : Below wt2.heap.size wt2 wn := by rw [← hwn]; exact ((Below.refl _ _).alloc (Nat.le_refl _) _).alloc (by simp) _
        have hsn : wn.heap.size = wt2.heap.size + 1 + 1 := by rw [← hwn]; simp
        have hcn : Blk wn wt2.heap.size 3 #[.int .i64 0] := by rw [← hwn]; exact (Blk.new wt2 _ _).below ((Below.refl _ _).alloc (Nat.le_refl _) _) (by simp)
        have hca : Blk wn (wt2.heap.size + 1) 3 #[.int .i64 0] := by rw [← hwn]; exact Blk.new1 wt2 _ _ _
        rw [hwn]
        refine (wpIn_wide (n := 20)).1 ?_
        refine rangeFunc_yieldE (by omega) (gf := 51) (lb := #[.pointer (some ⟨B, 0, none⟩)]) rfl (enters_of Try.func51 (by kernel_rfl) rfl)
          (pieces1_yields wt2 B pv PS HPT2.out.pp (by rw [HPT2.out.kb.cell]; rfl) (by have := HFL.out; omega)) hbn (fun k hk => ?_) (fun x args W h => ?_)
          (fun pre X => Below wt2.heap.size wt2 X ∧ Blk X W'.heap.size 3 #[.int .i64 1] ∧ Blk X wt2.heap.size 3 #[.int .i64 pre.length] ∧ Blk X (wt2.heap.size + 1) 3 #[.int .i64 (PS.take pre.length).flatten.length] ∧ True)
          (fun c' pre X => False) ?_ ?_ ?_ ?round1 ?done1 ?stop1
        · have : k < wt2.heap.size := hk; omega
        · obtain ⟨A', c', rfl, -⟩ := h; rfl
        · rintro pre X Y ⟨h1, h2, h3, h3', h4⟩ hX hXY
          exact ⟨h1.trans (hXY.mono (by omega)), h2.below hXY (by omega), h3.below hXY (by omega), h3'.below hXY (by omega), h4⟩
        · exact fun _ _ _ _ h => h.elim
        · exact ⟨hbn, HT2.out.below hbn HT2.out.lt, hcn, by simpa using hca, trivial⟩
        case round1 =>
          rintro l' pre ⟨x1, x2⟩ args W0' K hl' ⟨rl, hrl⟩ ⟨A5, c5, rfl, hI5⟩ hIp hpre hK
          obtain ⟨p1, p2, p3⟩ := placesL_pre hpre
          simp only at p2 p3 hI5
          subst p3
          dsimp only
          obtain ⟨k, hk⟩ : ∃ k, pre.length = k := ⟨_, rfl⟩
          have HKL := Lib.hid hk
          have HLEN : Hid (∀ y : Nat × List Int, (pre ++ [y]).length = k + 1) := ((fun y => by rw [List.length_append, hk]; rfl) : ∀ y : Nat × List Int, _ = _)
          rw [hk] at p1 p2 ⊢
          obtain ⟨at_, hat⟩ : ∃ a, (PS.take k).flatten.length = a := ⟨_, rfl⟩
          have HAT_ := Lib.hid hat
          rw [hat]
          obtain ⟨n5, hn5⟩ : ∃ n5, x2.length = n5 := ⟨_, rfl⟩
          have hfl : (PS.take (k + 1)).flatten.length = at_ + n5 := by rw [flat_take_succ p2, List.length_append, hat, hn5]
          have hle := flat_take_le (ps := PS) (k + 1)
          rw [hfl] at hle
          rw [hn5] at hI5 ⊢
          have HFL5 := Lib.hid hfl
          have HN5 := Lib.hid hn5
          have HI5 := Lib.hid hI5
          have HRL := Lib.hid hrl
          have HP2 := Lib.hid p2
          have hfl9 := HFL.out
          have s0 : (0 : Int) ≤ (at_ : Int) + (n5 : Int) := by omega
          have s1 : (at_ : Int) + (n5 : Int) ≤ 9223372036854775807 := by omega
          have s2 : (n5 : Int) ≤ 9223372036854775807 := by omega
          have g0 : (0 : Int) ≤ (k : Int) := by omega
          have g1 : (k : Int) < (m : Int) := by have := HMM.out; omega
          have hmi : (m : Int) ≤ 9223372036854775807 := by simp only [maxLen] at hco2; omega
          have hd1 : decide ((m : Int) ≤ (k : Int)) = false := decide_eq_false (by omega)
          have hd2 : decide (m ≤ k) = false := decide_eq_false (by omega)
          clear hpre hk hat hn5 hfl hle hfl9 hI5 hrl p1 p2 hIp
          gi_wp2
          refine ⟨Below.refl _ _, ?_⟩
          rintro X hXs hXk ⟨h1, h2, h3, h3', h4⟩
          rw [HKL.out] at h3 h3'
          rw [HAT_.out] at h3'
          have hi5 := ints_noloop HI5.out HRL.out hXk
          have hpx := HPT2.out.next h1
          have c0 : X.cell? ⟨w.heap.size, 0, none⟩ = some (.int .i64 many) := by rw [hpx.km.cell]; rfl
          have c1 : X.cell? ⟨w5.heap.size + 1, 0, none⟩ = some (.slice Ao m co) := by rw [hpx.kp.cell]; rfl
          have c3 : X.cell? ⟨W'.heap.size, 0, none⟩ = some (.int .i64 1) := by rw [h2.cell]; rfl
          have c4 : X.cell? ⟨wt2.heap.size, 0, none⟩ = some (.int .i64 k) := by rw [h3.cell]; rfl
          have c5' : X.cell? ⟨wt2.heap.size + 1, 0, none⟩ = some (.int .i64 at_) := by rw [h3'.cell]; rfl
          have f4 := h3.frozen 0
          have f5 := h3'.frozen 0
          obtain ⟨b7, o7, A7', c7', rfl, d0, d1⟩ := Pcs.cell_at hpx.po HP2.out
          rw [HN5.out] at d0 d1
          have hcv1 := fun nq => conv_str (w := X.drewN nq) (A := A5) (n := n5) (c := c5) (xs := x2) (hi5.below (below_drewN (Below.refl _ X) nq) (Nat.le_refl _))
          have hcv2 := fun nq => conv_str (w := X.drewN nq) (A := A7') (n := n5) (c := c7') (xs := x2) (d1.below (below_drewN (Below.refl _ X) nq) (Nat.le_refl _))
          have hwl := HPT2.out.below.size
          have hm0 := HPT2.out.km.lt
          have hp0 := HPT2.out.kp.lt
          have hne1 : wt2.heap.size ≠ W'.heap.size := by omega
          have hne2 : wt2.heap.size ≠ w.heap.size := by omega
          have hne3 : wt2.heap.size ≠ wt2.heap.size + 1 := by omega
          have hne4 : wt2.heap.size + 1 ≠ W'.heap.size := by omega
          have hne5 : wt2.heap.size + 1 ≠ w.heap.size := by omega
          have H1 := Lib.hid h1
          have H2 := Lib.hid h2
          have H3 := Lib.hid h3
          have H3' := Lib.hid h3'
          have H4 := Lib.hid h4
          clear h1 h2 h3 h3' h4 hpx hXs hXk hi5 d1
          gi_wp2
          refine wpIn_region_quiet_round (F := Fence.wide) rfl (by kernel_rfl) (by kernel_rfl) (by kernel_rfl) ?_
          repeat (gi_big_quiet_step (fail))
          refine wpQuietIn_nil ?_
          intro _ hw'
          obtain ⟨nq, hw''⟩ := hw'
          subst hw''
          gi_wp2
          · obtain ⟨t1, t2, t3, t3', t4⟩ := pie_tick nq H1.out H2.out H3.out H3'.out (Ne.symm hne1) (Ne.symm hne4) hne3 (Nat.le_refl _) (Nat.le_succ _)
            refine ⟨t4 _ (fun h => by simp only at h; omega) (fun h => by simp only at h; omega), t1, t2, ?_, ?_, trivial⟩
            · rw [HLEN.out]; exact t3
            · rw [HLEN.out, HFL5.out]; exact t3'
        case done1 =>
          rintro D2 W2' hD2 hW2' ⟨h1, h2, h3, -, -⟩ hK2
          rw [placesL_length, HMM.out] at h3
          have hpx := HPT2.out.next h1
          have c2' : W2'.cell? ⟨w5.heap.size + 1, 0, none⟩ = some (.slice Ao m co) := by rw [hpx.kp.cell]; rfl
          have c3 : W2'.cell? ⟨W'.heap.size, 0, none⟩ = some (.int .i64 1) := by rw [h2.cell]; rfl
          have c4 : W2'.cell? ⟨wt2.heap.size, 0, none⟩ = some (.int .i64 m) := by rw [h3.cell]; rfl
          have htl' := h2.lt
          have HP2 := Lib.hid hpx
          have HK1' : Hid (W2'.heap[D]? = some (.deferred (some []))) := ((h1.block _ hDlt2).trans HK1.out : _ = _)
          clear h1 h2 h3 hpx HK1
          go_wp2
          rw [rounds_succ]
          go_wp2_with fail
          refine (works_any _).mono ?_
          rintro e w9 ⟨rfl, hb9⟩
          have hba : Below W2'.heap.size W2' w9 := ((Below.refl W2'.heap.size W2').alloc (Nat.le_refl _) (.cells #[.int .i64 2] 3)).trans (hb9.mono (by simp))
          have hp9 := HP2.out.next hba
          have hc9 : w9.cell? ⟨w.heap.size + 1, 0, none⟩ = some (.bool false) := by rw [hp9.kr.cell]; rfl
          have hf9 := hp9.kr.frozen 0
          have HP9 := Lib.hid hp9
          have hlt2 := (Array.getElem?_eq_some_iff.1 HK1'.out).1
          have hlt3 := (Array.getElem?_eq_some_iff.1 hK2).1
          have HA9 : Hid (w9.heap[D]? = some (.deferred (some [])) ∧ w9.heap[D2]? = some (.deferred (some []))) := (⟨(hba.block _ hlt2).trans HK1'.out, (hba.block _ hlt3).trans hK2⟩ : _ ∧ _)
          have hbw := HPT2.out.below.size
          have hbw2 := HPW.out.below.size
          have hwr : wr.heap.size ≤ wt.heap.size := hbt.size
          obtain ⟨a1, a2, a3, a4⟩ := mark_end2 HP9.out.kr HP9.out.below (by omega) HA9.out.2 HA9.out.1 (by omega) (by omega) (by omega) (.bool true)
          have HA := Lib.hid (And.intro a1 (And.intro a2 (And.intro a3 a4)))
          clear hb9 hba hp9 hK2 HK1' a1 a2 a3 a4
          go_wp2
          refine ⟨by simp, .inl ⟨_, _, rfl, run_takeDeferred HA.out.1, ⟨by simp, .inl ⟨_, _, rfl, run_takeDeferred HA.out.2.1, ?_⟩⟩⟩⟩
          refine ⟨.bool true, ?_, rfl, HA.out.2.2.2⟩
          have e2 := HA.out.2.2.1
          simp [results, Try.f8, go_sem, e2]
        case stop1 =>
          exact fun _ _ _ _ _ _ _ h => h.elim
      case stop =>
        rintro D c' pre W' hD hW' hpre ⟨rfl, h1, h2, h3, h4, h5, h6⟩ hK
        have hpl := hpre.length_le
        rw [placesL_length, HMM.out] at hpl
        obtain ⟨mm, hmm⟩ : ∃ mm, pre.length = mm := ⟨_, rfl⟩
        rw [hmm] at h3 h4 h5 h6 hpl
        have hmm0 : (mm = m ∧ (m = 0 ∨ (m : Int) < many)) ∨ (1 ≤ mm ∧ mm ≤ m ∧ (mm = 1 ∨ (mm : Int) - 1 < many) ∧ many ≤ mm) := .inr ⟨h5, hpl, h4, h6⟩
        clear hmm h4 h5 h6 hpl hpre
        refine wpIn_wide.2 ?_
        have hpx := HPT.out.next h1
        have c1 : W'.cell? ⟨w.heap.size, 0, none⟩ = some (.int .i64 many) := by rw [hpx.km.cell]; rfl
        have c2' : W'.cell? ⟨w5.heap.size + 1, 0, none⟩ = some (.slice Ao m co) := by rw [hpx.kp.cell]; rfl
        have c3 : W'.cell? ⟨wr.heap.size, 0, none⟩ = some (.int .i64 0) := by rw [h2.cell]; rfl
        have c4 : W'.cell? ⟨wt.heap.size, 0, none⟩ = some (.int .i64 mm) := by rw [h3.cell]; rfl
        have htl' := h2.lt
        have HP0 := Lib.hid hpx
        clear h1 h2 h3 hpx
        obtain ⟨mx, hmx⟩ : ∃ mx, (if (1 : Int) < many then many else 1) = mx := ⟨_, rfl⟩
        have hmn : (if mx < (m : Int) then mx else (m : Int)) = (mm : Int) := by rw [← hmx]; split <;> split <;> omega
        clear hmm0
        go_wp2
        clear hmx hmn c1 c2' c3 c4
        obtain ⟨wt2, hwt2⟩ : ∃ wt2, W'.alloc (.cells #[.int .i64 1] 3) = wt2 := ⟨_, rfl⟩
        have hbt2 : Below W'.heap.size W' wt2 := by rw [← hwt2]; exact (Below.refl _ _).alloc (Nat.le_refl _) _
        have HT2 : Hid (Blk wt2 W'.heap.size 3 #[.int .i64 1]) := (by rw [← hwt2]; exact Blk.new W' _ _ : Blk _ _ _ _)
        have HPT2 := Lib.hid (HP0.out.next hbt2)
        have hDlt := (Array.getElem?_eq_some_iff.1 hK).1
        have HK1 : Hid (wt2.heap[D]? = some (.deferred (some []))) := ((hbt2.block _ hDlt).trans hK : _ = _)
        have hDlt2 : D < wt2.heap.size := by have := hbt2.size; omega
        rw [hwt2]
        clear hK HP0
        rw [rounds_succ]
        have zt : wt2.cell? ⟨W'.heap.size, 0, none⟩ = some (.int .i64 1) := by rw [HT2.out.cell]; rfl
        have htl := HT2.out.lt
        go_wp2
        obtain ⟨wn, hwn⟩ : ∃ wn, (wt2.alloc (.cells #[.int .i64 0] 3)).alloc (.cells #[.int .i64 0] 3) = wn := ⟨_, rfl⟩
        have hbn : Below wt2.heap.size wt2 wn := by rw [← hwn]; exact ((Below.refl _ _).alloc (Nat.le_refl _) _).alloc (by simp) _
        have hsn : wn.heap.size = wt2.heap.size + 1 + 1 := by rw [← hwn]; simp
        have hcn : Blk wn wt2.heap.size 3 #[.int .i64 0] := by rw [← hwn]; exact (Blk.new wt2 _ _).below ((Below.refl _ _).alloc (Nat.le_refl _) _) (by simp)
        have hca : Blk wn (wt2.heap.size + 1) 3 #[.int .i64 0] := by rw [← hwn]; exact Blk.new1 wt2 _ _ _
        rw [hwn]
        refine (wpIn_wide (n := 20)).1 ?_
        refine rangeFunc_yieldE (by omega) (gf := 51) (lb := #[.pointer (some ⟨B, 0, none⟩)]) rfl (enters_of Try.func51 (by kernel_rfl) rfl)
          (pieces1_yields wt2 B pv PS HPT2.out.pp (by rw [HPT2.out.kb.cell]; rfl) (by have := HFL.out; omega)) hbn (fun k hk => ?_) (fun x args W h => ?_)
          (fun pre X => Below wt2.heap.size wt2 X ∧ Blk X W'.heap.size 3 #[.int .i64 1] ∧ Blk X wt2.heap.size 3 #[.int .i64 pre.length] ∧ Blk X (wt2.heap.size + 1) 3 #[.int .i64 (PS.take pre.length).flatten.length] ∧ True)
          (fun c' pre X => False) ?_ ?_ ?_ ?round1 ?done1 ?stop1
        · have : k < wt2.heap.size := hk; omega
        · obtain ⟨A', c', rfl, -⟩ := h; rfl
        · rintro pre X Y ⟨h1, h2, h3, h3', h4⟩ hX hXY
          exact ⟨h1.trans (hXY.mono (by omega)), h2.below hXY (by omega), h3.below hXY (by omega), h3'.below hXY (by omega), h4⟩
        · exact fun _ _ _ _ h => h.elim
        · exact ⟨hbn, HT2.out.below hbn HT2.out.lt, hcn, by simpa using hca, trivial⟩
        case round1 =>
          rintro l' pre ⟨x1, x2⟩ args W0' K hl' ⟨rl, hrl⟩ ⟨A5, c5, rfl, hI5⟩ hIp hpre hK
          obtain ⟨p1, p2, p3⟩ := placesL_pre hpre
          simp only at p2 p3 hI5
          subst p3
          dsimp only
          obtain ⟨k, hk⟩ : ∃ k, pre.length = k := ⟨_, rfl⟩
          have HKL := Lib.hid hk
          have HLEN : Hid (∀ y : Nat × List Int, (pre ++ [y]).length = k + 1) := ((fun y => by rw [List.length_append, hk]; rfl) : ∀ y : Nat × List Int, _ = _)
          rw [hk] at p1 p2 ⊢
          obtain ⟨at_, hat⟩ : ∃ a, (PS.take k).flatten.length = a := ⟨_, rfl⟩
          have HAT_ := Lib.hid hat
          rw [hat]
          obtain ⟨n5, hn5⟩ : ∃ n5, x2.length = n5 := ⟨_, rfl⟩
          have hfl : (PS.take (k + 1)).flatten.length = at_ + n5 := by rw [flat_take_succ p2, List.length_append, hat, hn5]
          have hle := flat_take_le (ps := PS) (k + 1)
          rw [hfl] at hle
          rw [hn5] at hI5 ⊢
          have HFL5 := Lib.hid hfl
          have HN5 := Lib.hid hn5
          have HI5 := Lib.hid hI5
          have HRL := Lib.hid hrl
          have HP2 := Lib.hid p2
          have hfl9 := HFL.out
          have s0 : (0 : Int) ≤ (at_ : Int) + (n5 : Int) := by omega
          have s1 : (at_ : Int) + (n5 : Int) ≤ 9223372036854775807 := by omega
          have s2 : (n5 : Int) ≤ 9223372036854775807 := by omega
          have g0 : (0 : Int) ≤ (k : Int) := by omega
          have g1 : (k : Int) < (m : Int) := by have := HMM.out; omega
          have hmi : (m : Int) ≤ 9223372036854775807 := by simp only [maxLen] at hco2; omega
          have hd1 : decide ((m : Int) ≤ (k : Int)) = false := decide_eq_false (by omega)
          have hd2 : decide (m ≤ k) = false := decide_eq_false (by omega)
          clear hpre hk hat hn5 hfl hle hfl9 hI5 hrl p1 p2 hIp
          gi_wp2
          refine ⟨Below.refl _ _, ?_⟩
          rintro X hXs hXk ⟨h1, h2, h3, h3', h4⟩
          rw [HKL.out] at h3 h3'
          rw [HAT_.out] at h3'
          have hi5 := ints_noloop HI5.out HRL.out hXk
          have hpx := HPT2.out.next h1
          have c0 : X.cell? ⟨w.heap.size, 0, none⟩ = some (.int .i64 many) := by rw [hpx.km.cell]; rfl
          have c1 : X.cell? ⟨w5.heap.size + 1, 0, none⟩ = some (.slice Ao m co) := by rw [hpx.kp.cell]; rfl
          have c3 : X.cell? ⟨W'.heap.size, 0, none⟩ = some (.int .i64 1) := by rw [h2.cell]; rfl
          have c4 : X.cell? ⟨wt2.heap.size, 0, none⟩ = some (.int .i64 k) := by rw [h3.cell]; rfl
          have c5' : X.cell? ⟨wt2.heap.size + 1, 0, none⟩ = some (.int .i64 at_) := by rw [h3'.cell]; rfl
          have f4 := h3.frozen 0
          have f5 := h3'.frozen 0
          obtain ⟨b7, o7, A7', c7', rfl, d0, d1⟩ := Pcs.cell_at hpx.po HP2.out
          rw [HN5.out] at d0 d1
          have hcv1 := fun nq => conv_str (w := X.drewN nq) (A := A5) (n := n5) (c := c5) (xs := x2) (hi5.below (below_drewN (Below.refl _ X) nq) (Nat.le_refl _))
          have hcv2 := fun nq => conv_str (w := X.drewN nq) (A := A7') (n := n5) (c := c7') (xs := x2) (d1.below (below_drewN (Below.refl _ X) nq) (Nat.le_refl _))
          have hwl := HPT2.out.below.size
          have hm0 := HPT2.out.km.lt
          have hp0 := HPT2.out.kp.lt
          have hne1 : wt2.heap.size ≠ W'.heap.size := by omega
          have hne2 : wt2.heap.size ≠ w.heap.size := by omega
          have hne3 : wt2.heap.size ≠ wt2.heap.size + 1 := by omega
          have hne4 : wt2.heap.size + 1 ≠ W'.heap.size := by omega
          have hne5 : wt2.heap.size + 1 ≠ w.heap.size := by omega
          have H1 := Lib.hid h1
          have H2 := Lib.hid h2
          have H3 := Lib.hid h3
          have H3' := Lib.hid h3'
          have H4 := Lib.hid h4
          clear h1 h2 h3 h3' h4 hpx hXs hXk hi5 d1
          gi_wp2
          refine wpIn_region_quiet_round (F := Fence.wide) rfl (by kernel_rfl) (by kernel_rfl) (by kernel_rfl) ?_
          repeat (gi_big_quiet_step (fail))
          refine wpQuietIn_nil ?_
          intro _ hw'
          obtain ⟨nq, hw''⟩ := hw'
          subst hw''
          gi_wp2
          · obtain ⟨t1, t2, t3, t3', t4⟩ := pie_tick nq H1.out H2.out H3.out H3'.out (Ne.symm hne1) (Ne.symm hne4) hne3 (Nat.le_refl _) (Nat.le_succ _)
            refine ⟨t4 _ (fun h => by simp only at h; omega) (fun h => by simp only at h; omega), t1, t2, ?_, ?_, trivial⟩
            · rw [HLEN.out]; exact t3
            · rw [HLEN.out, HFL5.out]; exact t3'
        case done1 =>
          rintro D2 W2' hD2 hW2' ⟨h1, h2, h3, -, -⟩ hK2
          rw [placesL_length, HMM.out] at h3
          have hpx := HPT2.out.next h1
          have c2' : W2'.cell? ⟨w5.heap.size + 1, 0, none⟩ = some (.slice Ao m co) := by rw [hpx.kp.cell]; rfl
          have c3 : W2'.cell? ⟨W'.heap.size, 0, none⟩ = some (.int .i64 1) := by rw [h2.cell]; rfl
          have c4 : W2'.cell? ⟨wt2.heap.size, 0, none⟩ = some (.int .i64 m) := by rw [h3.cell]; rfl
          have htl' := h2.lt
          have HP2 := Lib.hid hpx
          have HK1' : Hid (W2'.heap[D]? = some (.deferred (some []))) := ((h1.block _ hDlt2).trans HK1.out : _ = _)
          clear h1 h2 h3 hpx HK1
          go_wp2
          rw [rounds_succ]
          go_wp2_with fail
          refine (works_any _).mono ?_
          rintro e w9 ⟨rfl, hb9⟩
          have hba : Below W2'.heap.size W2' w9 := ((Below.refl W2'.heap.size W2').alloc (Nat.le_refl _) (.cells #[.int .i64 2] 3)).trans (hb9.mono (by simp))
          have hp9 := HP2.out.next hba
          have hc9 : w9.cell? ⟨w.heap.size + 1, 0, none⟩ = some (.bool false) := by rw [hp9.kr.cell]; rfl
          have hf9 := hp9.kr.frozen 0
          have HP9 := Lib.hid hp9
          have hlt2 := (Array.getElem?_eq_some_iff.1 HK1'.out).1
          have hlt3 := (Array.getElem?_eq_some_iff.1 hK2).1
          have HA9 : Hid (w9.heap[D]? = some (.deferred (some [])) ∧ w9.heap[D2]? = some (.deferred (some []))) := (⟨(hba.block _ hlt2).trans HK1'.out, (hba.block _ hlt3).trans hK2⟩ : _ ∧ _)
          have hbw := HPT2.out.below.size
          have hbw2 := HPW.out.below.size
          have hwr : wr.heap.size ≤ wt.heap.size := hbt.size
          obtain ⟨a1, a2, a3, a4⟩ := mark_end2 HP9.out.kr HP9.out.below (by omega) HA9.out.2 HA9.out.1 (by omega) (by omega) (by omega) (.bool true)
          have HA := Lib.hid (And.intro a1 (And.intro a2 (And.intro a3 a4)))
          clear hb9 hba hp9 hK2 HK1' a1 a2 a3 a4
          go_wp2
          refine ⟨by simp, .inl ⟨_, _, rfl, run_takeDeferred HA.out.1, ⟨by simp, .inl ⟨_, _, rfl, run_takeDeferred HA.out.2.1, ?_⟩⟩⟩⟩
          refine ⟨.bool true, ?_, rfl, HA.out.2.2.2⟩
          have e2 := HA.out.2.2.1
          simp [results, Try.f8, go_sem, e2]
        case stop1 =>
          exact fun _ _ _ _ _ _ _ h => h.elim
end Go.Proofs.Ytndgdehlnmheeaa
