/-
  PlanCounts: the law's walk where the literals are.
-/
import Derived.Test.YtamhkfnghgbenaaPcBase
namespace Go.Proofs.Ytamhkfnghgbenaa
set_option linter.all false
set_option maxRecDepth 100000
open Go.RowKit Go.Shelf

attribute [local go_sem] Oper.semAt_some eql_func_nil

set_option maxHeartbeats 6400000 in
theorem pc_main {w : World} (v vd : Value) (ss : List SeqD) (dd : List Int) (h : Seqs w v ss) (hd : Ints w .u8 vd dd) (hl : ss.length ≤ 100) (hl2 : dd.length ≤ 400) (hg : Good 1 131072 0 0 ss ss.length) (hp : posL ss ≤ dd.length) :
    Calls Try.prog 10 #[v, vd] w fun e w' => e = .returned (.bool true) ∧ Below w.heap.size w w' := by
  have HS := Lib.hid h
  have HD := Lib.hid hd
  have HG := Lib.hid hg
  have HP := Lib.hid hp
  obtain ⟨Ad, nd, cd, rfl, d1, d2, hatd⟩ := hd.get
  obtain ⟨⟨A, c, rfl, hlc, hcm, -⟩, -⟩ := h
  obtain ⟨n, hn⟩ : ∃ n, ss.length = n := ⟨_, rfl⟩
  have HN := Lib.hid hn
  have HND : Hid (dd.length = nd) := (hatd.1 : _ = _)
  rw [hn] at hl hlc HS ⊢
  have hni : (n : Int) ≤ 9223372036854775807 := by omega
  have hl2' : nd ≤ 400 := by have := HND.out; omega
  have hdi : (nd : Int) ≤ 9223372036854775807 := by omega
  have e1 : decide (100 < (n : Int)) = false := decide_eq_false (by omega)
  have e2 : decide (400 < (nd : Int)) = false := decide_eq_false (by omega)
  have e3 : ¬ (100 < (n : Int)) := by omega
  have e4 : ¬ (400 < (nd : Int)) := by omega
  have HL : Hid (n ≤ 100 ∧ nd ≤ 400) := (⟨hl, hl2'⟩ : _ ∧ _)
  have hb : bad 1 131072 0 0 ss = none := bad_none.2 hg
  have HNG : Hid (nGood ss = n) := (by rw [nGood_all hg, hn] : _ = _)
  have HSZ : Hid (sizeR ss = (posL ss, 0)) := (by unfold sizeR; rw [hb] : _ = _)
  have HLR : Hid (litsR ss dd = (litsTo ss dd ss.length ++ dd.drop (posL ss).toNat, 0)) := (by unfold litsR; rw [HSZ.out, if_pos ⟨rfl, hp⟩] : _ = _)
  have hp0 := (Good.pos (by decide) (Nat.le_refl _) hg).1
  rw [List.take_length] at hp0
  clear hn hl hl2 hl2' hatd hg hp hb
  obtain ⟨aa, haa⟩ : ∃ aa, litsTo ss dd ss.length ++ dd.drop (posL ss).toNat = aa := ⟨_, rfl⟩
  have HAA := Lib.hid haa
  obtain ⟨na, hna⟩ : ∃ na, aa.length = na := ⟨_, rfl⟩
  have HNA := Lib.hid hna
  obtain ⟨pn, hpn⟩ : ∃ pn : Nat, posL ss = pn := ⟨(posL ss).toNat, by omega⟩
  have HPN := Lib.hid hpn
  obtain ⟨KN, hKN⟩ : ∃ K, (litsTo ss dd ss.length).length = K := ⟨_, rfl⟩
  have HKN := Lib.hid hKN
  have HNAE : Hid (na = KN + (nd - pn) ∧ pn ≤ nd ∧ KN ≤ 40000) := (by
    have h1 := HP.out
    have h2 := litsTo_le ss dd ss.length
    have h3 := HND.out
    have h4 := HL.out
    have h5 := HN.out
    have h6 : ss.length * dd.length ≤ 100 * 400 := Nat.mul_le_mul (by omega) (by omega)
    rw [← hna, ← haa, List.length_append, List.length_drop, hKN, hpn]
    rw [hKN] at h2
    simp only [Int.toNat_natCast]
    omega : _ ∧ _)
  have hnai : (na : Int) ≤ 9223372036854775807 := by have := HNAE.out; have := HL.out; omega
  clear haa hna hpn hKN hp0
  obtain ⟨w0, hw0⟩ : ∃ w0, (w.alloc (.cells #[.slice Ad nd cd] 34)).alloc (.cells #[.bool false] 4) = w0 := ⟨_, rfl⟩
  have hb0 : Below w.heap.size w w0 := by rw [← hw0]; exact ((Below.refl _ w).alloc (Nat.le_refl _) _).alloc (by simp) _
  have hs0 : w0.heap.size = w.heap.size + 1 + 1 := by rw [← hw0]; simp
  have hC0 : Blk w0 w.heap.size 34 #[.slice Ad nd cd] := by
    rw [← hw0]
    exact (Blk.new w 34 #[.slice Ad nd cd]).below ((Below.refl _ _).alloc (Nat.le_refl _) _) (by simp)
  have hC2 : Blk w0 (w.heap.size + 1) 4 #[.bool false] := by
    rw [← hw0]
    have := Blk.new (w.alloc (.cells #[.slice Ad nd cd] 34)) 4 #[.bool false]
    rwa [World.size_alloc] at this
  have HC0 := Lib.hid hC0
  have HC2 := Lib.hid hC2
  have HB0 := Lib.hid hb0
  have HS0 := Lib.hid hs0
  have q0 : w0.cell? ⟨w.heap.size, 0, none⟩ = some (.slice Ad nd cd) := by rw [hC0.cell]; rfl
  clear hC0 hC2 hb0 hs0
  refine (callsIn_wide (n := 20)).1 ?_
  refine callsIn_of_wp_marks Try.func10 rfl trivial ?_ rfl
  simp only [Try.ntmps10, List.size_toArray, List.length_cons, List.length_nil, Nat.reduceAdd, Nat.reduceSub, Array.replicate_succ, Array.replicate_zero, List.push_toArray, List.append_toArray, List.nil_append, List.cons_append]
  refine wpIn_wide.2 ?_
  go_wp2_with fail
  refine (lits_any w0 (.slice A n c) (.slice Ad nd cd) ss dd (HS.out.below HB0.out (Nat.le_refl _)) (HD.out.below HB0.out (Nat.le_refl _)) (by rw [HN.out]; exact HL.out.1) (by rw [HND.out]; have := HL.out; omega)).mono ?_
  rw [HLR.out, HAA.out, HNA.out]
  rintro e w1 ⟨Aa, ca, rfl, hga, hb1⟩
  have HIA1 := Lib.hid hga.ints
  have HOWA := Lib.hid (fun k (hk : (Value.slice Aa na ca).ownBlock = some k) => (World.ownsRow.lt hga k hk).1)
  have HS10 := Lib.hid hb1.size
  have HB1 := Lib.hid hb1
  have q1 : w1.cell? ⟨w.heap.size, 0, none⟩ = some (.slice Ad nd cd) := by rw [(HC0.out.below hb1 HC0.out.lt).cell]; rfl
  clear hga hb1 q0
  go_wp2_with fail
  obtain ⟨w2, hw2⟩ : ∃ w2, w1.alloc (.cells #[.slice Aa na ca] 34) = w2 := ⟨_, rfl⟩
  have hb12 : Below w1.heap.size w1 w2 := by rw [← hw2]; exact (Below.refl _ _).alloc (Nat.le_refl _) _
  have HQ2 : Hid (Blk w2 w1.heap.size 34 #[.slice Aa na ca]) := (by rw [← hw2]; exact Blk.new w1 _ _ : Blk _ _ _ _)
  have HB02 := Lib.hid (HB1.out.trans (hb12.mono HB1.out.size))
  have HIA2 := Lib.hid (HIA1.out.below hb12 (Nat.le_refl _))
  rw [hw2]
  clear hw2 hb12 q1
  refine (size_any w2 (.slice A n c) ss (HS.out.below (HB0.out.trans (HB02.out.mono HB0.out.size)) (Nat.le_refl _)) (by rw [HN.out]; have := HL.out; omega)).mono ?_
  rw [HSZ.out, HPN.out]
  rintro e w3 ⟨rfl, hb3⟩
  have HB3 := Lib.hid hb3
  clear hb3
  go_wp2_with fail
  refine (num_any _ _).mono ?_
  rintro e wn ⟨rfl, hw⟩
  obtain rfl : w3 = wn := hw.symm
  go_wp2_with fail
  refine (Steps_any w3 (.slice A n c) ss (HS.out.below (HB0.out.trans ((HB02.out.trans (HB3.out.mono HB02.out.size)).mono HB0.out.size)) (Nat.le_refl _)) (by rw [HN.out]; have := HL.out; omega)).mono ?_
  rw [HNG.out]
  rintro e w4 ⟨B, ov, rfl, hBc, hro, hb4, hB, hov⟩
  have hps4 : PcW w w4 (.slice Ad nd cd) dd w1.heap.size (.slice Aa na ca) aa ss B ov := by
    have h24 := HB3.out.trans (hb4.mono HB3.out.size)
    have h04 := HB02.out.trans (h24.mono HB02.out.size)
    have hw4 := HB0.out.trans (h04.mono HB0.out.size)
    exact ⟨hw4, HC0.out.below h04 HC0.out.lt, HC2.out.below h04 HC2.out.lt, HQ2.out.below h24 HQ2.out.lt, HD.out.below hw4 (Nat.le_refl _), HIA2.out.below h24 (Nat.le_refl _), hBc, by rw [HN.out]; exact hro⟩
  have HW4 := Lib.hid hps4
  have q4 : w4.cell? ⟨w.heap.size, 0, none⟩ = some (.slice Ad nd cd) := by rw [hps4.kd.cell]; rfl
  have hlt4 := hps4.kd.lt
  clear hps4 hBc hro hb4 hB hov
  go_upto_region 10 with fail
  go_cut [10, 11] from 59 to 60 (fun kp lp wx => ∃ kb lb : Nat, kp = .pointer (some ⟨kb, 0, none⟩) ∧ lp = .pointer (some ⟨lb, 0, none⟩) ∧ Hid (Below w4.heap.size w4 wx ∧ Blk wx kb 3 #[.int .i64 0] ∧ Blk wx lb 3 #[.int .i64 nd] ∧ w4.heap.size ≤ kb ∧ w4.heap.size ≤ lb ∧ kb ≠ lb))
  case first =>
    go_region
    all_goals
      go_wp2
      go_meet
      first
        | exact ⟨w4.heap.size, w4.heap.size + 1, rfl, rfl, (⟨(two_boxes _ _ _ _).1, (two_boxes _ _ _ _).2.1, (two_boxes _ _ _ _).2.2, Nat.le_refl _, Nat.le_succ _, by omega⟩ : _ ∧ _)⟩
        | exact ⟨w4.heap.size + 1, w4.heap.size, rfl, rfl, (⟨(two_boxes _ _ _ _).1, (two_boxes _ _ _ _).2.2, (two_boxes _ _ _ _).2.1, Nat.le_succ _, Nat.le_refl _, by omega⟩ : _ ∧ _)⟩
  case rest =>
    obtain ⟨kb, lb, rfl, rfl, HC⟩ := hcut
    clear q4
    go_wp2
    refine (wpIn_wide (n := 20)).1 ?_
    have hbc := HC.out.1
    have hkl := HC.out.2.1.lt
    have hll := HC.out.2.2.1.lt
    have hkg := HC.out.2.2.2.1
    have hlg := HC.out.2.2.2.2.1
    have hne := HC.out.2.2.2.2.2
    have hsc := hbc.size
    have HW := Lib.hid (HW4.out.next hbc)
    refine rangeFunc_yieldB (by omega) (gf := 39) (lb := #[.pointer (some ⟨B, 0, none⟩)]) rfl (enters_of Try.func39 (by kernel_rfl) rfl)
      (steps1_yields wc B ov ss ss.length (Nat.le_refl _) (by have := HN.out; have := HL.out; omega) HW.out.ro HW.out.kb) (Below.refl _ _) (fun k hk => ?_) (fun _ => rfl)
      (fun pre X => Below w4.heap.size w4 X ∧ Blk X kb 3 #[.int .i64 (litsTo ss dd pre.length).length] ∧ Blk X lb 3 #[.int .i64 ((nd : Int) - (posL (ss.take pre.length) - (litsTo ss dd pre.length).length))])
      (fun _ _ _ => False) ?_ ?_ ?_ ?round ?done ?stop
    · exact SRow.lt HW.out.ro k hk
    · rintro pre X Y ⟨h1, h2, h3⟩ hX hXY
      exact ⟨h1.trans (hXY.mono (by omega)), h2.below hXY (by omega), h3.below hXY (by omega)⟩
    · exact fun _ _ _ _ h => h.elim
    · refine ⟨hbc, HC.out.2.1, ?_⟩
      have := HC.out.2.2.1
      simpa [litsTo, posL] using this
    case round =>
      rintro l' pre x W0' K hl' hlW hIp hpre hK
      obtain ⟨p1, s, hsk, rfl⟩ := stepsOf_pre (Nat.le_refl _) hpre
      have hlt := lits_at (dd := dd) HG.out HP.out hsk
      obtain ⟨lit, len, offs⟩ := s
      simp only at hlt
      obtain ⟨r1, r2, r3, r4, r5, r6, r7, r8⟩ := hlt
      obtain ⟨li, rfl⟩ := Int.eq_ofNat_of_zero_le r1
      have HLEN : Hid (∀ y : StepD, (pre ++ [y]).length = pre.length + 1) := ((fun y => by rw [List.length_append]; rfl) : ∀ y : StepD, _ = _)
      obtain ⟨pp, hpp⟩ : ∃ pp : Nat, posL (ss.take pre.length) = pp := ⟨(posL (ss.take pre.length)).toNat, by omega⟩
      obtain ⟨K0, hK0⟩ : ∃ K0, (litsTo ss dd pre.length).length = K0 := ⟨_, rfl⟩
      have HIP : Hid (Below w4.heap.size w4 W0' ∧ _) := hIp
      rw [hpp, hK0] at r8
      rw [hpp] at r4 r5 ⊢
      rw [hK0] at r6
      simp only [Int.toNat_natCast] at r6 r8
      have HR8 := Lib.hid r8
      have HR56 : Hid (posL (ss.take (pre.length + 1)) = (pp : Int) + li + len ∧ (litsTo ss dd (pre.length + 1)).length = K0 + li) := (⟨r5, r6⟩ : _ ∧ _)
      have HPP := Lib.hid hpp
      have HK0 := Lib.hid hK0
      have hnd := HND.out
      have hlm := HL.out.2
      have hkn := HKN.out
      have HBD : Hid ((pp : Int) + li + len ≤ nd ∧ K0 + li ≤ KN ∧ 3 ≤ len) := (by omega : _ ∧ _)
      have n1 : (pp : Int) + (li : Int) ≤ 9223372036854775807 := by omega
      have n2 : (0 : Int) ≤ (pp : Int) + (li : Int) := by omega
      clear hpre hpp hK0 r1 r2 r3 r4 r5 r6 r7 r8 hsk hIp HIP
      gi_wp2
      refine ⟨(Below.refl _ _).alloc (Nat.le_refl _) _, ?_⟩
      rintro X hXs hXk ⟨h1, h2, h3⟩
      rw [HK0.out] at h2
      rw [HPP.out, HK0.out] at h3
      have hbx : Blk X W0'.heap.size 60 #[.int .i64 li, .int .i64 len, .int .i64 offs] := (hXk.block W0'.heap.size (by omega) (by simp)).trans (Blk.new W0' _ _)
      have H1 := Lib.hid h1
      have H2 := Lib.hid h2
      have H3 := Lib.hid h3
      have HBX := Lib.hid hbx
      have hlx := HBX.out.lt
      have hkx : kb ≠ W0'.heap.size := by omega
      clear hXs hXk h1 h2 h3 hbx
      obtain ⟨Lf, hLf⟩ : ∃ Lf : Int, (nd : Int) - ((pp : Int) - K0) = Lf := ⟨_, rfl⟩
      have HLF := Lib.hid hLf
      rw [hLf] at H3
      clear hLf
      gi_wp2
      gi_loopw [14] (fun i wr => ∃ pj kj : Nat, pp ≤ pj ∧ pj ≤ pp + li ∧ i = .int .i64 pj ∧ Hid (kj = K0 + (pj - pp)) ∧ Hid (Below w4.heap.size w4 wr ∧ Blk wr kb 3 #[.int .i64 kj] ∧ Blk wr lb 3 #[.int .i64 Lf] ∧ Blk wr W0'.heap.size 60 #[.int .i64 li, .int .i64 len, .int .i64 offs] ∧ KeptL (fun k => k ≠ kb) X wr)) (fun i _ => pp + li - (intOf i).toNat)
      case atStart => exact ⟨pp, K0, Nat.le_refl _, by omega, rfl, (by omega : _ = _), (⟨H1.out, H2.out, H3.out, HBX.out, KeptL.refl _ _⟩ : _ ∧ _)⟩
      case round =>
        obtain ⟨pj, kj, hj1, hj2, rfl, HKJ, HX⟩ := hrel
        obtain ⟨h1, h2, h3, h4, h5⟩ := HX.out
        have hpx := HW4.out.next h1
        have s0 : wr.cell? ⟨W0'.heap.size, 0, none⟩ = some (.int .i64 li) := by rw [h4.cell]; rfl
        have s1 : wr.cell? ⟨W0'.heap.size, 1, none⟩ = some (.int .i64 len) := by rw [h4.cell]; rfl
        have c0 : wr.cell? ⟨w.heap.size, 0, none⟩ = some (.slice Ad nd cd) := by rw [hpx.kd.cell]; rfl
        have c1 : wr.cell? ⟨w1.heap.size, 0, none⟩ = some (.slice Aa na ca) := by rw [hpx.ka.cell]; rfl
        have c2 : wr.cell? ⟨kb, 0, none⟩ = some (.int .i64 kj) := by rw [h2.cell]; rfl
        have c3 : wr.cell? ⟨lb, 0, none⟩ = some (.int .i64 Lf) := by rw [h3.cell]; rfl
        have c4 := h2.frozen 0
        have c5 := h3.frozen 0
        by_cases hjl : pj < pp + li
        · have g1 : (pj : Int) < (pp : Int) + (li : Int) := by omega
          have hkj := HKJ.out
          have hbd := HBD.out
          have hne2 := HNAE.out
          have x1 : decide ((pj : Int) < 0) = false := decide_eq_false (by omega)
          have x2 : decide ((nd : Int) ≤ (pj : Int)) = false := decide_eq_false (by omega)
          have x3 : decide (nd ≤ pj) = false := decide_eq_false (by omega)
          have x4 : decide ((na : Int) ≤ (kj : Int)) = false := decide_eq_false (by omega)
          have x5 : decide (na ≤ kj) = false := decide_eq_false (by omega)
          have y0 : (0 : Int) ≤ (pj : Int) := by omega
          have y1 : (pj : Int) < (nd : Int) := by omega
          have y2 : (0 : Int) ≤ (kj : Int) := by omega
          have y3 : (kj : Int) < (na : Int) := by omega
          have hdz := List.getElem?_eq_getElem (l := dd) (i := pj) (by have := HND.out; omega)
          obtain ⟨z, hz⟩ : ∃ z, dd[pj]'(by have := HND.out; omega) = z := ⟨_, rfl⟩
          rw [hz] at hdz
          have haz : aa[kj]? = some z := by
            have h9 := HR8.out (pj - pp) (by omega)
            rw [HAA.out, show pp + (pj - pp) = pj by omega, hdz] at h9
            rw [hkj]; exact h9
          obtain ⟨b2, o2, rfl, e0⟩ := Ints.cell_at hpx.id_ hdz
          obtain ⟨b3, o3, rfl, e5⟩ := Ints.cell_at hpx.ia haz
          clear h1 h2 h3 h4 h5 hpx hkj hbd hne2 hdz hz haz
          gi_wp2
          refine wpIn_region_quiet_round (F := Fence.wide) rfl (by kernel_rfl) (by kernel_rfl) (by kernel_rfl) ?_
          repeat (gi_big_quiet_step (fail))
          refine wpQuietIn_nil ?_
          intro _ hw'
          obtain ⟨nq, hw''⟩ := hw'
          subst hw''
          gi_wp2
          obtain ⟨t1, t2, t3, t4, t5⟩ := count_tick nq HX.out.1 HX.out.2.1 HX.out.2.2.1 HX.out.2.2.2.1 hne hkx hkg
          go_roundw
          case rel => exact ⟨pj + 1, kj + 1, by omega, by omega, by go_num, (by have := HKJ.out; omega : _ = _), (⟨t1, t2, t3, t4, HX.out.2.2.2.2.trans (t5 _ (fun h => h rfl))⟩ : _ ∧ _)⟩
          case measure => simp [intOf]; omega
        · obtain rfl : pj = pp + li := by omega
          clear h1 h2 h3 h4 h5 hpx
          have hlf := HLF.out
          have hbd := HBD.out
          have hndl := HL.out.2
          have hnae := HNAE.out
          have z1 : -9223372036854775808 ≤ Lf - len := by omega
          have z2 : Lf - len ≤ 9223372036854775807 := by omega
          have HLL : Hid ((nd : Int) - (posL (ss.take (pre.length + 1)) - (litsTo ss dd (pre.length + 1)).length) = Lf - len) := (by
            have a1 := HR56.out.1
            have a2 := HR56.out.2
            rw [a1, a2]
            omega : _ = _)
          clear hlf hbd hndl hnae
          gi_wp2
          obtain ⟨h1, h2, h3, h4, h5⟩ := HX.out
          refine ⟨(h5.mono fun k hk => ?_).trans (KeptL.setCell _ _ _ fun hk => ?_), h1.setCell (p := ⟨lb, 0, none⟩) hlg _, ?_, ?_⟩
          · rcases hk with hk | hk
            · have := SRow.lt HW4.out.ro k hk; omega
            · omega
          · rcases hk with hk | hk
            · have := SRow.lt HW4.out.ro _ hk; simp only at this; omega
            · simp only at hk; omega
          · rw [HLEN.out, HR56.out.2]
            refine (h2.far (p := ⟨lb, 0, none⟩) hne _).congr ?_
            have := HKJ.out
            rw [this, Nat.add_sub_cancel_left]
          · rw [HLEN.out, HLL.out]
            exact (h3.set_ 0 _).congr rfl
    case done =>
      rintro D W' hD hW' ⟨h1, h2, h3⟩ hK
      rw [stepsOf_length (Nat.le_refl _)] at h2 h3
      rw [List.take_length, HPN.out, HKN.out] at h3
      rw [HKN.out] at h2
      have hnae := HNAE.out
      rw [show (nd : Int) - ((pn : Int) - (KN : Int)) = (na : Int) by omega] at h3
      have hpx := HW4.out.next h1
      obtain ⟨RR, hRR⟩ : ∃ RR, dd.drop pn = RR := ⟨_, rfl⟩
      have har : aa.drop KN = RR := by
        rw [← HAA.out, ← hRR, HPN.out, ← HKN.out, List.drop_left]
        rfl
      have hpe : PcE W' w.heap.size (.slice Ad nd cd) dd w1.heap.size (.slice Aa na ca) aa kb lb KN na := ⟨hpx.kd, hpx.ka, h2, h3, hpx.id_, hpx.ia⟩
      have HPE := Lib.hid hpe
      have HRB := Lib.hid hpx.kr
      have HBW := Lib.hid hpx.below
      have hmn : (if (pn : Int) < (nd : Int) then (pn : Int) else (nd : Int)) = (pn : Int) := by split <;> omega
      have hmn3 : (if nd < pn then (nd : Int) else (pn : Int)) = (pn : Int) := by split <;> omega
      have hmn4 : (if (nd : Int) < (pn : Int) then (nd : Int) else (pn : Int)) = (pn : Int) := by split <;> omega
      have hmn2 : (if pn < nd then (pn : Int) else (nd : Int)) = (pn : Int) := by split <;> omega
      have k0 : (0 : Int) ≤ (KN : Int) := by omega
      have k1 : (KN : Int) ≤ (na : Int) := by omega
      have k2 : (KN : Int) ≤ (ca : Int) := by obtain ⟨_, _, _, he, hh, -⟩ := hpx.ia.get; injection he with _ e2 e3; omega
      have k3 : (0 : Int) ≤ (pn : Int) := by omega
      have k4 : (pn : Int) ≤ (nd : Int) := by omega
      have k5 : (pn : Int) ≤ (cd : Int) := by omega
      have hc1 := fun W (h : PcE W w.heap.size (.slice Ad nd cd) dd w1.heap.size (.slice Aa na ca) aa kb lb KN na) => h.cond (by omega : KN ≤ na) (by omega : pn ≤ nd) har hRR
      have HS2 := Lib.hid (fun (W : World) (u : Value) (h : PcE W w.heap.size (.slice Ad nd cd) dd w1.heap.size (.slice Aa na ca) aa kb lb KN na) => h.store (w.heap.size + 1) u (by omega) (by have := HS10.out; have := HS0.out; omega) (by have := HW4.out.below.size; have := HW4.out.kr.lt; omega) (by have := HW4.out.kr.lt; omega) (fun k h0 hk => by have := Ints.own_lt0 HD.out h0 hk; omega) (fun k hk => by have := HOWA.out k hk; have := HS0.out; omega))
      clear h1 h2 h3 hpx hpe har hRR hnae
      go_wp2
      by_cases hca : ca = KN
      · by_cases hcd : cd = pn
        · obtain rfl : KN = ca := hca.symm
          obtain rfl : pn = cd := hcd.symm
          have e0 : nd - pn = 0 := by omega
          simp only [e0, ↓reduceIte, Nat.sub_self] at hc1
          have hc0 := fun W (hW : Below W'.heap.size W' W) => hc1 W (HPE.out.next hW)
          have HC0 := Lib.hid hc0
          have HC1 := Lib.hid hc1
          clear hc0 hc1
          refine wp_region_noPanic ?_
          refine wp_region_held_drew (S := (fun w' => w'.cell? ⟨w.heap.size, 0, none⟩ = some (.slice Ad nd pn) ∧ w'.cell? ⟨w1.heap.size, 0, none⟩ = some (.slice Aa na KN) ∧ w'.cell? ⟨kb, 0, none⟩ = some (.int .i64 KN) ∧ w'.cell? ⟨lb, 0, none⟩ = some (.int .i64 na) ∧ (convert 34 9 (.slice Aa (na - KN) 0)).run Try.prog w' = .ok (.string (strOfNums RR)) w' ∧ (convert 34 9 (.slice Ad 0 0)).run Try.prog w' = .ok (.string (strOfNums RR)) w')) (by kernel_rfl) ?_ (fun hHeld => ?_)
          · (try dsimp only); exact HC0.out _ (below_drewN (Below.refl _ _) 1)
          refine wpAnyH_take2 (i := 0) (oi := _) (d := some 104) (v := ?_) rfl rfl (by kernel_rfl) (by kernel_rfl) (by kernel_rfl) (fun _ _ _ h => h) (Or.inl ⟨by rfl, ?_⟩) (by assumption) ?_
          rotate_left 1
          · (intro w' hSw; (try dsimp only at hSw); go_simp; try with_reducible rfl)
          try simp only [Act.put, List.setIfInBounds_toArray, List.set_cons_zero, List.set_cons_succ]
          refine wpAnyH_ready (rs := [1]) (by kernel_rfl) (by simp) ?_
          refine AllReadyH.cons (o := _) rfl (fun K hK => ?_) ?_
          rotate_left
          · exact AllReadyH.nil
          go_simp
          go_at_call 16; refine (num_any _ _).mono ?_; rintro e w7 ⟨rfl, hw⟩; obtain rfl := hw
          refine hK.out _ _ ?_ (fun hHeld => ?_)
          · (try dsimp only); exact HC0.out _ (below_drewN (Below.refl _ _) 1)
          clear hK K
          try simp only [Act.put, List.setIfInBounds_toArray, List.set_cons_zero, List.set_cons_succ]
          refine wpAnyH_take2 (i := 2) (oi := _) (d := some 106) (v := ?_) rfl rfl (by kernel_rfl) (by kernel_rfl) (by kernel_rfl) (fun _ _ _ h => h) (Or.inl ⟨by rfl, ?_⟩) (by assumption) ?_
          rotate_left 1
          · (intro w' hSw; (try dsimp only at hSw); go_simp; try with_reducible rfl)
          try simp only [Act.put, List.setIfInBounds_toArray, List.set_cons_zero, List.set_cons_succ]
          refine wpAnyH_take2 (i := 3) (oi := _) (d := some 107) (v := ?_) rfl rfl (by kernel_rfl) (by kernel_rfl) (by kernel_rfl) (fun _ _ _ h => h) (Or.inl ⟨by rfl, ?_⟩) (by assumption) ?_
          rotate_left 1
          · (intro w' hSw; (try dsimp only at hSw); go_simp; try with_reducible rfl)
          try simp only [Act.put, List.setIfInBounds_toArray, List.set_cons_zero, List.set_cons_succ]
          refine wpAnyH_take2 (i := 4) (oi := _) (d := some 108) (v := ?_) rfl rfl (by kernel_rfl) (by kernel_rfl) (by kernel_rfl) (fun _ _ _ h => h) (Or.inl ⟨by rfl, ?_⟩) (by assumption) ?_
          rotate_left 1
          · (intro w' hSw; (try dsimp only at hSw); go_simp; try with_reducible rfl)
          try simp only [Act.put, List.setIfInBounds_toArray, List.set_cons_zero, List.set_cons_succ]
          refine wpAnyH_take2 (i := 5) (oi := _) (d := some 109) (v := ?_) rfl rfl (by kernel_rfl) (by kernel_rfl) (by kernel_rfl) (fun _ _ _ h => h) (Or.inl ⟨by rfl, ?_⟩) (by assumption) ?_
          rotate_left 1
          · (intro w' hSw; (try dsimp only at hSw); go_simp; try with_reducible rfl)
          try simp only [Act.put, List.setIfInBounds_toArray, List.set_cons_zero, List.set_cons_succ]
          refine wpAnyH_take2 (i := 6) (oi := _) (d := some 110) (v := ?_) rfl rfl (by kernel_rfl) (by kernel_rfl) (by kernel_rfl) (fun _ _ _ h => h) (Or.inl ⟨by rfl, ?_⟩) (by assumption) ?_
          rotate_left 1
          · (intro w' hSw; (try dsimp only at hSw); go_simp; try with_reducible rfl)
          try simp only [Act.put, List.setIfInBounds_toArray, List.set_cons_zero, List.set_cons_succ]
          refine wpAnyH_take2 (i := 7) (oi := _) (d := some 111) (v := ?_) rfl rfl (by kernel_rfl) (by kernel_rfl) (by kernel_rfl) (fun _ _ _ h => h) (Or.inl ⟨by rfl, ?_⟩) (by assumption) ?_
          rotate_left 1
          · (intro w' hSw; (try dsimp only at hSw); go_simp; try with_reducible rfl)
          try simp only [Act.put, List.setIfInBounds_toArray, List.set_cons_zero, List.set_cons_succ]
          refine wpAnyH_take2 (i := 8) (oi := _) (d := some 112) (v := ?_) rfl rfl (by kernel_rfl) (by kernel_rfl) (by kernel_rfl) (fun _ _ _ h => h) (Or.inl ⟨by rfl, ?_⟩) (by assumption) ?_
          rotate_left 1
          · (intro w' hSw; (try dsimp only at hSw); go_simp; try with_reducible rfl)
          try simp only [Act.put, List.setIfInBounds_toArray, List.set_cons_zero, List.set_cons_succ]
          refine wpAnyH_take2 (i := 9) (oi := _) (d := some 113) (v := ?_) rfl rfl (by kernel_rfl) (by kernel_rfl) (by kernel_rfl) (fun _ _ _ h => h) (Or.inl ⟨by rfl, ?_⟩) (by assumption) ?_
          rotate_left 1
          · (intro w' hSw; (try dsimp only at hSw); go_simp; try with_reducible rfl)
          try simp only [Act.put, List.setIfInBounds_toArray, List.set_cons_zero, List.set_cons_succ]
          refine wpAnyH_take2 (i := 10) (oi := _) (d := some 114) (v := ?_) rfl rfl (by kernel_rfl) (by kernel_rfl) (by kernel_rfl) (fun _ _ _ h => h) (Or.inl ⟨by rfl, ?_⟩) (by assumption) ?_
          rotate_left 1
          · (intro w' hSw; (try dsimp only at hSw); go_simp; try with_reducible rfl)
          try simp only [Act.put, List.setIfInBounds_toArray, List.set_cons_zero, List.set_cons_succ]
          refine wpAnyH_take2 (i := 11) (oi := _) (d := some 115) (v := ?_) rfl rfl (by kernel_rfl) (by kernel_rfl) (by kernel_rfl) (fun _ _ _ h => h) (Or.inl ⟨by rfl, ?_⟩) (by assumption) ?_
          rotate_left 1
          · (intro w' hSw; (try dsimp only at hSw); go_simp; try with_reducible rfl)
          try simp only [Act.put, List.setIfInBounds_toArray, List.set_cons_zero, List.set_cons_succ]
          refine wpAnyH_take2 (i := 12) (oi := _) (d := some 116) (v := ?_) rfl rfl (by kernel_rfl) (by kernel_rfl) (by kernel_rfl) (fun _ _ _ h => h) (Or.inl ⟨by rfl, ?_⟩) (by assumption) ?_
          rotate_left 1
          · (intro w' hSw; (try dsimp only at hSw); go_simp; try with_reducible rfl)
          try simp only [Act.put, List.setIfInBounds_toArray, List.set_cons_zero, List.set_cons_succ]
          refine wpAnyH_take2 (i := 13) (oi := _) (d := some 117) (v := ?_) rfl rfl (by kernel_rfl) (by kernel_rfl) (by kernel_rfl) (fun _ _ _ h => h) (Or.inl ⟨by rfl, ?_⟩) (by assumption) ?_
          rotate_left 1
          · (intro w' hSw; (try dsimp only at hSw); go_simp; try with_reducible rfl)
          try simp only [Act.put, List.setIfInBounds_toArray, List.set_cons_zero, List.set_cons_succ]
          refine wpAnyH_take2 (i := 14) (oi := _) (d := some 118) (v := ?_) rfl rfl (by kernel_rfl) (by kernel_rfl) (by kernel_rfl) (fun _ _ _ h => h) (Or.inl ⟨by rfl, ?_⟩) (by assumption) ?_
          rotate_left 1
          · (intro w' hSw; (try dsimp only at hSw); go_simp; try with_reducible rfl)
          try simp only [Act.put, List.setIfInBounds_toArray, List.set_cons_zero, List.set_cons_succ]
          refine wpAnyH_take2 (i := 15) (oi := _) (d := some 119) (v := ?_) rfl rfl (by kernel_rfl) (by kernel_rfl) (by kernel_rfl) (fun _ _ _ h => h) (Or.inl ⟨by rfl, ?_⟩) (by assumption) ?_
          rotate_left 1
          · (intro w' hSw; (try dsimp only at hSw); go_simp; try with_reducible rfl)
          try simp only [Act.put, List.setIfInBounds_toArray, List.set_cons_zero, List.set_cons_succ]
          refine wpAnyH_take2 (i := 16) (oi := _) (d := some 120) (v := ?_) rfl rfl (by kernel_rfl) (by kernel_rfl) (by kernel_rfl) (fun _ _ _ h => h) (Or.inl ⟨by rfl, ?_⟩) (by assumption) ?_
          rotate_left 1
          · (intro w' hSw; (try dsimp only at hSw); go_simp; try with_reducible rfl)
          try simp only [Act.put, List.setIfInBounds_toArray, List.set_cons_zero, List.set_cons_succ]
          refine wpAnyH_take2 (i := 17) (oi := _) (d := some 121) (v := ?_) rfl rfl (by kernel_rfl) (by kernel_rfl) (by kernel_rfl) (fun _ _ _ h => h) (Or.inl ⟨by rfl, ?_⟩) (by assumption) ?_
          rotate_left 1
          · (intro w' hSw; (try dsimp only at hSw); go_simp; try with_reducible rfl)
          try simp only [Act.put, List.setIfInBounds_toArray, List.set_cons_zero, List.set_cons_succ]
          refine wpAnyH_take2 (i := 18) (oi := _) (d := some 122) (v := ?_) rfl rfl (by kernel_rfl) (by kernel_rfl) (by kernel_rfl) (fun _ _ _ h => h) (Or.inl ⟨by rfl, ?_⟩) (by assumption) ?_
          rotate_left 1
          · (intro w' hSw; (try dsimp only at hSw); go_simp; try with_reducible rfl)
          try simp only [Act.put, List.setIfInBounds_toArray, List.set_cons_zero, List.set_cons_succ]
          refine wpAnyH_take2 (i := 19) (oi := _) (d := some 123) (v := ?_) rfl rfl (by kernel_rfl) (by kernel_rfl) (by kernel_rfl) (fun _ _ _ h => h) (Or.inl ⟨by rfl, ?_⟩) (by assumption) ?_
          rotate_left 1
          · (intro w' hSw; (try dsimp only at hSw); go_simp; try with_reducible rfl)
          try simp only [Act.put, List.setIfInBounds_toArray, List.set_cons_zero, List.set_cons_succ]
          refine wpAnyH_take2 (i := 20) (oi := _) (d := some 124) (v := ?_) rfl rfl (by kernel_rfl) (by kernel_rfl) (by kernel_rfl) (fun _ _ _ h => h) (Or.inl ⟨by rfl, ?_⟩) (by assumption) ?_
          rotate_left 1
          · (intro w' hSw; (try dsimp only at hSw); go_simp; try with_reducible rfl)
          try simp only [Act.put, List.setIfInBounds_toArray, List.set_cons_zero, List.set_cons_succ]
          refine wpAnyH_take2 (i := 21) (oi := _) (d := some 125) (v := ?_) rfl rfl (by kernel_rfl) (by kernel_rfl) (by kernel_rfl) (fun _ _ _ h => h) (Or.inl ⟨by rfl, ?_⟩) (by assumption) ?_
          rotate_left 1
          · (intro w' hSw; (try dsimp only at hSw); go_simp; try with_reducible rfl)
          try simp only [Act.put, List.setIfInBounds_toArray, List.set_cons_zero, List.set_cons_succ]
          refine wpAnyH_take2 (i := 22) (oi := _) (d := some 126) (v := ?_) rfl rfl (by kernel_rfl) (by kernel_rfl) (by kernel_rfl) (fun _ _ _ h => h) (Or.inl ⟨by rfl, ?_⟩) (by assumption) ?_
          rotate_left 1
          · (intro w' hSw; (try dsimp only at hSw); go_simp; try with_reducible rfl)
          try simp only [Act.put, List.setIfInBounds_toArray, List.set_cons_zero, List.set_cons_succ]
          refine wpAnyH_take2 (i := 23) (oi := _) (d := some 127) (v := ?_) rfl rfl (by kernel_rfl) (by kernel_rfl) (by kernel_rfl) (fun _ _ _ h => h) (Or.inl ⟨by rfl, ?_⟩) (by assumption) ?_
          rotate_left 1
          · (intro w' hSw; (try dsimp only at hSw); go_simp; try with_reducible rfl)
          try simp only [Act.put, List.setIfInBounds_toArray, List.set_cons_zero, List.set_cons_succ]
          refine wpAnyH_ready (rs := [24]) (by kernel_rfl) (by simp) ?_
          refine AllReadyH.cons (o := _) rfl (fun K hK => ?_) ?_
          rotate_left
          · exact AllReadyH.nil
          go_simp
          go_at_call 11; refine (works_any _).mono ?_; rintro e w8 ⟨rfl, hb8⟩; have HB8 := Lib.hid ((below_drewN (Below.refl _ _) 1 : Below W'.heap.size W' _).trans hb8); clear hb8; have hr8 := HRB.out.below HB8.out HRB.out.lt; have hq8 : w8.cell? ⟨w.heap.size + 1, 0, none⟩ = some (.bool false) := (by rw [hr8.cell]; rfl); have hf8 := hr8.frozen 0; have HR8 := Lib.hid hr8; clear hr8
          refine hK.out _ _ ?_ (fun hHeld => ?_)
          · (try dsimp only); exact HC0.out _ HB8.out
          clear hK K
          try simp only [Act.put, List.setIfInBounds_toArray, List.set_cons_zero, List.set_cons_succ]
          refine wpAnyH_take2 (i := 25) (oi := _) (d := some 129) (v := ?_) rfl rfl (by kernel_rfl) (by kernel_rfl) (by kernel_rfl) (fun _ _ _ h => h) (Or.inl ⟨by rfl, ?_⟩) (by assumption) ?_
          rotate_left 1
          · (intro w' hSw; (try dsimp only at hSw); go_simp; try with_reducible rfl)
          try simp only [Act.put, List.setIfInBounds_toArray, List.set_cons_zero, List.set_cons_succ]
          refine wpAnyH_ready (rs := [26]) (by kernel_rfl) (by simp) ?_
          refine AllReadyH.cons (o := _) rfl (fun K hK => ?_) ?_
          rotate_left
          · exact AllReadyH.nil
          go_simp
          refine hK.out _ _ ?_ (fun hHeld => ?_)
          · (try dsimp only); exact HC1.out _ (HS2.out w8 (.bool true) (HPE.out.next HB8.out))
          clear hK K
          try simp only [Act.put, List.setIfInBounds_toArray, List.set_cons_zero, List.set_cons_succ]
          refine wpAnyH_done (by kernel_rfl) ?_ _
          refine NoPanic.normal ?_
          go_wp2
          have hDlt := (Array.getElem?_eq_some_iff.1 hK).1
          have hwz := HBW.out.size
          have hwz4 := HW4.out.below.size
          obtain ⟨m1, m2, m3⟩ := mark_end HR8.out (HBW.out.trans (HB8.out.mono hwz)) (Nat.le_succ _) ((HB8.out.block _ hDlt).trans hK) (by omega) (.bool true)
          refine ⟨by simp, .inl ⟨_, _, rfl, run_takeDeferred m1, ?_⟩⟩
          refine ⟨.bool true, ?_, rfl, m3⟩
          simp [results, Try.f10, go_sem, m2]
        · obtain rfl : KN = ca := hca.symm
          skip
          skip
          simp only [↓reduceIte, Nat.sub_self, if_neg hcd] at hc1
          have hc0 := fun W (hW : Below W'.heap.size W' W) => hc1 W (HPE.out.next hW)
          have HC0 := Lib.hid hc0
          have HC1 := Lib.hid hc1
          clear hc0 hc1
          refine wp_region_noPanic ?_
          refine wp_region_held_drew (S := (fun w' => w'.cell? ⟨w.heap.size, 0, none⟩ = some (.slice Ad nd cd) ∧ w'.cell? ⟨w1.heap.size, 0, none⟩ = some (.slice Aa na KN) ∧ w'.cell? ⟨kb, 0, none⟩ = some (.int .i64 KN) ∧ w'.cell? ⟨lb, 0, none⟩ = some (.int .i64 na) ∧ (convert 34 9 (.slice Aa (na - KN) 0)).run Try.prog w' = .ok (.string (strOfNums RR)) w' ∧ (convert 34 9 (.slice (Option.map (fun x => Addr.add x pn) Ad) (nd - pn) (cd - pn))).run Try.prog w' = .ok (.string (strOfNums RR)) w')) (by kernel_rfl) ?_ (fun hHeld => ?_)
          · (try dsimp only); exact HC0.out _ (below_drewN (Below.refl _ _) 1)
          refine wpAnyH_take2 (i := 0) (oi := _) (d := some 104) (v := ?_) rfl rfl (by kernel_rfl) (by kernel_rfl) (by kernel_rfl) (fun _ _ _ h => h) (Or.inl ⟨by rfl, ?_⟩) (by assumption) ?_
          rotate_left 1
          · (intro w' hSw; (try dsimp only at hSw); go_simp; try with_reducible rfl)
          try simp only [Act.put, List.setIfInBounds_toArray, List.set_cons_zero, List.set_cons_succ]
          refine wpAnyH_ready (rs := [1]) (by kernel_rfl) (by simp) ?_
          refine AllReadyH.cons (o := _) rfl (fun K hK => ?_) ?_
          rotate_left
          · exact AllReadyH.nil
          go_simp
          go_at_call 16; refine (num_any _ _).mono ?_; rintro e w7 ⟨rfl, hw⟩; obtain rfl := hw
          refine hK.out _ _ ?_ (fun hHeld => ?_)
          · (try dsimp only); exact HC0.out _ (below_drewN (Below.refl _ _) 1)
          clear hK K
          try simp only [Act.put, List.setIfInBounds_toArray, List.set_cons_zero, List.set_cons_succ]
          refine wpAnyH_take2 (i := 2) (oi := _) (d := some 106) (v := ?_) rfl rfl (by kernel_rfl) (by kernel_rfl) (by kernel_rfl) (fun _ _ _ h => h) (Or.inl ⟨by rfl, ?_⟩) (by assumption) ?_
          rotate_left 1
          · (intro w' hSw; (try dsimp only at hSw); go_simp; try with_reducible rfl)
          try simp only [Act.put, List.setIfInBounds_toArray, List.set_cons_zero, List.set_cons_succ]
          refine wpAnyH_take2 (i := 3) (oi := _) (d := some 107) (v := ?_) rfl rfl (by kernel_rfl) (by kernel_rfl) (by kernel_rfl) (fun _ _ _ h => h) (Or.inl ⟨by rfl, ?_⟩) (by assumption) ?_
          rotate_left 1
          · (intro w' hSw; (try dsimp only at hSw); go_simp; try with_reducible rfl)
          try simp only [Act.put, List.setIfInBounds_toArray, List.set_cons_zero, List.set_cons_succ]
          refine wpAnyH_take2 (i := 4) (oi := _) (d := some 108) (v := ?_) rfl rfl (by kernel_rfl) (by kernel_rfl) (by kernel_rfl) (fun _ _ _ h => h) (Or.inl ⟨by rfl, ?_⟩) (by assumption) ?_
          rotate_left 1
          · (intro w' hSw; (try dsimp only at hSw); go_simp; try with_reducible rfl)
          try simp only [Act.put, List.setIfInBounds_toArray, List.set_cons_zero, List.set_cons_succ]
          refine wpAnyH_take2 (i := 5) (oi := _) (d := some 109) (v := ?_) rfl rfl (by kernel_rfl) (by kernel_rfl) (by kernel_rfl) (fun _ _ _ h => h) (Or.inl ⟨by rfl, ?_⟩) (by assumption) ?_
          rotate_left 1
          · (intro w' hSw; (try dsimp only at hSw); go_simp; try with_reducible rfl)
          try simp only [Act.put, List.setIfInBounds_toArray, List.set_cons_zero, List.set_cons_succ]
          refine wpAnyH_take2 (i := 6) (oi := _) (d := some 110) (v := ?_) rfl rfl (by kernel_rfl) (by kernel_rfl) (by kernel_rfl) (fun _ _ _ h => h) (Or.inl ⟨by rfl, ?_⟩) (by assumption) ?_
          rotate_left 1
          · (intro w' hSw; (try dsimp only at hSw); go_simp; try with_reducible rfl)
          try simp only [Act.put, List.setIfInBounds_toArray, List.set_cons_zero, List.set_cons_succ]
          refine wpAnyH_take2 (i := 7) (oi := _) (d := some 111) (v := ?_) rfl rfl (by kernel_rfl) (by kernel_rfl) (by kernel_rfl) (fun _ _ _ h => h) (Or.inl ⟨by rfl, ?_⟩) (by assumption) ?_
          rotate_left 1
          · (intro w' hSw; (try dsimp only at hSw); go_simp; try with_reducible rfl)
          try simp only [Act.put, List.setIfInBounds_toArray, List.set_cons_zero, List.set_cons_succ]
          refine wpAnyH_take2 (i := 8) (oi := _) (d := some 112) (v := ?_) rfl rfl (by kernel_rfl) (by kernel_rfl) (by kernel_rfl) (fun _ _ _ h => h) (Or.inl ⟨by rfl, ?_⟩) (by assumption) ?_
          rotate_left 1
          · (intro w' hSw; (try dsimp only at hSw); go_simp; try with_reducible rfl)
          try simp only [Act.put, List.setIfInBounds_toArray, List.set_cons_zero, List.set_cons_succ]
          refine wpAnyH_take2 (i := 9) (oi := _) (d := some 113) (v := ?_) rfl rfl (by kernel_rfl) (by kernel_rfl) (by kernel_rfl) (fun _ _ _ h => h) (Or.inl ⟨by rfl, ?_⟩) (by assumption) ?_
          rotate_left 1
          · (intro w' hSw; (try dsimp only at hSw); go_simp; try with_reducible rfl)
          try simp only [Act.put, List.setIfInBounds_toArray, List.set_cons_zero, List.set_cons_succ]
          refine wpAnyH_take2 (i := 10) (oi := _) (d := some 114) (v := ?_) rfl rfl (by kernel_rfl) (by kernel_rfl) (by kernel_rfl) (fun _ _ _ h => h) (Or.inl ⟨by rfl, ?_⟩) (by assumption) ?_
          rotate_left 1
          · (intro w' hSw; (try dsimp only at hSw); go_simp; try with_reducible rfl)
          try simp only [Act.put, List.setIfInBounds_toArray, List.set_cons_zero, List.set_cons_succ]
          refine wpAnyH_take2 (i := 11) (oi := _) (d := some 115) (v := ?_) rfl rfl (by kernel_rfl) (by kernel_rfl) (by kernel_rfl) (fun _ _ _ h => h) (Or.inl ⟨by rfl, ?_⟩) (by assumption) ?_
          rotate_left 1
          · (intro w' hSw; (try dsimp only at hSw); go_simp; try with_reducible rfl)
          try simp only [Act.put, List.setIfInBounds_toArray, List.set_cons_zero, List.set_cons_succ]
          refine wpAnyH_take2 (i := 12) (oi := _) (d := some 116) (v := ?_) rfl rfl (by kernel_rfl) (by kernel_rfl) (by kernel_rfl) (fun _ _ _ h => h) (Or.inl ⟨by rfl, ?_⟩) (by assumption) ?_
          rotate_left 1
          · (intro w' hSw; (try dsimp only at hSw); go_simp; try with_reducible rfl)
          try simp only [Act.put, List.setIfInBounds_toArray, List.set_cons_zero, List.set_cons_succ]
          refine wpAnyH_take2 (i := 13) (oi := _) (d := some 117) (v := ?_) rfl rfl (by kernel_rfl) (by kernel_rfl) (by kernel_rfl) (fun _ _ _ h => h) (Or.inl ⟨by rfl, ?_⟩) (by assumption) ?_
          rotate_left 1
          · (intro w' hSw; (try dsimp only at hSw); go_simp; try with_reducible rfl)
          try simp only [Act.put, List.setIfInBounds_toArray, List.set_cons_zero, List.set_cons_succ]
          refine wpAnyH_take2 (i := 14) (oi := _) (d := some 118) (v := ?_) rfl rfl (by kernel_rfl) (by kernel_rfl) (by kernel_rfl) (fun _ _ _ h => h) (Or.inl ⟨by rfl, ?_⟩) (by assumption) ?_
          rotate_left 1
          · (intro w' hSw; (try dsimp only at hSw); go_simp; try with_reducible rfl)
          try simp only [Act.put, List.setIfInBounds_toArray, List.set_cons_zero, List.set_cons_succ]
          refine wpAnyH_take2 (i := 15) (oi := _) (d := some 119) (v := ?_) rfl rfl (by kernel_rfl) (by kernel_rfl) (by kernel_rfl) (fun _ _ _ h => h) (Or.inl ⟨by rfl, ?_⟩) (by assumption) ?_
          rotate_left 1
          · (intro w' hSw; (try dsimp only at hSw); go_simp; try with_reducible rfl)
          try simp only [Act.put, List.setIfInBounds_toArray, List.set_cons_zero, List.set_cons_succ]
          refine wpAnyH_take2 (i := 16) (oi := _) (d := some 120) (v := ?_) rfl rfl (by kernel_rfl) (by kernel_rfl) (by kernel_rfl) (fun _ _ _ h => h) (Or.inl ⟨by rfl, ?_⟩) (by assumption) ?_
          rotate_left 1
          · (intro w' hSw; (try dsimp only at hSw); go_simp; try with_reducible rfl)
          try simp only [Act.put, List.setIfInBounds_toArray, List.set_cons_zero, List.set_cons_succ]
          refine wpAnyH_take2 (i := 17) (oi := _) (d := some 121) (v := ?_) rfl rfl (by kernel_rfl) (by kernel_rfl) (by kernel_rfl) (fun _ _ _ h => h) (Or.inl ⟨by rfl, ?_⟩) (by assumption) ?_
          rotate_left 1
          · (intro w' hSw; (try dsimp only at hSw); go_simp; try with_reducible rfl)
          try simp only [Act.put, List.setIfInBounds_toArray, List.set_cons_zero, List.set_cons_succ]
          refine wpAnyH_take2 (i := 18) (oi := _) (d := some 122) (v := ?_) rfl rfl (by kernel_rfl) (by kernel_rfl) (by kernel_rfl) (fun _ _ _ h => h) (Or.inl ⟨by rfl, ?_⟩) (by assumption) ?_
          rotate_left 1
          · (intro w' hSw; (try dsimp only at hSw); go_simp; try with_reducible rfl)
          try simp only [Act.put, List.setIfInBounds_toArray, List.set_cons_zero, List.set_cons_succ]
          refine wpAnyH_take2 (i := 19) (oi := _) (d := some 123) (v := ?_) rfl rfl (by kernel_rfl) (by kernel_rfl) (by kernel_rfl) (fun _ _ _ h => h) (Or.inl ⟨by rfl, ?_⟩) (by assumption) ?_
          rotate_left 1
          · (intro w' hSw; (try dsimp only at hSw); go_simp; try with_reducible rfl)
          try simp only [Act.put, List.setIfInBounds_toArray, List.set_cons_zero, List.set_cons_succ]
          refine wpAnyH_take2 (i := 20) (oi := _) (d := some 124) (v := ?_) rfl rfl (by kernel_rfl) (by kernel_rfl) (by kernel_rfl) (fun _ _ _ h => h) (Or.inl ⟨by rfl, ?_⟩) (by assumption) ?_
          rotate_left 1
          · (intro w' hSw; (try dsimp only at hSw); go_simp; try with_reducible rfl)
          try simp only [Act.put, List.setIfInBounds_toArray, List.set_cons_zero, List.set_cons_succ]
          refine wpAnyH_take2 (i := 21) (oi := _) (d := some 125) (v := ?_) rfl rfl (by kernel_rfl) (by kernel_rfl) (by kernel_rfl) (fun _ _ _ h => h) (Or.inl ⟨by rfl, ?_⟩) (by assumption) ?_
          rotate_left 1
          · (intro w' hSw; (try dsimp only at hSw); go_simp; try with_reducible rfl)
          try simp only [Act.put, List.setIfInBounds_toArray, List.set_cons_zero, List.set_cons_succ]
          refine wpAnyH_take2 (i := 22) (oi := _) (d := some 126) (v := ?_) rfl rfl (by kernel_rfl) (by kernel_rfl) (by kernel_rfl) (fun _ _ _ h => h) (Or.inl ⟨by rfl, ?_⟩) (by assumption) ?_
          rotate_left 1
          · (intro w' hSw; (try dsimp only at hSw); go_simp; try with_reducible rfl)
          try simp only [Act.put, List.setIfInBounds_toArray, List.set_cons_zero, List.set_cons_succ]
          refine wpAnyH_take2 (i := 23) (oi := _) (d := some 127) (v := ?_) rfl rfl (by kernel_rfl) (by kernel_rfl) (by kernel_rfl) (fun _ _ _ h => h) (Or.inl ⟨by rfl, ?_⟩) (by assumption) ?_
          rotate_left 1
          · (intro w' hSw; (try dsimp only at hSw); go_simp; try with_reducible rfl)
          try simp only [Act.put, List.setIfInBounds_toArray, List.set_cons_zero, List.set_cons_succ]
          refine wpAnyH_ready (rs := [24]) (by kernel_rfl) (by simp) ?_
          refine AllReadyH.cons (o := _) rfl (fun K hK => ?_) ?_
          rotate_left
          · exact AllReadyH.nil
          go_simp
          go_at_call 11; refine (works_any _).mono ?_; rintro e w8 ⟨rfl, hb8⟩; have HB8 := Lib.hid ((below_drewN (Below.refl _ _) 1 : Below W'.heap.size W' _).trans hb8); clear hb8; have hr8 := HRB.out.below HB8.out HRB.out.lt; have hq8 : w8.cell? ⟨w.heap.size + 1, 0, none⟩ = some (.bool false) := (by rw [hr8.cell]; rfl); have hf8 := hr8.frozen 0; have HR8 := Lib.hid hr8; clear hr8
          refine hK.out _ _ ?_ (fun hHeld => ?_)
          · (try dsimp only); exact HC0.out _ HB8.out
          clear hK K
          try simp only [Act.put, List.setIfInBounds_toArray, List.set_cons_zero, List.set_cons_succ]
          refine wpAnyH_take2 (i := 25) (oi := _) (d := some 129) (v := ?_) rfl rfl (by kernel_rfl) (by kernel_rfl) (by kernel_rfl) (fun _ _ _ h => h) (Or.inl ⟨by rfl, ?_⟩) (by assumption) ?_
          rotate_left 1
          · (intro w' hSw; (try dsimp only at hSw); go_simp; try with_reducible rfl)
          try simp only [Act.put, List.setIfInBounds_toArray, List.set_cons_zero, List.set_cons_succ]
          refine wpAnyH_ready (rs := [26]) (by kernel_rfl) (by simp) ?_
          refine AllReadyH.cons (o := _) rfl (fun K hK => ?_) ?_
          rotate_left
          · exact AllReadyH.nil
          go_simp
          refine hK.out _ _ ?_ (fun hHeld => ?_)
          · (try dsimp only); exact HC1.out _ (HS2.out w8 (.bool true) (HPE.out.next HB8.out))
          clear hK K
          try simp only [Act.put, List.setIfInBounds_toArray, List.set_cons_zero, List.set_cons_succ]
          refine wpAnyH_done (by kernel_rfl) ?_ _
          refine NoPanic.normal ?_
          go_wp2
          have hDlt := (Array.getElem?_eq_some_iff.1 hK).1
          have hwz := HBW.out.size
          have hwz4 := HW4.out.below.size
          obtain ⟨m1, m2, m3⟩ := mark_end HR8.out (HBW.out.trans (HB8.out.mono hwz)) (Nat.le_succ _) ((HB8.out.block _ hDlt).trans hK) (by omega) (.bool true)
          refine ⟨by simp, .inl ⟨_, _, rfl, run_takeDeferred m1, ?_⟩⟩
          refine ⟨.bool true, ?_, rfl, m3⟩
          simp [results, Try.f10, go_sem, m2]
      · by_cases hcd : cd = pn
        · skip
          obtain rfl : pn = cd := hcd.symm
          have e0 : nd - pn = 0 := by omega
          simp only [e0, ↓reduceIte, Nat.sub_self, if_neg hca] at hc1
          have hc0 := fun W (hW : Below W'.heap.size W' W) => hc1 W (HPE.out.next hW)
          have HC0 := Lib.hid hc0
          have HC1 := Lib.hid hc1
          clear hc0 hc1
          refine wp_region_noPanic ?_
          refine wp_region_held_drew (S := (fun w' => w'.cell? ⟨w.heap.size, 0, none⟩ = some (.slice Ad nd pn) ∧ w'.cell? ⟨w1.heap.size, 0, none⟩ = some (.slice Aa na ca) ∧ w'.cell? ⟨kb, 0, none⟩ = some (.int .i64 KN) ∧ w'.cell? ⟨lb, 0, none⟩ = some (.int .i64 na) ∧ (convert 34 9 (.slice (Option.map (fun x => Addr.add x KN) Aa) (na - KN) (ca - KN))).run Try.prog w' = .ok (.string (strOfNums RR)) w' ∧ (convert 34 9 (.slice Ad 0 0)).run Try.prog w' = .ok (.string (strOfNums RR)) w')) (by kernel_rfl) ?_ (fun hHeld => ?_)
          · (try dsimp only); exact HC0.out _ (below_drewN (Below.refl _ _) 1)
          refine wpAnyH_take2 (i := 0) (oi := _) (d := some 104) (v := ?_) rfl rfl (by kernel_rfl) (by kernel_rfl) (by kernel_rfl) (fun _ _ _ h => h) (Or.inl ⟨by rfl, ?_⟩) (by assumption) ?_
          rotate_left 1
          · (intro w' hSw; (try dsimp only at hSw); go_simp; try with_reducible rfl)
          try simp only [Act.put, List.setIfInBounds_toArray, List.set_cons_zero, List.set_cons_succ]
          refine wpAnyH_ready (rs := [1]) (by kernel_rfl) (by simp) ?_
          refine AllReadyH.cons (o := _) rfl (fun K hK => ?_) ?_
          rotate_left
          · exact AllReadyH.nil
          go_simp
          go_at_call 16; refine (num_any _ _).mono ?_; rintro e w7 ⟨rfl, hw⟩; obtain rfl := hw
          refine hK.out _ _ ?_ (fun hHeld => ?_)
          · (try dsimp only); exact HC0.out _ (below_drewN (Below.refl _ _) 1)
          clear hK K
          try simp only [Act.put, List.setIfInBounds_toArray, List.set_cons_zero, List.set_cons_succ]
          refine wpAnyH_take2 (i := 2) (oi := _) (d := some 106) (v := ?_) rfl rfl (by kernel_rfl) (by kernel_rfl) (by kernel_rfl) (fun _ _ _ h => h) (Or.inl ⟨by rfl, ?_⟩) (by assumption) ?_
          rotate_left 1
          · (intro w' hSw; (try dsimp only at hSw); go_simp; try with_reducible rfl)
          try simp only [Act.put, List.setIfInBounds_toArray, List.set_cons_zero, List.set_cons_succ]
          refine wpAnyH_take2 (i := 3) (oi := _) (d := some 107) (v := ?_) rfl rfl (by kernel_rfl) (by kernel_rfl) (by kernel_rfl) (fun _ _ _ h => h) (Or.inl ⟨by rfl, ?_⟩) (by assumption) ?_
          rotate_left 1
          · (intro w' hSw; (try dsimp only at hSw); go_simp; try with_reducible rfl)
          try simp only [Act.put, List.setIfInBounds_toArray, List.set_cons_zero, List.set_cons_succ]
          refine wpAnyH_take2 (i := 4) (oi := _) (d := some 108) (v := ?_) rfl rfl (by kernel_rfl) (by kernel_rfl) (by kernel_rfl) (fun _ _ _ h => h) (Or.inl ⟨by rfl, ?_⟩) (by assumption) ?_
          rotate_left 1
          · (intro w' hSw; (try dsimp only at hSw); go_simp; try with_reducible rfl)
          try simp only [Act.put, List.setIfInBounds_toArray, List.set_cons_zero, List.set_cons_succ]
          refine wpAnyH_take2 (i := 5) (oi := _) (d := some 109) (v := ?_) rfl rfl (by kernel_rfl) (by kernel_rfl) (by kernel_rfl) (fun _ _ _ h => h) (Or.inl ⟨by rfl, ?_⟩) (by assumption) ?_
          rotate_left 1
          · (intro w' hSw; (try dsimp only at hSw); go_simp; try with_reducible rfl)
          try simp only [Act.put, List.setIfInBounds_toArray, List.set_cons_zero, List.set_cons_succ]
          refine wpAnyH_take2 (i := 6) (oi := _) (d := some 110) (v := ?_) rfl rfl (by kernel_rfl) (by kernel_rfl) (by kernel_rfl) (fun _ _ _ h => h) (Or.inl ⟨by rfl, ?_⟩) (by assumption) ?_
          rotate_left 1
          · (intro w' hSw; (try dsimp only at hSw); go_simp; try with_reducible rfl)
          try simp only [Act.put, List.setIfInBounds_toArray, List.set_cons_zero, List.set_cons_succ]
          refine wpAnyH_take2 (i := 7) (oi := _) (d := some 111) (v := ?_) rfl rfl (by kernel_rfl) (by kernel_rfl) (by kernel_rfl) (fun _ _ _ h => h) (Or.inl ⟨by rfl, ?_⟩) (by assumption) ?_
          rotate_left 1
          · (intro w' hSw; (try dsimp only at hSw); go_simp; try with_reducible rfl)
          try simp only [Act.put, List.setIfInBounds_toArray, List.set_cons_zero, List.set_cons_succ]
          refine wpAnyH_take2 (i := 8) (oi := _) (d := some 112) (v := ?_) rfl rfl (by kernel_rfl) (by kernel_rfl) (by kernel_rfl) (fun _ _ _ h => h) (Or.inl ⟨by rfl, ?_⟩) (by assumption) ?_
          rotate_left 1
          · (intro w' hSw; (try dsimp only at hSw); go_simp; try with_reducible rfl)
          try simp only [Act.put, List.setIfInBounds_toArray, List.set_cons_zero, List.set_cons_succ]
          refine wpAnyH_take2 (i := 9) (oi := _) (d := some 113) (v := ?_) rfl rfl (by kernel_rfl) (by kernel_rfl) (by kernel_rfl) (fun _ _ _ h => h) (Or.inl ⟨by rfl, ?_⟩) (by assumption) ?_
          rotate_left 1
          · (intro w' hSw; (try dsimp only at hSw); go_simp; try with_reducible rfl)
          try simp only [Act.put, List.setIfInBounds_toArray, List.set_cons_zero, List.set_cons_succ]
          refine wpAnyH_take2 (i := 10) (oi := _) (d := some 114) (v := ?_) rfl rfl (by kernel_rfl) (by kernel_rfl) (by kernel_rfl) (fun _ _ _ h => h) (Or.inl ⟨by rfl, ?_⟩) (by assumption) ?_
          rotate_left 1
          · (intro w' hSw; (try dsimp only at hSw); go_simp; try with_reducible rfl)
          try simp only [Act.put, List.setIfInBounds_toArray, List.set_cons_zero, List.set_cons_succ]
          refine wpAnyH_take2 (i := 11) (oi := _) (d := some 115) (v := ?_) rfl rfl (by kernel_rfl) (by kernel_rfl) (by kernel_rfl) (fun _ _ _ h => h) (Or.inl ⟨by rfl, ?_⟩) (by assumption) ?_
          rotate_left 1
          · (intro w' hSw; (try dsimp only at hSw); go_simp; try with_reducible rfl)
          try simp only [Act.put, List.setIfInBounds_toArray, List.set_cons_zero, List.set_cons_succ]
          refine wpAnyH_take2 (i := 12) (oi := _) (d := some 116) (v := ?_) rfl rfl (by kernel_rfl) (by kernel_rfl) (by kernel_rfl) (fun _ _ _ h => h) (Or.inl ⟨by rfl, ?_⟩) (by assumption) ?_
          rotate_left 1
          · (intro w' hSw; (try dsimp only at hSw); go_simp; try with_reducible rfl)
          try simp only [Act.put, List.setIfInBounds_toArray, List.set_cons_zero, List.set_cons_succ]
          refine wpAnyH_take2 (i := 13) (oi := _) (d := some 117) (v := ?_) rfl rfl (by kernel_rfl) (by kernel_rfl) (by kernel_rfl) (fun _ _ _ h => h) (Or.inl ⟨by rfl, ?_⟩) (by assumption) ?_
          rotate_left 1
          · (intro w' hSw; (try dsimp only at hSw); go_simp; try with_reducible rfl)
          try simp only [Act.put, List.setIfInBounds_toArray, List.set_cons_zero, List.set_cons_succ]
          refine wpAnyH_take2 (i := 14) (oi := _) (d := some 118) (v := ?_) rfl rfl (by kernel_rfl) (by kernel_rfl) (by kernel_rfl) (fun _ _ _ h => h) (Or.inl ⟨by rfl, ?_⟩) (by assumption) ?_
          rotate_left 1
          · (intro w' hSw; (try dsimp only at hSw); go_simp; try with_reducible rfl)
          try simp only [Act.put, List.setIfInBounds_toArray, List.set_cons_zero, List.set_cons_succ]
          refine wpAnyH_take2 (i := 15) (oi := _) (d := some 119) (v := ?_) rfl rfl (by kernel_rfl) (by kernel_rfl) (by kernel_rfl) (fun _ _ _ h => h) (Or.inl ⟨by rfl, ?_⟩) (by assumption) ?_
          rotate_left 1
          · (intro w' hSw; (try dsimp only at hSw); go_simp; try with_reducible rfl)
          try simp only [Act.put, List.setIfInBounds_toArray, List.set_cons_zero, List.set_cons_succ]
          refine wpAnyH_take2 (i := 16) (oi := _) (d := some 120) (v := ?_) rfl rfl (by kernel_rfl) (by kernel_rfl) (by kernel_rfl) (fun _ _ _ h => h) (Or.inl ⟨by rfl, ?_⟩) (by assumption) ?_
          rotate_left 1
          · (intro w' hSw; (try dsimp only at hSw); go_simp; try with_reducible rfl)
          try simp only [Act.put, List.setIfInBounds_toArray, List.set_cons_zero, List.set_cons_succ]
          refine wpAnyH_take2 (i := 17) (oi := _) (d := some 121) (v := ?_) rfl rfl (by kernel_rfl) (by kernel_rfl) (by kernel_rfl) (fun _ _ _ h => h) (Or.inl ⟨by rfl, ?_⟩) (by assumption) ?_
          rotate_left 1
          · (intro w' hSw; (try dsimp only at hSw); go_simp; try with_reducible rfl)
          try simp only [Act.put, List.setIfInBounds_toArray, List.set_cons_zero, List.set_cons_succ]
          refine wpAnyH_take2 (i := 18) (oi := _) (d := some 122) (v := ?_) rfl rfl (by kernel_rfl) (by kernel_rfl) (by kernel_rfl) (fun _ _ _ h => h) (Or.inl ⟨by rfl, ?_⟩) (by assumption) ?_
          rotate_left 1
          · (intro w' hSw; (try dsimp only at hSw); go_simp; try with_reducible rfl)
          try simp only [Act.put, List.setIfInBounds_toArray, List.set_cons_zero, List.set_cons_succ]
          refine wpAnyH_take2 (i := 19) (oi := _) (d := some 123) (v := ?_) rfl rfl (by kernel_rfl) (by kernel_rfl) (by kernel_rfl) (fun _ _ _ h => h) (Or.inl ⟨by rfl, ?_⟩) (by assumption) ?_
          rotate_left 1
          · (intro w' hSw; (try dsimp only at hSw); go_simp; try with_reducible rfl)
          try simp only [Act.put, List.setIfInBounds_toArray, List.set_cons_zero, List.set_cons_succ]
          refine wpAnyH_take2 (i := 20) (oi := _) (d := some 124) (v := ?_) rfl rfl (by kernel_rfl) (by kernel_rfl) (by kernel_rfl) (fun _ _ _ h => h) (Or.inl ⟨by rfl, ?_⟩) (by assumption) ?_
          rotate_left 1
          · (intro w' hSw; (try dsimp only at hSw); go_simp; try with_reducible rfl)
          try simp only [Act.put, List.setIfInBounds_toArray, List.set_cons_zero, List.set_cons_succ]
          refine wpAnyH_take2 (i := 21) (oi := _) (d := some 125) (v := ?_) rfl rfl (by kernel_rfl) (by kernel_rfl) (by kernel_rfl) (fun _ _ _ h => h) (Or.inl ⟨by rfl, ?_⟩) (by assumption) ?_
          rotate_left 1
          · (intro w' hSw; (try dsimp only at hSw); go_simp; try with_reducible rfl)
          try simp only [Act.put, List.setIfInBounds_toArray, List.set_cons_zero, List.set_cons_succ]
          refine wpAnyH_take2 (i := 22) (oi := _) (d := some 126) (v := ?_) rfl rfl (by kernel_rfl) (by kernel_rfl) (by kernel_rfl) (fun _ _ _ h => h) (Or.inl ⟨by rfl, ?_⟩) (by assumption) ?_
          rotate_left 1
          · (intro w' hSw; (try dsimp only at hSw); go_simp; try with_reducible rfl)
          try simp only [Act.put, List.setIfInBounds_toArray, List.set_cons_zero, List.set_cons_succ]
          refine wpAnyH_take2 (i := 23) (oi := _) (d := some 127) (v := ?_) rfl rfl (by kernel_rfl) (by kernel_rfl) (by kernel_rfl) (fun _ _ _ h => h) (Or.inl ⟨by rfl, ?_⟩) (by assumption) ?_
          rotate_left 1
          · (intro w' hSw; (try dsimp only at hSw); go_simp; try with_reducible rfl)
          try simp only [Act.put, List.setIfInBounds_toArray, List.set_cons_zero, List.set_cons_succ]
          refine wpAnyH_ready (rs := [24]) (by kernel_rfl) (by simp) ?_
          refine AllReadyH.cons (o := _) rfl (fun K hK => ?_) ?_
          rotate_left
          · exact AllReadyH.nil
          go_simp
          go_at_call 11; refine (works_any _).mono ?_; rintro e w8 ⟨rfl, hb8⟩; have HB8 := Lib.hid ((below_drewN (Below.refl _ _) 1 : Below W'.heap.size W' _).trans hb8); clear hb8; have hr8 := HRB.out.below HB8.out HRB.out.lt; have hq8 : w8.cell? ⟨w.heap.size + 1, 0, none⟩ = some (.bool false) := (by rw [hr8.cell]; rfl); have hf8 := hr8.frozen 0; have HR8 := Lib.hid hr8; clear hr8
          refine hK.out _ _ ?_ (fun hHeld => ?_)
          · (try dsimp only); exact HC0.out _ HB8.out
          clear hK K
          try simp only [Act.put, List.setIfInBounds_toArray, List.set_cons_zero, List.set_cons_succ]
          refine wpAnyH_take2 (i := 25) (oi := _) (d := some 129) (v := ?_) rfl rfl (by kernel_rfl) (by kernel_rfl) (by kernel_rfl) (fun _ _ _ h => h) (Or.inl ⟨by rfl, ?_⟩) (by assumption) ?_
          rotate_left 1
          · (intro w' hSw; (try dsimp only at hSw); go_simp; try with_reducible rfl)
          try simp only [Act.put, List.setIfInBounds_toArray, List.set_cons_zero, List.set_cons_succ]
          refine wpAnyH_ready (rs := [26]) (by kernel_rfl) (by simp) ?_
          refine AllReadyH.cons (o := _) rfl (fun K hK => ?_) ?_
          rotate_left
          · exact AllReadyH.nil
          go_simp
          refine hK.out _ _ ?_ (fun hHeld => ?_)
          · (try dsimp only); exact HC1.out _ (HS2.out w8 (.bool true) (HPE.out.next HB8.out))
          clear hK K
          try simp only [Act.put, List.setIfInBounds_toArray, List.set_cons_zero, List.set_cons_succ]
          refine wpAnyH_done (by kernel_rfl) ?_ _
          refine NoPanic.normal ?_
          go_wp2
          have hDlt := (Array.getElem?_eq_some_iff.1 hK).1
          have hwz := HBW.out.size
          have hwz4 := HW4.out.below.size
          obtain ⟨m1, m2, m3⟩ := mark_end HR8.out (HBW.out.trans (HB8.out.mono hwz)) (Nat.le_succ _) ((HB8.out.block _ hDlt).trans hK) (by omega) (.bool true)
          refine ⟨by simp, .inl ⟨_, _, rfl, run_takeDeferred m1, ?_⟩⟩
          refine ⟨.bool true, ?_, rfl, m3⟩
          simp [results, Try.f10, go_sem, m2]
        · skip
          skip
          skip
          simp only [if_neg hca, if_neg hcd] at hc1
          have hc0 := fun W (hW : Below W'.heap.size W' W) => hc1 W (HPE.out.next hW)
          have HC0 := Lib.hid hc0
          have HC1 := Lib.hid hc1
          clear hc0 hc1
          refine wp_region_noPanic ?_
          refine wp_region_held_drew (S := (fun w' => w'.cell? ⟨w.heap.size, 0, none⟩ = some (.slice Ad nd cd) ∧ w'.cell? ⟨w1.heap.size, 0, none⟩ = some (.slice Aa na ca) ∧ w'.cell? ⟨kb, 0, none⟩ = some (.int .i64 KN) ∧ w'.cell? ⟨lb, 0, none⟩ = some (.int .i64 na) ∧ (convert 34 9 (.slice (Option.map (fun x => Addr.add x KN) Aa) (na - KN) (ca - KN))).run Try.prog w' = .ok (.string (strOfNums RR)) w' ∧ (convert 34 9 (.slice (Option.map (fun x => Addr.add x pn) Ad) (nd - pn) (cd - pn))).run Try.prog w' = .ok (.string (strOfNums RR)) w')) (by kernel_rfl) ?_ (fun hHeld => ?_)
          · (try dsimp only); exact HC0.out _ (below_drewN (Below.refl _ _) 1)
          refine wpAnyH_take2 (i := 0) (oi := _) (d := some 104) (v := ?_) rfl rfl (by kernel_rfl) (by kernel_rfl) (by kernel_rfl) (fun _ _ _ h => h) (Or.inl ⟨by rfl, ?_⟩) (by assumption) ?_
          rotate_left 1
          · (intro w' hSw; (try dsimp only at hSw); go_simp; try with_reducible rfl)
          try simp only [Act.put, List.setIfInBounds_toArray, List.set_cons_zero, List.set_cons_succ]
          refine wpAnyH_ready (rs := [1]) (by kernel_rfl) (by simp) ?_
          refine AllReadyH.cons (o := _) rfl (fun K hK => ?_) ?_
          rotate_left
          · exact AllReadyH.nil
          go_simp
          go_at_call 16; refine (num_any _ _).mono ?_; rintro e w7 ⟨rfl, hw⟩; obtain rfl := hw
          refine hK.out _ _ ?_ (fun hHeld => ?_)
          · (try dsimp only); exact HC0.out _ (below_drewN (Below.refl _ _) 1)
          clear hK K
          try simp only [Act.put, List.setIfInBounds_toArray, List.set_cons_zero, List.set_cons_succ]
          refine wpAnyH_take2 (i := 2) (oi := _) (d := some 106) (v := ?_) rfl rfl (by kernel_rfl) (by kernel_rfl) (by kernel_rfl) (fun _ _ _ h => h) (Or.inl ⟨by rfl, ?_⟩) (by assumption) ?_
          rotate_left 1
          · (intro w' hSw; (try dsimp only at hSw); go_simp; try with_reducible rfl)
          try simp only [Act.put, List.setIfInBounds_toArray, List.set_cons_zero, List.set_cons_succ]
          refine wpAnyH_take2 (i := 3) (oi := _) (d := some 107) (v := ?_) rfl rfl (by kernel_rfl) (by kernel_rfl) (by kernel_rfl) (fun _ _ _ h => h) (Or.inl ⟨by rfl, ?_⟩) (by assumption) ?_
          rotate_left 1
          · (intro w' hSw; (try dsimp only at hSw); go_simp; try with_reducible rfl)
          try simp only [Act.put, List.setIfInBounds_toArray, List.set_cons_zero, List.set_cons_succ]
          refine wpAnyH_take2 (i := 4) (oi := _) (d := some 108) (v := ?_) rfl rfl (by kernel_rfl) (by kernel_rfl) (by kernel_rfl) (fun _ _ _ h => h) (Or.inl ⟨by rfl, ?_⟩) (by assumption) ?_
          rotate_left 1
          · (intro w' hSw; (try dsimp only at hSw); go_simp; try with_reducible rfl)
          try simp only [Act.put, List.setIfInBounds_toArray, List.set_cons_zero, List.set_cons_succ]
          refine wpAnyH_take2 (i := 5) (oi := _) (d := some 109) (v := ?_) rfl rfl (by kernel_rfl) (by kernel_rfl) (by kernel_rfl) (fun _ _ _ h => h) (Or.inl ⟨by rfl, ?_⟩) (by assumption) ?_
          rotate_left 1
          · (intro w' hSw; (try dsimp only at hSw); go_simp; try with_reducible rfl)
          try simp only [Act.put, List.setIfInBounds_toArray, List.set_cons_zero, List.set_cons_succ]
          refine wpAnyH_take2 (i := 6) (oi := _) (d := some 110) (v := ?_) rfl rfl (by kernel_rfl) (by kernel_rfl) (by kernel_rfl) (fun _ _ _ h => h) (Or.inl ⟨by rfl, ?_⟩) (by assumption) ?_
          rotate_left 1
          · (intro w' hSw; (try dsimp only at hSw); go_simp; try with_reducible rfl)
          try simp only [Act.put, List.setIfInBounds_toArray, List.set_cons_zero, List.set_cons_succ]
          refine wpAnyH_take2 (i := 7) (oi := _) (d := some 111) (v := ?_) rfl rfl (by kernel_rfl) (by kernel_rfl) (by kernel_rfl) (fun _ _ _ h => h) (Or.inl ⟨by rfl, ?_⟩) (by assumption) ?_
          rotate_left 1
          · (intro w' hSw; (try dsimp only at hSw); go_simp; try with_reducible rfl)
          try simp only [Act.put, List.setIfInBounds_toArray, List.set_cons_zero, List.set_cons_succ]
          refine wpAnyH_take2 (i := 8) (oi := _) (d := some 112) (v := ?_) rfl rfl (by kernel_rfl) (by kernel_rfl) (by kernel_rfl) (fun _ _ _ h => h) (Or.inl ⟨by rfl, ?_⟩) (by assumption) ?_
          rotate_left 1
          · (intro w' hSw; (try dsimp only at hSw); go_simp; try with_reducible rfl)
          try simp only [Act.put, List.setIfInBounds_toArray, List.set_cons_zero, List.set_cons_succ]
          refine wpAnyH_take2 (i := 9) (oi := _) (d := some 113) (v := ?_) rfl rfl (by kernel_rfl) (by kernel_rfl) (by kernel_rfl) (fun _ _ _ h => h) (Or.inl ⟨by rfl, ?_⟩) (by assumption) ?_
          rotate_left 1
          · (intro w' hSw; (try dsimp only at hSw); go_simp; try with_reducible rfl)
          try simp only [Act.put, List.setIfInBounds_toArray, List.set_cons_zero, List.set_cons_succ]
          refine wpAnyH_take2 (i := 10) (oi := _) (d := some 114) (v := ?_) rfl rfl (by kernel_rfl) (by kernel_rfl) (by kernel_rfl) (fun _ _ _ h => h) (Or.inl ⟨by rfl, ?_⟩) (by assumption) ?_
          rotate_left 1
          · (intro w' hSw; (try dsimp only at hSw); go_simp; try with_reducible rfl)
          try simp only [Act.put, List.setIfInBounds_toArray, List.set_cons_zero, List.set_cons_succ]
          refine wpAnyH_take2 (i := 11) (oi := _) (d := some 115) (v := ?_) rfl rfl (by kernel_rfl) (by kernel_rfl) (by kernel_rfl) (fun _ _ _ h => h) (Or.inl ⟨by rfl, ?_⟩) (by assumption) ?_
          rotate_left 1
          · (intro w' hSw; (try dsimp only at hSw); go_simp; try with_reducible rfl)
          try simp only [Act.put, List.setIfInBounds_toArray, List.set_cons_zero, List.set_cons_succ]
          refine wpAnyH_take2 (i := 12) (oi := _) (d := some 116) (v := ?_) rfl rfl (by kernel_rfl) (by kernel_rfl) (by kernel_rfl) (fun _ _ _ h => h) (Or.inl ⟨by rfl, ?_⟩) (by assumption) ?_
          rotate_left 1
          · (intro w' hSw; (try dsimp only at hSw); go_simp; try with_reducible rfl)
          try simp only [Act.put, List.setIfInBounds_toArray, List.set_cons_zero, List.set_cons_succ]
          refine wpAnyH_take2 (i := 13) (oi := _) (d := some 117) (v := ?_) rfl rfl (by kernel_rfl) (by kernel_rfl) (by kernel_rfl) (fun _ _ _ h => h) (Or.inl ⟨by rfl, ?_⟩) (by assumption) ?_
          rotate_left 1
          · (intro w' hSw; (try dsimp only at hSw); go_simp; try with_reducible rfl)
          try simp only [Act.put, List.setIfInBounds_toArray, List.set_cons_zero, List.set_cons_succ]
          refine wpAnyH_take2 (i := 14) (oi := _) (d := some 118) (v := ?_) rfl rfl (by kernel_rfl) (by kernel_rfl) (by kernel_rfl) (fun _ _ _ h => h) (Or.inl ⟨by rfl, ?_⟩) (by assumption) ?_
          rotate_left 1
          · (intro w' hSw; (try dsimp only at hSw); go_simp; try with_reducible rfl)
          try simp only [Act.put, List.setIfInBounds_toArray, List.set_cons_zero, List.set_cons_succ]
          refine wpAnyH_take2 (i := 15) (oi := _) (d := some 119) (v := ?_) rfl rfl (by kernel_rfl) (by kernel_rfl) (by kernel_rfl) (fun _ _ _ h => h) (Or.inl ⟨by rfl, ?_⟩) (by assumption) ?_
          rotate_left 1
          · (intro w' hSw; (try dsimp only at hSw); go_simp; try with_reducible rfl)
          try simp only [Act.put, List.setIfInBounds_toArray, List.set_cons_zero, List.set_cons_succ]
          refine wpAnyH_take2 (i := 16) (oi := _) (d := some 120) (v := ?_) rfl rfl (by kernel_rfl) (by kernel_rfl) (by kernel_rfl) (fun _ _ _ h => h) (Or.inl ⟨by rfl, ?_⟩) (by assumption) ?_
          rotate_left 1
          · (intro w' hSw; (try dsimp only at hSw); go_simp; try with_reducible rfl)
          try simp only [Act.put, List.setIfInBounds_toArray, List.set_cons_zero, List.set_cons_succ]
          refine wpAnyH_take2 (i := 17) (oi := _) (d := some 121) (v := ?_) rfl rfl (by kernel_rfl) (by kernel_rfl) (by kernel_rfl) (fun _ _ _ h => h) (Or.inl ⟨by rfl, ?_⟩) (by assumption) ?_
          rotate_left 1
          · (intro w' hSw; (try dsimp only at hSw); go_simp; try with_reducible rfl)
          try simp only [Act.put, List.setIfInBounds_toArray, List.set_cons_zero, List.set_cons_succ]
          refine wpAnyH_take2 (i := 18) (oi := _) (d := some 122) (v := ?_) rfl rfl (by kernel_rfl) (by kernel_rfl) (by kernel_rfl) (fun _ _ _ h => h) (Or.inl ⟨by rfl, ?_⟩) (by assumption) ?_
          rotate_left 1
          · (intro w' hSw; (try dsimp only at hSw); go_simp; try with_reducible rfl)
          try simp only [Act.put, List.setIfInBounds_toArray, List.set_cons_zero, List.set_cons_succ]
          refine wpAnyH_take2 (i := 19) (oi := _) (d := some 123) (v := ?_) rfl rfl (by kernel_rfl) (by kernel_rfl) (by kernel_rfl) (fun _ _ _ h => h) (Or.inl ⟨by rfl, ?_⟩) (by assumption) ?_
          rotate_left 1
          · (intro w' hSw; (try dsimp only at hSw); go_simp; try with_reducible rfl)
          try simp only [Act.put, List.setIfInBounds_toArray, List.set_cons_zero, List.set_cons_succ]
          refine wpAnyH_take2 (i := 20) (oi := _) (d := some 124) (v := ?_) rfl rfl (by kernel_rfl) (by kernel_rfl) (by kernel_rfl) (fun _ _ _ h => h) (Or.inl ⟨by rfl, ?_⟩) (by assumption) ?_
          rotate_left 1
          · (intro w' hSw; (try dsimp only at hSw); go_simp; try with_reducible rfl)
          try simp only [Act.put, List.setIfInBounds_toArray, List.set_cons_zero, List.set_cons_succ]
          refine wpAnyH_take2 (i := 21) (oi := _) (d := some 125) (v := ?_) rfl rfl (by kernel_rfl) (by kernel_rfl) (by kernel_rfl) (fun _ _ _ h => h) (Or.inl ⟨by rfl, ?_⟩) (by assumption) ?_
          rotate_left 1
          · (intro w' hSw; (try dsimp only at hSw); go_simp; try with_reducible rfl)
          try simp only [Act.put, List.setIfInBounds_toArray, List.set_cons_zero, List.set_cons_succ]
          refine wpAnyH_take2 (i := 22) (oi := _) (d := some 126) (v := ?_) rfl rfl (by kernel_rfl) (by kernel_rfl) (by kernel_rfl) (fun _ _ _ h => h) (Or.inl ⟨by rfl, ?_⟩) (by assumption) ?_
          rotate_left 1
          · (intro w' hSw; (try dsimp only at hSw); go_simp; try with_reducible rfl)
          try simp only [Act.put, List.setIfInBounds_toArray, List.set_cons_zero, List.set_cons_succ]
          refine wpAnyH_take2 (i := 23) (oi := _) (d := some 127) (v := ?_) rfl rfl (by kernel_rfl) (by kernel_rfl) (by kernel_rfl) (fun _ _ _ h => h) (Or.inl ⟨by rfl, ?_⟩) (by assumption) ?_
          rotate_left 1
          · (intro w' hSw; (try dsimp only at hSw); go_simp; try with_reducible rfl)
          try simp only [Act.put, List.setIfInBounds_toArray, List.set_cons_zero, List.set_cons_succ]
          refine wpAnyH_ready (rs := [24]) (by kernel_rfl) (by simp) ?_
          refine AllReadyH.cons (o := _) rfl (fun K hK => ?_) ?_
          rotate_left
          · exact AllReadyH.nil
          go_simp
          go_at_call 11; refine (works_any _).mono ?_; rintro e w8 ⟨rfl, hb8⟩; have HB8 := Lib.hid ((below_drewN (Below.refl _ _) 1 : Below W'.heap.size W' _).trans hb8); clear hb8; have hr8 := HRB.out.below HB8.out HRB.out.lt; have hq8 : w8.cell? ⟨w.heap.size + 1, 0, none⟩ = some (.bool false) := (by rw [hr8.cell]; rfl); have hf8 := hr8.frozen 0; have HR8 := Lib.hid hr8; clear hr8
          refine hK.out _ _ ?_ (fun hHeld => ?_)
          · (try dsimp only); exact HC0.out _ HB8.out
          clear hK K
          try simp only [Act.put, List.setIfInBounds_toArray, List.set_cons_zero, List.set_cons_succ]
          refine wpAnyH_take2 (i := 25) (oi := _) (d := some 129) (v := ?_) rfl rfl (by kernel_rfl) (by kernel_rfl) (by kernel_rfl) (fun _ _ _ h => h) (Or.inl ⟨by rfl, ?_⟩) (by assumption) ?_
          rotate_left 1
          · (intro w' hSw; (try dsimp only at hSw); go_simp; try with_reducible rfl)
          try simp only [Act.put, List.setIfInBounds_toArray, List.set_cons_zero, List.set_cons_succ]
          refine wpAnyH_ready (rs := [26]) (by kernel_rfl) (by simp) ?_
          refine AllReadyH.cons (o := _) rfl (fun K hK => ?_) ?_
          rotate_left
          · exact AllReadyH.nil
          go_simp
          refine hK.out _ _ ?_ (fun hHeld => ?_)
          · (try dsimp only); exact HC1.out _ (HS2.out w8 (.bool true) (HPE.out.next HB8.out))
          clear hK K
          try simp only [Act.put, List.setIfInBounds_toArray, List.set_cons_zero, List.set_cons_succ]
          refine wpAnyH_done (by kernel_rfl) ?_ _
          refine NoPanic.normal ?_
          go_wp2
          have hDlt := (Array.getElem?_eq_some_iff.1 hK).1
          have hwz := HBW.out.size
          have hwz4 := HW4.out.below.size
          obtain ⟨m1, m2, m3⟩ := mark_end HR8.out (HBW.out.trans (HB8.out.mono hwz)) (Nat.le_succ _) ((HB8.out.block _ hDlt).trans hK) (by omega) (.bool true)
          refine ⟨by simp, .inl ⟨_, _, rfl, run_takeDeferred m1, ?_⟩⟩
          refine ⟨.bool true, ?_, rfl, m3⟩
          simp [results, Try.f10, go_sem, m2]
    case stop =>
      exact fun _ _ _ _ _ _ _ h => h.elim
end Go.Proofs.Ytamhkfnghgbenaa
