/-
  PlanSteps: the law's walk, at most 100 sequences.
-/
import Derived.Test.YtamhkfnghgbenaaPsBase
namespace Go.Proofs.Ytamhkfnghgbenaa
set_option linter.all false
set_option maxRecDepth 100000
open Go.RowKit Go.Shelf

attribute [local go_sem] Oper.semAt_some eql_func_nil

set_option maxHeartbeats 6400000 in
theorem ps_main {w : World} (v : Value) (ss : List SeqD) (h : Seqs w v ss) (hl : ss.length ≤ 100) (many : Int) (hmany : -9223372036854775808 ≤ many ∧ many ≤ 9223372036854775807) :
    Calls Try.prog 9 #[v, .int .i64 many] w fun e w' => e = .returned (.bool true) ∧ Below w.heap.size w w' := by
  have HS := Lib.hid h
  have HWF := Lib.hid h.2
  have HMANY := Lib.hid hmany
  obtain ⟨⟨A, c, rfl, hlc, hcm, -⟩, -⟩ := h
  obtain ⟨n, hn⟩ : ∃ n, ss.length = n := ⟨_, rfl⟩
  have HN := Lib.hid hn
  rw [hn] at hl hlc HS ⊢
  have hni : (n : Int) ≤ 9223372036854775807 := by omega
  have hn100 : ¬ (100 < (n : Int)) := by omega
  have HL : Hid (n ≤ 100) := (hl : _ ≤ _)
  clear hn hmany hl
  obtain ⟨w0, hw0⟩ : ∃ w0, ((w.alloc (.cells #[.slice A n c] 22)).alloc (.cells #[.int .i64 many] 3)).alloc (.cells #[.bool false] 4) = w0 := ⟨_, rfl⟩
  have hb0 : Below w.heap.size w w0 := by rw [← hw0]; exact (((Below.refl _ w).alloc (Nat.le_refl _) _).alloc (by simp) _).alloc (by simp; omega) _
  have hs0 : w0.heap.size = w.heap.size + 1 + 1 + 1 := by rw [← hw0]; simp
  have hC0 : Blk w0 w.heap.size 22 #[.slice A n c] := by
    rw [← hw0]
    exact (Blk.new w 22 #[.slice A n c]).below (((Below.refl _ _).alloc (Nat.le_refl _) _).alloc (by simp) _) (by simp)
  have hC1 : Blk w0 (w.heap.size + 1) 3 #[.int .i64 many] := by
    rw [← hw0]
    have := (Blk.new (w.alloc (.cells #[.slice A n c] 22)) 3 #[.int .i64 many]).below ((Below.refl _ _).alloc (Nat.le_refl _) (.cells #[.bool false] 4)) (by simp)
    rwa [World.size_alloc] at this
  have hC2 : Blk w0 (w.heap.size + 1 + 1) 4 #[.bool false] := by
    rw [← hw0]
    have := Blk.new ((w.alloc (.cells #[.slice A n c] 22)).alloc (.cells #[.int .i64 many] 3)) 4 #[.bool false]
    rwa [World.size_alloc, World.size_alloc] at this
  have HC0 := Lib.hid hC0
  have HC1 := Lib.hid hC1
  have HC2 := Lib.hid hC2
  have HB0 := Lib.hid hb0
  have HS0 := Lib.hid hs0
  have q0 : w0.cell? ⟨w.heap.size, 0, none⟩ = some (.slice A n c) := by rw [hC0.cell]; rfl
  have HE0 := Lib.hid (seqRow_empty w0)
  have hlt0 : w.heap.size < w0.heap.size := by omega
  clear hC0 hC1 hC2 hb0 hs0
  refine (callsIn_wide (n := 20)).1 ?_
  refine callsIn_of_wp_marks Try.func9 rfl trivial ?_ rfl
  simp only [Try.ntmps9, List.size_toArray, List.length_cons, List.length_nil, Nat.reduceAdd, Nat.reduceSub, Array.replicate_succ, Array.replicate_zero, List.push_toArray, List.append_toArray, List.nil_append, List.cons_append]
  refine wpIn_wide.2 ?_
  go_wp2_with (at_builtin; refine wpList_append_seqs_own rfl _ _ rfl rfl HE0.out rfl (HS.out.below (HB0.out.alloc HB0.out.size _) (Nat.le_refl _)) (by have := HL.out; simp only [List.length_nil]; omega) n (by simp) ?_; intro A1 c1 w1 hrow hgr hown; rw [List.nil_append] at hrow; have HROW := Lib.hid hrow; have HB1 := Lib.hid (((Below.refl w0.heap.size w0).alloc (Nat.le_refl _) (.cells #[] 60)).grown hgr (by simp) (fun r hr => by obtain rfl : w0.heap.size = r := Option.some.inj hr; exact Nat.le_refl _)); have HOWN1 := Lib.hid hown; have HS01 : Hid (w0.heap.size + 1 ≤ w1.heap.size) := (by have := hgr.size; simp at this; omega : _ ≤ _); clear hrow hgr hown; have q1 : w1.cell? ⟨w.heap.size, 0, none⟩ = some (.slice A n c) := by rw [(HC0.out.below HB1.out HC0.out.lt).cell]; rfl)
  refine (rbegins_any w1 (.slice A n c) ss (HS.out.below (HB0.out.trans (HB1.out.mono HB0.out.size)) (Nat.le_refl _)) (by rw [HN.out]; have := HL.out; omega)).mono ?_
  rintro e w2 ⟨A2, c2, rfl, hg2, hb2⟩
  obtain ⟨m, hm⟩ : ∃ m, nGood ss = m := ⟨_, rfl⟩
  have hml := nGood_le ss
  have HM := Lib.hid hm
  rw [hm] at hg2 ⊢
  rw [hm, HN.out] at hml
  have hi2 := hg2.ints
  obtain ⟨w3, hw3⟩ : ∃ w3, w2.alloc (.cells #[.slice A2 m c2] 53) = w3 := ⟨_, rfl⟩
  have hb3 : Below w2.heap.size w2 w3 := by rw [← hw3]; exact (Below.refl _ _).alloc (Nat.le_refl _) _
  have HQ3 : Hid (Blk w3 w2.heap.size 53 #[.slice A2 m c2]) := (by rw [← hw3]; exact Blk.new w2 _ _ : Blk _ _ _ _)
  have hb13 := hb2.trans (hb3.mono hb2.size)
  have HB13 := Lib.hid hb13
  have HI3 := Lib.hid (hi2.below hb3 (Nat.le_refl _))
  have HG3 : Hid (SeqRow w3 (.slice A1 n c1) ss) := (SRow.same HROW.out fun k hk => hb13.block k (SRow.lt HROW.out k hk) : SeqRow _ _ _)
  have HST := Lib.hid (Steps_any w3 (.slice A1 n c1) ss (HG3.out.seqs HWF.out) (by rw [HN.out]; have := HL.out; omega))
  have HML : Hid (m ≤ n) := (hml : _ ≤ _)
  have HS12 := Lib.hid hb2.size
  have HOW2 := Lib.hid (fun k (hk : (Value.slice A2 m c2).ownBlock = some k) => (World.ownsRow.lt hg2 k hk).1)
  clear hm hg2 hb2 hi2 hb3 hb13 hml q0 q1
  go_wp2_with fail
  refine HST.out.mono ?_
  rintro e w4 ⟨B, ov, rfl, hBc, hro, hb4, hB, hov⟩
  rw [HM.out] at hro
  have HG4 : Hid (SeqRow w4 (.slice A1 n c1) ss) := (SRow.same HG3.out fun k hk => hb4.block k (SRow.lt HG3.out k hk) : SeqRow _ _ _)
  have hb34 : Below w1.heap.size w1 w4 := HB13.out.trans (hb4.mono HB13.out.size)
  have hs3 : w2.heap.size < w3.heap.size := HQ3.out.lt
  obtain ⟨gb, hga, hgc, hgo⟩ := SRow.cells_ HG4.out w0.heap.size
  rw [List.length_map, HN.out] at hga hgc
  have hgb : gb = w0.heap.size ∨ gb = w0.heap.size + 1 := by
    rcases hgo with e | e
    · exact .inl e
    · rcases HOWN1.out with e2 | e2
      · rw [e2] at e; exact .inl (Option.some.inj e).symm
      · rw [e2] at e; have := Option.some.inj e; simp at this; omega
  have hps4 : PsW w w4 (.slice A n c) many w2.heap.size (.slice A2 m c2) ss B ov := by
    have h04 := HB1.out.trans (hb34.mono HB1.out.size)
    refine ⟨HB0.out.trans (h04.mono HB0.out.size), HC0.out.below h04 HC0.out.lt, HC1.out.below h04 HC1.out.lt, HC2.out.below h04 HC2.out.lt, HQ3.out.below hb4 HQ3.out.lt, ?_, hBc, ?_⟩
    · rw [HM.out]; exact HI3.out.below hb4 (Nat.le_refl _)
    · rw [HM.out]; exact hro
  have hgl : gb < w1.heap.size := by
    rcases hgo with e | e
    · have := HS01.out; omega
    · exact SRow.lt HROW.out gb e
  have hPL : ∀ W, But w4 W gb none → PsW w W (.slice A n c) many w2.heap.size (.slice A2 m c2) ss B ov := fun W hW => by
    have h2 := HS12.out
    have h3 := HS0.out
    have h4 := HB0.out.size
    exact hps4.but hW (by rcases hgb with e | e <;> omega) (by omega) (fun k hk => by have := HOW2.out k hk; omega) (by omega) (fun k hk => by have := hov k hk; omega)
  have HPL := Lib.hid hPL
  have HGC := Lib.hid hgc
  have HGA := Lib.hid hga
  have HGL : Hid (gb < w4.heap.size) := (by have := hb34.size; omega : _ < _)
  clear hps4 hPL hgo hgb hgl hga hgc hb34 hs3 hro hb4 hBc HST
  go_wp2
  go_loopg [10] n (fun g i wr => ∃ k : Nat, k ≤ n ∧ g = n - k ∧ i = .int .i64 k ∧ Hid (But w4 wr gb none) ∧ Hid (Cells wr gb (n * 3)))
  case atStart => exact ⟨0, Nat.zero_le _, by omega, rfl, (But.refl _ _ _ : But _ _ _ _), (HGC.out : Cells _ _ _)⟩
  case round =>
    obtain ⟨k, hk, hgk, rfl, HBT, HCE⟩ := hrel
    have HGK := Lib.hid hgk
    clear hgk
    have k0 : (0 : Int) ≤ (k : Int) := by omega
    by_cases hlt : k < n
    · have k1 : (k : Int) < (n : Int) := by omega
      obtain rfl := HGA.out (by omega)
      obtain ⟨⟨u0, z0⟩, z1⟩ := HCE.out (k * 3) (by omega)
      go_wp2
      go_roundg (n - (k + 1))
      case measure => have := HGK.out; omega
      case rel => exact ⟨k + 1, by omega, rfl, by go_num, (HBT.out.set_ (k * 3) _ : But _ _ _ _), (HCE.out.set_ _ _ : Cells _ _ _)⟩
    · obtain rfl : n = k := by omega
      have HPW := Lib.hid (HPL.out wr HBT.out)
      go_wp2
      obtain ⟨wt, hwt⟩ : ∃ wt, wr.alloc (.cells #[.int .i64 0] 3) = wt := ⟨_, rfl⟩
      have hbt : Below wr.heap.size wr wt := by rw [← hwt]; exact (Below.refl _ _).alloc (Nat.le_refl _) _
      have HT : Hid (Blk wt wr.heap.size 3 #[.int .i64 0]) := (by rw [← hwt]; exact Blk.new wr _ _ : Blk _ _ _ _)
      have HPT := Lib.hid (HPW.out.next hbt)
      rw [hwt]
      refine wp_loop_rounds 3 ?_
      rw [rounds_succ]
      have zt : wt.cell? ⟨wr.heap.size, 0, none⟩ = some (.int .i64 0) := by rw [HT.out.cell]; rfl
      have htl := HT.out.lt
      go_wp2
      obtain ⟨wn, hwn⟩ : ∃ wn, wt.alloc (.cells #[.int .i64 0] 3) = wn := ⟨_, rfl⟩
      have hbn : Below wt.heap.size wt wn := by rw [← hwn]; exact (Below.refl _ _).alloc (Nat.le_refl _) _
      have hsn : wn.heap.size = wt.heap.size + 1 := by rw [← hwn]; simp
      have hcn : Blk wn wt.heap.size 3 #[.int .i64 0] := by rw [← hwn]; exact Blk.new wt _ _
      rw [hwn]
      refine (wpIn_wide (n := 20)).1 ?_
      refine rangeFunc_yieldB (by omega) (gf := 39) (lb := #[.pointer (some ⟨B, 0, none⟩)]) rfl (enters_of Try.func39 (by kernel_rfl) rfl)
        (steps1_yields wt B ov ss m (by have := HML.out; have := HN.out; omega) (by have := HML.out; have := HL.out; omega) (HM.out ▸ HPT.out.ro) HPT.out.kb) hbn (fun k hk => ?_) (fun _ => rfl)
        (fun pre X => Below wt.heap.size wt X ∧ Blk X wr.heap.size 3 #[.int .i64 0] ∧ Blk X wt.heap.size 3 #[.int .i64 pre.length] ∧ (pre.length = 0 ∨ (pre.length : Int) < many))
        (fun c' pre X => c' = .exit 4 ∧ Below wt.heap.size wt X ∧ Blk X wr.heap.size 3 #[.int .i64 0] ∧ Blk X wt.heap.size 3 #[.int .i64 pre.length] ∧ (pre.length = 1 ∨ (pre.length : Int) - 1 < many) ∧ 1 ≤ pre.length ∧ many ≤ pre.length) ?_ ?_ ?_ ?round ?done ?stop
      · have := SRow.lt HPT.out.ro k hk; omega
      · rintro pre X Y ⟨h1, h2, h3, h4⟩ hX hXY
        exact ⟨h1.trans (hXY.mono (by omega)), h2.below hXY (by omega), h3.below hXY (by omega), h4⟩
      · rintro c' pre X Y ⟨h1, h2, h3, h4, h5⟩ hX hXY
        exact ⟨h1, h2.trans (hXY.mono (by omega)), h3.below hXY (by omega), h4.below hXY (by omega), h5⟩
      · exact ⟨hbn, HT.out.below hbn HT.out.lt, hcn, .inl rfl⟩
      case round =>
        rintro l' pre x W0' K hl' hlW hIp hpre hK
        obtain ⟨p1, s, hsk, rfl⟩ := stepsOf_pre (by have := HML.out; have := HN.out; omega) hpre
        obtain ⟨lit, len, offs⟩ := s
        obtain ⟨k, hk⟩ : ∃ k, pre.length = k := ⟨_, rfl⟩
        have HKL := Lib.hid hk
        have HLEN : Hid (∀ y : StepD, (pre ++ [y]).length = k + 1) := ((fun y => by rw [List.length_append, hk]; rfl) : ∀ y : StepD, _ = _)
        have hwl := HPT.out.below.size
        have hbg := beginsOf_get (ss := ss) p1
        obtain ⟨ps, hps⟩ : ∃ p, posL (ss.take pre.length) = p := ⟨_, rfl⟩
        rw [hps] at hbg ⊢
        rw [hk] at p1 hsk hbg
        have g1 : (k : Int) < (m : Int) := by omega
        have g0 : (0 : Int) ≤ (k : Int) := by omega
        have g2 : (k : Int) < (n : Int) := by have := HML.out; omega
        have hd1 : decide ((m : Int) ≤ (k : Int)) = false := decide_eq_false (by omega)
        have hd2 : decide (m ≤ k) = false := decide_eq_false (by omega)
        have HBG := Lib.hid hbg
        have HSK := Lib.hid hsk
        clear hpre hk hps hbg hsk hIp
        gi_wp2
        refine ⟨(Below.refl _ _).alloc (Nat.le_refl _) _, ?_⟩
        rintro X hXs hXk ⟨h1, h2, h3, h4⟩
        rw [HKL.out] at h3 h4
        have hbx : Blk X W0'.heap.size 60 #[.int .i64 lit, .int .i64 len, .int .i64 offs] := (hXk.block W0'.heap.size (by omega) (by simp)).trans (Blk.new W0' _ _)
        have hpx := HPT.out.next h1
        have s0 : X.cell? ⟨W0'.heap.size, 0, none⟩ = some (.int .i64 lit) := by rw [hbx.cell]; rfl
        have s1 : X.cell? ⟨W0'.heap.size, 1, none⟩ = some (.int .i64 len) := by rw [hbx.cell]; rfl
        have s2 : X.cell? ⟨W0'.heap.size, 2, none⟩ = some (.int .i64 offs) := by rw [hbx.cell]; rfl
        have c0 : X.cell? ⟨w.heap.size, 0, none⟩ = some (.slice A n c) := by rw [hpx.kl.cell]; rfl
        have c1 : X.cell? ⟨w.heap.size + 1, 0, none⟩ = some (.int .i64 many) := by rw [hpx.km.cell]; rfl
        have c2' : X.cell? ⟨w2.heap.size, 0, none⟩ = some (.slice A2 m c2) := by rw [hpx.kq.cell]; rfl
        have c3 : X.cell? ⟨wr.heap.size, 0, none⟩ = some (.int .i64 0) := by rw [h2.cell]; rfl
        have c4 : X.cell? ⟨wt.heap.size, 0, none⟩ = some (.int .i64 k) := by rw [h3.cell]; rfl
        have c5 := h3.frozen 0
        have hne1 : wt.heap.size ≠ wr.heap.size := by omega
        have hq0 := HPT.out.kq.lt
        have hm0 := HPT.out.km.lt
        have hne2 : wt.heap.size ≠ w2.heap.size := by omega
        have hne3 : wt.heap.size ≠ w.heap.size + 1 := by omega
        obtain ⟨b2, o2, rfl, d0⟩ := Ints.cell_at (HM.out ▸ hpx.iw) HBG.out
        obtain ⟨b3, o3, rfl, e0, e1, e2⟩ := Seqs.cell_at (HS.out.below hpx.below (Nat.le_refl _)) HSK.out
        simp only at e0 e1 e2
        have hng := fun W x y => run_guard_seq W x y ⟨lit, len, offs⟩ ⟨lit, len, offs⟩
        have hnq := fun W => run_neq_seq W ⟨lit, len, offs⟩ ⟨lit, len, offs⟩
        simp only [decide_true, Bool.not_true] at hng hnq
        have H1 := Lib.hid h1
        have H2 := Lib.hid h2
        have H3 := Lib.hid h3
        have H4 := Lib.hid h4
        clear h1 h2 h3 h4 hbx hpx hXs hXk
        gi_wp2
        refine wpIn_region_quiet_round (F := Fence.wide) rfl (by kernel_rfl) (by kernel_rfl) (by kernel_rfl) ?_
        repeat (gi_big_quiet_step (fail))
        refine wpQuietIn_nil ?_
        intro _ hw'
        obtain ⟨nq, hw''⟩ := hw'
        subst hw''
        gi_wp2
        · obtain ⟨t1, t2, t3, t4⟩ := turn_tick nq H1.out H2.out H3.out (by omega) (Nat.le_refl _)
          refine ⟨t4 _ (fun h => by omega), rfl, t1, t2, ?_, ?_⟩
          · rw [HLEN.out]; exact t3
          · rw [HLEN.out]; have := H4.out; omega
        · obtain ⟨t1, t2, t3, t4⟩ := turn_tick nq H1.out H2.out H3.out (by omega) (Nat.le_refl _)
          refine ⟨t4 _ (fun h => ?_), t1, t2, ?_, ?_⟩
          · rcases h with h | h
            · have := SRow.lt HPT.out.ro _ h; omega
            · omega
          · rw [HLEN.out]; exact t3
          · rw [HLEN.out]; omega
      case done =>
        rintro D W' hD hW' ⟨h1, h2, h3, h4⟩ hK
        rw [stepsOf_length (by have := HML.out; have := HN.out; omega)] at h3 h4
        obtain ⟨mm, hmm⟩ : ∃ mm, mm = m := ⟨_, rfl⟩
        rw [← hmm] at h3
        have hmm0 : (mm = m ∧ (m = 0 ∨ (m : Int) < many)) ∨ (1 ≤ mm ∧ mm ≤ m ∧ (mm = 1 ∨ (mm : Int) - 1 < many) ∧ many ≤ mm) := .inl ⟨hmm, h4⟩
        clear hmm h4
        have hpx := HPT.out.next h1
        have c1 : W'.cell? ⟨w.heap.size + 1, 0, none⟩ = some (.int .i64 many) := by rw [hpx.km.cell]; rfl
        have c2' : W'.cell? ⟨w2.heap.size, 0, none⟩ = some (.slice A2 m c2) := by rw [hpx.kq.cell]; rfl
        have c3 : W'.cell? ⟨wr.heap.size, 0, none⟩ = some (.int .i64 0) := by rw [h2.cell]; rfl
        have c4 : W'.cell? ⟨wt.heap.size, 0, none⟩ = some (.int .i64 mm) := by rw [h3.cell]; rfl
        have htl' := h2.lt
        have HP0 := Lib.hid hpx
        clear h1 h2 h3 hpx
        obtain ⟨mx, hmx⟩ : ∃ mx, (if (1 : Int) < many then many else 1) = mx := ⟨_, rfl⟩
        have hmn : (if mx < (m : Int) then mx else (m : Int)) = (mm : Int) := by rw [← hmx]; split <;> split <;> omega
        clear hmm0
        go_wp2
        clear hmx hmn c1 c2' c3 c4
        obtain ⟨wt2, hwt2⟩ : ∃ wt2, W'.alloc (.cells #[.int .i64 1] 3) = wt2 := ⟨_, rfl⟩
        have hbt2 : Below W'.heap.size W' wt2 := by rw [← hwt2]; exact (Below.refl _ _).alloc (Nat.le_refl _) _
        have HT2 : Hid (Blk wt2 W'.heap.size 3 #[.int .i64 1]) := (by rw [← hwt2]; exact Blk.new W' _ _ : Blk _ _ _ _)
        have HPT2 := Lib.hid (HP0.out.next hbt2)
        have hDlt := (Array.getElem?_eq_some_iff.1 hK).1
        have HK1 : Hid (wt2.heap[D]? = some (.deferred (some []))) := ((hbt2.block _ hDlt).trans hK : _ = _)
        have hDlt2 : D < wt2.heap.size := by have := hbt2.size; omega
        rw [hwt2]
        clear hK HP0
        rw [rounds_succ]
        have zt : wt2.cell? ⟨W'.heap.size, 0, none⟩ = some (.int .i64 1) := by rw [HT2.out.cell]; rfl
        have htl := HT2.out.lt
        go_wp2
        obtain ⟨wn, hwn⟩ : ∃ wn, wt2.alloc (.cells #[.int .i64 0] 3) = wn := ⟨_, rfl⟩
        have hbn : Below wt2.heap.size wt2 wn := by rw [← hwn]; exact (Below.refl _ _).alloc (Nat.le_refl _) _
        have hsn : wn.heap.size = wt2.heap.size + 1 := by rw [← hwn]; simp
        have hcn : Blk wn wt2.heap.size 3 #[.int .i64 0] := by rw [← hwn]; exact Blk.new wt2 _ _
        rw [hwn]
        refine (wpIn_wide (n := 20)).1 ?_
        refine rangeFunc_yieldB (by omega) (gf := 39) (lb := #[.pointer (some ⟨B, 0, none⟩)]) rfl (enters_of Try.func39 (by kernel_rfl) rfl)
          (steps1_yields wt2 B ov ss m (by have := HML.out; have := HN.out; omega) (by have := HML.out; have := HL.out; omega) (HM.out ▸ HPT2.out.ro) HPT2.out.kb) hbn (fun k hk => ?_) (fun _ => rfl)
          (fun pre X => Below wt2.heap.size wt2 X ∧ Blk X W'.heap.size 3 #[.int .i64 1] ∧ Blk X wt2.heap.size 3 #[.int .i64 pre.length] ∧ True)
          (fun c' pre X => False) ?_ ?_ ?_ ?round1 ?done1 ?stop1
        · have := SRow.lt HPT2.out.ro k hk; omega
        · rintro pre X Y ⟨h1, h2, h3, h4⟩ hX hXY
          exact ⟨h1.trans (hXY.mono (by omega)), h2.below hXY (by omega), h3.below hXY (by omega), h4⟩
        · exact fun _ _ _ _ h => h.elim
        · exact ⟨hbn, HT2.out.below hbn HT2.out.lt, hcn, trivial⟩
        case round1 =>
          rintro l' pre x W0' K hl' hlW hIp hpre hK
          obtain ⟨p1, s, hsk, rfl⟩ := stepsOf_pre (by have := HML.out; have := HN.out; omega) hpre
          obtain ⟨lit, len, offs⟩ := s
          obtain ⟨k, hk⟩ : ∃ k, pre.length = k := ⟨_, rfl⟩
          have HKL := Lib.hid hk
          have HLEN : Hid (∀ y : StepD, (pre ++ [y]).length = k + 1) := ((fun y => by rw [List.length_append, hk]; rfl) : ∀ y : StepD, _ = _)
          have hwl := HPT2.out.below.size
          have hbg := beginsOf_get (ss := ss) p1
          obtain ⟨ps, hps⟩ : ∃ p, posL (ss.take pre.length) = p := ⟨_, rfl⟩
          rw [hps] at hbg ⊢
          rw [hk] at p1 hsk hbg
          have g1 : (k : Int) < (m : Int) := by omega
          have g0 : (0 : Int) ≤ (k : Int) := by omega
          have g2 : (k : Int) < (n : Int) := by have := HML.out; omega
          have hd1 : decide ((m : Int) ≤ (k : Int)) = false := decide_eq_false (by omega)
          have hd2 : decide (m ≤ k) = false := decide_eq_false (by omega)
          have HBG := Lib.hid hbg
          have HSK := Lib.hid hsk
          clear hpre hk hps hbg hsk hIp
          gi_wp2
          refine ⟨(Below.refl _ _).alloc (Nat.le_refl _) _, ?_⟩
          rintro X hXs hXk ⟨h1, h2, h3, h4⟩
          rw [HKL.out] at h3
          have hbx : Blk X W0'.heap.size 60 #[.int .i64 lit, .int .i64 len, .int .i64 offs] := (hXk.block W0'.heap.size (by omega) (by simp)).trans (Blk.new W0' _ _)
          have hpx := HPT2.out.next h1
          have s0 : X.cell? ⟨W0'.heap.size, 0, none⟩ = some (.int .i64 lit) := by rw [hbx.cell]; rfl
          have s1 : X.cell? ⟨W0'.heap.size, 1, none⟩ = some (.int .i64 len) := by rw [hbx.cell]; rfl
          have s2 : X.cell? ⟨W0'.heap.size, 2, none⟩ = some (.int .i64 offs) := by rw [hbx.cell]; rfl
          have c0 : X.cell? ⟨w.heap.size, 0, none⟩ = some (.slice A n c) := by rw [hpx.kl.cell]; rfl
          have c1 : X.cell? ⟨w.heap.size + 1, 0, none⟩ = some (.int .i64 many) := by rw [hpx.km.cell]; rfl
          have c2' : X.cell? ⟨w2.heap.size, 0, none⟩ = some (.slice A2 m c2) := by rw [hpx.kq.cell]; rfl
          have c3 : X.cell? ⟨W'.heap.size, 0, none⟩ = some (.int .i64 1) := by rw [h2.cell]; rfl
          have c4 : X.cell? ⟨wt2.heap.size, 0, none⟩ = some (.int .i64 k) := by rw [h3.cell]; rfl
          have c5 := h3.frozen 0
          have hne1 : wt2.heap.size ≠ W'.heap.size := by omega
          have hq0 := HPT2.out.kq.lt
          have hm0 := HPT2.out.km.lt
          have hne2 : wt2.heap.size ≠ w2.heap.size := by omega
          have hne3 : wt2.heap.size ≠ w.heap.size + 1 := by omega
          obtain ⟨b2, o2, rfl, d0⟩ := Ints.cell_at (HM.out ▸ hpx.iw) HBG.out
          obtain ⟨b3, o3, rfl, e0, e1, e2⟩ := Seqs.cell_at (HS.out.below hpx.below (Nat.le_refl _)) HSK.out
          simp only at e0 e1 e2
          have hng := fun W x y => run_guard_seq W x y ⟨lit, len, offs⟩ ⟨lit, len, offs⟩
          have hnq := fun W => run_neq_seq W ⟨lit, len, offs⟩ ⟨lit, len, offs⟩
          simp only [decide_true, Bool.not_true] at hng hnq
          have H1 := Lib.hid h1
          have H2 := Lib.hid h2
          have H3 := Lib.hid h3
          have H4 := Lib.hid h4
          clear h1 h2 h3 h4 hbx hpx hXs hXk
          gi_wp2
          refine wpIn_region_quiet_round (F := Fence.wide) rfl (by kernel_rfl) (by kernel_rfl) (by kernel_rfl) ?_
          repeat (gi_big_quiet_step (fail))
          refine wpQuietIn_nil ?_
          intro _ hw'
          obtain ⟨nq, hw''⟩ := hw'
          subst hw''
          gi_wp2
          · obtain ⟨t1, t2, t3, t4⟩ := turn_tick nq H1.out H2.out H3.out (by omega) (Nat.le_refl _)
            refine ⟨t4 _ (fun h => ?_), t1, t2, ?_, trivial⟩
            · rcases h with h | h
              · have := SRow.lt HPT2.out.ro _ h; omega
              · omega
            · rw [HLEN.out]; exact t3
        case done1 =>
          rintro D2 W2' hD2 hW2' ⟨h1, h2, h3, -⟩ hK2
          rw [stepsOf_length (by have := HML.out; have := HN.out; omega)] at h3
          have hpx := HPT2.out.next h1
          have c2' : W2'.cell? ⟨w2.heap.size, 0, none⟩ = some (.slice A2 m c2) := by rw [hpx.kq.cell]; rfl
          have c3 : W2'.cell? ⟨W'.heap.size, 0, none⟩ = some (.int .i64 1) := by rw [h2.cell]; rfl
          have c4 : W2'.cell? ⟨wt2.heap.size, 0, none⟩ = some (.int .i64 m) := by rw [h3.cell]; rfl
          have htl' := h2.lt
          have HP2 := Lib.hid hpx
          have HK1' : Hid (W2'.heap[D]? = some (.deferred (some []))) := ((h1.block _ hDlt2).trans HK1.out : _ = _)
          clear h1 h2 h3 hpx HK1
          go_wp2
          rw [rounds_succ]
          go_wp2_with fail
          refine (works_any _).mono ?_
          rintro e w9 ⟨rfl, hb9⟩
          have hba : Below W2'.heap.size W2' w9 := ((Below.refl W2'.heap.size W2').alloc (Nat.le_refl _) (.cells #[.int .i64 2] 3)).trans (hb9.mono (by simp))
          have hp9 := HP2.out.next hba
          have hc9 : w9.cell? ⟨w.heap.size + 1 + 1, 0, none⟩ = some (.bool false) := by rw [hp9.kr.cell]; rfl
          have hf9 := hp9.kr.frozen 0
          have HP9 := Lib.hid hp9
          have hlt2 := (Array.getElem?_eq_some_iff.1 HK1'.out).1
          have hlt3 := (Array.getElem?_eq_some_iff.1 hK2).1
          have HA9 : Hid (w9.heap[D]? = some (.deferred (some [])) ∧ w9.heap[D2]? = some (.deferred (some []))) := (⟨(hba.block _ hlt2).trans HK1'.out, (hba.block _ hlt3).trans hK2⟩ : _ ∧ _)
          have hbw := HPT2.out.below.size
          have hbw2 := HPW.out.below.size
          have hwr : wr.heap.size ≤ wt.heap.size := hbt.size
          obtain ⟨a1, a2, a3, a4⟩ := mark_end2 HP9.out.kr HP9.out.below (by omega) HA9.out.2 HA9.out.1 (by omega) (by omega) (by omega) (.bool true)
          have HA := Lib.hid (And.intro a1 (And.intro a2 (And.intro a3 a4)))
          clear hb9 hba hp9 hK2 HK1' a1 a2 a3 a4
          go_wp2
          refine ⟨by simp, .inl ⟨_, _, rfl, run_takeDeferred HA.out.1, ⟨by simp, .inl ⟨_, _, rfl, run_takeDeferred HA.out.2.1, ?_⟩⟩⟩⟩
          refine ⟨.bool true, ?_, rfl, HA.out.2.2.2⟩
          have e2 := HA.out.2.2.1
          simp [results, Try.f9, go_sem, e2]
        case stop1 =>
          exact fun _ _ _ _ _ _ _ h => h.elim
      case stop =>
        rintro D c' pre W' hD hW' hpre ⟨rfl, h1, h2, h3, h4, h5, h6⟩ hK
        have hpl := hpre.length_le
        rw [stepsOf_length (by have := HML.out; have := HN.out; omega)] at hpl
        obtain ⟨mm, hmm⟩ : ∃ mm, pre.length = mm := ⟨_, rfl⟩
        rw [hmm] at h3 h4 h5 h6 hpl
        have hmm0 : (mm = m ∧ (m = 0 ∨ (m : Int) < many)) ∨ (1 ≤ mm ∧ mm ≤ m ∧ (mm = 1 ∨ (mm : Int) - 1 < many) ∧ many ≤ mm) := .inr ⟨h5, hpl, h4, h6⟩
        clear hmm h4 h5 h6 hpl hpre
        refine wpIn_wide.2 ?_
        have hpx := HPT.out.next h1
        have c1 : W'.cell? ⟨w.heap.size + 1, 0, none⟩ = some (.int .i64 many) := by rw [hpx.km.cell]; rfl
        have c2' : W'.cell? ⟨w2.heap.size, 0, none⟩ = some (.slice A2 m c2) := by rw [hpx.kq.cell]; rfl
        have c3 : W'.cell? ⟨wr.heap.size, 0, none⟩ = some (.int .i64 0) := by rw [h2.cell]; rfl
        have c4 : W'.cell? ⟨wt.heap.size, 0, none⟩ = some (.int .i64 mm) := by rw [h3.cell]; rfl
        have htl' := h2.lt
        have HP0 := Lib.hid hpx
        clear h1 h2 h3 hpx
        obtain ⟨mx, hmx⟩ : ∃ mx, (if (1 : Int) < many then many else 1) = mx := ⟨_, rfl⟩
        have hmn : (if mx < (m : Int) then mx else (m : Int)) = (mm : Int) := by rw [← hmx]; split <;> split <;> omega
        clear hmm0
        go_wp2
        clear hmx hmn c1 c2' c3 c4
        obtain ⟨wt2, hwt2⟩ : ∃ wt2, W'.alloc (.cells #[.int .i64 1] 3) = wt2 := ⟨_, rfl⟩
        have hbt2 : Below W'.heap.size W' wt2 := by rw [← hwt2]; exact (Below.refl _ _).alloc (Nat.le_refl _) _
        have HT2 : Hid (Blk wt2 W'.heap.size 3 #[.int .i64 1]) := (by rw [← hwt2]; exact Blk.new W' _ _ : Blk _ _ _ _)
        have HPT2 := Lib.hid (HP0.out.next hbt2)
        have hDlt := (Array.getElem?_eq_some_iff.1 hK).1
        have HK1 : Hid (wt2.heap[D]? = some (.deferred (some []))) := ((hbt2.block _ hDlt).trans hK : _ = _)
        have hDlt2 : D < wt2.heap.size := by have := hbt2.size; omega
        rw [hwt2]
        clear hK HP0
        rw [rounds_succ]
        have zt : wt2.cell? ⟨W'.heap.size, 0, none⟩ = some (.int .i64 1) := by rw [HT2.out.cell]; rfl
        have htl := HT2.out.lt
        go_wp2
        obtain ⟨wn, hwn⟩ : ∃ wn, wt2.alloc (.cells #[.int .i64 0] 3) = wn := ⟨_, rfl⟩
        have hbn : Below wt2.heap.size wt2 wn := by rw [← hwn]; exact (Below.refl _ _).alloc (Nat.le_refl _) _
        have hsn : wn.heap.size = wt2.heap.size + 1 := by rw [← hwn]; simp
        have hcn : Blk wn wt2.heap.size 3 #[.int .i64 0] := by rw [← hwn]; exact Blk.new wt2 _ _
        rw [hwn]
        refine (wpIn_wide (n := 20)).1 ?_
        refine rangeFunc_yieldB (by omega) (gf := 39) (lb := #[.pointer (some ⟨B, 0, none⟩)]) rfl (enters_of Try.func39 (by kernel_rfl) rfl)
          (steps1_yields wt2 B ov ss m (by have := HML.out; have := HN.out; omega) (by have := HML.out; have := HL.out; omega) (HM.out ▸ HPT2.out.ro) HPT2.out.kb) hbn (fun k hk => ?_) (fun _ => rfl)
          (fun pre X => Below wt2.heap.size wt2 X ∧ Blk X W'.heap.size 3 #[.int .i64 1] ∧ Blk X wt2.heap.size 3 #[.int .i64 pre.length] ∧ True)
          (fun c' pre X => False) ?_ ?_ ?_ ?round1 ?done1 ?stop1
        · have := SRow.lt HPT2.out.ro k hk; omega
        · rintro pre X Y ⟨h1, h2, h3, h4⟩ hX hXY
          exact ⟨h1.trans (hXY.mono (by omega)), h2.below hXY (by omega), h3.below hXY (by omega), h4⟩
        · exact fun _ _ _ _ h => h.elim
        · exact ⟨hbn, HT2.out.below hbn HT2.out.lt, hcn, trivial⟩
        case round1 =>
          rintro l' pre x W0' K hl' hlW hIp hpre hK
          obtain ⟨p1, s, hsk, rfl⟩ := stepsOf_pre (by have := HML.out; have := HN.out; omega) hpre
          obtain ⟨lit, len, offs⟩ := s
          obtain ⟨k, hk⟩ : ∃ k, pre.length = k := ⟨_, rfl⟩
          have HKL := Lib.hid hk
          have HLEN : Hid (∀ y : StepD, (pre ++ [y]).length = k + 1) := ((fun y => by rw [List.length_append, hk]; rfl) : ∀ y : StepD, _ = _)
          have hwl := HPT2.out.below.size
          have hbg := beginsOf_get (ss := ss) p1
          obtain ⟨ps, hps⟩ : ∃ p, posL (ss.take pre.length) = p := ⟨_, rfl⟩
          rw [hps] at hbg ⊢
          rw [hk] at p1 hsk hbg
          have g1 : (k : Int) < (m : Int) := by omega
          have g0 : (0 : Int) ≤ (k : Int) := by omega
          have g2 : (k : Int) < (n : Int) := by have := HML.out; omega
          have hd1 : decide ((m : Int) ≤ (k : Int)) = false := decide_eq_false (by omega)
          have hd2 : decide (m ≤ k) = false := decide_eq_false (by omega)
          have HBG := Lib.hid hbg
          have HSK := Lib.hid hsk
          clear hpre hk hps hbg hsk hIp
          gi_wp2
          refine ⟨(Below.refl _ _).alloc (Nat.le_refl _) _, ?_⟩
          rintro X hXs hXk ⟨h1, h2, h3, h4⟩
          rw [HKL.out] at h3
          have hbx : Blk X W0'.heap.size 60 #[.int .i64 lit, .int .i64 len, .int .i64 offs] := (hXk.block W0'.heap.size (by omega) (by simp)).trans (Blk.new W0' _ _)
          have hpx := HPT2.out.next h1
          have s0 : X.cell? ⟨W0'.heap.size, 0, none⟩ = some (.int .i64 lit) := by rw [hbx.cell]; rfl
          have s1 : X.cell? ⟨W0'.heap.size, 1, none⟩ = some (.int .i64 len) := by rw [hbx.cell]; rfl
          have s2 : X.cell? ⟨W0'.heap.size, 2, none⟩ = some (.int .i64 offs) := by rw [hbx.cell]; rfl
          have c0 : X.cell? ⟨w.heap.size, 0, none⟩ = some (.slice A n c) := by rw [hpx.kl.cell]; rfl
          have c1 : X.cell? ⟨w.heap.size + 1, 0, none⟩ = some (.int .i64 many) := by rw [hpx.km.cell]; rfl
          have c2' : X.cell? ⟨w2.heap.size, 0, none⟩ = some (.slice A2 m c2) := by rw [hpx.kq.cell]; rfl
          have c3 : X.cell? ⟨W'.heap.size, 0, none⟩ = some (.int .i64 1) := by rw [h2.cell]; rfl
          have c4 : X.cell? ⟨wt2.heap.size, 0, none⟩ = some (.int .i64 k) := by rw [h3.cell]; rfl
          have c5 := h3.frozen 0
          have hne1 : wt2.heap.size ≠ W'.heap.size := by omega
          have hq0 := HPT2.out.kq.lt
          have hm0 := HPT2.out.km.lt
          have hne2 : wt2.heap.size ≠ w2.heap.size := by omega
          have hne3 : wt2.heap.size ≠ w.heap.size + 1 := by omega
          obtain ⟨b2, o2, rfl, d0⟩ := Ints.cell_at (HM.out ▸ hpx.iw) HBG.out
          obtain ⟨b3, o3, rfl, e0, e1, e2⟩ := Seqs.cell_at (HS.out.below hpx.below (Nat.le_refl _)) HSK.out
          simp only at e0 e1 e2
          have hng := fun W x y => run_guard_seq W x y ⟨lit, len, offs⟩ ⟨lit, len, offs⟩
          have hnq := fun W => run_neq_seq W ⟨lit, len, offs⟩ ⟨lit, len, offs⟩
          simp only [decide_true, Bool.not_true] at hng hnq
          have H1 := Lib.hid h1
          have H2 := Lib.hid h2
          have H3 := Lib.hid h3
          have H4 := Lib.hid h4
          clear h1 h2 h3 h4 hbx hpx hXs hXk
          gi_wp2
          refine wpIn_region_quiet_round (F := Fence.wide) rfl (by kernel_rfl) (by kernel_rfl) (by kernel_rfl) ?_
          repeat (gi_big_quiet_step (fail))
          refine wpQuietIn_nil ?_
          intro _ hw'
          obtain ⟨nq, hw''⟩ := hw'
          subst hw''
          gi_wp2
          · obtain ⟨t1, t2, t3, t4⟩ := turn_tick nq H1.out H2.out H3.out (by omega) (Nat.le_refl _)
            refine ⟨t4 _ (fun h => ?_), t1, t2, ?_, trivial⟩
            · rcases h with h | h
              · have := SRow.lt HPT2.out.ro _ h; omega
              · omega
            · rw [HLEN.out]; exact t3
        case done1 =>
          rintro D2 W2' hD2 hW2' ⟨h1, h2, h3, -⟩ hK2
          rw [stepsOf_length (by have := HML.out; have := HN.out; omega)] at h3
          have hpx := HPT2.out.next h1
          have c2' : W2'.cell? ⟨w2.heap.size, 0, none⟩ = some (.slice A2 m c2) := by rw [hpx.kq.cell]; rfl
          have c3 : W2'.cell? ⟨W'.heap.size, 0, none⟩ = some (.int .i64 1) := by rw [h2.cell]; rfl
          have c4 : W2'.cell? ⟨wt2.heap.size, 0, none⟩ = some (.int .i64 m) := by rw [h3.cell]; rfl
          have htl' := h2.lt
          have HP2 := Lib.hid hpx
          have HK1' : Hid (W2'.heap[D]? = some (.deferred (some []))) := ((h1.block _ hDlt2).trans HK1.out : _ = _)
          clear h1 h2 h3 hpx HK1
          go_wp2
          rw [rounds_succ]
          go_wp2_with fail
          refine (works_any _).mono ?_
          rintro e w9 ⟨rfl, hb9⟩
          have hba : Below W2'.heap.size W2' w9 := ((Below.refl W2'.heap.size W2').alloc (Nat.le_refl _) (.cells #[.int .i64 2] 3)).trans (hb9.mono (by simp))
          have hp9 := HP2.out.next hba
          have hc9 : w9.cell? ⟨w.heap.size + 1 + 1, 0, none⟩ = some (.bool false) := by rw [hp9.kr.cell]; rfl
          have hf9 := hp9.kr.frozen 0
          have HP9 := Lib.hid hp9
          have hlt2 := (Array.getElem?_eq_some_iff.1 HK1'.out).1
          have hlt3 := (Array.getElem?_eq_some_iff.1 hK2).1
          have HA9 : Hid (w9.heap[D]? = some (.deferred (some [])) ∧ w9.heap[D2]? = some (.deferred (some []))) := (⟨(hba.block _ hlt2).trans HK1'.out, (hba.block _ hlt3).trans hK2⟩ : _ ∧ _)
          have hbw := HPT2.out.below.size
          have hbw2 := HPW.out.below.size
          have hwr : wr.heap.size ≤ wt.heap.size := hbt.size
          obtain ⟨a1, a2, a3, a4⟩ := mark_end2 HP9.out.kr HP9.out.below (by omega) HA9.out.2 HA9.out.1 (by omega) (by omega) (by omega) (.bool true)
          have HA := Lib.hid (And.intro a1 (And.intro a2 (And.intro a3 a4)))
          clear hb9 hba hp9 hK2 HK1' a1 a2 a3 a4
          go_wp2
          refine ⟨by simp, .inl ⟨_, _, rfl, run_takeDeferred HA.out.1, ⟨by simp, .inl ⟨_, _, rfl, run_takeDeferred HA.out.2.1, ?_⟩⟩⟩⟩
          refine ⟨.bool true, ?_, rfl, HA.out.2.2.2⟩
          have e2 := HA.out.2.2.1
          simp [results, Try.f9, go_sem, e2]
        case stop1 =>
          exact fun _ _ _ _ _ _ _ h => h.elim
end Go.Proofs.Ytamhkfnghgbenaa
