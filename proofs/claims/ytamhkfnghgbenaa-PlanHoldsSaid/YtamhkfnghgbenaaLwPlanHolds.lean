/-
  PlanHolds: the law's walk.
-/
import Derived.Test.YtamhkfnghgbenaaPlApp
import Derived.Test.YtamhkfnghgbenaaPlRefL
import Derived.Test.YtamhkfnghgbenaaArgSeqs
namespace Go.Proofs.Ytamhkfnghgbenaa
set_option linter.all false
open Go.RowKit

theorem litsR_le (ss : List SeqD) (dd : List Int) : (litsR ss dd).1.length ≤ ss.length * dd.length + dd.length := by
  unfold litsR
  split
  · have := litsTo_le ss dd ss.length
    simp only [List.length_append, List.length_drop]
    omega
  · simp
theorem AtInts.take {w : World} {k : IntKind} {A : Option Addr} {n T : Nat} {xs : List Int} (h : AtInts w k A n xs) (hT : T ≤ n) : AtInts w k A T (xs.take T) := by
  obtain ⟨h1, h2⟩ := h
  refine ⟨by rw [List.length_take]; omega, fun h0 => ?_⟩
  obtain ⟨b, off, hA, hx⟩ := h2 (by omega)
  refine ⟨b, off, hA, fun i x hi => ?_⟩
  rw [List.getElem?_take] at hi
  split at hi
  · exact hx i x hi
  · cases hi
theorem step_append_bytes {w : World} {o : Oper} {a : Act} {K : Act → World → Prop} {Q : Exit → Act → World → Prop} {b : Bool} {E : Prop} (hb : b = true) (s x : Operand)
    (ho : o.op = .call { callee := .builtin .append, args := #[s, x], argTypes := #[34, 34] })
    (base : Nat) (v : Value) (xs ys : List Int) (hs : a.eval s = v) (hown : Grow w base 5 .u8 v xs)
    (A : Option Addr) (m c : Nat) (hx : a.eval x = .slice A m c) (hr : AtInts w .u8 A m ys) (h63 : xs.length + m ≤ 1000000000000) (hbase : base ≤ w.heap.size)
    (n : Nat) (hn : xs.length + m = n)
    (h : ∀ A' c' w', Grow w' base 5 .u8 (.slice A' n c') (xs ++ ys) → w.grownBy w' v.ownBlock → K (a.put o.dst (.slice A' n c')) w') :
    if b = true then o.wp Try.prog a w K Q else E := by
  rw [if_pos hb]
  obtain ⟨i0, hi, hz0, hz1, hz2⟩ := info_parts infoB
  exact wp_append_ints w s x 34 ho base 5 i0 (.int .u8 0) 1 Try.underlying34 hi hz0 hz1 hz2 rfl .u8 v xs ys hs hown A m c hx hr (by simp only [maxLen]; omega) (by omega) hbase n hn h

set_option maxRecDepth 100000 in
set_option maxHeartbeats 25600000 in
theorem planHolds_walk {w : World} (v : Value) (ss : List SeqD) (h : Seqs w v ss) (va : Value) (aa : List Int) (ha : Ints w .u8 va aa ∧ ∀ z ∈ aa, (Lit.int .u8 z).wf = true) (vd : Value) (dd : List Int) (hd : Ints w .u8 vd dd ∧ ∀ z ∈ dd, (Lit.int .u8 z).wf = true) (wd : Int) (_hwd : (Lit.int .i64 wd).wf = true) (at_ : Int) (_hat : (Lit.int .i64 at_).wf = true) :
    Calls Try.prog 8 #[v, va, vd, .int .i64 wd, .int .i64 at_] w fun e w' => e = .returned (.bool true) ∧ Below w.heap.size w w' := by
  have HS := Lib.hid h
  have HA := Lib.hid ha.1
  have HD := Lib.hid hd.1
  obtain ⟨A1, c1, rfl, a1, a2, a3⟩ := ints_form ha.1
  obtain ⟨A2, c2, rfl, d1, d2, d3⟩ := ints_form hd.1
  obtain ⟨⟨A, c, hv', hlc, hcm, -⟩, -⟩ := h
  obtain ⟨n, hn⟩ : ∃ n, ss.length = n := ⟨_, rfl⟩
  obtain ⟨na, hna⟩ : ∃ n, aa.length = n := ⟨_, rfl⟩
  obtain ⟨nd, hnd⟩ : ∃ n, dd.length = n := ⟨_, rfl⟩
  rw [hn] at hv' hlc
  rw [hna] at a1 a3 HA ⊢
  rw [hnd] at d1 d3 HD ⊢
  subst hv'
  have HN := Lib.hid hn
  have HNA := Lib.hid hna
  have HND := Lib.hid hnd
  have HAA := Lib.hid a3
  have HDA := Lib.hid d3
  have hni : (n : Int) ≤ 9223372036854775807 := by have := hcm; simp only [maxLen] at this; omega
  have hnai : (na : Int) ≤ 9223372036854775807 := by omega
  have hndi : (nd : Int) ≤ 9223372036854775807 := by omega
  clear ha hd hn hna hnd a3 d3
  by_cases hg : n ≤ 60 ∧ na ≤ 300 ∧ nd ≤ 300
  · obtain ⟨g1, g2, g3⟩ := hg
    have gi1 : (n : Int) ≤ 60 := by omega
    have gi2 : (na : Int) ≤ 300 := by omega
    have gi3 : (nd : Int) ≤ 300 := by omega
    have HL : Hid (ss.length ≤ 100000 ∧ aa.length ≤ 300000 ∧ dd.length ≤ 300000) := (by rw [HN.out, HNA.out, HND.out]; omega : _ ∧ _ ∧ _)
    obtain ⟨q, hq⟩ : ∃ p, verR ss aa dd wd = p := ⟨_, rfl⟩
    have HQ := Lib.hid hq
    by_cases hq0 : q = 0
    · subst hq0
      obtain ⟨hargs, hp⟩ := verR_zero.1 hq
      obtain ⟨s1, -, s2, s3⟩ := hp.size (by rw [HND.out]; omega)
      obtain ⟨z, hz⟩ : ∃ z : Nat, posL ss = z := ⟨(posL ss).toNat, by omega⟩
      rw [hz] at s1 s3
      rw [HND.out] at s3
      have HSZ := Lib.hid s1
      have HZ := Lib.hid hz
      by_cases hc : 0 ≤ at_ ∧ at_ ≤ (z : Int)
      · obtain ⟨T, rfl⟩ := Int.eq_ofNat_of_zero_le hc.1
        have hcr : cutR ss T = ((cutTo ss T ss.length).1, (cutTo ss T ss.length).2.1, 0) := by unfold cutR; rw [s1]; simp only [if_true]; rw [if_pos hc]
        have hch := cut_holds (at_ := T) hq (by rw [HND.out]; omega) (by rw [HNA.out]; omega) (by rw [hz]; exact hc.2)
        have hle := cutTo_le ss T ss.length
        obtain ⟨aL, haL⟩ : ∃ x, (cutTo ss T ss.length).1 = x := ⟨_, rfl⟩
        obtain ⟨bL, hbL⟩ : ∃ x, (cutTo ss T ss.length).2.1 = x := ⟨_, rfl⟩
        rw [haL, hbL] at hcr hch hle
        rw [HN.out] at hle
        have hzz := litsR_le ss dd
        rw [HN.out, HND.out] at hzz
        obtain ⟨h1, h2, h3, h4, h5, h6, h7, h8, h9⟩ := hch
        obtain ⟨⟨xs, xq⟩, hxs⟩ : ∃ x, litsR aL (dd.take T) = x := ⟨_, rfl⟩
        obtain ⟨⟨ys, yq⟩, hys⟩ : ∃ x, litsR bL (dd.drop T) = x := ⟨_, rfl⟩
        obtain ⟨⟨zs, zq⟩, hzs⟩ : ∃ x, litsR ss dd = x := ⟨_, rfl⟩
        rw [hxs] at h3 h6 h7
        rw [hys] at h4 h6 h7
        rw [hzs] at h5 h6 h7 hzz
        simp only at h3 h4 h5 h6 h7 hzz
        subst h3 h4 h5
        obtain ⟨X, hX⟩ : ∃ x, xs.length = x := ⟨_, rfl⟩
        obtain ⟨Y, hY⟩ : ∃ x, ys.length = x := ⟨_, rfl⟩
        obtain ⟨Z, hZ⟩ : ∃ x, zs.length = x := ⟨_, rfl⟩
        rw [hX, hY, hZ] at h6 h7
        rw [hZ] at hzz
        have hZb : Z ≤ 60 * 300 + 300 := Nat.le_trans hzz (Nat.add_le_add (Nat.mul_le_mul g1 g3) g3)
        have HCR := Lib.hid hcr
        have HLE := Lib.hid hle
        have H1 := Lib.hid h1
        have H2 := Lib.hid h2
        have H8 := Lib.hid h8
        have H9 := Lib.hid h9
        have HXS := Lib.hid hxs
        have HYS := Lib.hid hys
        have HZS := Lib.hid hzs
        have HXL := Lib.hid hX
        have HYL := Lib.hid hY
        have HZL := Lib.hid hZ
        have hTd : T ≤ nd := by omega
        have HDT := Lib.hid (HDA.out.take hTd)
        have t0 : (0 : Int) ≤ (T : Int) := by omega
        have t1 : (T : Int) ≤ (z : Int) := hc.2
        have t2 : (T : Int) ≤ (c2 : Int) := by omega
        have t3 : (T : Int) ≤ (nd : Int) := by omega
        have t4 : T ≤ c2 := by omega
        have t5 : c2 ≤ maxLen := by simp only [maxLen]; omega
        have t6 : nd - T ≤ c2 - T := by omega
        have t7 : c2 - T ≤ maxLen := by simp only [maxLen]; omega
        have HDR := Lib.hid (AtInts.tail (z := T) (c := c2) HDA.out hTd d1)
        have HLL : Hid (aL.length ≤ 100000 ∧ (dd.take T).length ≤ 300000 ∧ bL.length ≤ 100000 ∧ (aa ++ dd.take T).length ≤ 300000 ∧ (dd.drop T).length ≤ 300000 ∧ (dd.take T).length ≤ 131072 ∧ (dd.drop T).length ≤ 131072) := (by rw [List.length_append, List.length_take, List.length_drop, HNA.out, HND.out]; omega : _ ∧ _)
        have l1 : (X : Int) ≤ 100000 := by omega
        have l2 : (Y : Int) ≤ 100000 := by omega
        have l3 : (Z : Int) ≤ 100000 := by omega
        have e1 : IntKind.i64.wrap ((X : Int) + (Y : Int)) = ((X + Y : Nat) : Int) := by rw [wrap_in _ (by omega) (by omega)]; omega
        have e2 : IntKind.i64.wrap ((Z : Int) + 4) = ((Z + 4 : Nat) : Int) := by rw [wrap_in _ (by omega) (by omega)]; omega
        have e3 : (Z : Int) ≤ ((X + Y : Nat) : Int) := by omega
        have e4 : ((X + Y : Nat) : Int) ≤ ((Z + 4 : Nat) : Int) := by omega
        clear hcr hle h1 h2 h6 h7 h8 h9 hxs hys hzs hX hY hZ hzz hZb hp hargs hq haL hbL hz s1 hc
        by_cases hcT : c2 = T
        · have hcT2 := hcT.symm
          subst hcT2
          clear hcT HDR
          have HRU : Hid (Ints w .u8 (.slice A2 0 0) (dd.drop T)) := (AtInts.ints (⟨by rw [List.length_drop, HND.out]; omega, fun h0 => by omega⟩ : AtInts _ _ _ _ _) (by omega) (by simp [maxLen]) : Ints _ _ _ _)
          go_enter Try.func8, Try.ntmps8
          go_wp2_with fail
          refine (verify_any _ _ _ _ ss aa dd wd HS.out HA.out HD.out HL.out.1 HL.out.2.1 HL.out.2.2).mono ?_
          rw [HQ.out]
          rintro e w1 ⟨rfl, hb⟩
          have HB1 := Lib.hid hb
          have HS1 := Lib.hid (HS.out.below hb (Nat.le_refl _))
          clear hb
          go_wp2_with fail
          refine (num_any _ _).mono ?_
          rintro e w5 ⟨rfl, rfl⟩
          go_wp2_with fail
          refine (cut_any _ _ ss (T : Int) HS1.out HL.out.1).mono ?_
          rw [HCR.out]
          simp only
          rintro e w6 ⟨vx, vy, rfl, hst⟩
          obtain ⟨A5, c5, e5, -, -⟩ := SRow.form hst.ra
          obtain ⟨A6, c6, e6, -, -⟩ := SRow.form hst.rb
          rw [List.length_map] at e5 e6
          subst e5 e6
          have HX6 := Lib.hid (SeqRow.seqs hst.ra H8.out)
          have HY6 := Lib.hid (SeqRow.seqs hst.rb H9.out)
          have HB6 := Lib.hid (HB1.out.trans (hst.bel.mono HB1.out.size))
          have HS6 := Lib.hid (HS1.out.below hst.bel (Nat.le_refl _))
          clear hst HS1
          go_wp2_with fail
          refine (size_any _ _ ss HS6.out HL.out.1).mono ?_
          rw [HSZ.out]
          rintro e w7 ⟨rfl, hb⟩
          have HB7 := Lib.hid (HB6.out.trans (hb.mono HB6.out.size))
          have HX7 := Lib.hid (HX6.out.below hb (Nat.le_refl _))
          have HY7 := Lib.hid (HY6.out.below hb (Nat.le_refl _))
          have HS7 := Lib.hid (HS6.out.below hb (Nat.le_refl _))
          have HA7 := Lib.hid (HAA.out.below HB7.out (Nat.le_refl _))
          have HDT7 := Lib.hid (HDT.out.below HB7.out (Nat.le_refl _))
          have HE0 := Lib.hid ((below_drewN (Below.refl w7.heap.size w7) 1).alloc (Nat.le_refl _) (.cells #[] 5))
          have HG0 : Hid (Grow (w7.drew.alloc (.cells #[] 5)) w7.heap.size 5 .u8 (.slice (some ⟨w7.heap.size, 0, none⟩) 0 0) []) := (World.ownsRow_made w7.drew #[] 0 (Nat.le_refl _) (by simp [maxLen]) rfl : World.ownsRow _ _ _ _ _ _ _)
          clear hb HS6 HX6 HY6
          go_wp2_with fail
          refine (num_any _ _).mono ?_
          rintro e w8 ⟨rfl, rfl⟩
          go_wp2_with fail
          refine wp_region_held_drew (S := (fun w' => True)) (by kernel_rfl) ?_ (fun hHeld => ?_)
          · (try dsimp only); try trivial
          refine wpAnyH_take2 (i := 1) (oi := _) (d := some 80) (v := ?_) rfl rfl (by kernel_rfl) (by kernel_rfl) (by kernel_rfl) (fun _ _ _ h => h) (Or.inl ⟨by rfl, ?_⟩) (by assumption) ?_
          rotate_left 1
          · (intro w' hSw; (try dsimp only at hSw); go_simp; try with_reducible rfl)
          try simp only [Act.put, List.setIfInBounds_toArray, List.set_cons_zero, List.set_cons_succ]
          refine wpAnyH_take2 (i := 3) (oi := _) (d := some 82) (v := ?_) rfl rfl (by kernel_rfl) (by kernel_rfl) (by kernel_rfl) (fun _ _ _ h => h) (Or.inl ⟨by rfl, ?_⟩) (by assumption) ?_
          rotate_left 1
          · (intro w' hSw; (try dsimp only at hSw); go_simp; try with_reducible rfl)
          try simp only [Act.put, List.setIfInBounds_toArray, List.set_cons_zero, List.set_cons_succ]
          refine wpAnyH_take2 (i := 4) (oi := _) (d := some 83) (v := ?_) rfl rfl (by kernel_rfl) (by kernel_rfl) (by kernel_rfl) (fun _ _ _ h => h) (Or.inl ⟨by rfl, ?_⟩) (by assumption) ?_
          rotate_left 1
          · (intro w' hSw; (try dsimp only at hSw); go_simp; try with_reducible rfl)
          try simp only [Act.put, List.setIfInBounds_toArray, List.set_cons_zero, List.set_cons_succ]
          refine wpAnyH_take2 (i := 5) (oi := _) (d := some 84) (v := ?_) rfl rfl (by kernel_rfl) (by kernel_rfl) (by kernel_rfl) (fun _ _ _ h => h) (Or.inl ⟨by rfl, ?_⟩) (by assumption) ?_
          rotate_left 1
          · (intro w' hSw; (try dsimp only at hSw); go_simp; try with_reducible rfl)
          try simp only [Act.put, List.setIfInBounds_toArray, List.set_cons_zero, List.set_cons_succ]
          refine wpAnyH_ready (rs := [0]) (by kernel_rfl) (by simp) ?_
          refine AllReadyH.cons (o := _) rfl (fun K hK => ?_) ?_
          rotate_left
          · exact AllReadyH.nil
          go_simp
          refine hK.out _ _ ?_ (fun hHeld => ?_)
          · (try dsimp only); try trivial
          clear hK K
          try simp only [Act.put, List.setIfInBounds_toArray, List.set_cons_zero, List.set_cons_succ]
          refine wpAnyH_ready (rs := [2]) (by kernel_rfl) (by simp) ?_
          refine AllReadyH.cons (o := _) rfl (fun K hK => ?_) ?_
          rotate_left
          · exact AllReadyH.nil
          refine step_append_bytes (by kernel_rfl) _ _ rfl w8.heap.size _ [] aa rfl HG0.out A1 na c1 rfl (HA7.out.below HE0.out (Nat.le_refl _)) (by simp; omega) HE0.out.size na (by simp) ?_; intro A14 c14 w14 hg hgr; rw [List.nil_append] at hg; have HG14 := Lib.hid hg; have HB14 := Lib.hid (HE0.out.grown hgr HE0.out.size (fun r hr => (World.ownsRow.lt HG0.out r hr).1)); clear hg hgr
          refine hK.out _ _ ?_ (fun hHeld => ?_)
          · (try dsimp only); try trivial
          clear hK K
          try simp only [Act.put, List.setIfInBounds_toArray, List.set_cons_zero, List.set_cons_succ]
          refine wpAnyH_ready (rs := [6]) (by kernel_rfl) (by simp) ?_
          refine AllReadyH.cons (o := _) rfl (fun K hK => ?_) ?_
          rotate_left
          · exact AllReadyH.nil
          refine step_append_bytes (by kernel_rfl) _ _ rfl w8.heap.size _ aa (dd.take T) rfl HG14.out A2 T _ rfl (HDT7.out.below HB14.out (Nat.le_refl _)) (by rw [HNA.out]; omega) HB14.out.size (na + T) (by rw [HNA.out]) ?_; intro A15 c15 w15 hg hgr; have HG15 := Lib.hid hg; have HB15 := Lib.hid (HB14.out.grown hgr HB14.out.size (fun r hr => (World.ownsRow.lt HG14.out r hr).1)); clear hg hgr
          refine hK.out _ _ ?_ (fun hHeld => ?_)
          · (try dsimp only); try trivial
          clear hK K
          try simp only [Act.put, List.setIfInBounds_toArray, List.set_cons_zero, List.set_cons_succ]
          refine wpAnyH_take2 (i := 7) (oi := _) (d := some 16) (v := ?_) rfl rfl (by kernel_rfl) (by kernel_rfl) (by kernel_rfl) (fun _ _ _ h => h) (Or.inl ⟨by rfl, ?_⟩) (by assumption) ?_
          rotate_left 1
          · (intro w' hSw; (try dsimp only at hSw); go_simp; try with_reducible rfl)
          try simp only [Act.put, List.setIfInBounds_toArray, List.set_cons_zero, List.set_cons_succ]
          refine wpAnyH_done (by kernel_rfl) ?_ _
          have HX := Lib.hid (HX7.out.below HB15.out (Nat.le_refl _))
          have HY := Lib.hid (HY7.out.below HB15.out (Nat.le_refl _))
          have HS15 := Lib.hid (HS7.out.below HB15.out (Nat.le_refl _))
          have HB16 := Lib.hid (HB7.out.trans (HB15.out.mono HB7.out.size))
          have HI15 : Hid (Ints w15 .u8 (.slice A15 (na + T) c15) (aa ++ dd.take T)) := Lib.hid (Grow.ints HG15.out)
          have HT15 := Lib.hid ((HDT.out.ints t4 t5).below HB16.out (Nat.le_refl _))
          have HR15 := Lib.hid (HRU.out.below HB16.out (Nat.le_refl _))
          have HA15 := Lib.hid (HA.out.below HB16.out (Nat.le_refl _))
          have HD15 := Lib.hid (HD.out.below HB16.out (Nat.le_refl _))
          clear HX7 HY7 HS7 HA7 HDT7 HE0 HG0 HG14 HB14 HG15 HB15 HB7 HB6 HB1
          go_wp2_with fail
          refine (num_any _ _).mono ?_
          rintro e w17 ⟨rfl, rfl⟩
          go_wp2_with fail
          refine (verify_any _ _ _ _ aL aa (dd.take T) wd HX.out HA15.out HT15.out HLL.out.1 HL.out.2.1 HLL.out.2.1).mono ?_
          rw [H1.out]
          rintro e w18 ⟨rfl, hb⟩
          have HB18 := Lib.hid (HB16.out.trans (hb.mono HB16.out.size))
          have HX18 := Lib.hid (HX.out.below hb (Nat.le_refl _))
          have HY18 := Lib.hid (HY.out.below hb (Nat.le_refl _))
          have HS18 := Lib.hid (HS15.out.below hb (Nat.le_refl _))
          have HI18 := Lib.hid (HI15.out.below hb (Nat.le_refl _))
          have HT18 := Lib.hid (HT15.out.below hb (Nat.le_refl _))
          have HR18 := Lib.hid (HR15.out.below hb (Nat.le_refl _))
          have HD18 := Lib.hid (HD15.out.below hb (Nat.le_refl _))
          clear hb HX HY HS15 HI15 HT15 HR15 HD15 HA15
          go_wp2_with fail
          refine (num_any _ _).mono ?_
          rintro e w19 ⟨rfl, rfl⟩
          go_wp2_with fail
          refine (verify_any _ _ _ _ bL (aa ++ dd.take T) (dd.drop T) wd HY18.out HI18.out HR18.out HLL.out.2.2.1 HLL.out.2.2.2.1 HLL.out.2.2.2.2.1).mono ?_
          rw [H2.out]
          rintro e w20 ⟨rfl, hb⟩
          have HB20 := Lib.hid (HB18.out.trans (hb.mono HB18.out.size))
          have HX20 := Lib.hid (HX18.out.below hb (Nat.le_refl _))
          have HY20 := Lib.hid (HY18.out.below hb (Nat.le_refl _))
          have HS20 := Lib.hid (HS18.out.below hb (Nat.le_refl _))
          have HT20 := Lib.hid (HT18.out.below hb (Nat.le_refl _))
          have HR20 := Lib.hid (HR18.out.below hb (Nat.le_refl _))
          have HD20 := Lib.hid (HD18.out.below hb (Nat.le_refl _))
          clear hb HX18 HY18 HS18 HI18 HT18 HR18 HD18
          go_wp2_with fail
          refine (num_any _ _).mono ?_
          rintro e w21 ⟨rfl, rfl⟩
          go_wp2_with fail
          refine (lits_any _ _ _ aL (dd.take T) HX20.out HT20.out (by have := HLE.out; omega) (by have := HLL.out; omega)).mono ?_
          rw [HXS.out]
          simp only
          rw [HXL.out]
          rintro e w22 ⟨A7, c7, rfl, -, hb⟩
          have HB22 := Lib.hid (HB20.out.trans (hb.mono HB20.out.size))
          have HY22 := Lib.hid (HY20.out.below hb (Nat.le_refl _))
          have HS22 := Lib.hid (HS20.out.below hb (Nat.le_refl _))
          have HR22 := Lib.hid (HR20.out.below hb (Nat.le_refl _))
          have HD22 := Lib.hid (HD20.out.below hb (Nat.le_refl _))
          clear hb HX20 HY20 HS20 HT20 HR20 HD20
          go_wp2_with fail
          refine (lits_any _ _ _ bL (dd.drop T) HY22.out HR22.out (by have := HLE.out; omega) (by have := HLL.out; omega)).mono ?_
          rw [HYS.out]
          simp only
          rw [HYL.out]
          rintro e w23 ⟨A8, c8, rfl, -, hb⟩
          have HB23 := Lib.hid (HB22.out.trans (hb.mono HB22.out.size))
          have HS23 := Lib.hid (HS22.out.below hb (Nat.le_refl _))
          have HD23 := Lib.hid (HD22.out.below hb (Nat.le_refl _))
          clear hb HY22 HS22 HR22 HD22
          go_wp2_with fail
          refine (lits_any _ _ _ ss dd HS23.out HD23.out (by rw [HN.out]; omega) (by rw [HND.out]; omega)).mono ?_
          rw [HZS.out]
          simp only
          rw [HZL.out]
          rintro e w24 ⟨A9, c9, rfl, -, hb⟩
          have HB24 := Lib.hid (HB23.out.trans (hb.mono HB23.out.size))
          clear hb HS23 HD23
          go_wp2_with fail
          refine (num_any _ _).mono ?_
          rintro e w25 ⟨rfl, rfl⟩
          go_wp2_with fail
          refine (num_any _ _).mono ?_
          rintro e w26 ⟨rfl, rfl⟩
          go_wp2_with fail
          refine (num_any _ _).mono ?_
          rintro e w27 ⟨rfl, rfl⟩
          go_wp2_with (go_at_call 11; refine (works_at HB24.out).mono ?_; rintro e w9 ⟨rfl, hb⟩; have HB := Lib.hid hb; clear hb)
          go_ret
          exact ⟨rfl, HB.out⟩
        · have HRU : Hid (Ints w .u8 (.slice (Option.map (fun x => Addr.add x T) A2) (nd - T) (c2 - T)) (dd.drop T)) := (by have h9 := HDR.out; rw [if_neg hcT] at h9; exact h9.ints t6 t7 : Ints _ _ _ _)
          clear HDR
          go_enter Try.func8, Try.ntmps8
          go_wp2_with fail
          refine (verify_any _ _ _ _ ss aa dd wd HS.out HA.out HD.out HL.out.1 HL.out.2.1 HL.out.2.2).mono ?_
          rw [HQ.out]
          rintro e w1 ⟨rfl, hb⟩
          have HB1 := Lib.hid hb
          have HS1 := Lib.hid (HS.out.below hb (Nat.le_refl _))
          clear hb
          go_wp2_with fail
          refine (num_any _ _).mono ?_
          rintro e w5 ⟨rfl, rfl⟩
          go_wp2_with fail
          refine (cut_any _ _ ss (T : Int) HS1.out HL.out.1).mono ?_
          rw [HCR.out]
          simp only
          rintro e w6 ⟨vx, vy, rfl, hst⟩
          obtain ⟨A5, c5, e5, -, -⟩ := SRow.form hst.ra
          obtain ⟨A6, c6, e6, -, -⟩ := SRow.form hst.rb
          rw [List.length_map] at e5 e6
          subst e5 e6
          have HX6 := Lib.hid (SeqRow.seqs hst.ra H8.out)
          have HY6 := Lib.hid (SeqRow.seqs hst.rb H9.out)
          have HB6 := Lib.hid (HB1.out.trans (hst.bel.mono HB1.out.size))
          have HS6 := Lib.hid (HS1.out.below hst.bel (Nat.le_refl _))
          clear hst HS1
          go_wp2_with fail
          refine (size_any _ _ ss HS6.out HL.out.1).mono ?_
          rw [HSZ.out]
          rintro e w7 ⟨rfl, hb⟩
          have HB7 := Lib.hid (HB6.out.trans (hb.mono HB6.out.size))
          have HX7 := Lib.hid (HX6.out.below hb (Nat.le_refl _))
          have HY7 := Lib.hid (HY6.out.below hb (Nat.le_refl _))
          have HS7 := Lib.hid (HS6.out.below hb (Nat.le_refl _))
          have HA7 := Lib.hid (HAA.out.below HB7.out (Nat.le_refl _))
          have HDT7 := Lib.hid (HDT.out.below HB7.out (Nat.le_refl _))
          have HE0 := Lib.hid ((below_drewN (Below.refl w7.heap.size w7) 1).alloc (Nat.le_refl _) (.cells #[] 5))
          have HG0 : Hid (Grow (w7.drew.alloc (.cells #[] 5)) w7.heap.size 5 .u8 (.slice (some ⟨w7.heap.size, 0, none⟩) 0 0) []) := (World.ownsRow_made w7.drew #[] 0 (Nat.le_refl _) (by simp [maxLen]) rfl : World.ownsRow _ _ _ _ _ _ _)
          clear hb HS6 HX6 HY6
          go_wp2_with fail
          refine (num_any _ _).mono ?_
          rintro e w8 ⟨rfl, rfl⟩
          go_wp2_with fail
          refine wp_region_held_drew (S := (fun w' => True)) (by kernel_rfl) ?_ (fun hHeld => ?_)
          · (try dsimp only); try trivial
          refine wpAnyH_take2 (i := 1) (oi := _) (d := some 80) (v := ?_) rfl rfl (by kernel_rfl) (by kernel_rfl) (by kernel_rfl) (fun _ _ _ h => h) (Or.inl ⟨by rfl, ?_⟩) (by assumption) ?_
          rotate_left 1
          · (intro w' hSw; (try dsimp only at hSw); go_simp; try with_reducible rfl)
          try simp only [Act.put, List.setIfInBounds_toArray, List.set_cons_zero, List.set_cons_succ]
          refine wpAnyH_take2 (i := 3) (oi := _) (d := some 82) (v := ?_) rfl rfl (by kernel_rfl) (by kernel_rfl) (by kernel_rfl) (fun _ _ _ h => h) (Or.inl ⟨by rfl, ?_⟩) (by assumption) ?_
          rotate_left 1
          · (intro w' hSw; (try dsimp only at hSw); go_simp; try with_reducible rfl)
          try simp only [Act.put, List.setIfInBounds_toArray, List.set_cons_zero, List.set_cons_succ]
          refine wpAnyH_take2 (i := 4) (oi := _) (d := some 83) (v := ?_) rfl rfl (by kernel_rfl) (by kernel_rfl) (by kernel_rfl) (fun _ _ _ h => h) (Or.inl ⟨by rfl, ?_⟩) (by assumption) ?_
          rotate_left 1
          · (intro w' hSw; (try dsimp only at hSw); go_simp; try with_reducible rfl)
          try simp only [Act.put, List.setIfInBounds_toArray, List.set_cons_zero, List.set_cons_succ]
          refine wpAnyH_take2 (i := 5) (oi := _) (d := some 84) (v := ?_) rfl rfl (by kernel_rfl) (by kernel_rfl) (by kernel_rfl) (fun _ _ _ h => h) (Or.inl ⟨by rfl, ?_⟩) (by assumption) ?_
          rotate_left 1
          · (intro w' hSw; (try dsimp only at hSw); go_simp; try with_reducible rfl)
          try simp only [Act.put, List.setIfInBounds_toArray, List.set_cons_zero, List.set_cons_succ]
          refine wpAnyH_ready (rs := [0]) (by kernel_rfl) (by simp) ?_
          refine AllReadyH.cons (o := _) rfl (fun K hK => ?_) ?_
          rotate_left
          · exact AllReadyH.nil
          go_simp
          refine hK.out _ _ ?_ (fun hHeld => ?_)
          · (try dsimp only); try trivial
          clear hK K
          try simp only [Act.put, List.setIfInBounds_toArray, List.set_cons_zero, List.set_cons_succ]
          refine wpAnyH_ready (rs := [2]) (by kernel_rfl) (by simp) ?_
          refine AllReadyH.cons (o := _) rfl (fun K hK => ?_) ?_
          rotate_left
          · exact AllReadyH.nil
          refine step_append_bytes (by kernel_rfl) _ _ rfl w8.heap.size _ [] aa rfl HG0.out A1 na c1 rfl (HA7.out.below HE0.out (Nat.le_refl _)) (by simp; omega) HE0.out.size na (by simp) ?_; intro A14 c14 w14 hg hgr; rw [List.nil_append] at hg; have HG14 := Lib.hid hg; have HB14 := Lib.hid (HE0.out.grown hgr HE0.out.size (fun r hr => (World.ownsRow.lt HG0.out r hr).1)); clear hg hgr
          refine hK.out _ _ ?_ (fun hHeld => ?_)
          · (try dsimp only); try trivial
          clear hK K
          try simp only [Act.put, List.setIfInBounds_toArray, List.set_cons_zero, List.set_cons_succ]
          refine wpAnyH_ready (rs := [6]) (by kernel_rfl) (by simp) ?_
          refine AllReadyH.cons (o := _) rfl (fun K hK => ?_) ?_
          rotate_left
          · exact AllReadyH.nil
          refine step_append_bytes (by kernel_rfl) _ _ rfl w8.heap.size _ aa (dd.take T) rfl HG14.out A2 T _ rfl (HDT7.out.below HB14.out (Nat.le_refl _)) (by rw [HNA.out]; omega) HB14.out.size (na + T) (by rw [HNA.out]) ?_; intro A15 c15 w15 hg hgr; have HG15 := Lib.hid hg; have HB15 := Lib.hid (HB14.out.grown hgr HB14.out.size (fun r hr => (World.ownsRow.lt HG14.out r hr).1)); clear hg hgr
          refine hK.out _ _ ?_ (fun hHeld => ?_)
          · (try dsimp only); try trivial
          clear hK K
          try simp only [Act.put, List.setIfInBounds_toArray, List.set_cons_zero, List.set_cons_succ]
          refine wpAnyH_take2 (i := 7) (oi := _) (d := some 16) (v := ?_) rfl rfl (by kernel_rfl) (by kernel_rfl) (by kernel_rfl) (fun _ _ _ h => h) (Or.inl ⟨by rfl, ?_⟩) (by assumption) ?_
          rotate_left 1
          · (intro w' hSw; (try dsimp only at hSw); go_simp; try with_reducible rfl)
          try simp only [Act.put, List.setIfInBounds_toArray, List.set_cons_zero, List.set_cons_succ]
          refine wpAnyH_done (by kernel_rfl) ?_ _
          have HX := Lib.hid (HX7.out.below HB15.out (Nat.le_refl _))
          have HY := Lib.hid (HY7.out.below HB15.out (Nat.le_refl _))
          have HS15 := Lib.hid (HS7.out.below HB15.out (Nat.le_refl _))
          have HB16 := Lib.hid (HB7.out.trans (HB15.out.mono HB7.out.size))
          have HI15 : Hid (Ints w15 .u8 (.slice A15 (na + T) c15) (aa ++ dd.take T)) := Lib.hid (Grow.ints HG15.out)
          have HT15 := Lib.hid ((HDT.out.ints t4 t5).below HB16.out (Nat.le_refl _))
          have HR15 := Lib.hid (HRU.out.below HB16.out (Nat.le_refl _))
          have HA15 := Lib.hid (HA.out.below HB16.out (Nat.le_refl _))
          have HD15 := Lib.hid (HD.out.below HB16.out (Nat.le_refl _))
          clear HX7 HY7 HS7 HA7 HDT7 HE0 HG0 HG14 HB14 HG15 HB15 HB7 HB6 HB1
          go_wp2_with fail
          refine (num_any _ _).mono ?_
          rintro e w17 ⟨rfl, rfl⟩
          go_wp2_with fail
          refine (verify_any _ _ _ _ aL aa (dd.take T) wd HX.out HA15.out HT15.out HLL.out.1 HL.out.2.1 HLL.out.2.1).mono ?_
          rw [H1.out]
          rintro e w18 ⟨rfl, hb⟩
          have HB18 := Lib.hid (HB16.out.trans (hb.mono HB16.out.size))
          have HX18 := Lib.hid (HX.out.below hb (Nat.le_refl _))
          have HY18 := Lib.hid (HY.out.below hb (Nat.le_refl _))
          have HS18 := Lib.hid (HS15.out.below hb (Nat.le_refl _))
          have HI18 := Lib.hid (HI15.out.below hb (Nat.le_refl _))
          have HT18 := Lib.hid (HT15.out.below hb (Nat.le_refl _))
          have HR18 := Lib.hid (HR15.out.below hb (Nat.le_refl _))
          have HD18 := Lib.hid (HD15.out.below hb (Nat.le_refl _))
          clear hb HX HY HS15 HI15 HT15 HR15 HD15 HA15
          go_wp2_with fail
          refine (num_any _ _).mono ?_
          rintro e w19 ⟨rfl, rfl⟩
          go_wp2_with fail
          refine (verify_any _ _ _ _ bL (aa ++ dd.take T) (dd.drop T) wd HY18.out HI18.out HR18.out HLL.out.2.2.1 HLL.out.2.2.2.1 HLL.out.2.2.2.2.1).mono ?_
          rw [H2.out]
          rintro e w20 ⟨rfl, hb⟩
          have HB20 := Lib.hid (HB18.out.trans (hb.mono HB18.out.size))
          have HX20 := Lib.hid (HX18.out.below hb (Nat.le_refl _))
          have HY20 := Lib.hid (HY18.out.below hb (Nat.le_refl _))
          have HS20 := Lib.hid (HS18.out.below hb (Nat.le_refl _))
          have HT20 := Lib.hid (HT18.out.below hb (Nat.le_refl _))
          have HR20 := Lib.hid (HR18.out.below hb (Nat.le_refl _))
          have HD20 := Lib.hid (HD18.out.below hb (Nat.le_refl _))
          clear hb HX18 HY18 HS18 HI18 HT18 HR18 HD18
          go_wp2_with fail
          refine (num_any _ _).mono ?_
          rintro e w21 ⟨rfl, rfl⟩
          go_wp2_with fail
          refine (lits_any _ _ _ aL (dd.take T) HX20.out HT20.out (by have := HLE.out; omega) (by have := HLL.out; omega)).mono ?_
          rw [HXS.out]
          simp only
          rw [HXL.out]
          rintro e w22 ⟨A7, c7, rfl, -, hb⟩
          have HB22 := Lib.hid (HB20.out.trans (hb.mono HB20.out.size))
          have HY22 := Lib.hid (HY20.out.below hb (Nat.le_refl _))
          have HS22 := Lib.hid (HS20.out.below hb (Nat.le_refl _))
          have HR22 := Lib.hid (HR20.out.below hb (Nat.le_refl _))
          have HD22 := Lib.hid (HD20.out.below hb (Nat.le_refl _))
          clear hb HX20 HY20 HS20 HT20 HR20 HD20
          go_wp2_with fail
          refine (lits_any _ _ _ bL (dd.drop T) HY22.out HR22.out (by have := HLE.out; omega) (by have := HLL.out; omega)).mono ?_
          rw [HYS.out]
          simp only
          rw [HYL.out]
          rintro e w23 ⟨A8, c8, rfl, -, hb⟩
          have HB23 := Lib.hid (HB22.out.trans (hb.mono HB22.out.size))
          have HS23 := Lib.hid (HS22.out.below hb (Nat.le_refl _))
          have HD23 := Lib.hid (HD22.out.below hb (Nat.le_refl _))
          clear hb HY22 HS22 HR22 HD22
          go_wp2_with fail
          refine (lits_any _ _ _ ss dd HS23.out HD23.out (by rw [HN.out]; omega) (by rw [HND.out]; omega)).mono ?_
          rw [HZS.out]
          simp only
          rw [HZL.out]
          rintro e w24 ⟨A9, c9, rfl, -, hb⟩
          have HB24 := Lib.hid (HB23.out.trans (hb.mono HB23.out.size))
          clear hb HS23 HD23
          go_wp2_with fail
          refine (num_any _ _).mono ?_
          rintro e w25 ⟨rfl, rfl⟩
          go_wp2_with fail
          refine (num_any _ _).mono ?_
          rintro e w26 ⟨rfl, rfl⟩
          go_wp2_with fail
          refine (num_any _ _).mono ?_
          rintro e w27 ⟨rfl, rfl⟩
          go_wp2_with (go_at_call 11; refine (works_at HB24.out).mono ?_; rintro e w9 ⟨rfl, hb⟩; have HB := Lib.hid hb; clear hb)
          go_ret
          exact ⟨rfl, HB.out⟩
      · have hcr : cutR ss at_ = ([], [], 21) := by unfold cutR; rw [s1]; simp only [if_true]; rw [if_neg hc]
        have HCR := Lib.hid hcr
        clear hcr hp hargs hq hz s1
        have hor : at_ < 0 ∨ (0 ≤ at_ ∧ (z : Int) < at_) := by omega
        clear hc
        rcases hor with o1 | ⟨o1, o2⟩
        all_goals
          go_enter Try.func8, Try.ntmps8
          go_wp2_with fail
          refine (verify_any _ _ _ _ ss aa dd wd HS.out HA.out HD.out HL.out.1 HL.out.2.1 HL.out.2.2).mono ?_
          rw [HQ.out]
          rintro e w1 ⟨rfl, hb⟩
          have HB1 := Lib.hid hb
          have HS1 := Lib.hid (HS.out.below hb (Nat.le_refl _))
          clear hb
          go_wp2_with fail
          refine (num_any _ _).mono ?_
          rintro e w5 ⟨rfl, rfl⟩
          go_wp2_with fail
          refine (cut_any _ _ ss at_ HS1.out HL.out.1).mono ?_
          rw [HCR.out]
          simp only
          rintro e w6 ⟨vx, vy, rfl, hst⟩
          have HB6 := Lib.hid (HB1.out.trans (hst.bel.mono HB1.out.size))
          have HS6 := Lib.hid (HS1.out.below hst.bel (Nat.le_refl _))
          clear hst HS1
          go_wp2_with fail
          refine (size_any _ _ ss HS6.out HL.out.1).mono ?_
          rw [HSZ.out]
          rintro e w7 ⟨rfl, hb⟩
          have HB7 := Lib.hid (HB6.out.trans (hb.mono HB6.out.size))
          clear hb HS6
          go_wp2_with fail
          refine (num_any _ _).mono ?_
          rintro e w8 ⟨rfl, rfl⟩
          go_wp2_with (go_at_call 11; refine (works_at HB7.out).mono ?_; rintro e w9 ⟨rfl, hb⟩; have HB := Lib.hid hb; clear hb)
          go_ret
          exact ⟨rfl, HB.out⟩
    · have hq0b : (q == 0) = false := by simpa using hq0
      have hq0c : (q != 0) = true := by simpa using hq0
      clear hq
      go_enter Try.func8, Try.ntmps8
      go_wp2_with fail
      refine (verify_any _ _ _ _ ss aa dd wd HS.out HA.out HD.out HL.out.1 HL.out.2.1 HL.out.2.2).mono ?_
      rw [HQ.out]
      rintro e w1 ⟨rfl, hb⟩
      have HB1 := Lib.hid hb
      clear hb
      go_wp2_with fail
      refine (num_any _ _).mono ?_
      rintro e w5 ⟨rfl, rfl⟩
      go_wp2_with (go_at_call 11; refine (works_at HB1.out).mono ?_; rintro e w9 ⟨rfl, hb⟩; have HB := Lib.hid hb; clear hb)
      go_ret
      exact ⟨rfl, HB.out⟩
  · have hcase : 60 < n ∨ (n ≤ 60 ∧ 300 < na) ∨ (n ≤ 60 ∧ na ≤ 300 ∧ 300 < nd) := by omega
    clear hg
    rcases hcase with g1 | ⟨g1, g2⟩ | ⟨g1, g2, g3⟩
    · have gi1 : (60 : Int) < (n : Int) := by omega
      go_enter Try.func8, Try.ntmps8
      go_wp2_with (go_at_call 11; refine (works_at (Below.refl _ w)).mono ?_; rintro e w1 ⟨rfl, hb⟩; have HB := Lib.hid hb; clear hb)
      go_ret
      exact ⟨rfl, HB.out⟩
    · have gi1 : (n : Int) ≤ 60 := by omega
      have gi2 : (300 : Int) < (na : Int) := by omega
      go_enter Try.func8, Try.ntmps8
      go_wp2_with (go_at_call 11; refine (works_at (Below.refl _ w)).mono ?_; rintro e w1 ⟨rfl, hb⟩; have HB := Lib.hid hb; clear hb)
      go_ret
      exact ⟨rfl, HB.out⟩
    · have gi1 : (n : Int) ≤ 60 := by omega
      have gi2 : (na : Int) ≤ 300 := by omega
      have gi3 : (300 : Int) < (nd : Int) := by omega
      go_enter Try.func8, Try.ntmps8
      go_wp2_with (go_at_call 11; refine (works_at (Below.refl _ w)).mono ?_; rintro e w1 ⟨rfl, hb⟩; have HB := Lib.hid hb; clear hb)
      go_ret
      exact ⟨rfl, HB.out⟩
end Go.Proofs.Ytamhkfnghgbenaa
