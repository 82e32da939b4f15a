/-
  plan: the reference's Is.
-/
import Derived.Test.YtamhkfnghgbenaaPlRefL
namespace Go.Proofs.Ytamhkfnghgbenaa
set_option linter.all false
open Go.RowKit

set_option linter.unusedSimpArgs false
set_option maxRecDepth 100000 in
set_option maxHeartbeats 3200000 in
theorem ris_any (w : World) (v va vd : Value) (ss : List SeqD) (aa dd : List Int) (wd : Int) (h : Seqs w v ss) (ha : Ints w .u8 va aa) (hd : Ints w .u8 vd dd) (hl : ss.length ≤ 100000) (l1 : aa.length ≤ 300000) (l2 : dd.length ≤ 300000) :
    Calls Try.prog 19 #[v, va, vd, .int .i64 wd] w fun e w' => e = .returned (.int .i64 (verR ss aa dd wd)) ∧ Below w.heap.size w w' := by
  have HS := Lib.hid h
  have HL := Lib.hid hl
  obtain ⟨A1, c1, rfl, a1, a2, a3⟩ := ints_form ha
  obtain ⟨A2, c2, rfl, d1, d2, d3⟩ := ints_form hd
  obtain ⟨⟨A, c, hv, hlc, hcm, hat⟩, hwf⟩ := h
  have HAT := Lib.hid hat
  obtain ⟨q, hq⟩ : ∃ q, (whereR ss dd.length aa.length wd).2 = q := ⟨_, rfl⟩
  obtain ⟨q', hq'⟩ : ∃ q, (whereR ss dd.length aa.length wd).1 = q := ⟨_, rfl⟩
  obtain ⟨n, hn⟩ : ∃ n, ss.length = n := ⟨_, rfl⟩
  obtain ⟨na, hna⟩ : ∃ n, aa.length = n := ⟨_, rfl⟩
  obtain ⟨nd, hnd⟩ : ∃ n, dd.length = n := ⟨_, rfl⟩
  rw [hn] at hv hlc
  rw [hna] at a1 a3 l1
  rw [hnd] at d1 d3 l2
  have HA := Lib.hid a3
  have HD := Lib.hid d3
  subst hv
  rw [hna, hnd] at hq hq' ⊢
  have HQ := Lib.hid hq
  have HQ' := Lib.hid hq'
  have HN := Lib.hid hn
  have HNA := Lib.hid hna
  have HND := Lib.hid hnd
  have hnab : (na : Int) ≤ 9223372036854775807 := by omega
  have HNB : Hid ((na : Int) ≤ 9223372036854775807) := (hnab : _ ≤ _)
  clear hl a3 d3 ha hd hn hna hnd hat hwf hq'
  by_cases hq0 : q = 0
  · subst hq0
    obtain ⟨hok, hgood⟩ := whereR_good hq
    have hg1 := good_one ⟨hok.1, hok.2.2.1⟩ (Nat.le_refl _) hgood
    have hgn := nGood_all hg1
    rw [HN.out] at hgn
    have HGN := Lib.hid hgn
    have HGOOD := Lib.hid hgood
    have HL2 : Hid (n ≤ 100000) := (by have := HL.out; rw [HN.out] at this; exact this : n ≤ 100000)
    have hnn : (n : Int) ≤ 9223372036854775807 := by have := HL2.out; omega
    have hndb : nd ≤ 131072 := by have := hok.2.2.1; omega
    clear hok hgood hg1 hgn hq
    go_enter Try.func19, Try.ntmps19
    go_wp2_with fail
    refine (rwhere_any _ _ ss nd na wd HS.out HL.out HNB.out).mono ?_
    rw [HQ.out, HQ'.out]
    rintro e w1 ⟨rfl, hb⟩
    have HB1 := Lib.hid hb
    clear hb
    have hg0 : Grow (w1.alloc (.cells #[] 5)) w.heap.size 5 .u8 (.slice (some ⟨w1.heap.size, 0, none⟩) 0 0) [] := World.ownsRow_made (size := 1) w1 #[] 0 HB1.out.size (by simp [maxLen]) rfl
    have HG0 := Lib.hid hg0
    clear hg0
    have HB2 := Lib.hid (HB1.out.alloc HB1.out.size (.cells #[] 5))
    go_wp2_with (first
      | (at_builtin; refine wpList_append_ints_any rfl _ _ rfl w.heap.size _ [] aa rfl HG0.out A1 na c1 rfl (HA.out.below HB2.out (Nat.le_refl _)) (by simp; omega) HB2.out.size na (by simp) ?_; intro A6 c6 w6 hg hgr; rw [List.nil_append] at hg; have HG6 := Lib.hid hg; have HB6 := Lib.hid (HB2.out.grown hgr HB2.out.size (fun r hr => (World.ownsRow.lt HG0.out r hr).1)); clear hg hgr)
      | (at_builtin; refine wpList_append_ints_any rfl _ _ rfl w.heap.size _ aa dd rfl HG6.out A2 nd c2 rfl (HD.out.below HB6.out (Nat.le_refl _)) (by rw [HNA.out]; omega) HB6.out.size (na + nd) (by rw [HNA.out]) ?_; intro A7 c7 w7 hg hgr; have HAT7 := Lib.hid (Grow.at_ hg); have HC7 := Lib.hid (Grow.cap hg); have HB7 := Lib.hid (HB6.out.grown hgr HB6.out.size (fun r hr => (World.ownsRow.lt HG6.out r hr).1)); clear hg hgr)
      | (go_at_call 25; refine (rbegins_any w7 _ ss (HS.out.below HB7.out (Nat.le_refl _)) HL.out).mono ?_; rw [HGN.out]; rintro e w8 ⟨A8, c8, rfl, hg, hb⟩; have HAG8 := Lib.hid (Grow.at_ hg); have HC8 := Lib.hid (Grow.cap hg); have HAT8 := Lib.hid (HAT7.out.below hb (Nat.le_refl _)); have HB8 := Lib.hid (HB7.out.trans (hb.mono HB7.out.size)); clear hg hb))
    clear HB1 HB2 HG0 HG6 HB6 HAT7 HB7
    generalize wrongR ss = wr0
    generalize posL (ss.take n) = ps0
    go_loopw [15] (fun i wr => ∃ k : Nat, k ≤ n ∧ i = .int .i64 k ∧ Hid (Below w.heap.size w wr) ∧ Hid (AtInts wr .u8 A7 (na + nd) (aa ++ dd)) ∧ Hid (AtInts wr .i64 A8 n (beginsOf ss n)) ∧ Hid (∀ j < k, copyOk (aa ++ dd) na ss j = true)) (fun i _ => n - (intOf i).toNat)
    case atStart => exact ⟨0, Nat.zero_le _, rfl, (HB8.out : Below _ _ _), (HAT8.out : AtInts _ _ _ _ _), (HAG8.out : AtInts _ _ _ _ _), (fun j hj => absurd hj (Nat.not_lt_zero _) : ∀ j < 0, _)⟩
    case round =>
      clear HB8 HAT8 HAG8
      obtain ⟨k, hk, rfl, HB, HAL, HBG, HOK⟩ := hrel
      have k0 : (0 : Int) ≤ (k : Int) := by omega
      by_cases hlt : k < n
      · have k1 : (k : Int) < (n : Int) := by omega
        have hxk := List.getElem?_eq_getElem (l := ss) (i := k) (by rw [HN.out]; exact hlt)
        obtain ⟨⟨lit, len, offs⟩, hse⟩ : ∃ s, ss[k]'(by rw [HN.out]; exact hlt) = s := ⟨_, rfl⟩
        rw [hse] at hxk
        obtain ⟨b, off, hA, hcl⟩ := HAT.out (by rw [HN.out]; omega)
        subst hA
        obtain ⟨p0, p1, p2⟩ := hcl k _ hxk
        have hpos := Good.pos (by omega) (Nat.le_of_lt (by rw [HN.out]; exact hlt)) (fun i s hi => HGOOD.out i s (by rw [HN.out]; omega) : Good 2 nd na wd ss k)
        obtain ⟨⟨o1, o2, o3, o4⟩, hr2⟩ := HGOOD.out k _ (by rw [HN.out]; exact hlt) hxk
        obtain ⟨o5, o6, o7⟩ := hr2 (by omega)
        have hcp : copyOk (aa ++ dd) na ss k = matchOk (aa ++ dd) (na + (posL (ss.take k) + lit).toNat) len.toNat offs.toNat := by unfold copyOk; rw [hxk]
        obtain ⟨P, hP⟩ : ∃ P, posL (ss.take k) = P := ⟨_, rfl⟩
        simp only [stepAt] at o1 o2 o3 o4 o5 o6 o7
        simp only at p0 p1 p2
        have hbg : (beginsOf ss n)[k]? = some P := by rw [beginsOf_get hlt, hP]
        rw [hP] at hpos o3 o4 o7 hcp
        obtain ⟨p, rfl⟩ := Int.eq_ofNat_of_zero_le hpos.1
        obtain ⟨l, rfl⟩ := Int.eq_ofNat_of_zero_le o1
        obtain ⟨m, rfl⟩ := Int.eq_ofNat_of_zero_le (by omega : 0 ≤ len)
        obtain ⟨o, rfl⟩ := Int.eq_ofNat_of_zero_le (by omega : 0 ≤ offs)
        obtain ⟨F, hF⟩ : ∃ F, na + p + l = F := ⟨_, rfl⟩
        have hoF : o ≤ F := by omega
        have hFm : F + m ≤ na + nd := by omega
        have HCP : Hid (copyOk (aa ++ dd) na ss k = matchOk (aa ++ dd) F m o) := (by rw [hcp, show na + ((p : Int) + (l : Int)).toNat = F by omega, Int.toNat_natCast, Int.toNat_natCast] : _ = _)
        have ew1 : IntKind.i64.wrap ((na : Int) + (p : Int)) = (na : Int) + p := wrap_in _ (by omega) (by omega)
        have ew2 : IntKind.i64.wrap ((na : Int) + (p : Int) + (l : Int)) = (F : Int) := by rw [wrap_in _ (by omega) (by omega)]; omega
        have ew3 : IntKind.i64.wrap ((F : Int) + (m : Int)) = (F : Int) + m := wrap_in _ (by omega) (by omega)
        obtain ⟨bb, ob, hA8, hcb⟩ := HBG.out.2 (by omega)
        subst hA8
        have g0 := hcb k _ hbg
        have QL : Hid (∀ W : World, Below w.heap.size w W → W.cell? ⟨b, off + k * 3, none⟩ = some (.int .i64 l) ∧ W.cell? ⟨b, off + k * 3 + 1, none⟩ = some (.int .i64 m) ∧ W.cell? ⟨b, off + k * 3 + 2, none⟩ = some (.int .i64 o)) := (fun W hW => ⟨(hW.cell (World.block_lt_of_cell? w _ p0)).trans p0, (hW.cell (World.block_lt_of_cell? w _ p1)).trans p1, (hW.cell (World.block_lt_of_cell? w _ p2)).trans p2⟩ : ∀ W : World, _)
        obtain ⟨g1, g2, g3⟩ := QL.out _ HB.out
        have kc := HC8.out.1
        have F0 : (0 : Int) ≤ (F : Int) := by omega
        clear hcp hP hpos o1 o2 o3 o4 o5 o6 o7 hr2 hxk hse hcl hbg hcb p0 p1 p2
        go_wp2
        go_quiet (fail)
        go_wp2
        go_loopw [17] (fun j wr => ∃ t : Nat, F ≤ t ∧ t ≤ F + m ∧ j = .int .i64 t ∧ Hid (Below w.heap.size w wr) ∧ Hid (AtInts wr .u8 A7 (na + nd) (aa ++ dd)) ∧ Hid (AtInts wr .i64 (some ⟨bb, ob, none⟩) n (beginsOf ss n)) ∧ Hid (∀ i, F ≤ i → i < t → (aa ++ dd)[i]? = (aa ++ dd)[i - o]?)) (fun j _ => F + m - (intOf j).toNat)
        case atStart => exact ⟨F, Nat.le_refl _, by omega, rfl, (below_drewN HB.out _ : Below _ _ _), (HAL.out.drewN _ : AtInts _ _ _ _ _), (HBG.out.drewN _ : AtInts _ _ _ _ _), (fun i h1 h2 => by omega : ∀ i, F ≤ i → i < F → _)⟩
        case round =>
          clear HB HAL HBG g0 g1 g2 g3
          obtain ⟨t, ht1, ht2, rfl, HB, HAL, HBG, HEQ⟩ := hrel
          obtain ⟨g1, g2, g3⟩ := QL.out _ HB.out
          have t0 : (0 : Int) ≤ (t : Int) := by omega
          by_cases htl : t < F + m
          · have t1 : (t : Int) < (F : Int) + m := by omega
            obtain ⟨ba, oa, x, hA7, hbl, gx, HX⟩ := HAL.out.at_ (i := t) (by omega)
            obtain ⟨ba', oa', y, hA7', -, gy, HY⟩ := HAL.out.at_ (i := t - o) (by omega)
            subst hA7
            injection hA7' with hA7'
            injection hA7' with e1 e2
            subst e1 e2
            have ew4 : IntKind.i64.wrap ((t : Int) - (o : Int)) = ((t - o : Nat) : Int) := by rw [wrap_in _ (by omega) (by omega)]; omega
            have ew5 : IntKind.i64.wrap ((t : Int) + 1) = ((t + 1 : Nat) : Int) := by rw [wrap_in _ (by omega) (by omega)]; omega
            have i1 : (t : Int) < ((na + nd : Nat) : Int) := by omega
            have i2 : (0 : Int) ≤ ((t - o : Nat) : Int) := by omega
            have i3 : ((t - o : Nat) : Int) < ((na + nd : Nat) : Int) := by omega
            have HT : Hid (F ≤ t ∧ t < F + m ∧ o ≤ F) := (⟨ht1, htl, hoF⟩ : _ ∧ _ ∧ _)
            obtain ⟨d, hd⟩ : ∃ d, t - o = d := ⟨_, rfl⟩
            rw [hd] at gy HY ew4 i2 i3
            have HDD := Lib.hid hd
            clear hd
            by_cases hxy : x = y
            · subst hxy
              go_wp2
              go_quiet (fail)
              go_wp2
              go_roundw
              case rel => exact ⟨t + 1, by omega, by omega, by go_num, (below_drewN HB.out _ : Below _ _ _), (HAL.out.drewN _ : AtInts _ _ _ _ _), (HBG.out.drewN _ : AtInts _ _ _ _ _), (fun i h1 h2 => by
                rcases Nat.lt_or_ge i t with h3 | h3
                · exact HEQ.out i h1 h3
                · obtain rfl : i = t := by omega
                  rw [HX.out, HDD.out, HY.out] : ∀ i, F ≤ i → i < t + 1 → (aa ++ dd)[i]? = (aa ++ dd)[i - o]?)⟩
              case measure => simp [intOf]; omega
            · have hne : (aa ++ dd)[t]? ≠ (aa ++ dd)[t - o]? := by
                rw [HX.out, HDD.out, HY.out]
                intro e
                exact hxy (Option.some.inj e)
              have HV : Hid (verR ss aa dd wd = 22) := (verR_no (by rw [HNA.out, HND.out]; exact HQ.out) (by rw [HN.out]; exact hlt) (by rw [HNA.out]; exact HCP.out.trans (match_no HT.out.2.2 HT.out.1 HT.out.2.1 hne)) : _ = _)
              clear hne
              go_wp2
              go_quiet (fail)
              go_wp2
              go_ret
              exact ⟨by rw [HV.out]; rfl, below_drewN HB.out _⟩
          · obtain rfl : t = F + m := by omega
            go_wp2
            go_roundw
            case rel => exact ⟨k + 1, by omega, by go_num, (HB.out : Below _ _ _), (HAL.out : AtInts _ _ _ _ _), (HBG.out : AtInts _ _ _ _ _), (ver_succ HOK.out (HCP.out.trans (match_yes hoF HEQ.out)) : _)⟩
            case measure => simp [intOf]; omega
      · obtain rfl : k = n := by omega
        go_wp2
        go_ret
        have hv : verR ss aa dd wd = 0 := verR_yes (by rw [HNA.out, HND.out]; exact HQ.out) (fun j hj => by rw [HNA.out]; exact HOK.out j (by rw [HN.out] at hj; exact hj))
        exact ⟨by rw [hv]; rfl, HB.out⟩
  · have hv : verR ss aa dd wd = q := by rw [verR_bad (by rw [HNA.out, HND.out, HQ.out]; exact hq0), HNA.out, HND.out, HQ.out]
    have HV := Lib.hid hv
    clear hv hq
    go_enter Try.func19, Try.ntmps19
    go_wp2_with fail
    refine (rwhere_any _ _ ss nd na wd HS.out HL.out HNB.out).mono ?_
    rw [HQ.out, HQ'.out]
    rintro e w1 ⟨rfl, hb⟩
    have HB1 := Lib.hid hb
    clear hb
    go_wp2
    go_ret
    exact ⟨by rw [HV.out]; rfl, HB1.out⟩
end Go.Proofs.Ytamhkfnghgbenaa
