/-
  ExecParts: the law's walk.
-/
import Derived.Test.YtndgdehlnmheeaaExDuo
import Derived.Test.YtndgdehlnmheeaaExLawP
import Derived.Test.YtndgdehlnmheeaaArgSeqs
namespace Go.Proofs.Ytndgdehlnmheeaa
set_option linter.all false
set_option maxRecDepth 100000
open Go.RowKit

theorem strOfNums_app (xs ys : List Int) : strOfNums xs ++ strOfNums ys = strOfNums (xs ++ ys) := by
  have h : (strOfNums xs ++ strOfNums ys).data = (strOfNums (xs ++ ys)).data := by
    apply Array.toList_inj.1
    rw [ByteArray.data_append, Array.toList_append, strOfNums_data, strOfNums_data, strOfNums_data, List.map_append]
  cases hA : strOfNums xs ++ strOfNums ys
  cases hB : strOfNums (xs ++ ys)
  rw [hA, hB] at h
  simp at h
  rw [h]

theorem strOfNums_size (xs : List Int) : (strOfNums xs).size = xs.length := by
  show (strOfNums xs).data.size = _
  rw [← Array.length_toList, strOfNums_data, List.length_map]

set_option maxHeartbeats 12800000 in
theorem execParts_walk {w : World} (sz : Int) (_hsz : (Lit.int .i64 sz).wf = true) (va : Value) (aa : List Int) (ha : Ints w .u8 va aa ∧ ∀ z ∈ aa, (Lit.int .u8 z).wf = true) (vl : Value) (ls : List Int) (hl : Ints w .u8 vl ls ∧ ∀ z ∈ ls, (Lit.int .u8 z).wf = true) (v : Value) (ss : List SeqD) (h : Seqs w v ss) (at_ : Int) (_hat : (Lit.int .i64 at_).wf = true) :
    Calls Try.prog 10 #[.int .i64 sz, va, vl, v, .int .i64 at_] w fun e w' => e = .returned (.bool true) ∧ Below w.heap.size w w' := by
  have HS := Lib.hid h
  have HA := Lib.hid ha.1
  have HL := Lib.hid hl.1
  have HUA : Hid (U8s aa) := ((fun z hz => u8_wf (ha.2 z hz)) : U8s aa)
  have HUL : Hid (U8s ls) := ((fun z hz => u8_wf (hl.2 z hz)) : U8s ls)
  obtain ⟨A1, c1, rfl, a1, a2, -⟩ := ints_form ha.1
  obtain ⟨A2, c2, rfl, d1, d2, dat⟩ := ints_form hl.1
  obtain ⟨⟨A, c, hv', hlc, hcm, h4⟩, -⟩ := h
  have hown : ∀ k, 0 < ss.length → v.ownBlock = some k → k < w.heap.size := fun k h0 hk => by
    obtain ⟨b, off, rfl, hcell⟩ := h4 h0
    rw [hv'] at hk
    obtain rfl : b = k := by simpa [Value.ownBlock] using hk
    exact World.block_lt_of_cell? w _ (hcell 0 _ (List.getElem?_eq_getElem h0)).1
  have HOWN := Lib.hid hown
  have HDAT := Lib.hid dat
  have HCM := Lib.hid hcm
  clear hown h4 dat
  obtain ⟨n, hn⟩ : ∃ n, ss.length = n := ⟨_, rfl⟩
  obtain ⟨na, hna⟩ : ∃ n, aa.length = n := ⟨_, rfl⟩
  obtain ⟨nl, hnl⟩ : ∃ n, ls.length = n := ⟨_, rfl⟩
  have HN := Lib.hid hn
  have HNA := Lib.hid hna
  have HNL := Lib.hid hnl
  rw [hn] at hv' hlc
  rw [hna] at a1 HA ⊢
  rw [hnl] at d1 HL HDAT ⊢
  subst hv'
  have hni : (n : Int) ≤ 9223372036854775807 := by simp only [maxLen] at hcm; omega
  have hnli : (nl : Int) ≤ 9223372036854775807 := by omega
  clear ha hl hn hna hnl hcm
  have hF : ∀ W, Below w.heap.size w W → Calls Try.prog 11 #[.slice A n c, .slice A1 na c1, .slice A2 nl c2] W (FewPost ss na nl W) := fun W hW => few_any W _ ss (HS.out.below hW (Nat.le_refl _)) A1 A2 na nl c1 c2 (by omega) (by omega)
  have HF := Lib.hid (hF w (Below.refl _ _))
  clear hF
  by_cases hat : 0 ≤ at_ ∧ at_ ≤ (n : Int)
  · obtain ⟨m, rfl⟩ := Int.eq_ofNat_of_zero_le hat.1
    have hmn : m ≤ n := by omega
    have m0 : (0 : Int) ≤ (m : Int) := by omega
    have m1 : (m : Int) ≤ (n : Int) := by omega
    have m2 : (m : Int) ≤ (c : Int) := by omega
    clear hat
    by_cases hsz : 1 ≤ sz ∧ sz ≤ 134217728
    · obtain ⟨S, rfl⟩ := Int.eq_ofNat_of_zero_le (show 0 ≤ sz by omega)
      have hS1 : 1 ≤ S := by omega
      have hS2 : S ≤ 134217728 := by omega
      clear hsz
      obtain ⟨⟨ra, rt, re⟩, hr⟩ : ∃ p, chkOf S aa ls 131072 ss = p := ⟨_, rfl⟩
      by_cases hre : re = 0
      · subst hre
        obtain ⟨-, -, hck⟩ := chkOf_ok hr
        obtain ⟨-, -, rfl⟩ := content_length (C := aa) hck
        obtain ⟨n0, t1, t2, p1, p2, p3, p4, p5, p6⟩ := exec_parts (H := aa) (lits := ls) (m := m) hS1 hS2 (by rw [HN.out]; exact hmn) hck
        have hsum : ∀ k, k ≤ m → 0 ≤ litSum ss k ∧ litSum ss k ≤ nl := fun k hk => by
          have := litSum_run hck (H := aa) (k := k) (by rw [HN.out]; omega)
          rw [HNL.out] at this
          exact ⟨this.1, this.2.1⟩
        have HSUM := Lib.hid hsum
        obtain ⟨X, hX⟩ : ∃ X, contentL aa (ls.take n0) (ss.take m) = X := ⟨_, rfl⟩
        rw [hX] at p4 p5 p6
        obtain ⟨Y, hY⟩ : ∃ Y, contentL (aa ++ X) (ls.drop n0) (ss.drop m) = Y := ⟨_, rfl⟩
        rw [hY] at p6
        obtain ⟨x, hx⟩ : ∃ x, X.length = x := ⟨_, rfl⟩
        obtain ⟨y, hy⟩ : ∃ y, Y.length = y := ⟨_, rfl⟩
        rw [hx] at p4 p5
        rw [HNL.out] at p2
        have HP1 := Lib.hid p1
        have HP3 := Lib.hid p3
        have HP6 := Lib.hid p6
        have HX := Lib.hid hX
        have HY := Lib.hid hY
        have HXL := Lib.hid hx
        have HYL := Lib.hid hy
        have HCH := Lib.hid hr
        have HBL : Hid ((X ++ Y).length = x + y) := (by rw [List.length_append, hx, hy] : _ = _)
        have x0 : (0 : Int) ≤ (n0 : Int) := by omega
        have x1 : (n0 : Int) ≤ (nl : Int) := by omega
        have x2 : (n0 : Int) ≤ (c2 : Int) := by omega
        have x3 : (x : Int) ≤ 131072 := by omega
        have hmin : (if (x : Int) < 131072 then (x : Int) else 131072) = x := by omega
        have ew : IntKind.i64.wrap (131072 - (x : Int)) = 131072 - x := wrap_in _ (by omega) (by omega)
        have HP5 : Hid (chkOf S (aa ++ X) (ls.drop n0) (IntKind.i64.wrap (131072 - (x : Int))) (ss.drop m) = (0, t2, 0)) := (by rw [ew]; exact p5 : _ = _)
        have HYB : Hid ((y : Int) ≤ 131072) := (by have := content_length (C := aa ++ X) (chkOf_ok HP5.out).2.2; rw [HY.out, HYL.out, ew] at this; omega : _ ≤ _)
        have HX3 := Lib.hid x3
        clear x3 hmin ew p4
        have HT2 : Hid (Ints w .u8 (.slice A2 n0 c2) (ls.take n0)) := ((HDAT.out.take p2).ints (by omega) (by simp only [maxLen]; omega) : Ints _ _ _ _)
        have HS2 : Hid (Seqs w (.slice A m c) (ss.take m)) := (HS.out.take hmn : Seqs _ _ _)
        have HUT : Hid (U8s (ls.take n0)) := ((fun z hz => HUL.out z (List.mem_of_mem_take hz)) : U8s _)
        have HUD : Hid (U8s (ls.drop n0)) := ((fun z hz => HUL.out z (List.mem_of_mem_drop hz)) : U8s _)
        clear hck p1 p3 p5 p6 hX hY hx hy hr hsum
        go_enter Try.func10, Try.ntmps10
        go_wp2_with fail
        refine HF.out.mono ?_
        rintro e w1 ⟨bo, rfl, hw, hbo⟩
        obtain rfl : w = w1 := hw.symm
        cases bo
        · clear hbo
          go_wp2_with (go_at_call 12; refine (works_at (Below.refl _ w)).mono ?_; rintro e w9 ⟨rfl, hb⟩; have HB := Lib.hid hb; clear hb)
          go_ret
          exact ⟨rfl, HB.out⟩
        · have HBO := Lib.hid (hbo rfl)
          clear hbo
          go_wp2_with fail
          refine (new_ok _ (S := S) (bs := aa) hS1 hS2 HA.out HUA.out (by have := HBO.out; have := HNA.out; omega)).mono ?_
          rintro e w1 ⟨g, v1, rfl, hm⟩
          have HO1 : Hid (OwnRing w w1 g v1 S (keepL S aa) 0) := (OwnRing.made hm (Below.refl _ w) : OwnRing _ _ _ _ _ _ _)
          clear hm
          go_wp2_with fail
          refine (num_any _ _).mono ?_
          rintro e wn1 ⟨rfl, hw⟩
          obtain rfl : w1 = wn1 := hw.symm
          go_wp2_with fail
          refine (cl_ring _ HO1.out.ring).mono ?_
          rintro e w2 ⟨g2, v2, rfl, hm⟩
          have HD2 := Lib.hid (Duo.made HO1.out hm)
          clear hm HO1
          have HSF1 : Hid (SeqFar (.slice A n c) ss g v1.ownBlock) := (fun k h0 hk => by
            have h1 := HOWN.out k h0 hk
            have h2 := HD2.out.g1
            exact ⟨by omega, fun e => by have := HD2.out.o1 _ e; omega⟩ : SeqFar _ _ _ _)
          have HLw := Lib.hid (HL.out.below HD2.out.below (Nat.le_refl _))
          have HSw := Lib.hid (HS.out.below HD2.out.below (Nat.le_refl _))
          go_wp2_with fail
          refine (run_own _ HD2.out.r1 (C := aa) (keepL_last _ _) _ ls HLw.out HUL.out (by have := HBO.out; have := HNL.out; omega) _ ss HSw.out (by have := HBO.out; omega) HSF1.out 131072 rt HCH.out (by decide)).mono ?_
          rw [HP6.out, HBL.out]
          rintro e w3 ⟨v3, st3, A4, c4, rfl, hok, hg, ha⟩
          have hd := HD2.out.ran hok
          rw [HBL.out, Nat.zero_add] at hd
          have HLA3 := Lib.hid hok.last
          have HG3 := Lib.hid hg.ints
          have HA4 : Hid (∀ b, (Value.slice A4 (x + y) c4).ownBlock = some b → b ≠ g2 ∧ v2.ownBlock ≠ some b) := (fun b hb => by
            have h1 := (ha b hb).1
            have h2 := HD2.out.r2.lt
            exact ⟨by omega, fun e => by have := HD2.out.r2.row.lt _ e; omega⟩ : ∀ _, _)
          have HG2 : Hid (g2 < w3.heap.size ∧ ∀ k, v2.ownBlock = some k → k < w3.heap.size) := (by
            have h1 := hok.but.size
            have h2 := HD2.out.r2.lt
            exact ⟨by omega, fun k hk => by have := HD2.out.r2.row.lt _ hk; omega⟩ : _ ∧ _)
          have HD3 := Lib.hid hd
          clear hok hg hd ha HD2 HLw HSw HSF1
          go_wp2_with fail
          refine (num_any _ _).mono ?_
          rintro e wn2 ⟨rfl, hw⟩
          obtain rfl : w3 = wn2 := hw.symm
          go_wp2
          go_loop [16, 17] (fun s i => ∃ k : Nat, k ≤ m ∧ i = .int .i64 k ∧ s = .int .i64 (litSum ss k)) (fun _ i => m - (intOf i).toNat)
          case atStart => exact ⟨0, Nat.zero_le _, rfl, rfl⟩
          case round =>
            obtain ⟨k, hk, rfl, rfl⟩ := hrel
            by_cases hlt : k < m
            · have hxk := List.getElem?_eq_getElem (l := ss) (i := k) (by rw [HN.out]; omega)
              obtain ⟨⟨lit, len, offs⟩, hse⟩ : ∃ s, ss[k]'(by rw [HN.out]; omega) = s := ⟨_, rfl⟩
              rw [hse] at hxk
              obtain ⟨A0, c0, he, -, -, h4⟩ := (HS.out.below HD3.out.below (Nat.le_refl _)).at_
              injection he with e1 e2 e3
              subst e1 e3
              clear e2
              obtain ⟨b, off, rfl, hcell⟩ := h4 (by rw [HN.out]; omega)
              obtain ⟨q0, q1, q2⟩ := hcell k _ hxk
              simp only at q0 q1 q2
              have hblt := World.block_lt_of_cell? w3 _ q0
              have k0 : (0 : Int) ≤ (k : Int) := by omega
              have k1 : (k : Int) < (n : Int) := by omega
              have k2 : (k : Int) < (m : Int) := by omega
              have h5 := HSUM.out (k + 1) (by omega)
              have hss : litSum ss (k + 1) = litSum ss k + lit := litSum_succ hxk
              have HSS := Lib.hid hss
              rw [hss] at h5
              obtain ⟨z0, z1⟩ := h5
              have z2 : -9223372036854775808 ≤ litSum ss k + lit := by omega
              have z3 : litSum ss k + lit ≤ 9223372036854775807 := by omega
              clear hxk hse hcell h4 hss
              go_wp2
              go_round
              case rel => exact ⟨k + 1, by omega, by go_num, by rw [HSS.out]⟩
              case measure => simp [intOf]; omega
            · obtain rfl : k = m := by omega
              have hp1 := HP1.out
              obtain ⟨L, hL⟩ : ∃ L, litSum ss k = L := ⟨_, rfl⟩
              rw [hL] at hp1 ⊢
              subst hp1
              clear hL
              go_wp2
              have HD4 := Lib.hid (HD3.out.next (below_drewN (Below.refl w3.heap.size w3) 1))
              have HG4 := Lib.hid (HG3.out.below (below_drewN (Below.refl w3.heap.size w3) 1) (Nat.le_refl _))
              have hTw := HT2.out.below HD4.out.below (Nat.le_refl _)
              have HTw := Lib.hid hTw
              have HSw := Lib.hid (HS2.out.below HD4.out.below (Nat.le_refl _))
              have HSF2 : Hid (SeqFar (.slice A k c) (ss.take k) g2 v2.ownBlock) := (fun b h0 hb => by
                have h1 := HOWN.out b (by rw [List.length_take] at h0; omega) (by rw [own_any A n c k c]; exact hb)
                have h2 := HD4.out.g1
                exact ⟨by omega, fun e => by have := HD4.out.o2 _ e; omega⟩ : SeqFar _ _ _ _)
              clear hTw
              go_region_held3 (fun w' => True) (trivial)
                (first
                  | (go_at_call 16; refine (run_own _ HD4.out.r2 (C := aa) (keepL_last _ _) _ (ls.take n0) HTw.out HUT.out (by have := HBO.out; have := HNL.out; rw [List.length_take]; omega) _ (ss.take k) HSw.out (by have := HBO.out; rw [List.length_take]; omega) HSF2.out 131072 t1 HP3.out (by decide)).mono ?_; rw [HX.out, HXL.out]; rintro e w5 ⟨v5, st5, A5, c5, rfl, hok, hg, ha⟩; have hd := (HD4.out.symm.ran hok).symm; rw [HXL.out, Nat.zero_add] at hd; have HLA5 := Lib.hid hok.last; have HX5 := Lib.hid hg.ints; have HG5 := Lib.hid (HG4.out.but hok.but (fun _ => HA4.out)); have HA5 : Hid (∀ b, (Value.slice A5 x c5).ownBlock = some b → b ≠ g2 ∧ v5.ownBlock ≠ some b) := (fun b hb => ⟨by have h1 := (ha b hb).1; have h2 := HG2.out.1; simp at h1; omega, (ha b hb).2⟩ : ∀ _, _); have HA6 : Hid (X ++ Y ≠ [] → ∀ b, (Value.slice A4 (x + y) c4).ownBlock = some b → b ≠ g2 ∧ v5.ownBlock ≠ some b) := (fun hne b hb => ⟨(HA4.out b hb).1, fun e => by rcases hok.own with e2 | e2; exact (HA4.out b hb).2 (e2 ▸ e); have h1 := e2 _ e; have h2 := Ints.own_lt HG4.out hne hb; omega⟩ : _ → _); have HD5 := Lib.hid hd; clear hok hg hd ha))
              go_wp2
              have HD6 := Lib.hid (HD5.out.next (below_drewN (Below.refl w5.heap.size w5) 1))
              have HG6 := Lib.hid (HG5.out.below (below_drewN (Below.refl w5.heap.size w5) 1) (Nat.le_refl _))
              have HX6 := Lib.hid (HX5.out.below (below_drewN (Below.refl w5.heap.size w5) 1) (Nat.le_refl _))
              clear HD3 HD4 HG3 HG4 HTw HSw HSF2 HG5 HX5 HX HP1 HP3 HSUM
              have hmin : ∀ q : Nat, q = x → (if (q : Int) < 131072 then (q : Int) else 131072) = q := fun q hq => by
                subst hq
                have := HX3.out
                by_cases h : (q : Int) < 131072
                · rw [if_pos h]
                · rw [if_neg h]; omega
              have x3 : (x : Int) ≤ 131072 := HX3.out
              have y0 : (0 : Int) ≤ (x : Int) := by omega
              by_cases hc2 : c2 = n0
              · obtain rfl : n0 = nl := by omega
                subst hc2
                have HV1 : Hid (Ints (w5.drewN 1) .u8 (.slice A2 0 0) (ls.drop c2)) := (by
                  have h1 := at_tail HDAT.out (Nat.le_refl _) p2
                  rw [if_pos rfl, Nat.sub_self] at h1
                  exact (h1.ints (Nat.le_refl _) (by simp [maxLen])).below HD6.out.below (Nat.le_refl _) : Ints _ _ _ _)
                by_cases hcm : c = k
                · obtain rfl : k = n := by omega
                  subst hcm
                  have HV2 : Hid (Seqs (w5.drewN 1) (.slice A 0 0) (ss.drop c)) := (by
                    rw [List.drop_of_length_le (by rw [HN.out]; exact Nat.le_refl _)]
                    exact Seqs.none_ _ _ _ (by simp [maxLen]) : Seqs _ _ _)
                  have HSF3 : Hid (SeqFar (.slice A 0 0) (ss.drop c) g2 v5.ownBlock) := (fun b h0 hb => by
                    have h1 := HOWN.out b (by rw [List.length_drop] at h0; omega) (by rw [← hb]; exact own_any _ _ _ _ _)
                    have h2 := HD6.out.g1
                    exact ⟨by omega, fun e => by have := HD6.out.o2 _ e; omega⟩ : SeqFar _ _ _ _)
                  go_region_held3 (fun w' => True) (trivial)
                    (first
                      | (go_at_call 16; refine (run_own _ HD6.out.r2 (C := aa ++ X) HLA5.out _ (ls.drop c2) HV1.out HUD.out (by have := HBO.out; have := HNL.out; rw [List.length_drop]; omega) _ (ss.drop c) HV2.out (by have := HBO.out; rw [List.length_drop]; omega) HSF3.out _ t2 HP5.out (by have := HX3.out; omega)).mono ?_; rw [HY.out, HYL.out]; rintro e w7 ⟨v7, st7, A7, c7, rfl, hok, hg, ha⟩; have hd := (HD6.out.symm.ran hok).symm; rw [HYL.out] at hd; have HLA7 := Lib.hid hok.last; have HY7 := Lib.hid hg.ints; have HX7 := Lib.hid (HX6.out.but hok.but (fun _ => HA5.out)); have HG7 := Lib.hid (HG6.out.but hok.but HA6.out); have HD7 := Lib.hid hd; clear hok hg hd ha))
                  have hc1 := conv_str HX7.out
                  have hc3 := conv_str HY7.out
                  have hc4 := conv_str HG7.out
                  have hsa := strOfNums_app X Y
                  have hz : ¬ (strOfNums X).size + (strOfNums Y).size > 9223372036854775807 := by rw [strOfNums_size, strOfNums_size, HXL.out, HYL.out]; have := HX3.out; have := HYB.out; omega
                  clear hmin x3 y0
                  go_wp2_with fail
                  refine (num_any _ _).mono ?_
                  rintro e wn1 ⟨rfl, hw⟩
                  obtain rfl : w7 = wn1 := hw.symm
                  go_wp2_with fail
                  refine (num_any _ _).mono ?_
                  rintro e wn2 ⟨rfl, hw⟩
                  obtain rfl : w7 = wn2 := hw.symm
                  have he := eq_ring _ HD7.out.r1 HD7.out.r2
                  rw [HLA3.out, HLA7.out, List.append_assoc, show (decide (S = S) && listEq (lastN S (aa ++ (X ++ Y))) (lastN S (aa ++ (X ++ Y)))) = true by simp [listEq]] at he
                  have HE := Lib.hid he
                  clear he
                  go_wp2_with fail
                  refine HE.out.mono ?_
                  rintro e w8 ⟨rfl, hm⟩
                  have HD8 := Lib.hid (HD7.out.draws hm)
                  clear hm HE HD7 hc1 hc3 hc4 hsa hz
                  go_wp2_with fail
                  refine (total_ring _ HD8.out.r1).mono ?_
                  rintro e w9 ⟨rfl, hw⟩
                  obtain rfl : w8 = w9 := hw.symm
                  go_wp2_with fail
                  refine (total_ring _ HD8.out.r2).mono ?_
                  rintro e w9 ⟨rfl, hw⟩
                  obtain rfl : w8 = w9 := hw.symm
                  go_wp2_with (go_at_call 12; refine (works_at HD8.out.below).mono ?_; rintro e w9 ⟨rfl, hb⟩; have HB := Lib.hid hb; clear hb)
                  go_ret
                  exact ⟨rfl, HB.out⟩
                · have HV2 : Hid (Seqs (w5.drewN 1) (.slice (A.map fun x => Addr.add x (k * 3)) (n - k) (c - k)) (ss.drop k)) := ((HS.out.drop hmn).below HD6.out.below (Nat.le_refl _) : Seqs _ _ _)
                  have HSF3 : Hid (SeqFar (.slice (A.map fun x => Addr.add x (k * 3)) (n - k) (c - k)) (ss.drop k) g2 v5.ownBlock) := (fun b h0 hb => by
                    have h1 := HOWN.out b (by rw [List.length_drop] at h0; omega) (by rw [← hb]; exact (own_map _ _ _ _ _ _).symm)
                    have h2 := HD6.out.g1
                    exact ⟨by omega, fun e => by have := HD6.out.o2 _ e; omega⟩ : SeqFar _ _ _ _)
                  go_region_held3 (fun w' => True) (trivial)
                    (first
                      | (go_at_call 16; refine (run_own _ HD6.out.r2 (C := aa ++ X) HLA5.out _ (ls.drop c2) HV1.out HUD.out (by have := HBO.out; have := HNL.out; rw [List.length_drop]; omega) _ (ss.drop k) HV2.out (by have := HBO.out; rw [List.length_drop]; omega) HSF3.out _ t2 HP5.out (by have := HX3.out; omega)).mono ?_; rw [HY.out, HYL.out]; rintro e w7 ⟨v7, st7, A7, c7, rfl, hok, hg, ha⟩; have hd := (HD6.out.symm.ran hok).symm; rw [HYL.out] at hd; have HLA7 := Lib.hid hok.last; have HY7 := Lib.hid hg.ints; have HX7 := Lib.hid (HX6.out.but hok.but (fun _ => HA5.out)); have HG7 := Lib.hid (HG6.out.but hok.but HA6.out); have HD7 := Lib.hid hd; clear hok hg hd ha))
                  have hc1 := conv_str HX7.out
                  have hc3 := conv_str HY7.out
                  have hc4 := conv_str HG7.out
                  have hsa := strOfNums_app X Y
                  have hz : ¬ (strOfNums X).size + (strOfNums Y).size > 9223372036854775807 := by rw [strOfNums_size, strOfNums_size, HXL.out, HYL.out]; have := HX3.out; have := HYB.out; omega
                  clear hmin x3 y0
                  go_wp2_with fail
                  refine (num_any _ _).mono ?_
                  rintro e wn1 ⟨rfl, hw⟩
                  obtain rfl : w7 = wn1 := hw.symm
                  go_wp2_with fail
                  refine (num_any _ _).mono ?_
                  rintro e wn2 ⟨rfl, hw⟩
                  obtain rfl : w7 = wn2 := hw.symm
                  have he := eq_ring _ HD7.out.r1 HD7.out.r2
                  rw [HLA3.out, HLA7.out, List.append_assoc, show (decide (S = S) && listEq (lastN S (aa ++ (X ++ Y))) (lastN S (aa ++ (X ++ Y)))) = true by simp [listEq]] at he
                  have HE := Lib.hid he
                  clear he
                  go_wp2_with fail
                  refine HE.out.mono ?_
                  rintro e w8 ⟨rfl, hm⟩
                  have HD8 := Lib.hid (HD7.out.draws hm)
                  clear hm HE HD7 hc1 hc3 hc4 hsa hz
                  go_wp2_with fail
                  refine (total_ring _ HD8.out.r1).mono ?_
                  rintro e w9 ⟨rfl, hw⟩
                  obtain rfl : w8 = w9 := hw.symm
                  go_wp2_with fail
                  refine (total_ring _ HD8.out.r2).mono ?_
                  rintro e w9 ⟨rfl, hw⟩
                  obtain rfl : w8 = w9 := hw.symm
                  go_wp2_with (go_at_call 12; refine (works_at HD8.out.below).mono ?_; rintro e w9 ⟨rfl, hb⟩; have HB := Lib.hid hb; clear hb)
                  go_ret
                  exact ⟨rfl, HB.out⟩
              · have HV1 : Hid (Ints (w5.drewN 1) .u8 (.slice (A2.map fun x => Addr.add x n0) (nl - n0) (c2 - n0)) (ls.drop n0)) := (by
                  have h1 := at_tail HDAT.out d1 p2
                  rw [if_neg hc2] at h1
                  exact (h1.ints (by omega) (by simp only [maxLen]; omega)).below HD6.out.below (Nat.le_refl _) : Ints _ _ _ _)
                by_cases hcm : c = k
                · obtain rfl : k = n := by omega
                  subst hcm
                  have HV2 : Hid (Seqs (w5.drewN 1) (.slice A 0 0) (ss.drop c)) := (by
                    rw [List.drop_of_length_le (by rw [HN.out]; exact Nat.le_refl _)]
                    exact Seqs.none_ _ _ _ (by simp [maxLen]) : Seqs _ _ _)
                  have HSF3 : Hid (SeqFar (.slice A 0 0) (ss.drop c) g2 v5.ownBlock) := (fun b h0 hb => by
                    have h1 := HOWN.out b (by rw [List.length_drop] at h0; omega) (by rw [← hb]; exact own_any _ _ _ _ _)
                    have h2 := HD6.out.g1
                    exact ⟨by omega, fun e => by have := HD6.out.o2 _ e; omega⟩ : SeqFar _ _ _ _)
                  go_region_held3 (fun w' => True) (trivial)
                    (first
                      | (go_at_call 16; refine (run_own _ HD6.out.r2 (C := aa ++ X) HLA5.out _ (ls.drop n0) HV1.out HUD.out (by have := HBO.out; have := HNL.out; rw [List.length_drop]; omega) _ (ss.drop c) HV2.out (by have := HBO.out; rw [List.length_drop]; omega) HSF3.out _ t2 HP5.out (by have := HX3.out; omega)).mono ?_; rw [HY.out, HYL.out]; rintro e w7 ⟨v7, st7, A7, c7, rfl, hok, hg, ha⟩; have hd := (HD6.out.symm.ran hok).symm; rw [HYL.out] at hd; have HLA7 := Lib.hid hok.last; have HY7 := Lib.hid hg.ints; have HX7 := Lib.hid (HX6.out.but hok.but (fun _ => HA5.out)); have HG7 := Lib.hid (HG6.out.but hok.but HA6.out); have HD7 := Lib.hid hd; clear hok hg hd ha))
                  have hc1 := conv_str HX7.out
                  have hc3 := conv_str HY7.out
                  have hc4 := conv_str HG7.out
                  have hsa := strOfNums_app X Y
                  have hz : ¬ (strOfNums X).size + (strOfNums Y).size > 9223372036854775807 := by rw [strOfNums_size, strOfNums_size, HXL.out, HYL.out]; have := HX3.out; have := HYB.out; omega
                  clear hmin x3 y0
                  go_wp2_with fail
                  refine (num_any _ _).mono ?_
                  rintro e wn1 ⟨rfl, hw⟩
                  obtain rfl : w7 = wn1 := hw.symm
                  go_wp2_with fail
                  refine (num_any _ _).mono ?_
                  rintro e wn2 ⟨rfl, hw⟩
                  obtain rfl : w7 = wn2 := hw.symm
                  have he := eq_ring _ HD7.out.r1 HD7.out.r2
                  rw [HLA3.out, HLA7.out, List.append_assoc, show (decide (S = S) && listEq (lastN S (aa ++ (X ++ Y))) (lastN S (aa ++ (X ++ Y)))) = true by simp [listEq]] at he
                  have HE := Lib.hid he
                  clear he
                  go_wp2_with fail
                  refine HE.out.mono ?_
                  rintro e w8 ⟨rfl, hm⟩
                  have HD8 := Lib.hid (HD7.out.draws hm)
                  clear hm HE HD7 hc1 hc3 hc4 hsa hz
                  go_wp2_with fail
                  refine (total_ring _ HD8.out.r1).mono ?_
                  rintro e w9 ⟨rfl, hw⟩
                  obtain rfl : w8 = w9 := hw.symm
                  go_wp2_with fail
                  refine (total_ring _ HD8.out.r2).mono ?_
                  rintro e w9 ⟨rfl, hw⟩
                  obtain rfl : w8 = w9 := hw.symm
                  go_wp2_with (go_at_call 12; refine (works_at HD8.out.below).mono ?_; rintro e w9 ⟨rfl, hb⟩; have HB := Lib.hid hb; clear hb)
                  go_ret
                  exact ⟨rfl, HB.out⟩
                · have HV2 : Hid (Seqs (w5.drewN 1) (.slice (A.map fun x => Addr.add x (k * 3)) (n - k) (c - k)) (ss.drop k)) := ((HS.out.drop hmn).below HD6.out.below (Nat.le_refl _) : Seqs _ _ _)
                  have HSF3 : Hid (SeqFar (.slice (A.map fun x => Addr.add x (k * 3)) (n - k) (c - k)) (ss.drop k) g2 v5.ownBlock) := (fun b h0 hb => by
                    have h1 := HOWN.out b (by rw [List.length_drop] at h0; omega) (by rw [← hb]; exact (own_map _ _ _ _ _ _).symm)
                    have h2 := HD6.out.g1
                    exact ⟨by omega, fun e => by have := HD6.out.o2 _ e; omega⟩ : SeqFar _ _ _ _)
                  go_region_held3 (fun w' => True) (trivial)
                    (first
                      | (go_at_call 16; refine (run_own _ HD6.out.r2 (C := aa ++ X) HLA5.out _ (ls.drop n0) HV1.out HUD.out (by have := HBO.out; have := HNL.out; rw [List.length_drop]; omega) _ (ss.drop k) HV2.out (by have := HBO.out; rw [List.length_drop]; omega) HSF3.out _ t2 HP5.out (by have := HX3.out; omega)).mono ?_; rw [HY.out, HYL.out]; rintro e w7 ⟨v7, st7, A7, c7, rfl, hok, hg, ha⟩; have hd := (HD6.out.symm.ran hok).symm; rw [HYL.out] at hd; have HLA7 := Lib.hid hok.last; have HY7 := Lib.hid hg.ints; have HX7 := Lib.hid (HX6.out.but hok.but (fun _ => HA5.out)); have HG7 := Lib.hid (HG6.out.but hok.but HA6.out); have HD7 := Lib.hid hd; clear hok hg hd ha))
                  have hc1 := conv_str HX7.out
                  have hc3 := conv_str HY7.out
                  have hc4 := conv_str HG7.out
                  have hsa := strOfNums_app X Y
                  have hz : ¬ (strOfNums X).size + (strOfNums Y).size > 9223372036854775807 := by rw [strOfNums_size, strOfNums_size, HXL.out, HYL.out]; have := HX3.out; have := HYB.out; omega
                  clear hmin x3 y0
                  go_wp2_with fail
                  refine (num_any _ _).mono ?_
                  rintro e wn1 ⟨rfl, hw⟩
                  obtain rfl : w7 = wn1 := hw.symm
                  go_wp2_with fail
                  refine (num_any _ _).mono ?_
                  rintro e wn2 ⟨rfl, hw⟩
                  obtain rfl : w7 = wn2 := hw.symm
                  have he := eq_ring _ HD7.out.r1 HD7.out.r2
                  rw [HLA3.out, HLA7.out, List.append_assoc, show (decide (S = S) && listEq (lastN S (aa ++ (X ++ Y))) (lastN S (aa ++ (X ++ Y)))) = true by simp [listEq]] at he
                  have HE := Lib.hid he
                  clear he
                  go_wp2_with fail
                  refine HE.out.mono ?_
                  rintro e w8 ⟨rfl, hm⟩
                  have HD8 := Lib.hid (HD7.out.draws hm)
                  clear hm HE HD7 hc1 hc3 hc4 hsa hz
                  go_wp2_with fail
                  refine (total_ring _ HD8.out.r1).mono ?_
                  rintro e w9 ⟨rfl, hw⟩
                  obtain rfl : w8 = w9 := hw.symm
                  go_wp2_with fail
                  refine (total_ring _ HD8.out.r2).mono ?_
                  rintro e w9 ⟨rfl, hw⟩
                  obtain rfl : w8 = w9 := hw.symm
                  go_wp2_with (go_at_call 12; refine (works_at HD8.out.below).mono ?_; rintro e w9 ⟨rfl, hb⟩; have HB := Lib.hid hb; clear hb)
                  go_ret
                  exact ⟨rfl, HB.out⟩
      · have hre2 : (re == 0) = false := by simpa using hre
        have hre3 : (re != 0) = true := by simpa using hre
        have HCH := Lib.hid hr
        clear hr
        go_enter Try.func10, Try.ntmps10
        go_wp2_with fail
        refine HF.out.mono ?_
        rintro e w1 ⟨bo, rfl, hw, hbo⟩
        obtain rfl : w = w1 := hw.symm
        cases bo
        · clear hbo
          go_wp2_with (go_at_call 12; refine (works_at (Below.refl _ w)).mono ?_; rintro e w9 ⟨rfl, hb⟩; have HB := Lib.hid hb; clear hb)
          go_ret
          exact ⟨rfl, HB.out⟩
        · have HBO := Lib.hid (hbo rfl)
          clear hbo
          go_wp2_with fail
          refine (new_ok _ (S := S) (bs := aa) hS1 hS2 HA.out HUA.out (by have := HBO.out; have := HNA.out; omega)).mono ?_
          rintro e w1 ⟨g, v1, rfl, hm⟩
          have HO1 : Hid (OwnRing w w1 g v1 S (keepL S aa) 0) := (OwnRing.made hm (Below.refl _ w) : OwnRing _ _ _ _ _ _ _)
          clear hm
          go_wp2_with fail
          refine (num_any _ _).mono ?_
          rintro e wn1 ⟨rfl, hw⟩
          obtain rfl : w1 = wn1 := hw.symm
          go_wp2_with fail
          refine (cl_ring _ HO1.out.ring).mono ?_
          rintro e w2 ⟨g2, v2, rfl, hm⟩
          have HD2 := Lib.hid (Duo.made HO1.out hm)
          clear hm HO1
          have HSF1 : Hid (SeqFar (.slice A n c) ss g v1.ownBlock) := (fun k h0 hk => by
            have h1 := HOWN.out k h0 hk
            have h2 := HD2.out.g1
            exact ⟨by omega, fun e => by have := HD2.out.o1 _ e; omega⟩ : SeqFar _ _ _ _)
          have HLw := Lib.hid (HL.out.below HD2.out.below (Nat.le_refl _))
          have HSw := Lib.hid (HS.out.below HD2.out.below (Nat.le_refl _))
          go_wp2_with fail
          refine (run_bad _ HD2.out.r1 (C := aa) (keepL_last _ _) _ ls HLw.out _ ss HSw.out 131072 ra rt re HCH.out hre2).mono ?_
          rintro e w3 ⟨A4, c4, rfl, hb, -⟩
          have HD3 := Lib.hid (HD2.out.next hb)
          clear hb HD2 HLw HSw HSF1
          go_wp2_with fail
          refine (num_any _ _).mono ?_
          rintro e wn2 ⟨rfl, hw⟩
          obtain rfl : w3 = wn2 := hw.symm
          have he := eq_ring _ HD3.out.r1 HD3.out.r2
          rw [show (decide (S = S) && listEq (lastN S (keepL S aa)) (lastN S (keepL S aa))) = true by simp [listEq]] at he
          have HE := Lib.hid he
          clear he
          go_wp2_with fail
          refine HE.out.mono ?_
          rintro e w4 ⟨rfl, hm⟩
          have HD4 := Lib.hid (HD3.out.draws hm)
          clear hm HE HD3
          go_wp2_with (go_at_call 12; refine (works_at HD4.out.below).mono ?_; rintro e w9 ⟨rfl, hb⟩; have HB := Lib.hid hb; clear hb)
          go_ret
          exact ⟨rfl, HB.out⟩
    · have hbad : sz < 1 ∨ 134217728 < sz := by omega
      have HBAD := Lib.hid hbad
      clear hsz hbad
      go_enter Try.func10, Try.ntmps10
      go_wp2_with fail
      refine HF.out.mono ?_
      rintro e w1 ⟨bo, rfl, hw, hbo⟩
      obtain rfl : w = w1 := hw.symm
      cases bo
      · clear hbo
        go_wp2_with (go_at_call 12; refine (works_at (Below.refl _ w)).mono ?_; rintro e w9 ⟨rfl, hb⟩; have HB := Lib.hid hb; clear hb)
        go_ret
        exact ⟨rfl, HB.out⟩
      · clear hbo
        go_wp2_with fail
        refine (new_bad _ sz _ HBAD.out).mono ?_
        rintro e w1 ⟨rfl, hb⟩
        have HB1 := Lib.hid hb
        clear hb
        go_wp2_with fail
        refine (num_any _ _).mono ?_
        rintro e wn1 ⟨rfl, hw⟩
        obtain rfl : w1 = wn1 := hw.symm
        go_wp2_with (go_at_call 12; refine (works_at HB1.out).mono ?_; rintro e w9 ⟨rfl, hb⟩; have HB := Lib.hid hb; clear hb)
        go_ret
        exact ⟨rfl, HB.out⟩
  · have hor : at_ < 0 ∨ (0 ≤ at_ ∧ (n : Int) < at_) := by omega
    clear hat
    rcases hor with o1 | ⟨o1, o2⟩
    all_goals
      go_enter Try.func10, Try.ntmps10
      go_wp2_with fail
      refine HF.out.mono ?_
      rintro e w1 ⟨bo, rfl, hw, hbo⟩
      obtain rfl : w = w1 := hw.symm
      cases bo
      · clear hbo
        go_wp2_with (go_at_call 12; refine (works_at (Below.refl _ w)).mono ?_; rintro e w9 ⟨rfl, hb⟩; have HB := Lib.hid hb; clear hb)
        go_ret
        exact ⟨rfl, HB.out⟩
      · clear hbo
        go_wp2_with (go_at_call 12; refine (works_at (Below.refl _ w)).mono ?_; rintro e w9 ⟨rfl, hb⟩; have HB := Lib.hid hb; clear hb)
        go_ret
        exact ⟨rfl, HB.out⟩
end Go.Proofs.Ytndgdehlnmheeaa
