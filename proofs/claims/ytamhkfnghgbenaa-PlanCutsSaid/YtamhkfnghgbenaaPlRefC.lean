/-
  plan: the reference's Cut, where the plan has a size and the position lies in it.
-/
import Derived.Test.YtamhkfnghgbenaaPlRefQ
import Derived.Test.YtamhkfnghgbenaaPlCut
namespace Go.Proofs.Ytamhkfnghgbenaa
set_option linter.all false
open Go.RowKit

set_option maxRecDepth 100000 in
set_option maxHeartbeats 3200000 in
theorem rcut_ok (w : World) (v : Value) (ss : List SeqD) (T : Nat) (h : Seqs w v ss) (hl : ss.length ≤ 100000) (hok : (sizeR ss).2 = 0) (hT : (T : Int) ≤ (sizeR ss).1) :
    Calls Try.prog 23 #[v, .int .i64 T] w fun e w' => ∃ va vb, e = .returned (.tuple #[va, vb, .int .i64 0]) ∧ CutSt w w' va vb (cutTo ss T ss.length).1 (cutTo ss T ss.length).2.1 := by
  have HL := Lib.hid hl
  have HS := Lib.hid h
  obtain ⟨⟨A, c, hv, hlc, hcm, hat⟩, hwf⟩ := h
  have HAT := Lib.hid hat
  obtain ⟨n, hn⟩ : ∃ n, ss.length = n := ⟨_, rfl⟩
  rw [hn] at hv hlc ⊢
  subst hv
  have HN := Lib.hid hn
  have hsl := sizeR_le ss
  have hzz := sizeR_ok hok
  obtain ⟨pq, hpq⟩ : ∃ p, sizeR ss = p := ⟨_, rfl⟩
  have HPQ := Lib.hid hpq
  obtain ⟨sz, q⟩ := pq
  rw [hpq] at hok hT hsl hzz
  simp only at hok hT hsl hzz
  subst hok
  obtain ⟨z, rfl⟩ := Int.eq_ofNat_of_zero_le hsl.1
  have hgn := hzz.1
  rw [hn] at hgn
  have HGN := Lib.hid hgn
  have hgd := hzz.2.2
  have HGOOD := Lib.hid hgd
  have t1 : ¬ ((T : Int) < 0) := by omega
  have t2 : ¬ ((z : Int) < (T : Int)) := by omega
  have t3 : (T : Int) ≤ (z : Int) := hT
  have hnn : (n : Int) ≤ 9223372036854775807 := by omega
  have hzb : z ≤ 131072 := by omega
  have hTb : T ≤ 131072 := by omega
  clear hgn hgd hzz hsl hpq hn hT hl hat hwf
  go_enter Try.func23, Try.ntmps23
  go_wp2_with fail
  refine (rsize_any _ _ ss HS.out HL.out).mono ?_
  rw [HPQ.out]
  rintro e w1 ⟨rfl, hb⟩
  have HB1 := Lib.hid hb
  clear hb
  go_wp2_with fail
  refine (rbegins_any w1 _ ss (HS.out.below HB1.out (Nat.le_refl _)) HL.out).mono ?_
  rw [HGN.out]
  rintro e w4 ⟨A8, c8, rfl, hg, hb⟩
  have HAG8 := Lib.hid (Grow.at_ hg)
  have HC8 := Lib.hid (Grow.cap hg)
  have HB4 := Lib.hid (HB1.out.trans (hb.mono HB1.out.size))
  clear hg hb HB1
  go_wp2
  generalize wrongR ss = wr0
  generalize posL (ss.take n) = ps0
  generalize decide (z < T) = b1
  generalize decide ((T : Int) < 0) = b0
  go_loopw [9, 10, 14, 15] (fun u4 u5 u9 u33 wr => CutRel ss n T w4 u4 u5 u9 u33 wr) (fun u4 u5 u9 u33 _ => n - (intOf u33).toNat)
  case atStart => exact ⟨0, Nat.zero_le _, rfl, rfl, CutSt.start _⟩
  case round =>
    obtain ⟨k, hk, rfl, rfl, hst⟩ := hrel
    have k0 : (0 : Int) ≤ (k : Int) := by omega
    have HST := Lib.hid hst
    by_cases hlt : k < n
    · have k1 : (k : Int) < (n : Int) := by omega
      have hxk := List.getElem?_eq_getElem (l := ss) (i := k) (by rw [HN.out]; exact hlt)
      obtain ⟨⟨lit, len, offs⟩, hse⟩ : ∃ s, ss[k]'(by rw [HN.out]; exact hlt) = s := ⟨_, rfl⟩
      rw [hse] at hxk
      obtain ⟨b, off, hA, hcl⟩ := HAT.out (by rw [HN.out]; omega)
      subst hA
      obtain ⟨p0, p1, p2⟩ := hcl k _ hxk
      have hbg : (beginsOf ss n)[k]? = some (posL (ss.take k)) := beginsOf_get hlt
      obtain ⟨bb0, ob, hA8, hcb⟩ := HAG8.out.2 (by omega)
      subst hA8
      have g0 := hcb k _ hbg
      have hpos := Good.pos (by omega) (Nat.le_of_lt (by rw [HN.out]; exact hlt)) (fun i s hi => HGOOD.out i s (by rw [HN.out]; omega) : Good 1 131072 0 0 ss k)
      obtain ⟨⟨o1, o2, o3, o4⟩, -⟩ := HGOOD.out k _ (by rw [HN.out]; exact hlt) hxk
      have hcy := cutTo_carry ss T (Nat.le_of_lt (by rw [HN.out]; exact hlt)) (fun i s hi => HGOOD.out i s (by rw [HN.out]; omega) : Good 1 131072 0 0 ss k)
      have hcz := cutTo_zero ss T (Nat.le_of_lt (by rw [HN.out]; exact hlt)) (fun i s hi => HGOOD.out i s (by rw [HN.out]; omega) : Good 1 131072 0 0 ss k)
      have hcs := cutTo_succ (at_ := T) hxk
      have hle := cutTo_le ss T k
      obtain ⟨P, hP⟩ : ∃ P, posL (ss.take k) = P := ⟨_, rfl⟩
      simp only [stepAt] at o1 o2 o3 o4
      simp only at p0 p1 p2
      rw [hP] at hpos o3 o4 g0 hcs hcz
      obtain ⟨p, rfl⟩ := Int.eq_ofNat_of_zero_le hpos.1
      obtain ⟨t, rfl⟩ := Int.eq_ofNat_of_zero_le o1
      obtain ⟨L, rfl⟩ := Int.eq_ofNat_of_zero_le (by omega : 0 ≤ len)
      obtain ⟨⟨aa, bb, cy⟩, hct⟩ : ∃ x, cutTo ss T k = x := ⟨_, rfl⟩
      rw [hct] at hcy hcs hle hcz
      rw [hct] at HST ⊢
      simp only at hcy hle HST hcz ⊢
      obtain ⟨C, rfl⟩ := Int.eq_ofNat_of_zero_le hcy.1
      obtain ⟨M, hM⟩ : ∃ m, p + t = m := ⟨_, rfl⟩
      obtain ⟨E, hE⟩ : ∃ e, M + L = e := ⟨_, rfl⟩
      obtain ⟨m1, hm1⟩ : ∃ m, aa.length = m := ⟨_, rfl⟩
      obtain ⟨m2, hm2⟩ : ∃ m, bb.length = m := ⟨_, rfl⟩
      rw [hm1, hm2] at hle
      have HE : Hid ((p : Int) + (t : Int) + (L : Int) = (E : Int)) := (by omega : (p : Int) + (t : Int) + (L : Int) = (E : Int))
      have HM : Hid ((p : Int) + (t : Int) = (M : Int)) := (by omega : (p : Int) + (t : Int) = (M : Int))
      have HLE := Lib.hid (And.intro hm1 (And.intro hm2 (And.intro hle (show n ≤ 100000 from HN.out ▸ HL.out))))
      have HCS := Lib.hid hcs
      have HCB := Lib.hid hcy.2
      have HCZ := Lib.hid hcz
      have heb : E ≤ 131072 := by omega
      have hmb : M ≤ E := by omega
      have HFs := Lib.hid (And.intro hM hE)
      have HW : Hid (∀ W, Below wr.heap.size wr W → W.cell? ⟨b, off + k * 3, none⟩ = some (.int .i64 t) ∧ W.cell? ⟨b, off + k * 3 + 1, none⟩ = some (.int .i64 L) ∧ W.cell? ⟨b, off + k * 3 + 2, none⟩ = some (.int .i64 offs) ∧ W.cell? ⟨bb0, ob + k, none⟩ = some (.int .i64 p)) := (by
        intro W hW
        have h4 := HST.out.bel.trans (hW.mono HST.out.bel.size)
        have h0 := HB4.out.trans (h4.mono HB4.out.size)
        exact ⟨(h0.cell (World.block_lt_of_cell? w _ p0)).trans p0, (h0.cell (World.block_lt_of_cell? w _ p1)).trans p1, (h0.cell (World.block_lt_of_cell? w _ p2)).trans p2, (h4.cell (World.block_lt_of_cell? w4 _ g0)).trans g0⟩ : ∀ W, _)
      have ew1 : IntKind.i64.wrap ((p : Int) + (t : Int)) = (M : Int) := by rw [wrap_in _ (by omega) (by omega)]; omega
      have ew2 : IntKind.i64.wrap ((M : Int) + (L : Int)) = (E : Int) := by rw [wrap_in _ (by omega) (by omega)]; omega
      have kc := HC8.out.1
      clear hM hE hcs hle hcy hcz hct hm1 hm2 o1 o2 o3 o4 hpos hst p0 p1 p2 g0 hbg hcb hcl hxk hse
      obtain ⟨g0, g1, g2, g3⟩ := HW.out wr (Below.refl _ _)
      go_wp2
      refine wp_region_held_drew (S := (fun w' => w'.cell? ⟨b, off + k * 3, none⟩ = some (.int .i64 t) ∧ w'.cell? ⟨b, off + k * 3 + 1, none⟩ = some (.int .i64 L) ∧ w'.cell? ⟨b, off + k * 3 + 2, none⟩ = some (.int .i64 offs) ∧ w'.cell? ⟨bb0, ob + k, none⟩ = some (.int .i64 p))) (by kernel_rfl) ?_ (fun hHeld => ?_)
      · (try dsimp only); exact ⟨g0, g1, g2, g3⟩
      refine wpAnyH_take2 (i := 0) (oi := _) (d := some 46) (v := ?_) rfl rfl (by kernel_rfl) (by kernel_rfl) (by kernel_rfl) (fun _ _ _ h => h) (Or.inl ⟨by rfl, ?_⟩) (by assumption) ?_
      rotate_left 1
      · (intro w' hSw; (try dsimp only at hSw); go_simp; try with_reducible rfl)
      try simp only [Act.put, List.setIfInBounds_toArray, List.set_cons_zero, List.set_cons_succ]
      refine wpAnyH_take2 (i := 1) (oi := _) (d := some 47) (v := ?_) rfl rfl (by kernel_rfl) (by kernel_rfl) (by kernel_rfl) (fun _ _ _ h => h) (Or.inl ⟨by rfl, ?_⟩) (by assumption) ?_
      rotate_left 1
      · (intro w' hSw; (try dsimp only at hSw); go_simp; try with_reducible rfl)
      try simp only [Act.put, List.setIfInBounds_toArray, List.set_cons_zero, List.set_cons_succ]
      refine wpAnyH_take2 (i := 2) (oi := _) (d := some 48) (v := ?_) rfl rfl (by kernel_rfl) (by kernel_rfl) (by kernel_rfl) (fun _ _ _ h => h) (Or.inl ⟨by rfl, ?_⟩) (by assumption) ?_
      rotate_left 1
      · (intro w' hSw; (try dsimp only at hSw); go_simp; try with_reducible rfl)
      try simp only [Act.put, List.setIfInBounds_toArray, List.set_cons_zero, List.set_cons_succ]
      refine wpAnyH_take2 (i := 3) (oi := _) (d := some 49) (v := ?_) rfl rfl (by kernel_rfl) (by kernel_rfl) (by kernel_rfl) (fun _ _ _ h => h) (Or.inl ⟨by rfl, ?_⟩) (by assumption) ?_
      rotate_left 1
      · (intro w' hSw; (try dsimp only at hSw); go_simp; try with_reducible rfl)
      try simp only [Act.put, List.setIfInBounds_toArray, List.set_cons_zero, List.set_cons_succ]
      refine wpAnyH_take2 (i := 4) (oi := _) (d := some 50) (v := ?_) rfl rfl (by kernel_rfl) (by kernel_rfl) (by kernel_rfl) (fun _ _ _ h => h) (Or.inl ⟨by rfl, ?_⟩) (by assumption) ?_
      rotate_left 1
      · (intro w' hSw; (try dsimp only at hSw); go_simp; try with_reducible rfl)
      try simp only [Act.put, List.setIfInBounds_toArray, List.set_cons_zero, List.set_cons_succ]
      refine wpAnyH_take2 (i := 5) (oi := _) (d := some 51) (v := ?_) rfl rfl (by kernel_rfl) (by kernel_rfl) (by kernel_rfl) (fun _ _ _ h => h) (Or.inl ⟨by rfl, ?_⟩) (by assumption) ?_
      rotate_left 1
      · (intro w' hSw; (try dsimp only at hSw); go_simp; try with_reducible rfl)
      try simp only [Act.put, List.setIfInBounds_toArray, List.set_cons_zero, List.set_cons_succ]
      refine wpAnyH_take2 (i := 6) (oi := _) (d := some 52) (v := ?_) rfl rfl (by kernel_rfl) (by kernel_rfl) (by kernel_rfl) (fun _ _ _ h => h) (Or.inl ⟨by rfl, ?_⟩) (by assumption) ?_
      rotate_left 1
      · (intro w' hSw; (try dsimp only at hSw); go_simp; try with_reducible rfl)
      try simp only [Act.put, List.setIfInBounds_toArray, List.set_cons_zero, List.set_cons_succ]
      refine wpAnyH_take2 (i := 7) (oi := _) (d := some 53) (v := ?_) rfl rfl (by kernel_rfl) (by kernel_rfl) (by kernel_rfl) (fun _ _ _ h => h) (Or.inl ⟨by rfl, ?_⟩) (by assumption) ?_
      rotate_left 1
      · (intro w' hSw; (try dsimp only at hSw); go_simp; try with_reducible rfl)
      try simp only [Act.put, List.setIfInBounds_toArray, List.set_cons_zero, List.set_cons_succ]
      refine wpAnyH_ready (rs := [8]) (by kernel_rfl) (by simp) ?_
      refine AllReadyH.cons (o := _) rfl (fun K hK => ?_) ?_
      rotate_left
      · exact AllReadyH.nil
      go_simp
      refine hK.out _ _ ?_ (fun hHeld => ?_)
      · (try dsimp only); exact HW.out _ (((Below.refl wr.heap.size wr).drew).alloc (Nat.le_refl _) _)
      clear hK K
      try simp only [Act.put, List.setIfInBounds_toArray, List.set_cons_zero, List.set_cons_succ]
      refine wpAnyH_ready (rs := [9]) (by kernel_rfl) (by simp) ?_
      refine AllReadyH.cons (o := _) rfl (fun K hK => ?_) ?_
      rotate_left
      · exact AllReadyH.nil
      go_simp
      refine hK.out _ _ ?_ (fun hHeld => ?_)
      · (try dsimp only); exact HW.out _ (((Below.refl wr.heap.size wr).alloc (Nat.le_refl _) _).drew)
      clear hK K
      try simp only [Act.put, List.setIfInBounds_toArray, List.set_cons_zero, List.set_cons_succ]
      refine wpAnyH_take2 (i := 10) (oi := _) (d := some 17) (v := ?_) rfl rfl (by kernel_rfl) (by kernel_rfl) (by kernel_rfl) (fun _ _ _ h => h) (Or.inl ⟨by rfl, ?_⟩) (by assumption) ?_
      rotate_left 1
      · (intro w' hSw; (try dsimp only at hSw); go_simp; try with_reducible rfl)
      try simp only [Act.put, List.setIfInBounds_toArray, List.set_cons_zero, List.set_cons_succ]
      refine wpAnyH_done (by kernel_rfl) ?_ _
      have HQ5 : Hid (CutQ w4 ((wr.alloc (.cells #[.int .i64 t, .int .i64 L, .int .i64 offs] 60)).drew) u9 u10 aa bb wr.heap.size ⟨t, L, offs⟩) := ((HST.out.qbox ⟨t, L, offs⟩).drew : CutQ _ _ _ _ _ _ _ _)
      clear HST HW HAT HAG8 hHeld g0 g1 g2 g3
      generalize (wr.alloc (.cells #[.int .i64 t, .int .i64 L, .int .i64 offs] 60)).drew = w5 at HQ5 ⊢
      generalize wr.heap.size = G at HQ5 ⊢
      have hst := HQ5.out.cells
      obtain ⟨q0, q1, q2⟩ := hst
      by_cases c1 : E ≤ T
      · have c1' : (E : Int) ≤ (T : Int) := by omega
        have HNX := Lib.hid (HCS.out.trans (cut_ahead (by have := HE.out; omega)))
        go_wp2_with (at_builtin; refine wpList_append_seq rfl _ _ rfl rfl (HQ5.out.alloc _).st.ra w5.heap.size ⟨t, L, offs⟩ rfl (Blk.new w5 _ _) (by have := HLE.out; omega) (m1 + 1) (by have := HLE.out; omega) ?_; intro A9 c9 w6 hr hg ho; have HQ6 := Lib.hid ((HQ5.out.alloc _).growA hr hg ho); have hst := HQ6.out.cells; obtain ⟨q0, q1, q2⟩ := hst; clear hr hg ho)
        go_roundw
        case rel => exact CutRel.next hlt HNX.out HQ6.out.st
        case measure => simp [intOf]; omega
      · have c1' : ¬ (E : Int) ≤ (T : Int) := by omega
        by_cases c2 : T ≤ M
        · have c2' : (T : Int) ≤ (M : Int) := by omega
          have HNX := Lib.hid (HCS.out.trans (cut_behind (by have := HE.out; omega) (by have := HM.out; omega)))
          by_cases hpT : p < T
          · obtain ⟨K, hK⟩ : ∃ x, M - T = x := ⟨_, rfl⟩
            have ew3 : IntKind.i64.wrap ((M : Int) - (T : Int)) = (K : Int) := by have := HFs.out; rw [wrap_in _ (by omega) (by omega)]; omega
            have ew4 : IntKind.i64.wrap ((K : Int) + (C : Int)) = (K : Int) + (C : Int) := by have := HCB.out; rw [wrap_in _ (by omega) (by omega)]
            have HV : Hid ((K : Int) + (C : Int) = (C : Int) + ((p : Int) + (t : Int)) - max (p : Int) (T : Int)) := (by have := HFs.out; omega : (K : Int) + (C : Int) = (C : Int) + ((p : Int) + (t : Int)) - max (p : Int) (T : Int))
            clear hK
            have hpT' : (p : Int) < (T : Int) := by omega
            go_wp2_with (at_builtin; refine wpList_append_seq rfl _ _ rfl rfl (HQ5.out.alloc _).st.rb w5.heap.size ⟨(K : Int) + (C : Int), L, offs⟩ rfl (Blk.new w5 _ _) (by have := HLE.out; omega) (m2 + 1) (by have := HLE.out; omega) ?_; intro A10 c10 w6 hr hg ho; have HQ6 := Lib.hid ((HQ5.out.alloc _).growB hr hg ho); have hst := HQ6.out.cells; obtain ⟨q0, q1, q2⟩ := hst; clear hr hg ho)
            have HB9 : Hid (CutSt w4 w6 u9 (.slice A10 (m2 + 1) c10) aa (bb ++ [⟨(C : Int) + ((p : Int) + (t : Int)) - max (p : Int) (T : Int), L, offs⟩])) := (HV.out ▸ HQ6.out.st : CutSt _ _ _ _ _ _)
            go_roundw
            case rel => exact CutRel.next hlt HNX.out HB9.out
            case measure => simp [intOf]; omega
          · obtain ⟨K, hK⟩ : ∃ x, M - p = x := ⟨_, rfl⟩
            have ew3 : IntKind.i64.wrap ((M : Int) - (p : Int)) = (K : Int) := by have := HFs.out; rw [wrap_in _ (by omega) (by omega)]; omega
            have ew4 : IntKind.i64.wrap ((K : Int) + (C : Int)) = (K : Int) + (C : Int) := by have := HCB.out; rw [wrap_in _ (by omega) (by omega)]
            have HV : Hid ((K : Int) + (C : Int) = (C : Int) + ((p : Int) + (t : Int)) - max (p : Int) (T : Int)) := (by have := HFs.out; omega : (K : Int) + (C : Int) = (C : Int) + ((p : Int) + (t : Int)) - max (p : Int) (T : Int))
            clear hK
            have hpT' : ¬ (p : Int) < (T : Int) := by omega
            go_wp2_with (at_builtin; refine wpList_append_seq rfl _ _ rfl rfl (HQ5.out.alloc _).st.rb w5.heap.size ⟨(K : Int) + (C : Int), L, offs⟩ rfl (Blk.new w5 _ _) (by have := HLE.out; omega) (m2 + 1) (by have := HLE.out; omega) ?_; intro A10 c10 w6 hr hg ho; have HQ6 := Lib.hid ((HQ5.out.alloc _).growB hr hg ho); have hst := HQ6.out.cells; obtain ⟨q0, q1, q2⟩ := hst; clear hr hg ho)
            have HB9 : Hid (CutSt w4 w6 u9 (.slice A10 (m2 + 1) c10) aa (bb ++ [⟨(C : Int) + ((p : Int) + (t : Int)) - max (p : Int) (T : Int), L, offs⟩])) := (HV.out ▸ HQ6.out.st : CutSt _ _ _ _ _ _)
            go_roundw
            case rel => exact CutRel.next hlt HNX.out HB9.out
            case measure => simp [intOf]; omega
        · have c2' : ¬ (T : Int) ≤ (M : Int) := by omega
          have c2'' : (M : Int) < (T : Int) := by omega
          obtain rfl : C = 0 := by have := HCZ.out (by have := HFs.out; omega); omega
          obtain ⟨K1, hK1⟩ : ∃ x, T - M = x := ⟨_, rfl⟩
          obtain ⟨K2, hK2⟩ : ∃ x, E - T = x := ⟨_, rfl⟩
          have ew3 : IntKind.i64.wrap ((T : Int) - (M : Int)) = (K1 : Int) := by rw [wrap_in _ (by omega) (by omega)]; omega
          have ew4 : IntKind.i64.wrap ((E : Int) - (T : Int)) = (K2 : Int) := by rw [wrap_in _ (by omega) (by omega)]; omega
          have hnx := HCS.out.trans (cut_both (by have := HE.out; omega) (by have := HM.out; omega))
          rw [show (T : Int) - ((p : Int) + (t : Int)) = (K1 : Int) by have := HM.out; omega, show (p : Int) + (t : Int) + (L : Int) - (T : Int) = (K2 : Int) by have := HE.out; omega] at hnx
          clear hK1 hK2
          by_cases a3 : 3 ≤ K1
          · have a3' : (3 : Int) ≤ (K1 : Int) := by omega
            rw [if_pos a3'] at hnx
            by_cases b3 : 3 ≤ K2
            · have b3' : (3 : Int) ≤ (K2 : Int) := by omega
              rw [if_pos b3', if_pos b3'] at hnx
              have HNX := Lib.hid hnx
              clear hnx
              go_wp2_with (first
                | (at_builtin; refine wpList_append_seq rfl _ _ rfl rfl (HQ5.out.alloc _).st.ra w5.heap.size ⟨t, K1, offs⟩ rfl (Blk.new w5 _ _) (by have := HLE.out; omega) (m1 + 1) (by have := HLE.out; omega) ?_; intro A9 c9 w6 hr hg ho; have HQ6 := Lib.hid ((HQ5.out.alloc _).growA hr hg ho); have hst := HQ6.out.cells; obtain ⟨q0, q1, q2⟩ := hst; clear hr hg ho)
                | (at_builtin; refine wpList_append_seq rfl _ _ rfl rfl (HQ6.out.alloc _).st.rb w6.heap.size ⟨0, K2, offs⟩ rfl (Blk.new w6 _ _) (by have := HLE.out; omega) (m2 + 1) (by have := HLE.out; omega) ?_; intro A10 c10 w7 hr hg ho; have HQ7 := Lib.hid ((HQ6.out.alloc _).growB hr hg ho); have hst := HQ7.out.cells; obtain ⟨q0, q1, q2⟩ := hst; clear hr hg ho))
              go_roundw
              case rel => exact CutRel.next hlt HNX.out HQ7.out.st
              case measure => simp [intOf]; omega
            · have b3' : ¬ (3 : Int) ≤ (K2 : Int) := by omega
              rw [if_neg b3', if_neg b3'] at hnx
              have HNX := Lib.hid hnx
              clear hnx
              go_wp2_with (at_builtin; refine wpList_append_seq rfl _ _ rfl rfl (HQ5.out.alloc _).st.ra w5.heap.size ⟨t, K1, offs⟩ rfl (Blk.new w5 _ _) (by have := HLE.out; omega) (m1 + 1) (by have := HLE.out; omega) ?_; intro A9 c9 w6 hr hg ho; have HQ6 := Lib.hid ((HQ5.out.alloc _).growA hr hg ho); have hst := HQ6.out.cells; obtain ⟨q0, q1, q2⟩ := hst; clear hr hg ho)
              go_roundw
              case rel => exact CutRel.next hlt HNX.out HQ6.out.st
              case measure => simp [intOf]; omega
          · have a3' : ¬ (3 : Int) ≤ (K1 : Int) := by omega
            rw [if_neg a3'] at hnx
            by_cases b3 : 3 ≤ K2
            · have b3' : (3 : Int) ≤ (K2 : Int) := by omega
              rw [if_pos b3', if_pos b3'] at hnx
              have HNX := Lib.hid hnx
              clear hnx
              go_wp2_with (at_builtin; refine wpList_append_seq rfl _ _ rfl rfl (HQ5.out.alloc _).st.rb w5.heap.size ⟨0, K2, offs⟩ rfl (Blk.new w5 _ _) (by have := HLE.out; omega) (m2 + 1) (by have := HLE.out; omega) ?_; intro A10 c10 w6 hr hg ho; have HQ6 := Lib.hid ((HQ5.out.alloc _).growB hr hg ho); have hst := HQ6.out.cells; obtain ⟨q0, q1, q2⟩ := hst; clear hr hg ho)
              go_roundw
              case rel => exact CutRel.next hlt HNX.out HQ6.out.st
              case measure => simp [intOf]; omega
            · have b3' : ¬ (3 : Int) ≤ (K2 : Int) := by omega
              rw [if_neg b3', if_neg b3'] at hnx
              have HNX := Lib.hid hnx
              clear hnx
              go_wp2
              go_roundw
              case rel => exact CutRel.next hlt HNX.out HQ5.out.st
              case measure => simp [intOf]; omega
    · obtain rfl : k = n := by omega
      go_wp2
      obtain ⟨cy, hcy⟩ : ∃ x, (cutTo ss T k).2.2 = x := ⟨_, rfl⟩
      rw [hcy]
      refine bodyPost_ret (v := .tuple #[u9, u10, .int .i64 0]) (by simp [results, Try.results23, go_sem]) rfl ⟨_, _, rfl, HST.out.base HB4.out⟩
end Go.Proofs.Ytamhkfnghgbenaa
