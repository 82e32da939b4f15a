/-
  plan: Cut, where the plan has a size and the position lies in it.
-/
import Derived.Test.YtamhkfnghgbenaaPlCutP
import Derived.Test.YtamhkfnghgbenaaPlRule
namespace Go.Proofs.Ytamhkfnghgbenaa
set_option linter.all false
open Go.RowKit

/-- Cut's loop. -/
def CutRel (ss : List SeqD) (n t : Nat) (w0 : World) (u4 u5 u9 u33 : Value) (wr : World) : Prop :=
  ∃ k : Nat, k ≤ n ∧ u33 = .int .i64 k ∧ u9 = .int .i64 (cutTo ss t k).2.2 ∧ CutSt w0 wr u4 u5 (cutTo ss t k).1 (cutTo ss t k).2.1

theorem CutRel.next {ss : List SeqD} {n T k : Nat} {w0 wr : World} {u4 u5 : Value} {aa bb : List SeqD} {cy : Int} (hk : k < n) (hc : cutTo ss T (k + 1) = (aa, bb, cy)) (h : CutSt w0 wr u4 u5 aa bb) :
    CutRel ss n T w0 u4 u5 (.int .i64 cy) (.int .i64 ((k : Int) + 1)) wr :=
  ⟨k + 1, hk, by simp, by rw [hc], by rw [hc]; exact h⟩
theorem cut_ahead {T P lit len off cy : Int} {aa bb : List SeqD} (h : P + lit + len ≤ T) : cutStep T P ⟨lit, len, off⟩ (aa, bb, cy) = (aa ++ [⟨lit, len, off⟩], bb, cy) := by
  unfold cutStep; rw [if_pos h]
theorem cut_behind {T P lit len off cy : Int} {aa bb : List SeqD} (h : ¬ P + lit + len ≤ T) (h2 : T ≤ P + lit) : cutStep T P ⟨lit, len, off⟩ (aa, bb, cy) = (aa, bb ++ [⟨cy + (P + lit) - max P T, len, off⟩], 0) := by
  unfold cutStep; rw [if_neg h, if_pos h2]
theorem cut_both {T P lit len off cy : Int} {aa bb : List SeqD} (h : ¬ P + lit + len ≤ T) (h2 : ¬ T ≤ P + lit) : cutStep T P ⟨lit, len, off⟩ (aa, bb, cy) = ((if 3 ≤ T - (P + lit) then aa ++ [⟨lit, T - (P + lit), off⟩] else aa), (if 3 ≤ P + lit + len - T then bb ++ [⟨0, P + lit + len - T, off⟩] else bb), (if 3 ≤ P + lit + len - T then 0 else P + lit + len - T)) := by
  unfold cutStep; rw [if_neg h, if_neg h2]
  by_cases h3 : 3 ≤ P + lit + len - T
  · rw [if_pos h3, if_pos h3, if_pos h3]
  · rw [if_neg h3, if_neg h3, if_neg h3]

set_option linter.unusedSimpArgs false
set_option maxRecDepth 100000 in
set_option maxHeartbeats 3200000 in
theorem cut_ok (w : World) (v : Value) (ss : List SeqD) (T : Nat) (h : Seqs w v ss) (hl : ss.length ≤ 100000) (hok : (sizeR ss).2 = 0) (hT : (T : Int) ≤ (sizeR ss).1) :
    Calls Try.prog 22 #[v, .int .i64 T] w fun e w' => ∃ va vb, e = .returned (.tuple #[va, vb, .int .i64 0]) ∧ CutSt w w' va vb (cutTo ss T ss.length).1 (cutTo ss T ss.length).2.1 := by
  have HL := Lib.hid hl
  have HS := Lib.hid h
  obtain ⟨⟨A, c, hv, hlc, hcm, -⟩, -⟩ := h
  obtain ⟨n, hn⟩ : ∃ n, ss.length = n := ⟨_, rfl⟩
  rw [hn] at hv hlc ⊢
  subst hv
  have HN := Lib.hid hn
  have hsl := sizeR_le ss
  have hzz := sizeR_ok hok
  obtain ⟨pq, hpq⟩ : ∃ p, sizeR ss = p := ⟨_, rfl⟩
  have HPQ := Lib.hid hpq
  obtain ⟨sz, q⟩ := pq
  rw [hpq] at hok hT hsl hzz
  simp only at hok hT hsl hzz
  subst hok
  obtain ⟨z, rfl⟩ := Int.eq_ofNat_of_zero_le hsl.1
  have hgn := hzz.1
  rw [hn] at hgn
  have HGN := Lib.hid hgn
  have hgd := hzz.2.2
  have HGOOD := Lib.hid hgd
  have t1 : ¬ ((T : Int) < 0) := by omega
  have t2 : ¬ ((z : Int) < (T : Int)) := by omega
  have t3 : (T : Int) ≤ (z : Int) := hT
  have hnn : (n : Int) ≤ 9223372036854775807 := by omega
  have hzb : z ≤ 131072 := by omega
  have hTb : T ≤ 131072 := by omega
  clear hgn hgd hzz hsl hpq hn hT hl
  go_enter Try.func22, Try.ntmps22
  go_wp2_with (first
    | (go_at_call 29; refine (steps_all _ _ ss HS.out HL.out).mono ?_; rw [HGN.out, HPQ.out]; rintro e w4 ⟨A4, c4, rfl, hb, hr, ho⟩; have HB4 := Lib.hid hb; have HR4 := Lib.hid hr; clear hb hr ho))
  generalize decide (z < T) = b1
  generalize decide ((T : Int) < 0) = b0
  go_loopw [4, 5, 9, 33] (fun u4 u5 u9 u33 wr => CutRel ss n T w4 u4 u5 u9 u33 wr) (fun u4 u5 u9 u33 _ => n - (intOf u33).toNat)
  case atStart => exact ⟨0, Nat.zero_le _, rfl, rfl, CutSt.start _⟩
  case round =>
    obtain ⟨k, hk, rfl, rfl, hst⟩ := hrel
    have k0 : (0 : Int) ≤ (k : Int) := by omega
    have HST := Lib.hid hst
    by_cases hlt : k < n
    · have k1 : (k : Int) < (n : Int) := by omega
      have hxk := List.getElem?_eq_getElem (l := ss) (i := k) (by rw [HN.out]; exact hlt)
      obtain ⟨⟨lit, len, offs⟩, hse⟩ : ∃ s, ss[k]'(by rw [HN.out]; exact hlt) = s := ⟨_, rfl⟩
      rw [hse] at hxk
      have HR := Lib.hid (SRow.below HR4.out hst.bel (Nat.le_refl _))
      obtain ⟨g, hA, -, hgl, p0, p1, p2, p3, p4, p5, p6, p7⟩ := StRow.at_ HR.out (Nat.le_of_eq HN.out.symm) hlt hxk
      subst hA
      have hpos := Good.pos (by omega) (Nat.le_of_lt (by rw [HN.out]; exact hlt)) (fun i s hi => HGOOD.out i s (by rw [HN.out]; omega) : Good 1 131072 0 0 ss k)
      obtain ⟨⟨o1, o2, o3, o4⟩, -⟩ := HGOOD.out k _ (by rw [HN.out]; exact hlt) hxk
      have hcy := cutTo_carry ss T (Nat.le_of_lt (by rw [HN.out]; exact hlt)) (fun i s hi => HGOOD.out i s (by rw [HN.out]; omega) : Good 1 131072 0 0 ss k)
      have hcs := cutTo_succ (at_ := T) hxk
      have hle := cutTo_le ss T k
      obtain ⟨P, hP⟩ : ∃ P, posL (ss.take k) = P := ⟨_, rfl⟩
      simp only [stepAt] at o1 o2 o3 o4
      rw [hP] at hpos o3 o4 p4 hcs
      obtain ⟨p, rfl⟩ := Int.eq_ofNat_of_zero_le hpos.1
      obtain ⟨t, rfl⟩ := Int.eq_ofNat_of_zero_le o1
      obtain ⟨L, rfl⟩ := Int.eq_ofNat_of_zero_le (by omega : 0 ≤ len)
      obtain ⟨⟨aa, bb, cy⟩, hct⟩ : ∃ x, cutTo ss T k = x := ⟨_, rfl⟩
      rw [hct] at hcy hcs hle
      rw [hct] at HST ⊢
      simp only at hcy hle HST ⊢
      obtain ⟨C, rfl⟩ := Int.eq_ofNat_of_zero_le hcy.1
      obtain ⟨M, hM⟩ : ∃ m, p + t = m := ⟨_, rfl⟩
      obtain ⟨E, hE⟩ : ∃ e, M + L = e := ⟨_, rfl⟩
      obtain ⟨m1, hm1⟩ : ∃ m, aa.length = m := ⟨_, rfl⟩
      obtain ⟨m2, hm2⟩ : ∃ m, bb.length = m := ⟨_, rfl⟩
      rw [hm1, hm2] at hle
      have HE : Hid ((p : Int) + (t : Int) + (L : Int) = (E : Int)) := (by omega : (p : Int) + (t : Int) + (L : Int) = (E : Int))
      have HM : Hid ((p : Int) + (t : Int) = (M : Int)) := (by omega : (p : Int) + (t : Int) = (M : Int))
      have HEX := Lib.hid (fun W => end_any W ⟨⟨t, L, offs⟩, k, p, 131072, 0, 0⟩ ⟨by simp only; omega, by simp only; omega⟩ ⟨by simp only; omega, by simp only; omega⟩ ⟨by simp only; omega, by simp only; omega⟩)
      have HMX := Lib.hid (fun W => match_any W ⟨⟨t, L, offs⟩, k, p, 131072, 0, 0⟩ ⟨by simp only; omega, by simp only; omega⟩ ⟨by simp only; omega, by simp only; omega⟩)
      have HLE := Lib.hid (And.intro hm1 (And.intro hm2 (And.intro hle (show n ≤ 100000 from HN.out ▸ HL.out))))
      have HBX := Lib.hid (HST.out.box ⟨⟨t, L, offs⟩, k, p, 131072, 0, 0⟩)
      have HCS := Lib.hid hcs
      have HCB := Lib.hid hcy.2
      have heb : E ≤ 131072 := by omega
      have hmb : M ≤ E := by omega
      have HFs := Lib.hid (And.intro hM hE)
      simp only at p0 p1 p2 p3 p4 p5 p6 p7
      clear hM hE hcs hle hcy hct hm1 hm2 o1 o2 o3 o4 hpos hst
      by_cases c1 : E ≤ T
      · have c1' : (E : Int) ≤ (T : Int) := by omega
        go_wp2_with (first
          | (go_at_call 38; refine (HEX.out _).mono ?_; (try simp only); rw [HE.out]; rintro e w5 ⟨rfl, hb⟩; have HB5 := Lib.hid (HBX.out.below hb); have hst := HB5.out.box.step; obtain ⟨q0, q1, q2, q3, q4, q5, q6, q7⟩ := hst; clear hb; clear p0 p1 p2 p3 p4 p5 p6 p7)
          | (at_builtin; refine wpList_append_seq rfl _ _ rfl rfl (HB5.out.alloc _).st.ra w5.heap.size ⟨t, L, offs⟩ rfl (Blk.new w5 _ _) (by have := HLE.out; omega) (m1 + 1) (by have := HLE.out; omega) ?_; intro A8 c8 w6 hr hg ho; have HB6 := Lib.hid ((HB5.out.alloc _).growA hr hg ho); clear hr hg ho))
        have HNX := Lib.hid (HCS.out.trans (cut_ahead (by have := HE.out; omega)))
        go_roundw
        case rel => exact CutRel.next hlt HNX.out HB6.out.st
        case measure => simp [intOf]; omega
      · have c1' : ¬ (E : Int) ≤ (T : Int) := by omega
        by_cases c2 : T ≤ M
        · have c2' : (T : Int) ≤ (M : Int) := by omega
          have HNX := Lib.hid (HCS.out.trans (cut_behind (by have := HE.out; omega) (by have := HM.out; omega)))
          go_wp2_with (first
            | (go_at_call 38; refine (HEX.out _).mono ?_; (try simp only); rw [HE.out]; rintro e w5 ⟨rfl, hb⟩; have HB5 := Lib.hid (HBX.out.below hb); have hst := HB5.out.box.step; obtain ⟨q0, q1, q2, q3, q4, q5, q6, q7⟩ := hst; clear hb; clear p0 p1 p2 p3 p4 p5 p6 p7)
            | (go_at_call 34; go_loud (refine (HMX.out _).mono ?_; (try simp only); rw [HM.out]; rintro e w6 ⟨rfl, hb⟩; have HB6 := Lib.hid (HB5.out.below hb); have hst := HB6.out.box.step; obtain ⟨q0, q1, q2, q3, q4, q5, q6, q7⟩ := hst; clear hb)))
          have HBD := Lib.hid HB6.out.drew
          refine wp_region_held_drew (S := (fun w' => w'.cell? ⟨wr.heap.size, 0, none⟩ = some (.int .i64 t) ∧ w'.cell? ⟨wr.heap.size, 1, none⟩ = some (.int .i64 L) ∧ w'.cell? ⟨wr.heap.size, 2, none⟩ = some (.int .i64 offs) ∧ w'.cell? ⟨wr.heap.size, 3, none⟩ = some (.int .i64 k) ∧ w'.cell? ⟨wr.heap.size, 4, none⟩ = some (.int .i64 p) ∧ w'.cell? ⟨wr.heap.size, 5, none⟩ = some (.int .i64 131072) ∧ w'.cell? ⟨wr.heap.size, 6, none⟩ = some (.int .i64 0) ∧ w'.cell? ⟨wr.heap.size, 7, none⟩ = some (.int .i64 0))) (by kernel_rfl) ?_ (fun hHeld => ?_)
          · (try dsimp only); exact HBD.out.box.step
          refine wpAnyH_take2 (i := 0) (oi := _) (d := some 83) (v := ?_) rfl rfl (by kernel_rfl) (by kernel_rfl) (by kernel_rfl) (fun _ _ _ h => h) (Or.inl ⟨by rfl, ?_⟩) (by assumption) ?_
          rotate_left 1
          · (intro w' hSw; (try dsimp only at hSw); go_simp; try with_reducible rfl)
          try simp only [Act.put, List.setIfInBounds_toArray, List.set_cons_zero, List.set_cons_succ]
          refine wpAnyH_take2 (i := 1) (oi := _) (d := some 84) (v := ?_) rfl rfl (by kernel_rfl) (by kernel_rfl) (by kernel_rfl) (fun _ _ _ h => h) (Or.inl ⟨by rfl, ?_⟩) (by assumption) ?_
          rotate_left 1
          · (intro w' hSw; (try dsimp only at hSw); go_simp; try with_reducible rfl)
          try simp only [Act.put, List.setIfInBounds_toArray, List.set_cons_zero, List.set_cons_succ]
          refine wpAnyH_take2 (i := 2) (oi := _) (d := some 85) (v := ?_) rfl rfl (by kernel_rfl) (by kernel_rfl) (by kernel_rfl) (fun _ _ _ h => h) (Or.inl ⟨by rfl, ?_⟩) (by assumption) ?_
          rotate_left 1
          · (intro w' hSw; (try dsimp only at hSw); go_simp; try with_reducible rfl)
          try simp only [Act.put, List.setIfInBounds_toArray, List.set_cons_zero, List.set_cons_succ]
          refine wpAnyH_take2 (i := 5) (oi := _) (d := some 88) (v := ?_) rfl rfl (by kernel_rfl) (by kernel_rfl) (by kernel_rfl) (fun _ _ _ h => h) (Or.inl ⟨by rfl, ?_⟩) (by assumption) ?_
          rotate_left 1
          · (intro w' hSw; (try dsimp only at hSw); go_simp; try with_reducible rfl)
          try simp only [Act.put, List.setIfInBounds_toArray, List.set_cons_zero, List.set_cons_succ]
          refine wpAnyH_take2 (i := 6) (oi := _) (d := some 89) (v := ?_) rfl rfl (by kernel_rfl) (by kernel_rfl) (by kernel_rfl) (fun _ _ _ h => h) (Or.inl ⟨by rfl, ?_⟩) (by assumption) ?_
          rotate_left 1
          · (intro w' hSw; (try dsimp only at hSw); go_simp; try with_reducible rfl)
          try simp only [Act.put, List.setIfInBounds_toArray, List.set_cons_zero, List.set_cons_succ]
          refine wpAnyH_take2 (i := 7) (oi := _) (d := some 90) (v := ?_) rfl rfl (by kernel_rfl) (by kernel_rfl) (by kernel_rfl) (fun _ _ _ h => h) (Or.inl ⟨by rfl, ?_⟩) (by assumption) ?_
          rotate_left 1
          · (intro w' hSw; (try dsimp only at hSw); go_simp; try with_reducible rfl)
          try simp only [Act.put, List.setIfInBounds_toArray, List.set_cons_zero, List.set_cons_succ]
          refine wpAnyH_take2 (i := 8) (oi := _) (d := some 91) (v := ?_) rfl rfl (by kernel_rfl) (by kernel_rfl) (by kernel_rfl) (fun _ _ _ h => h) (Or.inl ⟨by rfl, ?_⟩) (by assumption) ?_
          rotate_left 1
          · (intro w' hSw; (try dsimp only at hSw); go_simp; try with_reducible rfl)
          try simp only [Act.put, List.setIfInBounds_toArray, List.set_cons_zero, List.set_cons_succ]
          refine wpAnyH_take2 (i := 10) (oi := _) (d := some 93) (v := ?_) rfl rfl (by kernel_rfl) (by kernel_rfl) (by kernel_rfl) (fun _ _ _ h => h) (Or.inl ⟨by rfl, ?_⟩) (by assumption) ?_
          rotate_left 1
          · (intro w' hSw; (try dsimp only at hSw); go_simp; try with_reducible rfl)
          try simp only [Act.put, List.setIfInBounds_toArray, List.set_cons_zero, List.set_cons_succ]
          refine wpAnyH_take2 (i := 11) (oi := _) (d := some 94) (v := ?_) rfl rfl (by kernel_rfl) (by kernel_rfl) (by kernel_rfl) (fun _ _ _ h => h) (Or.inl ⟨by rfl, ?_⟩) (by assumption) ?_
          rotate_left 1
          · (intro w' hSw; (try dsimp only at hSw); go_simp; try with_reducible rfl)
          try simp only [Act.put, List.setIfInBounds_toArray, List.set_cons_zero, List.set_cons_succ]
          refine wpAnyH_take2 (i := 12) (oi := _) (d := some 95) (v := ?_) rfl rfl (by kernel_rfl) (by kernel_rfl) (by kernel_rfl) (fun _ _ _ h => h) (Or.inl ⟨by rfl, ?_⟩) (by assumption) ?_
          rotate_left 1
          · (intro w' hSw; (try dsimp only at hSw); go_simp; try with_reducible rfl)
          try simp only [Act.put, List.setIfInBounds_toArray, List.set_cons_zero, List.set_cons_succ]
          refine wpAnyH_take2 (i := 13) (oi := _) (d := some 96) (v := ?_) rfl rfl (by kernel_rfl) (by kernel_rfl) (by kernel_rfl) (fun _ _ _ h => h) (Or.inl ⟨by rfl, ?_⟩) (by assumption) ?_
          rotate_left 1
          · (intro w' hSw; (try dsimp only at hSw); go_simp; try with_reducible rfl)
          try simp only [Act.put, List.setIfInBounds_toArray, List.set_cons_zero, List.set_cons_succ]
          refine wpAnyH_take2 (i := 14) (oi := _) (d := some 97) (v := ?_) rfl rfl (by kernel_rfl) (by kernel_rfl) (by kernel_rfl) (fun _ _ _ h => h) (Or.inl ⟨by rfl, ?_⟩) (by assumption) ?_
          rotate_left 1
          · (intro w' hSw; (try dsimp only at hSw); go_simp; try with_reducible rfl)
          try simp only [Act.put, List.setIfInBounds_toArray, List.set_cons_zero, List.set_cons_succ]
          refine wpAnyH_take2 (i := 15) (oi := _) (d := some 98) (v := ?_) rfl rfl (by kernel_rfl) (by kernel_rfl) (by kernel_rfl) (fun _ _ _ h => h) (Or.inl ⟨by rfl, ?_⟩) (by assumption) ?_
          rotate_left 1
          · (intro w' hSw; (try dsimp only at hSw); go_simp; try with_reducible rfl)
          try simp only [Act.put, List.setIfInBounds_toArray, List.set_cons_zero, List.set_cons_succ]
          refine wpAnyH_ready (rs := [3]) (by kernel_rfl) (by simp) ?_
          refine AllReadyH.cons (o := _) rfl (fun K hK => ?_) ?_
          rotate_left
          · exact AllReadyH.nil
          go_simp
          refine (HMX.out _).mono ?_; (try simp only); rw [HM.out]; rintro e w7 ⟨rfl, hb⟩; have HB7 := Lib.hid (HBD.out.below hb); clear hb
          refine hK.out _ _ ?_ (fun hHeld => ?_)
          · (try dsimp only); exact HB7.out.box.step
          clear hK K
          try simp only [Act.put, List.setIfInBounds_toArray, List.set_cons_zero, List.set_cons_succ]
          refine wpAnyH_take2 (i := 4) (oi := _) (d := some 87) (v := ?_) rfl rfl (by kernel_rfl) (by kernel_rfl) (by kernel_rfl) (fun _ _ _ h => h) (Or.inl ⟨by rfl, ?_⟩) (by assumption) ?_
          rotate_left 1
          · (intro w' hSw; (try dsimp only at hSw); go_simp; try with_reducible rfl)
          try simp only [Act.put, List.setIfInBounds_toArray, List.set_cons_zero, List.set_cons_succ]
          refine wpAnyH_take2 (i := 9) (oi := _) (d := some 92) (v := ?_) rfl rfl (by kernel_rfl) (by kernel_rfl) (by kernel_rfl) (fun _ _ _ h => h) (Or.inl ⟨by rfl, ?_⟩) (by assumption) ?_
          rotate_left 1
          · (intro w' hSw; (try dsimp only at hSw); go_simp; try with_reducible rfl)
          try simp only [Act.put, List.setIfInBounds_toArray, List.set_cons_zero, List.set_cons_succ]
          refine wpAnyH_take2 (i := 16) (oi := _) (d := some 99) (v := ?_) rfl rfl (by kernel_rfl) (by kernel_rfl) (by kernel_rfl) (fun _ _ _ h => h) (Or.inl ⟨by rfl, ?_⟩) (by assumption) ?_
          rotate_left 1
          · (intro w' hSw; (try dsimp only at hSw); go_simp; try with_reducible rfl)
          try simp only [Act.put, List.setIfInBounds_toArray, List.set_cons_zero, List.set_cons_succ]
          refine wpAnyH_ready (rs := [17]) (by kernel_rfl) (by simp) ?_
          refine AllReadyH.cons (o := _) rfl (fun K hK => ?_) ?_
          rotate_left
          · exact AllReadyH.nil
          go_simp
          refine hK.out _ _ ?_ (fun hHeld => ?_)
          · (try dsimp only); exact (HB7.out.alloc _).box.step
          clear hK K
          try simp only [Act.put, List.setIfInBounds_toArray, List.set_cons_zero, List.set_cons_succ]
          refine wpAnyH_ready (rs := [18]) (by kernel_rfl) (by simp) ?_
          refine AllReadyH.cons (o := _) rfl (fun K hK => ?_) ?_
          rotate_left
          · exact AllReadyH.nil
          refine step_append_seq (by kernel_rfl) _ _ rfl rfl (HB7.out.alloc _).st.rb w7.heap.size ⟨IntKind.i64.wrap (IntKind.i64.wrap ((C : Int) + (M : Int)) - if p < T then (T : Int) else (p : Int)), L, offs⟩ rfl (Blk.new w7 _ _) (by have := HLE.out; omega) (m2 + 1) (by have := HLE.out; omega) ?_; intro A8 c8 w8 hr hg ho; have HB8 := Lib.hid ((HB7.out.alloc _).growB hr hg ho); clear hr hg ho
          refine hK.out _ _ ?_ (fun hHeld => ?_)
          · (try dsimp only); exact HB8.out.box.step
          clear hK K
          try simp only [Act.put, List.setIfInBounds_toArray, List.set_cons_zero, List.set_cons_succ]
          refine wpAnyH_take2 (i := 19) (oi := _) (d := some 5) (v := ?_) rfl rfl (by kernel_rfl) (by kernel_rfl) (by kernel_rfl) (fun _ _ _ h => h) (Or.inl ⟨by rfl, ?_⟩) (by assumption) ?_
          rotate_left 1
          · (intro w' hSw; (try dsimp only at hSw); go_simp; try with_reducible rfl)
          try simp only [Act.put, List.setIfInBounds_toArray, List.set_cons_zero, List.set_cons_succ]
          refine wpAnyH_done (by kernel_rfl) ?_ _
          go_wp2
          have hval : IntKind.i64.wrap (IntKind.i64.wrap ((C : Int) + (M : Int)) - if p < T then (T : Int) else (p : Int)) = (C : Int) + ((p : Int) + (t : Int)) - max (p : Int) (T : Int) := by
            have h1 := HM.out
            have h2 := HCB.out
            rw [wrap_in ((C : Int) + (M : Int)) (by omega) (by omega), wrap_in _ (by split <;> omega) (by split <;> omega)]
            split <;> omega
          have HB9 : Hid (CutSt w4 w8 u4 (.slice A8 (m2 + 1) c8) aa (bb ++ [⟨(C : Int) + ((p : Int) + (t : Int)) - max (p : Int) (T : Int), L, offs⟩])) := (hval ▸ HB8.out.st : CutSt _ _ _ _ _ _)
          go_roundw
          case rel => exact CutRel.next hlt HNX.out HB9.out
          case measure => simp [intOf]; omega
        · have c2' : ¬ (T : Int) ≤ (M : Int) := by omega
          have c2'' : (M : Int) < (T : Int) := by omega
          obtain ⟨K1, hK1⟩ : ∃ x, T - M = x := ⟨_, rfl⟩
          obtain ⟨K2, hK2⟩ : ∃ x, E - T = x := ⟨_, rfl⟩
          have ew1 : IntKind.i64.wrap ((T : Int) - (M : Int)) = (K1 : Int) := by rw [wrap_in _ (by omega) (by omega)]; omega
          have ew2 : IntKind.i64.wrap ((E : Int) - (T : Int)) = (K2 : Int) := by rw [wrap_in _ (by omega) (by omega)]; omega
          have hnx := HCS.out.trans (cut_both (by have := HE.out; omega) (by have := HM.out; omega))
          rw [show (T : Int) - ((p : Int) + (t : Int)) = (K1 : Int) by have := HM.out; omega, show (p : Int) + (t : Int) + (L : Int) - (T : Int) = (K2 : Int) by have := HE.out; omega] at hnx
          clear hK1 hK2
          by_cases a3 : 3 ≤ K1
          · have a3' : (3 : Int) ≤ (K1 : Int) := by omega
            rw [if_pos a3'] at hnx
            by_cases b3 : 3 ≤ K2
            · have b3' : (3 : Int) ≤ (K2 : Int) := by omega
              rw [if_pos b3', if_pos b3'] at hnx
              have HNX := Lib.hid hnx
              clear hnx
              go_wp2_with (first
                | (go_at_call 38; refine (HEX.out _).mono ?_; (try simp only); rw [HE.out]; rintro e w5 ⟨rfl, hb⟩; have HB5 := Lib.hid (HBX.out.below hb); have hst := HB5.out.box.step; obtain ⟨q0, q1, q2, q3, q4, q5, q6, q7⟩ := hst; clear hb; clear p0 p1 p2 p3 p4 p5 p6 p7)
                | (go_at_call 34; refine (HMX.out _).mono ?_; (try simp only); rw [HM.out]; rintro e w6 ⟨rfl, hb⟩; have HB6 := Lib.hid (HB5.out.below hb); have hst := HB6.out.box.step; obtain ⟨q0, q1, q2, q3, q4, q5, q6, q7⟩ := hst; clear hb)
                | (go_at_call 34; refine (HMX.out _).mono ?_; (try simp only); rw [HM.out]; rintro e w7 ⟨rfl, hb⟩; have HB7 := Lib.hid (HB6.out.below hb); have hst := HB7.out.box.step; obtain ⟨q0, q1, q2, q3, q4, q5, q6, q7⟩ := hst; clear hb)
                | (at_builtin; refine wpList_append_seq rfl _ _ rfl rfl (HB7.out.alloc _).st.ra w7.heap.size ⟨t, K1, offs⟩ rfl (Blk.new w7 _ _) (by have := HLE.out; omega) (m1 + 1) (by have := HLE.out; omega) ?_; intro A8 c8 w8 hr hg ho; have HB8 := Lib.hid ((HB7.out.alloc _).growA hr hg ho); clear hr hg ho; have hst := HB8.out.box.step; obtain ⟨q0, q1, q2, q3, q4, q5, q6, q7⟩ := hst)
                | (go_at_call 38; refine (HEX.out _).mono ?_; (try simp only); rw [HE.out]; rintro e w9 ⟨rfl, hb⟩; have HB9 := Lib.hid (HB8.out.below hb); have hst := HB9.out.box.step; obtain ⟨q0, q1, q2, q3, q4, q5, q6, q7⟩ := hst; clear hb)
                | (at_builtin; refine wpList_append_seq rfl _ _ rfl rfl (HB9.out.alloc _).st.rb w9.heap.size ⟨0, K2, offs⟩ rfl (Blk.new w9 _ _) (by have := HLE.out; omega) (m2 + 1) (by have := HLE.out; omega) ?_; intro A8 c8 w10 hr hg ho; have HB10 := Lib.hid ((HB9.out.alloc _).growB hr hg ho); clear hr hg ho))
              go_roundw
              case rel => exact CutRel.next hlt HNX.out HB10.out.st
              case measure => simp [intOf]; omega
            · have b3' : ¬ (3 : Int) ≤ (K2 : Int) := by omega
              rw [if_neg b3', if_neg b3'] at hnx
              have HNX := Lib.hid hnx
              clear hnx
              go_wp2_with (first
                | (go_at_call 38; refine (HEX.out _).mono ?_; (try simp only); rw [HE.out]; rintro e w5 ⟨rfl, hb⟩; have HB5 := Lib.hid (HBX.out.below hb); have hst := HB5.out.box.step; obtain ⟨q0, q1, q2, q3, q4, q5, q6, q7⟩ := hst; clear hb; clear p0 p1 p2 p3 p4 p5 p6 p7)
                | (go_at_call 34; refine (HMX.out _).mono ?_; (try simp only); rw [HM.out]; rintro e w6 ⟨rfl, hb⟩; have HB6 := Lib.hid (HB5.out.below hb); have hst := HB6.out.box.step; obtain ⟨q0, q1, q2, q3, q4, q5, q6, q7⟩ := hst; clear hb)
                | (go_at_call 34; refine (HMX.out _).mono ?_; (try simp only); rw [HM.out]; rintro e w7 ⟨rfl, hb⟩; have HB7 := Lib.hid (HB6.out.below hb); have hst := HB7.out.box.step; obtain ⟨q0, q1, q2, q3, q4, q5, q6, q7⟩ := hst; clear hb)
                | (at_builtin; refine wpList_append_seq rfl _ _ rfl rfl (HB7.out.alloc _).st.ra w7.heap.size ⟨t, K1, offs⟩ rfl (Blk.new w7 _ _) (by have := HLE.out; omega) (m1 + 1) (by have := HLE.out; omega) ?_; intro A8 c8 w8 hr hg ho; have HB8 := Lib.hid ((HB7.out.alloc _).growA hr hg ho); clear hr hg ho; have hst := HB8.out.box.step; obtain ⟨q0, q1, q2, q3, q4, q5, q6, q7⟩ := hst)
                | (go_at_call 38; refine (HEX.out _).mono ?_; (try simp only); rw [HE.out]; rintro e w9 ⟨rfl, hb⟩; have HB9 := Lib.hid (HB8.out.below hb); have hst := HB9.out.box.step; obtain ⟨q0, q1, q2, q3, q4, q5, q6, q7⟩ := hst; clear hb))
              go_roundw
              case rel => exact CutRel.next hlt HNX.out HB9.out.st
              case measure => simp [intOf]; omega
          · have a3' : ¬ (3 : Int) ≤ (K1 : Int) := by omega
            rw [if_neg a3'] at hnx
            by_cases b3 : 3 ≤ K2
            · have b3' : (3 : Int) ≤ (K2 : Int) := by omega
              rw [if_pos b3', if_pos b3'] at hnx
              have HNX := Lib.hid hnx
              clear hnx
              go_wp2_with (first
                | (go_at_call 38; refine (HEX.out _).mono ?_; (try simp only); rw [HE.out]; rintro e w5 ⟨rfl, hb⟩; have HB5 := Lib.hid (HBX.out.below hb); have hst := HB5.out.box.step; obtain ⟨q0, q1, q2, q3, q4, q5, q6, q7⟩ := hst; clear hb; clear p0 p1 p2 p3 p4 p5 p6 p7)
                | (go_at_call 34; refine (HMX.out _).mono ?_; (try simp only); rw [HM.out]; rintro e w6 ⟨rfl, hb⟩; have HB6 := Lib.hid (HB5.out.below hb); have hst := HB6.out.box.step; obtain ⟨q0, q1, q2, q3, q4, q5, q6, q7⟩ := hst; clear hb)
                | (go_at_call 34; refine (HMX.out _).mono ?_; (try simp only); rw [HM.out]; rintro e w7 ⟨rfl, hb⟩; have HB7 := Lib.hid (HB6.out.below hb); have hst := HB7.out.box.step; obtain ⟨q0, q1, q2, q3, q4, q5, q6, q7⟩ := hst; clear hb)
                | (go_at_call 38; refine (HEX.out _).mono ?_; (try simp only); rw [HE.out]; rintro e w9 ⟨rfl, hb⟩; have HB9 := Lib.hid (HB7.out.below hb); have hst := HB9.out.box.step; obtain ⟨q0, q1, q2, q3, q4, q5, q6, q7⟩ := hst; clear hb)
                | (at_builtin; refine wpList_append_seq rfl _ _ rfl rfl (HB9.out.alloc _).st.rb w9.heap.size ⟨0, K2, offs⟩ rfl (Blk.new w9 _ _) (by have := HLE.out; omega) (m2 + 1) (by have := HLE.out; omega) ?_; intro A8 c8 w10 hr hg ho; have HB10 := Lib.hid ((HB9.out.alloc _).growB hr hg ho); clear hr hg ho))
              go_roundw
              case rel => exact CutRel.next hlt HNX.out HB10.out.st
              case measure => simp [intOf]; omega
            · have b3' : ¬ (3 : Int) ≤ (K2 : Int) := by omega
              rw [if_neg b3', if_neg b3'] at hnx
              have HNX := Lib.hid hnx
              clear hnx
              go_wp2_with (first
                | (go_at_call 38; refine (HEX.out _).mono ?_; (try simp only); rw [HE.out]; rintro e w5 ⟨rfl, hb⟩; have HB5 := Lib.hid (HBX.out.below hb); have hst := HB5.out.box.step; obtain ⟨q0, q1, q2, q3, q4, q5, q6, q7⟩ := hst; clear hb; clear p0 p1 p2 p3 p4 p5 p6 p7)
                | (go_at_call 34; refine (HMX.out _).mono ?_; (try simp only); rw [HM.out]; rintro e w6 ⟨rfl, hb⟩; have HB6 := Lib.hid (HB5.out.below hb); have hst := HB6.out.box.step; obtain ⟨q0, q1, q2, q3, q4, q5, q6, q7⟩ := hst; clear hb)
                | (go_at_call 34; refine (HMX.out _).mono ?_; (try simp only); rw [HM.out]; rintro e w7 ⟨rfl, hb⟩; have HB7 := Lib.hid (HB6.out.below hb); have hst := HB7.out.box.step; obtain ⟨q0, q1, q2, q3, q4, q5, q6, q7⟩ := hst; clear hb)
                | (go_at_call 38; refine (HEX.out _).mono ?_; (try simp only); rw [HE.out]; rintro e w9 ⟨rfl, hb⟩; have HB9 := Lib.hid (HB7.out.below hb); have hst := HB9.out.box.step; obtain ⟨q0, q1, q2, q3, q4, q5, q6, q7⟩ := hst; clear hb))
              go_roundw
              case rel => exact CutRel.next hlt HNX.out HB9.out.st
              case measure => simp [intOf]; omega
    · obtain rfl : k = n := by omega
      go_wp2
      obtain ⟨cy, hcy⟩ : ∃ x, (cutTo ss T k).2.2 = x := ⟨_, rfl⟩
      rw [hcy]
      refine bodyPost_ret (v := .tuple #[u4, u5, .int .i64 0]) (by simp [results, Try.results22, go_sem]) rfl ⟨_, _, rfl, HST.out.base HB4.out⟩
end Go.Proofs.Ytamhkfnghgbenaa
