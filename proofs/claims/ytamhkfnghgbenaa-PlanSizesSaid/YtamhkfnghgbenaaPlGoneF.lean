/-
  plan: gone, with both rules.
-/
import Derived.Test.YtamhkfnghgbenaaPlGone
namespace Go.Proofs.Ytamhkfnghgbenaa
set_option linter.all false
open Go.RowKit

set_option maxHeartbeats 3200000 in
set_option maxRecDepth 100000 in
theorem gone_first (w : World) (v : Value) (ss : List SeqD) (size hv wd : Int) (J : Nat → List StepD → World → Prop) (hJ : Keeps w v ss J) (hsz : 0 ≤ size ∧ size ≤ 131072)
    (hof : ∀ N pre x W, pre.length < ss.length → J N pre W → N ≤ W.heap.size → Calls Try.prog 32 #[x.val] W fun e W' => e = .returned (.tuple #[]) ∧ J N (pre ++ [x]) W' ∧ W.heap.size ≤ W'.heap.size ∧ ∀ k, w.heap.size ≤ k → k < N → W'.heap[k]? = W.heap[k]?) :
    Calls Try.prog 31 #[v, (StepD.mk ⟨0, 0, 0⟩ 0 0 size hv wd).val, .int .i64 2, .func (.func 32) #[] #[]] w fun e w' => ∃ N,
      (Good 2 size hv wd ss ss.length ∧ e = .returned (.int .i64 (posL ss)) ∧ J N (stepsOf size hv wd ss ss.length) w') ∨
      (∃ k s, ss[k]? = some s ∧ Good 2 size hv wd ss k ∧ ¬ okAt 2 size hv wd ss k s ∧ e = wrongAt k ∧ J N (stepsOf size hv wd ss k) w') := by
  have HJ := Lib.hid hJ
  have HOF := Lib.hid hof
  obtain ⟨⟨A, c, rfl, hlc, hcm, -⟩, -⟩ := hJ.seqs _ _ _ (hJ.start w (Below.refl _ _))
  obtain ⟨n, hn⟩ : ∃ n, ss.length = n := ⟨_, rfl⟩
  have HN := Lib.hid hn
  rw [hn] at hlc ⊢
  have hnm : n ≤ 9223372036854775807 := by simp only [maxLen] at hcm; omega
  have HSZ := Lib.hid hsz
  have HBK : Hid (Blk (w.alloc (.cells #[.int .i64 0, .int .i64 0, .int .i64 0, .int .i64 0, .int .i64 0, .int .i64 size, .int .i64 hv, .int .i64 wd] 71)) w.heap.size 71 (StepD.cells ⟨⟨0, 0, 0⟩, 0, 0, size, hv, wd⟩)) := (Blk.new w _ _ : Blk _ _ _ _)
  have HB := Lib.hid ((Below.refl w.heap.size w).alloc (Nat.le_refl _) (.cells #[.int .i64 0, .int .i64 0, .int .i64 0, .int .i64 0, .int .i64 0, .int .i64 size, .int .i64 hv, .int .i64 wd] 71))
  clear hJ hof hn hsz
  unfold StepD.val StepD.cells
  go_enter Try.func31, Try.ntmps31
  go_wp2_with fail
  refine (rules_any _).mono ?_
  rintro e w2 ⟨rfl, hb⟩
  have hst : GoSt w (w2.alloc (.cells #[ruleFn 46, ruleFn 47] 85)) w2.heap.size (w2.heap.size + 1) (StepD.mk ⟨0, 0, 0⟩ 0 0 size hv wd) J [] := by
    have hs := hb.size
    have hB2 : Below w.heap.size w w2 := HB.out.trans (hb.mono HB.out.size)
    have hbox := HBK.out.below hb HBK.out.lt
    have h3 : Below w2.heap.size w2 (w2.alloc (.cells #[ruleFn 46, ruleFn 47] 85)) := (Below.refl _ w2).alloc (Nat.le_refl _) _
    have h4 := HJ.out.start _ (hB2.trans (h3.mono hB2.size))
    simp only [World.size_alloc] at h4
    refine ⟨hbox.below h3 hbox.lt, Blk.new _ _ _, hbox.lt, Nat.lt_succ_self _, h4⟩
  have HST := Lib.hid hst
  clear hst hb HBK HB
  obtain ⟨b9, hb9⟩ : ∃ b9, w2.heap.size = b9 := ⟨_, rfl⟩
  rw [hb9] at HST
  go_wp2
  try rw [hb9]
  clear hb9
  generalize w2.alloc (.cells #[ruleFn 46, ruleFn 47] 85) = w3 at HST ⊢
  go_loopw [10] (fun rest wr => ∃ (k M c' : Nat) (A' : Option Addr) (sq : SeqD) (P : Int), k + M = n ∧ rest = .slice A' M c' ∧ M ≤ c' ∧ c' ≤ 9223372036854775807 ∧ Hid (0 < M → ∃ b off, A = some ⟨b, off, none⟩ ∧ A' = some ⟨b, off + k * 3, none⟩) ∧
      Hid (posL (ss.take k) = P) ∧ Hid (GoSt w wr b9 (b9 + 1) ⟨sq, k, P, size, hv, wd⟩ J (stepsOf size hv wd ss k)) ∧ Hid (Good 2 size hv wd ss k)) (fun rest _ => lenOf rest)
  case atStart =>
    refine ⟨0, n, c, A, ⟨0, 0, 0⟩, 0, by omega, rfl, hlc, by simp only [maxLen] at hcm; omega, (?_ : 0 < n → _), (rfl : _ = _), (HST.out : GoSt _ _ _ _ _ _ _), (fun i s hi => by omega : Good _ _ _ _ _ _)⟩
    intro h0
    obtain ⟨A2, c2, he, -, -, h4⟩ := (HJ.out.seqs _ _ _ HST.out.word).at_
    injection he with e1 e2 e3
    subst e1
    obtain ⟨b, off, hA, -⟩ := h4 (by rw [HN.out]; exact h0)
    exact ⟨b, off, hA, by rw [hA, Nat.zero_mul, Nat.add_zero]⟩
  case round =>
    clear HST
    obtain ⟨k, M, c', A', sq, P, hkM, rfl, hMc, hcb, HA, HP, HG, HGD⟩ := hrel
    have hMi : (M : Int) ≤ 9223372036854775807 := by omega
    by_cases hM : 0 < M
    · have hM0 : (0 : Int) < (M : Int) := by omega
      obtain ⟨b, off, hA, rfl⟩ := HA.out hM
      subst hA
      have hx := List.getElem?_eq_getElem (l := ss) (i := k) (by rw [HN.out]; omega)
      obtain ⟨⟨lit, len, offs⟩, hse⟩ : ∃ s, ss[k]'(by rw [HN.out]; omega) = s := ⟨_, rfl⟩
      rw [hse] at hx
      have hsq := HJ.out.seqs _ _ _ HG.out.word
      have hwf := hsq.wf _ (List.mem_of_getElem? hx)
      obtain ⟨A2, c2, he, -, -, h4⟩ := hsq.at_
      injection he with e1 e2 e3
      subst e1
      obtain ⟨b2, off2, hA2, hcell⟩ := h4 (by rw [HN.out]; omega)
      injection hA2 with hA2
      injection hA2 with hb2 ho2
      subst hb2 ho2
      obtain ⟨c0, c1, c2⟩ := hcell k _ hx
      obtain ⟨p0, p1, p2, p3, p4, p5, p6, p7⟩ := HG.out.box.step
      have f0 := HG.out.box.frozen 0
      have f1 := HG.out.box.frozen 1
      have f2 := HG.out.box.frozen 2
      have HX := Lib.hid hx
      have HWF := Lib.hid hwf
      clear hx hse hsq hwf hcell h4
      simp only at p0 p1 p2 p3 p4 p5 p6 p7 c0 c1 c2
      have HG1 : Hid (GoSt w (((wr.setCell ⟨w.heap.size, 0, none⟩ (.int .i64 lit)).setCell ⟨w.heap.size, 1, none⟩ (.int .i64 len)).setCell ⟨w.heap.size, 2, none⟩ (.int .i64 offs)) b9 (b9 + 1) ⟨⟨lit, len, offs⟩, k, P, size, hv, wd⟩ J (stepsOf size hv wd ss k)) :=
        (((HG.out.set_ (y := ⟨⟨lit, sq.len, sq.off⟩, k, P, size, hv, wd⟩) HJ.out 0 (.int .i64 lit) rfl).set_ (y := ⟨⟨lit, len, sq.off⟩, k, P, size, hv, wd⟩) HJ.out 1 (.int .i64 len) rfl).set_ (y := ⟨⟨lit, len, offs⟩, k, P, size, hv, wd⟩) HJ.out 2 (.int .i64 offs) rfl : GoSt _ _ _ _ _ _ _)
      have hpos := HGD.out.pos HSZ.out.1 (by rw [HN.out]; omega)
      rw [HP.out] at hpos
      have hxe : stepAt size hv wd ss k ⟨lit, len, offs⟩ = ⟨⟨lit, len, offs⟩, k, P, size, hv, wd⟩ := by unfold stepAt; rw [HP.out]
      have HXE := Lib.hid hxe
      have HPOS := Lib.hid hpos
      have HW1 : Hid (StepD.Wf ⟨⟨lit, len, offs⟩, k, P, size, hv, wd⟩) := (⟨HWF.out.1, HWF.out.2.1, HWF.out.2.2, hpos, HSZ.out⟩ : StepD.Wf _)
      clear hpos hxe
      go_wp2
      clear p0 p1 p2 p3 p4 p5 p6 p7 c0 c1 c2 f0 f1 f2
      generalize ((wr.setCell ⟨w.heap.size, 0, none⟩ (.int .i64 lit)).setCell ⟨w.heap.size, 1, none⟩ (.int .i64 len)).setCell ⟨w.heap.size, 2, none⟩ (.int .i64 offs) = W1 at HG1 ⊢
      clear HG
      go_loopw [31] (fun i wr => ∃ j : Nat, j ≤ 2 ∧ i = .int .i64 j ∧ Hid (GoSt w wr b9 (b9 + 1) ⟨⟨lit, len, offs⟩, k, P, size, hv, wd⟩ J (stepsOf size hv wd ss k)) ∧ Hid (1 ≤ j → StepD.rule1 ⟨⟨lit, len, offs⟩, k, P, size, hv, wd⟩) ∧ Hid (2 ≤ j → StepD.rule2 ⟨⟨lit, len, offs⟩, k, P, size, hv, wd⟩)) (fun i _ => 2 - (intOf i).toNat)
      case atStart => exact ⟨0, Nat.zero_le _, rfl, (HG1.out : GoSt _ _ _ _ _ _ _), (fun h => absurd h (by omega) : 1 ≤ 0 → _), (fun h => absurd h (by omega) : 2 ≤ 0 → _)⟩
      case round =>
        clear HG1
        obtain ⟨j, hj, rfl, HG, HR1, HR2⟩ := hrel
        have g0 : wr.cell? ⟨b9, 0, none⟩ = some (ruleFn 46) := by rw [HG.out.rules.cell]; rfl
        have g1 : wr.cell? ⟨b9, 1, none⟩ = some (ruleFn 47) := by rw [HG.out.rules.cell]; rfl
        have HGD2 : Hid (GoSt w wr.drew b9 (b9 + 1) ⟨⟨lit, len, offs⟩, k, P, size, hv, wd⟩ J (stepsOf size hv wd ss k)) := (HG.out.below HJ.out (Below.refl _ wr).drew : GoSt _ _ _ _ _ _ _)
        by_cases hj0 : j < 2
        · have hj1 : j = 0 ∨ j = 1 := by omega
          rcases hj1 with hj1 | hj1
          · obtain rfl : j = 0 := by omega
            by_cases hr : StepD.rule1 ⟨⟨lit, len, offs⟩, k, P, size, hv, wd⟩
            · have HRD : Hid (decide (StepD.rule1 ⟨⟨lit, len, offs⟩, k, P, size, hv, wd⟩) = true) := (decide_eq_true hr : _ = _)
              have HR := Lib.hid hr
              clear hr
              go_wp2
              go_region_held3 (fun w' => w'.cell? ⟨w.heap.size, 0, none⟩ = some (.int .i64 lit) ∧ w'.cell? ⟨w.heap.size, 1, none⟩ = some (.int .i64 len) ∧ w'.cell? ⟨w.heap.size, 2, none⟩ = some (.int .i64 offs) ∧ w'.cell? ⟨w.heap.size, 3, none⟩ = some (.int .i64 k) ∧ w'.cell? ⟨w.heap.size, 4, none⟩ = some (.int .i64 P) ∧ w'.cell? ⟨w.heap.size, 5, none⟩ = some (.int .i64 size) ∧ w'.cell? ⟨w.heap.size, 6, none⟩ = some (.int .i64 hv) ∧ w'.cell? ⟨w.heap.size, 7, none⟩ = some (.int .i64 wd))
                (first | exact HGD2.out.box.step | exact HG3.out.box.step | exact HG4.out.box.step)
                (first
                  | (go_at_call 46; refine (rule1_any wr.drew ⟨⟨lit, len, offs⟩, k, P, size, hv, wd⟩ HW1.out).mono ?_; rw [HRD.out]; rintro e w3 ⟨rfl, hb⟩; have HG3 := Lib.hid (HGD2.out.below HJ.out hb); clear hb)
                  | (go_at_call 43; refine (must_true w3 ⟨⟨lit, len, offs⟩, k, P, size, hv, wd⟩).mono ?_; rintro e w4 ⟨rfl, hb⟩; have HG4 := Lib.hid (HG3.out.below HJ.out hb); clear hb))
              all_goals
                go_wp2
                go_roundw
                case rel => exact ⟨1, by omega, by go_num, (HG4.out : GoSt _ _ _ _ _ _ _), (fun _ => HR.out : 1 ≤ 1 → _), (fun h => absurd h (by omega) : 2 ≤ 1 → _)⟩
                case measure => simp [intOf]
            · have HRD : Hid (decide (StepD.rule1 ⟨⟨lit, len, offs⟩, k, P, size, hv, wd⟩) = false) := (decide_eq_false hr : _ = _)
              have HR := Lib.hid hr
              clear hr
              go_wp2
              refine wp_region_held_drew (S := (fun w' => w'.cell? ⟨w.heap.size, 0, none⟩ = some (.int .i64 lit) ∧ w'.cell? ⟨w.heap.size, 1, none⟩ = some (.int .i64 len) ∧ w'.cell? ⟨w.heap.size, 2, none⟩ = some (.int .i64 offs) ∧ w'.cell? ⟨w.heap.size, 3, none⟩ = some (.int .i64 k) ∧ w'.cell? ⟨w.heap.size, 4, none⟩ = some (.int .i64 P) ∧ w'.cell? ⟨w.heap.size, 5, none⟩ = some (.int .i64 size) ∧ w'.cell? ⟨w.heap.size, 6, none⟩ = some (.int .i64 hv) ∧ w'.cell? ⟨w.heap.size, 7, none⟩ = some (.int .i64 wd))) (by kernel_rfl) ?_ (fun hHeld => ?_)
              · (try dsimp only); exact HGD2.out.box.step
              refine wpAnyH_take2 (i := 0) (oi := _) (d := some 35) (v := ?_) rfl rfl (by kernel_rfl) (by kernel_rfl) (by kernel_rfl) (fun _ _ _ h => h) (Or.inl ⟨by rfl, ?_⟩) (by assumption) ?_
              rotate_left 1
              · (intro w' hSw; (try dsimp only at hSw); go_simp; try with_reducible rfl)
              try simp only [Act.put, List.setIfInBounds_toArray, List.set_cons_zero, List.set_cons_succ]
              refine wpAnyH_take2 (i := 1) (oi := _) (d := some 36) (v := ?_) rfl rfl (by kernel_rfl) (by kernel_rfl) (by kernel_rfl) (fun _ _ _ h => h) (Or.inl ⟨by rfl, ?_⟩) (by assumption) ?_
              rotate_left 1
              · (intro w' hSw; (try dsimp only at hSw); go_simp; try with_reducible rfl)
              try simp only [Act.put, List.setIfInBounds_toArray, List.set_cons_zero, List.set_cons_succ]
              refine wpAnyH_take2 (i := 2) (oi := _) (d := some 37) (v := ?_) rfl rfl (by kernel_rfl) (by kernel_rfl) (by kernel_rfl) (fun _ _ _ h => h) (Or.inl ⟨by rfl, ?_⟩) (by assumption) ?_
              rotate_left 1
              · (intro w' hSw; (try dsimp only at hSw); go_simp; try with_reducible rfl)
              try simp only [Act.put, List.setIfInBounds_toArray, List.set_cons_zero, List.set_cons_succ]
              refine wpAnyH_ready (rs := [3]) (by kernel_rfl) (by simp) ?_
              refine AllReadyH.cons (o := _) rfl (fun K hK => ?_) ?_
              rotate_left
              · exact AllReadyH.nil
              go_simp
              refine (rule1_any wr.drew ⟨⟨lit, len, offs⟩, k, P, size, hv, wd⟩ HW1.out).mono ?_; rw [HRD.out]; rintro e w3 ⟨rfl, hb⟩; have HG3 := Lib.hid (HGD2.out.below HJ.out hb); clear hb
              refine hK.out _ _ ?_ (fun hHeld => ?_)
              · (try dsimp only); exact HG3.out.box.step
              clear hK K
              try simp only [Act.put, List.setIfInBounds_toArray, List.set_cons_zero, List.set_cons_succ]
              refine wpAnyH_ready (rs := [4]) (by kernel_rfl) (by simp) ?_
              refine AllReadyH.cons (o := _) rfl (fun K hK => ?_) ?_
              rotate_left
              · exact AllReadyH.nil
              go_simp
              refine (must_false w3 ⟨⟨lit, len, offs⟩, k, P, size, hv, wd⟩).mono ?_
              rintro e w4 ⟨rfl, hb⟩
              have HG4 := Lib.hid (HG3.out.below HJ.out hb)
              clear hb
              exact ⟨rfl, _, .inr ⟨k, ⟨lit, len, offs⟩, HX.out, HGD.out, fun ho => HR.out (HXE.out ▸ ho.1), rfl, HG4.out.word⟩⟩
          · obtain rfl : j = 1 := by omega
            have hr1 := HR1.out (by omega)
            have hl0 := hr1.1
            have hl1 := hr1.2.2.1
            simp only at hl0 hl1
            have HC2 := Lib.hid (rule2_any wr.drew ⟨⟨lit, len, offs⟩, k, P, size, hv, wd⟩ HW1.out.off ⟨HPOS.out.1, by have h5 := HPOS.out; have h6 := HSZ.out; simp only; omega⟩ ⟨hl0, by have h5 := HPOS.out; have h6 := HSZ.out; simp only; omega⟩)
            clear hr1 hl0 hl1
            by_cases hr : StepD.rule2 ⟨⟨lit, len, offs⟩, k, P, size, hv, wd⟩
            · have HRD : Hid (decide (StepD.rule2 ⟨⟨lit, len, offs⟩, k, P, size, hv, wd⟩) = true) := (decide_eq_true hr : _ = _)
              have HR := Lib.hid hr
              clear hr
              go_wp2
              go_region_held3 (fun w' => w'.cell? ⟨w.heap.size, 0, none⟩ = some (.int .i64 lit) ∧ w'.cell? ⟨w.heap.size, 1, none⟩ = some (.int .i64 len) ∧ w'.cell? ⟨w.heap.size, 2, none⟩ = some (.int .i64 offs) ∧ w'.cell? ⟨w.heap.size, 3, none⟩ = some (.int .i64 k) ∧ w'.cell? ⟨w.heap.size, 4, none⟩ = some (.int .i64 P) ∧ w'.cell? ⟨w.heap.size, 5, none⟩ = some (.int .i64 size) ∧ w'.cell? ⟨w.heap.size, 6, none⟩ = some (.int .i64 hv) ∧ w'.cell? ⟨w.heap.size, 7, none⟩ = some (.int .i64 wd))
                (first | exact HGD2.out.box.step | exact HG3.out.box.step | exact HG4.out.box.step)
                (first
                  | (go_at_call 47; refine (HC2.out).mono ?_; rw [HRD.out]; rintro e w3 ⟨rfl, hb⟩; have HG3 := Lib.hid (HGD2.out.below HJ.out hb); clear hb)
                  | (go_at_call 43; refine (must_true w3 ⟨⟨lit, len, offs⟩, k, P, size, hv, wd⟩).mono ?_; rintro e w4 ⟨rfl, hb⟩; have HG4 := Lib.hid (HG3.out.below HJ.out hb); clear hb))
              all_goals
                go_wp2
                go_roundw
                case rel => exact ⟨2, by omega, by go_num, (HG4.out : GoSt _ _ _ _ _ _ _), (fun _ => HR1.out (by omega) : 1 ≤ 2 → _), (fun _ => HR.out : 2 ≤ 2 → _)⟩
                case measure => simp [intOf]
            · have HRD : Hid (decide (StepD.rule2 ⟨⟨lit, len, offs⟩, k, P, size, hv, wd⟩) = false) := (decide_eq_false hr : _ = _)
              have HR := Lib.hid hr
              clear hr
              go_wp2
              refine wp_region_held_drew (S := (fun w' => w'.cell? ⟨w.heap.size, 0, none⟩ = some (.int .i64 lit) ∧ w'.cell? ⟨w.heap.size, 1, none⟩ = some (.int .i64 len) ∧ w'.cell? ⟨w.heap.size, 2, none⟩ = some (.int .i64 offs) ∧ w'.cell? ⟨w.heap.size, 3, none⟩ = some (.int .i64 k) ∧ w'.cell? ⟨w.heap.size, 4, none⟩ = some (.int .i64 P) ∧ w'.cell? ⟨w.heap.size, 5, none⟩ = some (.int .i64 size) ∧ w'.cell? ⟨w.heap.size, 6, none⟩ = some (.int .i64 hv) ∧ w'.cell? ⟨w.heap.size, 7, none⟩ = some (.int .i64 wd))) (by kernel_rfl) ?_ (fun hHeld => ?_)
              · (try dsimp only); exact HGD2.out.box.step
              refine wpAnyH_take2 (i := 0) (oi := _) (d := some 35) (v := ?_) rfl rfl (by kernel_rfl) (by kernel_rfl) (by kernel_rfl) (fun _ _ _ h => h) (Or.inl ⟨by rfl, ?_⟩) (by assumption) ?_
              rotate_left 1
              · (intro w' hSw; (try dsimp only at hSw); go_simp; try with_reducible rfl)
              try simp only [Act.put, List.setIfInBounds_toArray, List.set_cons_zero, List.set_cons_succ]
              refine wpAnyH_take2 (i := 1) (oi := _) (d := some 36) (v := ?_) rfl rfl (by kernel_rfl) (by kernel_rfl) (by kernel_rfl) (fun _ _ _ h => h) (Or.inl ⟨by rfl, ?_⟩) (by assumption) ?_
              rotate_left 1
              · (intro w' hSw; (try dsimp only at hSw); go_simp; try with_reducible rfl)
              try simp only [Act.put, List.setIfInBounds_toArray, List.set_cons_zero, List.set_cons_succ]
              refine wpAnyH_take2 (i := 2) (oi := _) (d := some 37) (v := ?_) rfl rfl (by kernel_rfl) (by kernel_rfl) (by kernel_rfl) (fun _ _ _ h => h) (Or.inl ⟨by rfl, ?_⟩) (by assumption) ?_
              rotate_left 1
              · (intro w' hSw; (try dsimp only at hSw); go_simp; try with_reducible rfl)
              try simp only [Act.put, List.setIfInBounds_toArray, List.set_cons_zero, List.set_cons_succ]
              refine wpAnyH_ready (rs := [3]) (by kernel_rfl) (by simp) ?_
              refine AllReadyH.cons (o := _) rfl (fun K hK => ?_) ?_
              rotate_left
              · exact AllReadyH.nil
              go_simp
              refine (HC2.out).mono ?_; rw [HRD.out]; rintro e w3 ⟨rfl, hb⟩; have HG3 := Lib.hid (HGD2.out.below HJ.out hb); clear hb
              refine hK.out _ _ ?_ (fun hHeld => ?_)
              · (try dsimp only); exact HG3.out.box.step
              clear hK K
              try simp only [Act.put, List.setIfInBounds_toArray, List.set_cons_zero, List.set_cons_succ]
              refine wpAnyH_ready (rs := [4]) (by kernel_rfl) (by simp) ?_
              refine AllReadyH.cons (o := _) rfl (fun K hK => ?_) ?_
              rotate_left
              · exact AllReadyH.nil
              go_simp
              refine (must_false w3 ⟨⟨lit, len, offs⟩, k, P, size, hv, wd⟩).mono ?_
              rintro e w4 ⟨rfl, hb⟩
              have HG4 := Lib.hid (HG3.out.below HJ.out hb)
              clear hb
              exact ⟨rfl, _, .inr ⟨k, ⟨lit, len, offs⟩, HX.out, HGD.out, fun ho => HR.out (HXE.out ▸ ho.2 (by decide)), rfl, HG4.out.word⟩⟩
        · obtain rfl : j = 2 := by omega
          have HOK : Hid (okAt 2 size hv wd ss k ⟨lit, len, offs⟩) := (by unfold okAt; rw [HXE.out]; exact ⟨HR1.out (by omega), fun h => HR2.out h⟩ : okAt _ _ _ _ _ _ _)
          have hr1 := HR1.out (by omega)
          have hr2 := hr1.1
          have hr3 := hr1.2.1
          have hr4 := hr1.2.2.1
          have hr5 := hr1.2.2.2
          simp only at hr2 hr3 hr4 hr5
          have HRB : Hid (0 ≤ lit ∧ 3 ≤ len ∧ P + lit + len ≤ size) := (by omega : _ ∧ _ ∧ _)
          obtain ⟨p0, p1, p2, p3, p4, p5, p6, p7⟩ := HG.out.box.step
          simp only at p0 p1 p2 p3 p4 p5 p6 p7
          clear hr1 hr2 hr3 hr4 hr5 HGD2 g0 g1 HR1 HR2
          go_wp2_with fail
          refine (HOF.out (b9 + 1) _ ⟨⟨lit, len, offs⟩, k, P, size, hv, wd⟩ wr (by rw [stepsOf_length (by rw [HN.out]; omega), HN.out]; omega) HG.out.word (by have := HG.out.rules.lt; omega)).mono ?_
          rintro e w5 ⟨rfl, hJ5, hs5, hk5⟩
          have HG5 : Hid (GoSt w w5 b9 (b9 + 1) ⟨⟨lit, len, offs⟩, k, P, size, hv, wd⟩ J (stepsOf size hv wd ss k ++ [⟨⟨lit, len, offs⟩, k, P, size, hv, wd⟩])) :=
            (⟨(hk5 _ (Nat.le_refl _) (by have := HG.out.hb; omega)).trans HG.out.box, (hk5 _ (by have := HG.out.hb; omega) (by omega)).trans HG.out.rules, HG.out.hb, HG.out.hN, hJ5⟩ : GoSt _ _ _ _ _ _ _)
          clear hJ5 hs5 hk5 p0 p1 p2 p3 p4 p5 p6 p7 HG
          obtain ⟨p0, p1, p2, p3, p4, p5, p6, p7⟩ := HG5.out.box.step
          simp only at p0 p1 p2 p3 p4 p5 p6 p7
          go_wp2_with fail
          refine (end_any w5 ⟨⟨lit, len, offs⟩, k, P, size, hv, wd⟩ ⟨HPOS.out.1, by have := HPOS.out; have := HSZ.out; simp only; omega⟩ ⟨HRB.out.1, by have := HRB.out; have := HPOS.out; have := HSZ.out; simp only; omega⟩ ⟨by have := HRB.out; simp only; omega, by have := HRB.out; have := HPOS.out; have := HSZ.out; simp only; omega⟩).mono ?_
          obtain ⟨P2, hP2⟩ : ∃ P2, P + lit + len = P2 := ⟨_, rfl⟩
          simp only
          rw [hP2]
          rintro e w6 ⟨rfl, hb⟩
          have HG6 := Lib.hid (HG5.out.below HJ.out hb)
          have HP2 : Hid (posL (ss.take (k + 1)) = P2) := (by rw [posL_take_succ HX.out, HP.out]; exact hP2 : _ = _)
          have HS2 : Hid (stepsOf size hv wd ss (k + 1) = stepsOf size hv wd ss k ++ [⟨⟨lit, len, offs⟩, k, P, size, hv, wd⟩]) := (by rw [stepsOf_succ HX.out, HXE.out] : _ = _)
          have HG7 : Hid (GoSt w ((w6.setCell ⟨w.heap.size, 4, none⟩ (.int .i64 P2)).setCell ⟨w.heap.size, 3, none⟩ (.int .i64 ((k : Int) + 1))) b9 (b9 + 1) ⟨⟨lit, len, offs⟩, (k : Int) + 1, P2, size, hv, wd⟩ J (stepsOf size hv wd ss (k + 1))) := (by
            rw [HS2.out]
            exact (HG6.out.set_ (y := ⟨⟨lit, len, offs⟩, k, P2, size, hv, wd⟩) HJ.out 4 (.int .i64 P2) rfl).set_ (y := ⟨⟨lit, len, offs⟩, (k : Int) + 1, P2, size, hv, wd⟩) HJ.out 3 (.int .i64 ((k : Int) + 1)) rfl : GoSt _ _ _ _ _ _ _)
          clear hP2 hb p0 p1 p2 p3 p4 p5 p6 p7 HG5
          obtain ⟨p0, p1, p2, p3, p4, p5, p6, p7⟩ := HG6.out.box.step
          simp only at p0 p1 p2 p3 p4 p5 p6 p7
          have f3 := HG6.out.box.frozen 3
          have f4 := HG6.out.box.frozen 4
          have k0 : (0 : Int) ≤ (k : Int) := by omega
          have k1 : (k : Int) < (n : Int) := by omega
          have k2 : (n : Int) ≤ 9223372036854775807 := by omega
          go_wp2
          all_goals
            go_roundw
            case rel => first
              | exact ⟨k + 1, 0, by omega, 0, _, ⟨rfl, rfl, rfl⟩, by omega, by omega, (fun h => absurd h (by omega) : 0 < 0 → _), ⟨lit, len, offs⟩, P2, (HP2.out : _ = _), (HG7.out : GoSt _ _ _ _ _ _ _), (HGD.out.succ HX.out HOK.out : Good _ _ _ _ _ _)⟩
              | exact ⟨k + 1, M - 1, by omega, M - 1, _, ⟨rfl, rfl, rfl⟩, by omega, by omega, (fun _ => ⟨b, off, ⟨rfl, rfl⟩, by rw [show off + (k + 1) * 3 = off + k * 3 + 3 by omega]⟩ : 0 < M - 1 → _), ⟨lit, len, offs⟩, P2, (HP2.out : _ = _), (HG7.out : GoSt _ _ _ _ _ _ _), (HGD.out.succ HX.out HOK.out : Good _ _ _ _ _ _)⟩
            case measure => simp [lenOf]; try omega
    · obtain rfl : M = 0 := by omega
      obtain rfl : k = n := by omega
      obtain ⟨p0, p1, p2, p3, p4, p5, p6, p7⟩ := HG.out.box.step
      simp only at p0 p1 p2 p3 p4 p5 p6 p7
      go_wp2
      go_ret
      refine ⟨b9 + 1, .inl ⟨HGD.out, ret_int (by rw [← HP.out, ← HN.out, List.take_length]), HG.out.word⟩⟩
end Go.Proofs.Ytamhkfnghgbenaa
