/-
  The reference of norm: Normal.
-/
import Derived.Test.YtelijgibgpbcnaaNormz
import Derived.Test.YtelijgibgpbcnaaNormRef
namespace Go.Proofs.Ytelijgibgpbcnaa
open Go.RowKit
set_option linter.unusedSimpArgs false

/-- The memory of the reference's Normal. -/
structure RfBox (w wr : World) (ns : List Int) : Prop where
  below : Below w.heap.size w wr
  res : Blk wr w.heap.size 25 #[.int .i64 0, .slice none 0 0]
  norms : Blk wr (w.heap.size + 1) 3 (ns.map (Value.int .i64)).toArray
section
variable {w wr : World} {ns : List Int}
theorem RfBox.start (w : World) (n : Nat) (F : Nat → Int) : RfBox w ((w.alloc (.cells #[.int .i64 0, .slice none 0 0] 25)).alloc (.cells (madeCells #[.int .i64 0] n) 3)) (partOf n F (fun _ => 0) 0) where
  below := ((Below.refl _ _).alloc (Nat.le_refl _) _).alloc (by simp) _
  res := (Blk.new w _ _).alloc _
  norms := by
    rw [partOf_nil, ← madeCells_zero]
    exact Blk.new1 w _ _ _
theorem RfBox.drewN (h : RfBox w wr ns) (a : Nat) : RfBox w (wr.drewN a) ns := ⟨below_drewN h.below a, h.res, h.norms⟩
theorem RfBox.store (h : RfBox w wr ns) (i : Nat) (x : Int) : RfBox w (wr.setCell ⟨w.heap.size + 1, i, none⟩ (.int .i64 x)) (ns.set i x) where
  below := h.below.setCell (p := ⟨w.heap.size + 1, i, none⟩) (by simp) _
  res := h.res.far (p := ⟨w.heap.size + 1, i, none⟩) (by simp) _
  norms := h.norms.set_ints i x
end

set_option maxRecDepth 100000 in
set_option maxHeartbeats 12800000 in
theorem refNormal_ok (v : Value) (cs : List Int) (log : Int) (w : World) (hx : Ints w .i64 v cs) (hok : NOk cs log) (hlen : cs.length ≤ 1000) :
    Calls Try.prog 14 #[v, .int .i64 log] w fun e w' => NmPost w cs log e w' := by
  have HI := Lib.hid hx
  obtain ⟨A, n, c, rfl, hc, hmx, hx⟩ := hx.get
  have HX := Lib.hid hx
  have hn : n ≤ 1000 := by rw [← HX.out.1]; exact hlen
  have HOK := Lib.hid hok
  have l0 : 0 ≤ log := hok.2.2.1
  have l9 : log ≤ 9 := hok.2.2.2.1
  have hS := two_pow_le l0 l9
  have hUS := hok.2.2.2.2
  have hcok := hok.cok
  have hsize := fun W => size_in log l0 (by omega) W
  obtain ⟨S, hSe⟩ : ∃ S, (2 : Int) ^ log.toNat = S := ⟨_, rfl⟩
  rw [hSe] at hS hUS hcok hsize
  have HCOK := Lib.hid hcok
  have HSIZE := Lib.hid hsize
  obtain ⟨hS1, hS5⟩ := hS
  obtain ⟨T, hTe⟩ : ∃ T, cs.sum = T := ⟨_, rfl⟩
  have hT0 := total_pos hok.1 hok.2.1
  have hT4 := hok.1.2
  rw [hTe] at hT0 hT4
  obtain ⟨U, hU⟩ : ∃ U, usedOf cs = U := ⟨_, rfl⟩
  rw [hU] at hUS
  have hU0 : 0 < U := by rw [← hU]; exact hok.2.1
  have HRES : Hid (CRes cs = .returned (.tuple #[.int .i64 T, .int .i64 U, .bool true])) := CRes_yes hok.1 hTe.symm (by rw [hU]) (decide_eq_true (by omega)).symm
  have HT := Lib.hid hTe
  have HS := Lib.hid hSe
  have HCBD : Hid (∀ i, 0 ≤ gt cs i ∧ gt cs i ≤ T) := (fun i => ⟨gt_nonneg hok.1 i, by rw [← hTe]; exact gt_le_total hok.1 i⟩ : ∀ i, 0 ≤ gt cs i ∧ gt cs i ≤ T)
  have HFB : Hid (∀ i, 0 ≤ gt (firstOf cs S T) i ∧ gt (firstOf cs S T) i ≤ 512) := (fun i => by
    have := start_bounds (S := S) hS1 (HCBD.out i).1 (HCBD.out i).2
    rw [gt_first]; omega : ∀ i, 0 ≤ gt (firstOf cs S T) i ∧ gt (firstOf cs S T) i ≤ 512)
  clear hx hlen hok hTe hU hcok hsize hSe
  have hmk : ∀ W : World, (Instr.makeSlice 22 (.int .i64 (n : Int)) (.int .i64 (n : Int))).run Try.prog W = .ok (.slice (some ⟨W.heap.size, 0, none⟩) n n) (W.alloc (.cells (madeCells #[.int .i64 0] n) 3)) :=
    fun W => run_make_row' 22 3 (.int .i64 0) 8 Try.underlying22 infoInt rfl .i64 .i64 n (by omega) (by omega) W
  have hus : ¬ S < (U : Int) := by omega
  go_enter Try.func14, Try.ntmps14
  go_wp2_with (first | (go_at_call 19; refine (counts_any _ cs _ (by first | exact HI.out.alloc _ | exact HI.out)).mono ?_; rw [HRES.out]; rintro e w' ⟨rfl, rfl⟩) | (go_at_call 20; refine (HSIZE.out _).mono ?_; rintro e w' ⟨rfl, rfl⟩))
  have hbox := RfBox.start w n (gt (firstOf cs S T))
  have HBOX := Lib.hid hbox
  clear hmk hbox hus
  go_loopw [10, 11, 13] (fun sm la i wr => ∃ k : Nat, k ≤ n ∧ i = .int .i64 k ∧ ∃ L E : Int, sm = .int .i64 L ∧ 0 ≤ L ∧ L ≤ 512000 ∧ la = .int .i64 E ∧ Hid (E + 1 = pEnd cs 1 k) ∧ Hid (L = sumTo (gt (firstOf cs S T)) k) ∧ Hid (RfBox w wr (partOf n (gt (firstOf cs S T)) (fun _ => 0) k))) (fun _ _ i _ => n - (intOf i).toNat)
  case atStart => exact ⟨0, Nat.zero_le _, rfl, 0, 0, rfl, by omega, by omega, rfl, (rfl : _ = _), (by simp [sumTo] : _ = _), HBOX⟩
  case round =>
    clear HBOX
    obtain ⟨k, hk, rfl, L, E, rfl, hL0, hL1, rfl, HE, HL, HB⟩ := hrel
    have k0 : (0 : Int) ≤ (k : Int) := by omega
    by_cases hlt : k < n
    · obtain ⟨b, off, x, rfl, hb, cx, EX⟩ := HX.out.at_ hlt
      replace cx := (HB.out.below.cell hb).trans cx
      have k1 : (k : Int) < (n : Int) := by omega
      have hxg := gt_at EX.out
      have hx0 : 0 ≤ x := by rw [← hxg]; exact (HCBD.out k).1
      have hxT : x ≤ T := by rw [← hxg]; exact (HCBD.out k).2
      have hfk := gt_first cs S T k
      rw [hxg] at hfk
      have hfb := HFB.out k
      have hsb := sumTo_bounds (F := gt (firstOf cs S T)) (M := 512) (fun i => HFB.out i) (k + 1)
      have hL2 : 0 ≤ sumTo (gt (firstOf cs S T)) (k + 1) ∧ sumTo (gt (firstOf cs S T)) (k + 1) ≤ 512000 := by omega
      have HL2 := Lib.hid hL2
      have HXG := Lib.hid hxg
      by_cases hpos : x = 0
      · subst hpos
        have hz : gt (firstOf cs S T) k = 0 := by rw [hfk]; rfl
        have HZ := Lib.hid hz
        have HP : Hid (E + 1 = pEnd cs 1 (k + 1)) := (by rw [pEnd, if_neg (by rw [HXG.out]; omega)]; exact HE.out : _ = _)
        clear hz hfk hfb hsb hL2 hxg
        go_wp2
        go_roundw
        case rel => exact ⟨k + 1, by omega, by go_num, L, E, rfl, hL0, hL1, rfl, HP, (by have h1 := HL.out; have h2 := HZ.out; rw [sumTo, h2, Int.add_zero]; exact h1 : _ = _), (by rw [partOf_same HZ.out]; exact HB.out : RfBox _ _ _)⟩
        case measure => simp [intOf]; omega
      · have hp0 : 0 < x := by omega
        have hxb : (x == 0) = false := by simpa using hpos
        obtain ⟨m, hm⟩ : ∃ m, gt (firstOf cs S T) k = m := ⟨_, rfl⟩
        rw [hm] at hfk hfb
        have hmq : m = max (x * S / T) 1 := by rw [hfk, start, if_pos hp0]
        have hp := prod_bounds hx0 (Int.le_trans hxT hT4) (show 0 ≤ S by omega) hS5 (by omega)
        obtain ⟨hp1, hp2⟩ := hp
        have hq0 : 0 ≤ x * S / T := Int.ediv_nonneg hp1 (by omega)
        have hq1 : x * S / T ≤ x * S := Int.ediv_le_self T hp1
        obtain ⟨q, hqe⟩ : ∃ q, x * S / T = q := ⟨_, rfl⟩
        rw [hqe] at hq0 hq1 hmq
        have e2 : (x * S).tdiv T = q := by rw [Int.tdiv_eq_ediv_of_nonneg hp1, hqe]
        have hT00 : ¬ T = 0 := by omega
        obtain ⟨hm0, hm5⟩ := hfb
        have HM := Lib.hid hm
        have HMQ := Lib.hid hmq
        have hlk : (partOf n (gt (firstOf cs S T)) (fun _ => 0) k)[k]? = some 0 := by rw [partOf_at _ _ _ hlt, if_neg (by omega)]
        have cv := HB.out.norms.int_at hlk
        have fv := HB.out.norms.frozen k
        have hsu : Hid (sumTo (gt (firstOf cs S T)) (k + 1) = sumTo (gt (firstOf cs S T)) k + m) := (by rw [← hm]; rfl : _ = _)
        have HP : Hid ((k : Int) + 1 = pEnd cs 1 (k + 1)) := (by rw [pEnd, if_pos (by rw [HXG.out]; omega)] : _ = _)
        by_cases hq : q = 0
        · have hm1 : m = 1 := by omega
          subst hq hm1
          have HQE := Lib.hid hqe
          clear hm hmq hfk hqe hlk hxg hsb hL2 hpos
          go_wp2
          go_roundw
          case rel => exact ⟨k + 1, by omega, by go_num, L + 1, k, by go_num, by omega, by have := HL2.out; have := HL.out; have := hsu.out; omega, rfl, HP, (by have := HL.out; have := hsu.out; omega : _ = _),
            (by rw [partOf_succ, HM.out]; have h1 := (HB.out.store k 0).store k 1; rw [List.set_set] at h1; exact h1 : RfBox _ _ _)⟩
          case measure => simp [intOf]; omega
        · have hqb : (q == 0) = false := by simpa using hq
          obtain rfl : m = q := by omega
          have HQE := Lib.hid hqe
          clear hm hmq hfk hqe hlk hxg hsb hL2 hpos hq
          go_wp2
          go_roundw
          case rel => exact ⟨k + 1, by omega, by go_num, L + m, k, by go_num, by omega, by have := HL2.out; have := HL.out; have := hsu.out; omega, rfl, HP, (by have := HL.out; have := hsu.out; omega : _ = _),
            (by rw [partOf_succ, HM.out]; exact HB.out.store k m : RfBox _ _ _)⟩
          case measure => simp [intOf]; omega
    · obtain rfl : k = n := by omega
      have hcl := HX.out.1
      have hfl : (firstOf cs S T).length = k := by rw [firstOf, List.length_map]; exact hcl
      have hb0 := HB.out
      rw [partOf_top (l := firstOf cs S T) _ hfl fun _ _ => rfl] at hb0
      have hLe := HL.out
      rw [sumTo_list _ _ hfl] at hLe
      have HB1 := Lib.hid hb0
      have hst0 := NSt.start HCOK.out
      rw [HT.out, ← hLe] at hst0
      have HJ0 : Hid (NSt cs (firstOf cs S T) S (S - L) ∧ (0 ≤ S - L → iter (stepUp cs S T) (S - L).toNat (firstOf cs S T) = mended cs S T) ∧ (S - L < 0 → iter (stepDn cs S T) (L - S).toNat (firstOf cs S T) = mended cs S T)) := (by
        refine ⟨hst0, fun h => ?_, fun h => ?_⟩
        · unfold mended
          rw [if_pos (by omega), hLe]
        · unfold mended
          rw [if_neg (by omega), hLe] : _ ∧ _ ∧ _)
      have HCL := Lib.hid hcl
      clear hb0 hLe hst0 hfl hcl HB HL
      go_wp2

      go_loopw [10] (fun sm wr => ∃ (SM J : Int) (ns : List Int), sm = .int .i64 SM ∧ 0 ≤ SM ∧ SM ≤ 512000 ∧ True ∧ Hid (SM + J = S) ∧ Hid (NSt cs ns S J ∧ (0 ≤ J → iter (stepUp cs S T) J.toNat ns = mended cs S T) ∧ (J < 0 → iter (stepDn cs S T) (-J).toNat ns = mended cs S T)) ∧ Hid (RfBox w wr ns)) (fun sm _ => (S - intOf sm).toNat)
      case atStart => exact ⟨L, S - L, firstOf cs S T, rfl, hL0, hL1, trivial, (by omega : _ = _), (⟨HJ0.out.1, HJ0.out.2.1, fun h => by rw [show -(S - L) = L - S by omega]; exact HJ0.out.2.2 h⟩ : _ ∧ _ ∧ _), HB1⟩
      case round =>
        clear HB1 HJ0
        obtain ⟨SM, J, ns, rfl, hM0, hM1, -, HSJ, HJ, HB⟩ := hrel
        by_cases hlt : SM < S
        · have hJp : 1 ≤ J := by have := HSJ.out; omega
          have hJS : J ≤ 512 := by have := HSJ.out; omega
          obtain ⟨jj, hjj⟩ : ∃ jj : Nat, J = (jj : Int) + 1 := ⟨(J - 1).toNat, by omega⟩
          have hst := HJ.out.1
          rw [hjj] at hst
          obtain ⟨bb, hbest, hblt, hstep, hst'⟩ := NSt.up hst HCOK.out
          rw [HT.out] at hbest hstep
          have hit := HJ.out.2.1 (by omega)
          rw [hjj, show ((jj : Int) + 1).toNat = jj + 1 by omega, iter, hstep] at hit
          have HNL : Hid (ns.length = k) := (by rw [hst.len, HCL.out] : _ = _)
          have HBD : Hid (∀ i, 0 ≤ gt ns i ∧ gt ns i ≤ 512) := (fun i => ⟨hst.nonneg HOK.out.1 i, hst.le i⟩ : ∀ i, _)
          obtain ⟨x0, hx0e⟩ : ∃ x0, gt ns bb = x0 := ⟨_, rfl⟩
          rw [hx0e] at hst' hit
          have hxb0 := HBD.out bb
          rw [hx0e] at hxb0
          obtain ⟨xb0, xb5⟩ := hxb0
          rw [HCL.out] at hblt
          have cbb := HB.out.norms.int_at (gt_of (l := ns) (i := bb) (by rw [HNL.out]; exact hblt))
          rw [hx0e] at cbb
          have fbb := HB.out.norms.frozen bb
          have bb0 : (0 : Int) ≤ (bb : Int) := by omega
          have bb1 : (bb : Int) < (k : Int) := by omega
          have HBE := Lib.hid hbest
          have HIT := Lib.hid hit
          have HN2 : Hid (NSt cs (ns.set bb (x0 + 1)) S (J - 1)) := (by rw [show J - 1 = (jj : Int) by omega]; exact hst' : NSt _ _ _ _)
          have HJJ := Lib.hid hjj
          have hjle : (jj : Int) ≤ J - 1 := by omega
          have hjge : J - 1 ≤ (jj : Int) := by omega
          obtain ⟨WR, rfl⟩ : ∃ WR : World, WR = wr := ⟨_, rfl⟩
          clear hst hst' hbest hstep hit hx0e hjj
          go_wp2
          go_loopw [14, 15] (fun b i w2 => ∃ k2 : Nat, k2 ≤ k ∧ i = .int .i64 k2 ∧ ∃ o, Hid (best (selUp cs) (above cs ns S T) k2 = o) ∧ FurthSlot o b ∧ ∃ m, w2 = WR.drewN m) (fun _ i _ => k - (intOf i).toNat)
          case atStart => exact ⟨0, Nat.zero_le _, rfl, none, (rfl : _ = _), rfl, 0, rfl⟩
          case round =>
            obtain ⟨k2, hk2, rfl, o, HO, hbs, m, rfl⟩ := hrel
            have q0 : (0 : Int) ≤ (k2 : Int) := by omega
            by_cases hlt2 : k2 < k
            · obtain ⟨b, off, x, hA, hb, cx, EX⟩ := HX.out.at_ hlt2
              subst hA
              replace cx := (HB.out.below.cell hb).trans cx
              have q1 : (k2 : Int) < (k : Int) := by omega
              have hxg := gt_at EX.out
              have hx0 : 0 ≤ x := by rw [← hxg]; exact (HCBD.out k2).1
              have hxT : x ≤ T := by rw [← hxg]; exact (HCBD.out k2).2
              obtain ⟨y, hy⟩ : ∃ y, gt ns k2 = y := ⟨_, rfl⟩
              have hyb := HBD.out k2
              have cy := HB.out.norms.int_at (gt_of (l := ns) (i := k2) (by rw [HNL.out]; exact hlt2))
              rw [hy] at hyb cy
              obtain ⟨hy0, hy5⟩ := hyb
              have hab : above cs ns S T k2 = x * S - y * T := by rw [above, hxg, hy]
              have hbl : below_ cs ns S T k2 = -(x * S - y * T) := by rw [below_, hxg, hy]
              obtain ⟨p1, p2⟩ := prod_bounds hx0 (Int.le_trans hxT hT4) (show 0 ≤ S by omega) hS5 (by omega)
              obtain ⟨p3, p4⟩ := prod_bounds hy0 hy5 (show 0 ≤ T by omega) hT4 (by omega)
              have e1 : IntKind.i64.wrap (x * S) = x * S := IntWalk.i64_in _ (by omega)
              have e2 : IntKind.i64.wrap (y * T) = y * T := IntWalk.i64_in _ (by omega)
              have e3 : IntKind.i64.wrap (x * S - y * T) = x * S - y * T := IntWalk.i64_in _ (by omega)
              have HAB : Hid (above cs ns S T k2 = x * S - y * T ∧ below_ cs ns S T k2 = -(x * S - y * T)) := ⟨hab, hbl⟩
              by_cases hsel : 0 < x
              · have HS1 : Hid (selUp cs k2 = true) := (by unfold selUp; rw [hxg]; exact decide_eq_true hsel : _ = _)
                clear hab hbl hxg hy
                cases o with
                | none =>
                  obtain rfl := hbs
                  go_wp2
                  go_quiet (fail)
                  go_wp2
                  go_roundw
                  case rel => exact ⟨k2 + 1, by omega, by go_num, some k2, (best_first HS1.out HO.out : _ = _), rfl, _, rfl⟩
                  case measure => simp [intOf]; omega
                | some j =>
                  obtain rfl := hbs
                  have hj : j < k := by have := (best_facts HO.out).1; omega
                  have j0 : (0 : Int) ≤ (j : Int) := by omega
                  have j1 : (j : Int) < (k : Int) := by omega
                  have jn : ¬ (j : Int) < 0 := by omega
                  obtain ⟨b', off', x', hA, hb', cx', EX'⟩ := HX.out.at_ hj
                  injection hA with hA
                  injection hA with hA1 hA2
                  subst hA1 hA2
                  replace cx' := (HB.out.below.cell hb').trans cx'
                  have hxg' := gt_at EX'.out
                  have hx0' : 0 ≤ x' := by rw [← hxg']; exact (HCBD.out j).1
                  have hxT' : x' ≤ T := by rw [← hxg']; exact (HCBD.out j).2
                  obtain ⟨y', hy'⟩ : ∃ y', gt ns j = y' := ⟨_, rfl⟩
                  have hyb' := HBD.out j
                  have cy' := HB.out.norms.int_at (gt_of (l := ns) (i := j) (by rw [HNL.out]; exact hj))
                  rw [hy'] at hyb' cy'
                  obtain ⟨hy0', hy5'⟩ := hyb'
                  have HAB' : Hid (above cs ns S T j = x' * S - y' * T ∧ below_ cs ns S T j = -(x' * S - y' * T)) := ⟨by rw [above, hxg', hy'], by rw [below_, hxg', hy']⟩
                  obtain ⟨r1, r2⟩ := prod_bounds hx0' (Int.le_trans hxT' hT4) (show 0 ≤ S by omega) hS5 (by omega)
                  obtain ⟨r3, r4⟩ := prod_bounds hy0' hy5' (show 0 ≤ T by omega) hT4 (by omega)
                  have e4 : IntKind.i64.wrap (x' * S) = x' * S := IntWalk.i64_in _ (by omega)
                  have e5 : IntKind.i64.wrap (y' * T) = y' * T := IntWalk.i64_in _ (by omega)
                  have e6 : IntKind.i64.wrap (x' * S - y' * T) = x' * S - y' * T := IntWalk.i64_in _ (by omega)
                  clear hxg' hy'
                  by_cases hf : x' * S - y' * T < x * S - y * T
                  · go_wp2
                    go_quiet (fail)
                    go_wp2
                    go_roundw
                    case rel => exact ⟨k2 + 1, by omega, by go_num, some k2, (best_more HS1.out HO.out (by rw [HAB.out.1, HAB'.out.1]; omega) : _ = _), rfl, _, rfl⟩
                    case measure => simp [intOf]; omega
                  · go_wp2
                    go_quiet (fail)
                    go_wp2
                    go_roundw
                    case rel => exact ⟨k2 + 1, by omega, by go_num, some j, (best_less HO.out (by rw [HAB.out.1, HAB'.out.1]; omega) : _ = _), rfl, _, rfl⟩
                    case measure => simp [intOf]; omega
              · have HS1 : Hid (selUp cs k2 = false) := (by unfold selUp; rw [hxg]; exact decide_eq_false hsel : _ = _)
                have hselb : decide (0 < x) = false := decide_eq_false hsel
                clear hab hbl hxg hy
                obtain rfl := hbs.val
                go_wp2
                go_quiet (fail)
                go_wp2
                go_roundw
                case rel => exact ⟨k2 + 1, by omega, by go_num, o, (by rw [best_no HS1.out]; exact HO.out : _ = _), by cases o <;> rfl, _, rfl⟩
                case measure => simp [intOf]; omega
            · obtain rfl : k2 = k := by omega
              have hbo : o = some bb := by
                have h1 := HO.out
                have h2 := HBE.out
                unfold bestUp at h2
                rw [HCL.out] at h2
                exact h1.symm.trans h2
              obtain rfl := hbs.val
              subst hbo
              rw [show bI (some bb) = (bb : Int) from rfl]
              go_wp2
              go_roundw
              case rel => exact ⟨SM + (1), J - (1), ns.set bb (x0 + (1)), by go_num, by omega, by omega, trivial, (by have := HSJ.out; omega : _ = _), (⟨HN2.out, (fun h => by rw [show (J - 1).toNat = jj by omega]; exact HIT.out), fun h => absurd h (by omega)⟩ : _ ∧ _ ∧ _), ((HB.out.drewN m).store bb (x0 + (1)) : RfBox _ _ _)⟩
              case measure => simp [intOf]; omega
        · have hJp : J ≤ 0 := by have := HSJ.out; omega
          have HJ2 : Hid (NSt cs ns S J ∧ iter (stepDn cs S T) (-J).toNat ns = mended cs S T) := (by
            refine ⟨HJ.out.1, ?_⟩
            by_cases hz : J < 0
            · exact HJ.out.2.2 hz
            · obtain rfl : J = 0 := by omega
              exact HJ.out.2.1 (Int.le_refl _) : _ ∧ _)
          clear HJ
          obtain ⟨SM1, hSM1⟩ : ∃ SM1, SM1 = SM := ⟨_, rfl⟩
          subst hSM1
          go_wp2
          go_loopw [10] (fun sm wr => ∃ (SM J : Int) (ns : List Int), sm = .int .i64 SM ∧ 0 ≤ SM ∧ SM ≤ 512000 ∧ J ≤ 0 ∧ Hid (SM + J = S) ∧ Hid (NSt cs ns S J ∧ iter (stepDn cs S T) (-J).toNat ns = mended cs S T) ∧ Hid (RfBox w wr ns)) (fun sm _ => (intOf sm).toNat)
          case atStart => exact ⟨SM1, J, ns, rfl, hM0, hM1, hJp, HSJ, HJ2, HB⟩
          case round =>
            clear HB HJ2 HSJ
            obtain ⟨SM, J, ns, rfl, hM0, hM1, hJp, HSJ, HJ, HB⟩ := hrel
            by_cases hlt : S < SM
            · have hJn : J ≤ -1 := by have := HSJ.out; omega
              have hJS : -512000 ≤ J := by have := HSJ.out; omega
              obtain ⟨jj, hjj⟩ : ∃ jj : Nat, J = -((jj : Int) + 1) := ⟨(-J - 1).toNat, by omega⟩
              have hst := HJ.out.1
              rw [hjj] at hst
              obtain ⟨bb, hbest, hblt, hstep, h2b, hst'⟩ := NSt.dn hst HCOK.out
              rw [HT.out] at hbest hstep
              have hit := HJ.out.2
              rw [hjj, show (-(-((jj : Int) + 1))).toNat = jj + 1 by omega, iter, hstep] at hit
              have HNL : Hid (ns.length = k) := (by rw [hst.len, HCL.out] : _ = _)
              have HBD : Hid (∀ i, 0 ≤ gt ns i ∧ gt ns i ≤ 512) := (fun i => ⟨hst.nonneg HOK.out.1 i, hst.le i⟩ : ∀ i, _)
              obtain ⟨x0, hx0e⟩ : ∃ x0, gt ns bb = x0 := ⟨_, rfl⟩
              rw [hx0e] at hst' hit h2b
              have hxb0 := HBD.out bb
              rw [hx0e] at hxb0
              obtain ⟨xb0, xb5⟩ := hxb0
              rw [HCL.out] at hblt
              have cbb := HB.out.norms.int_at (gt_of (l := ns) (i := bb) (by rw [HNL.out]; exact hblt))
              rw [hx0e] at cbb
              have fbb := HB.out.norms.frozen bb
              have bb0 : (0 : Int) ≤ (bb : Int) := by omega
              have bb1 : (bb : Int) < (k : Int) := by omega
              have HBE := Lib.hid hbest
              have HIT := Lib.hid hit
              have HN2 : Hid (NSt cs (ns.set bb (x0 + -1)) S (J - -1)) := (by rw [show J - -1 = -(jj : Int) by omega]; exact hst' : NSt _ _ _ _)
              have HJJ := Lib.hid hjj
              have hjle : (jj : Int) ≤ -J - 1 := by omega
              have hjge : -J - 1 ≤ (jj : Int) := by omega
              obtain ⟨WR, rfl⟩ : ∃ WR : World, WR = wr := ⟨_, rfl⟩
              clear hst hst' hbest hstep hit hx0e hjj
              go_wp2
              go_loopw [16, 17] (fun b i w2 => ∃ k2 : Nat, k2 ≤ k ∧ i = .int .i64 k2 ∧ ∃ o, Hid (best (selDn ns) (below_ cs ns S T) k2 = o) ∧ FurthSlot o b ∧ ∃ m, w2 = WR.drewN m) (fun _ i _ => k - (intOf i).toNat)
              case atStart => exact ⟨0, Nat.zero_le _, rfl, none, (rfl : _ = _), rfl, 0, rfl⟩
              case round =>
                obtain ⟨k2, hk2, rfl, o, HO, hbs, m, rfl⟩ := hrel
                have q0 : (0 : Int) ≤ (k2 : Int) := by omega
                by_cases hlt2 : k2 < k
                · obtain ⟨b, off, x, hA, hb, cx, EX⟩ := HX.out.at_ hlt2
                  subst hA
                  replace cx := (HB.out.below.cell hb).trans cx
                  have q1 : (k2 : Int) < (k : Int) := by omega
                  have hxg := gt_at EX.out
                  have hx0 : 0 ≤ x := by rw [← hxg]; exact (HCBD.out k2).1
                  have hxT : x ≤ T := by rw [← hxg]; exact (HCBD.out k2).2
                  obtain ⟨y, hy⟩ : ∃ y, gt ns k2 = y := ⟨_, rfl⟩
                  have hyb := HBD.out k2
                  have cy := HB.out.norms.int_at (gt_of (l := ns) (i := k2) (by rw [HNL.out]; exact hlt2))
                  rw [hy] at hyb cy
                  obtain ⟨hy0, hy5⟩ := hyb
                  have hab : above cs ns S T k2 = x * S - y * T := by rw [above, hxg, hy]
                  have hbl : below_ cs ns S T k2 = -(x * S - y * T) := by rw [below_, hxg, hy]
                  obtain ⟨p1, p2⟩ := prod_bounds hx0 (Int.le_trans hxT hT4) (show 0 ≤ S by omega) hS5 (by omega)
                  obtain ⟨p3, p4⟩ := prod_bounds hy0 hy5 (show 0 ≤ T by omega) hT4 (by omega)
                  have e1 : IntKind.i64.wrap (x * S) = x * S := IntWalk.i64_in _ (by omega)
                  have e2 : IntKind.i64.wrap (y * T) = y * T := IntWalk.i64_in _ (by omega)
                  have e3 : IntKind.i64.wrap (x * S - y * T) = x * S - y * T := IntWalk.i64_in _ (by omega)
                  have HAB : Hid (above cs ns S T k2 = x * S - y * T ∧ below_ cs ns S T k2 = -(x * S - y * T)) := ⟨hab, hbl⟩
                  by_cases hsel : 1 < y
                  · have HS1 : Hid (selDn ns k2 = true) := (by unfold selDn; rw [hy]; exact decide_eq_true hsel : _ = _)
                    clear hab hbl hxg hy
                    cases o with
                    | none =>
                      obtain rfl := hbs
                      go_wp2
                      go_quiet (fail)
                      go_wp2
                      go_roundw
                      case rel => exact ⟨k2 + 1, by omega, by go_num, some k2, (best_first HS1.out HO.out : _ = _), rfl, _, rfl⟩
                      case measure => simp [intOf]; omega
                    | some j =>
                      obtain rfl := hbs
                      have hj : j < k := by have := (best_facts HO.out).1; omega
                      have j0 : (0 : Int) ≤ (j : Int) := by omega
                      have j1 : (j : Int) < (k : Int) := by omega
                      have jn : ¬ (j : Int) < 0 := by omega
                      obtain ⟨b', off', x', hA, hb', cx', EX'⟩ := HX.out.at_ hj
                      injection hA with hA
                      injection hA with hA1 hA2
                      subst hA1 hA2
                      replace cx' := (HB.out.below.cell hb').trans cx'
                      have hxg' := gt_at EX'.out
                      have hx0' : 0 ≤ x' := by rw [← hxg']; exact (HCBD.out j).1
                      have hxT' : x' ≤ T := by rw [← hxg']; exact (HCBD.out j).2
                      obtain ⟨y', hy'⟩ : ∃ y', gt ns j = y' := ⟨_, rfl⟩
                      have hyb' := HBD.out j
                      have cy' := HB.out.norms.int_at (gt_of (l := ns) (i := j) (by rw [HNL.out]; exact hj))
                      rw [hy'] at hyb' cy'
                      obtain ⟨hy0', hy5'⟩ := hyb'
                      have HAB' : Hid (above cs ns S T j = x' * S - y' * T ∧ below_ cs ns S T j = -(x' * S - y' * T)) := ⟨by rw [above, hxg', hy'], by rw [below_, hxg', hy']⟩
                      obtain ⟨r1, r2⟩ := prod_bounds hx0' (Int.le_trans hxT' hT4) (show 0 ≤ S by omega) hS5 (by omega)
                      obtain ⟨r3, r4⟩ := prod_bounds hy0' hy5' (show 0 ≤ T by omega) hT4 (by omega)
                      have e4 : IntKind.i64.wrap (x' * S) = x' * S := IntWalk.i64_in _ (by omega)
                      have e5 : IntKind.i64.wrap (y' * T) = y' * T := IntWalk.i64_in _ (by omega)
                      have e6 : IntKind.i64.wrap (x' * S - y' * T) = x' * S - y' * T := IntWalk.i64_in _ (by omega)
                      clear hxg' hy'
                      by_cases hf : x * S - y * T < x' * S - y' * T
                      · go_wp2
                        go_quiet (fail)
                        go_wp2
                        go_roundw
                        case rel => exact ⟨k2 + 1, by omega, by go_num, some k2, (best_more HS1.out HO.out (by rw [HAB.out.2, HAB'.out.2]; omega) : _ = _), rfl, _, rfl⟩
                        case measure => simp [intOf]; omega
                      · go_wp2
                        go_quiet (fail)
                        go_wp2
                        go_roundw
                        case rel => exact ⟨k2 + 1, by omega, by go_num, some j, (best_less HO.out (by rw [HAB.out.2, HAB'.out.2]; omega) : _ = _), rfl, _, rfl⟩
                        case measure => simp [intOf]; omega
                  · have HS1 : Hid (selDn ns k2 = false) := (by unfold selDn; rw [hy]; exact decide_eq_false hsel : _ = _)
                    have hselb : decide (1 < y) = false := decide_eq_false hsel
                    clear hab hbl hxg hy
                    obtain rfl := hbs.val
                    go_wp2
                    go_quiet (fail)
                    go_wp2
                    go_roundw
                    case rel => exact ⟨k2 + 1, by omega, by go_num, o, (by rw [best_no HS1.out]; exact HO.out : _ = _), by cases o <;> rfl, _, rfl⟩
                    case measure => simp [intOf]; omega
                · obtain rfl : k2 = k := by omega
                  have hbo : o = some bb := by
                    have h1 := HO.out
                    have h2 := HBE.out
                    unfold bestDn at h2
                    rw [HCL.out] at h2
                    exact h1.symm.trans h2
                  obtain rfl := hbs.val
                  subst hbo
                  rw [show bI (some bb) = (bb : Int) from rfl]
                  go_wp2
                  go_roundw
                  case rel => exact ⟨SM + (-1), J - (-1), ns.set bb (x0 + (-1)), by go_num, by omega, by omega, by omega, (by have := HSJ.out; omega : _ = _), (⟨HN2.out, (by rw [show (-(J - -1)).toNat = jj by omega]; exact HIT.out)⟩ : _ ∧ _), ((HB.out.drewN m).store bb (x0 + (-1)) : RfBox _ _ _)⟩
                  case measure => simp [intOf]; omega
            · have hz : J = 0 := by have := HSJ.out; omega
              subst hz
              obtain ⟨ms, hms⟩ : ∃ ms, ms = mended cs S T := ⟨_, rfl⟩
              have hnm : ns = ms := by rw [hms]; exact HJ.out.2
              subst hnm
              have HMS := Lib.hid hms
              have hml : ns.length = k := by rw [HJ.out.1.len]; exact HCL.out
              obtain ⟨i0, hi0, hp0⟩ := used_pos HOK.out.2.1
              rw [HCL.out] at hi0
              obtain ⟨e, he, hel, -, hout⟩ := pEnd_facts (cs := cs) (d := 1) hi0 hp0
              have hEe : E = (e : Int) := by have := HE.out; omega
              subst hEe
              have HEE := Lib.hid he
              have HOUT := Lib.hid hout
              have hb0 := HB.out
              rw [← partOf_zero (fun i => fin S T (gt cs i) (gt ns i)) hml] at hb0
              have HB2 := Lib.hid hb0
              clear hb0 hms hml HB HJ hp0 he hout
              go_wp2
              go_loopw [18] (fun i wr => ∃ q : Nat, q ≤ e + 1 ∧ i = .int .i64 q ∧ Hid (RfBox w wr (partOf k (fun i => fin S T (gt cs i) (gt ns i)) (gt ns) q))) (fun i _ => e + 1 - (intOf i).toNat)
              case atStart => exact ⟨0, Nat.zero_le _, rfl, HB2⟩
              case round =>
                clear HB2
                obtain ⟨q, hq, rfl, HB⟩ := hrel
                have q0 : (0 : Int) ≤ (q : Int) := by omega
                by_cases hlt : q < e + 1
                · have hqe : (q : Int) ≤ (e : Int) := by omega
                  have hqk : q < k := by omega
                  obtain ⟨b, off, x, hA, hb, cx, EX⟩ := HX.out.at_ hqk
                  subst hA
                  replace cx := (HB.out.below.cell hb).trans cx
                  have q1 : (q : Int) < (k : Int) := by omega
                  have hxg := gt_at EX.out
                  have hx0 : 0 ≤ x := by rw [← hxg]; exact (HCBD.out q).1
                  have hxT : x ≤ T := by rw [← hxg]; exact (HCBD.out q).2
                  obtain ⟨hp1, hp2⟩ := prod_bounds hx0 (Int.le_trans hxT hT4) (show 0 ≤ S by omega) hS5 (by omega)
                  have HXG := Lib.hid hxg
                  clear hxg
                  by_cases hpos : 0 < x
                  · by_cases hr : x * S < T
                    · have hlk := partOf_at (fun i => fin S T (gt cs i) (gt ns i)) (gt ns) q hqk
                      rw [if_neg (by omega)] at hlk
                      have cv := HB.out.norms.int_at hlk
                      have fv := HB.out.norms.frozen q
                      have HF : Hid (fin S T (gt cs q) (gt ns q) = -1) := (by rw [fin, HXG.out, if_pos ⟨hpos, hr⟩] : _ = _)
                      clear hlk
                      go_wp2
                      go_roundw
                      case rel => exact ⟨q + 1, by omega, by go_num, (by rw [partOf_succ, HF.out]; exact HB.out.store q (-1) : RfBox _ _ _)⟩
                      case measure => simp [intOf]; omega
                    · have HF : Hid (fin S T (gt cs q) (gt ns q) = gt ns q) := (by rw [fin, HXG.out, if_neg fun h => hr h.2] : _ = _)
                      go_wp2
                      go_roundw
                      case rel => exact ⟨q + 1, by omega, by go_num, (by rw [partOf_same HF.out]; exact HB.out : RfBox _ _ _)⟩
                      case measure => simp [intOf]; omega
                  · have HF : Hid (fin S T (gt cs q) (gt ns q) = gt ns q) := (by rw [fin, HXG.out, if_neg fun h => hpos h.1] : _ = _)
                    go_wp2
                    go_roundw
                    case rel => exact ⟨q + 1, by omega, by go_num, (by rw [partOf_same HF.out]; exact HB.out : RfBox _ _ _)⟩
                    case measure => simp [intOf]; omega
                · obtain rfl : q = e + 1 := by omega
                  have hqe : ¬ ((e + 1 : Nat) : Int) ≤ (e : Int) := by omega
                  obtain ⟨r0, r1, f0, f1⟩ := HB.out.res.two
                  obtain ⟨l, hl⟩ : ∃ l, e + 1 = l := ⟨_, rfl⟩
                  have hec : (e : Int) + 1 = (l : Int) := by omega
                  have hl1 : l ≤ k := by omega
                  have hl0 : 0 < l := by omega
                  go_wp2
                  refine bodyPost_ret (v := .tuple #[.agg #[.int .i64 log, .slice (some ⟨w.heap.size + 1, 0, none⟩) l k], .int .i64 0]) (by simp [results, Try.results14, go_sem, r0, r1]) rfl ?_
                  have hb1 := HB.out
                  have hfp := full_part (cs := cs) (ms := ns) (S := S) (T := T) (k := e + 1) (fun i hi => by
                    by_cases hik : i < k
                    · exact HOUT.out i (by omega) hik
                    · rw [gt_none (l := cs) (i := i) (by rw [HCL.out]; omega)]; exact Int.le_refl _)
                  rw [HCL.out] at hfp
                  rw [hfp] at hb1
                  have hfull : fullOf cs S T = partOf k (fun i => fin S T (gt cs i) (gt ns i)) (gt ns) k := by rw [fullOf, HCL.out, ← HMS.out]
                  have hnorm : normsOf cs (2 ^ log.toNat) = (partOf k (fun i => fin S T (gt cs i) (gt ns i)) (gt ns) k).take l := by
                    rw [HS.out, normsOf, HT.out, hfull, HCL.out, HEE.out, show ((e : Int) + 1).toNat = l by omega]
                  refine ⟨w.heap.size + 1, l, partOf k (fun i => fin S T (gt cs i) (gt ns i)) (gt ns) k, by rw [HCL.out], by omega, ?_, by rw [partOf_len, HCL.out], hnorm.symm, by rw [hnorm, List.length_take, partOf_len]; omega, by rw [HCL.out]; exact hl1, ?_⟩
                  · exact (hb1.norms.far (p := ⟨w.heap.size, 0, none⟩) (by simp) _).far (p := ⟨w.heap.size, 1, none⟩) (by simp) _
                  · exact (hb1.below.setCell (p := ⟨w.heap.size, 0, none⟩) (by simp) _).setCell (p := ⟨w.heap.size, 1, none⟩) (by simp) _
end Go.Proofs.Ytelijgibgpbcnaa
