/-
  norm.Normalize, the mending upwards.
-/
import Derived.Test.YtelijgibgpbcnaaNmBox
namespace Go.Proofs.Ytelijgibgpbcnaa
open Go.RowKit
set_option linter.unusedSimpArgs false

set_option maxHeartbeats 6400000 in
theorem normalize_up (v : Value) (cs : List Int) (log : Int) (w : World) (hx : Ints w .i64 v cs) (hok : NOk cs log) (hlen : cs.length ≤ 1000) (hup : (firstOf cs (2 ^ log.toNat) cs.sum).sum ≤ 2 ^ log.toNat) :
    Calls Try.prog 13 #[v, .int .i64 log] w fun e w' => NmPost w cs log e w' := by
  have HI := Lib.hid hx
  obtain ⟨A, n, c, rfl, hc, hmx, hx⟩ := hx.get
  have HX := Lib.hid hx
  have hn : n ≤ 1000 := by rw [← HX.out.1]; exact hlen
  have HOK := Lib.hid hok
  have HUP := Lib.hid hup
  have l0 : 0 ≤ log := hok.2.2.1
  have l9 : log ≤ 9 := hok.2.2.2.1
  have hS := two_pow_le l0 l9
  have hUS := hok.2.2.2.2
  have hcok := hok.cok
  obtain ⟨S, hSe⟩ : ∃ S, (2 : Int) ^ log.toNat = S := ⟨_, rfl⟩
  rw [hSe] at hS hUS hcok
  have HCOK := Lib.hid hcok
  obtain ⟨hS1, hS5⟩ := hS
  obtain ⟨T, hTe⟩ : ∃ T, cs.sum = T := ⟨_, rfl⟩
  have hT0 := total_pos hok.1 hok.2.1
  have hT4 := hok.1.2
  rw [hTe] at hT0 hT4
  obtain ⟨U, hU⟩ : ∃ U, usedOf cs = U := ⟨_, rfl⟩
  rw [hU] at hUS
  have hU0 : 0 < U := by rw [← hU]; exact hok.2.1
  have HRES : Hid (CRes cs = .returned (.tuple #[.int .i64 T, .int .i64 U, .bool true])) := CRes_yes hok.1 hTe.symm (by rw [hU]) (decide_eq_true (by omega)).symm
  have HT := Lib.hid hTe
  have HS := Lib.hid hSe
  have HCBD : Hid (∀ i, 0 ≤ gt cs i ∧ gt cs i ≤ T) := (fun i => ⟨gt_nonneg hok.1 i, by rw [← hTe]; exact gt_le_total hok.1 i⟩ : ∀ i, 0 ≤ gt cs i ∧ gt cs i ≤ T)
  have HFB : Hid (∀ i, 0 ≤ gt (firstOf cs S T) i ∧ gt (firstOf cs S T) i ≤ 512) := (fun i => by
    have := start_bounds (S := S) hS1 (HCBD.out i).1 (HCBD.out i).2
    rw [gt_first]; omega : ∀ i, 0 ≤ gt (firstOf cs S T) i ∧ gt (firstOf cs S T) i ≤ 512)
  clear hx hlen hok hup hTe hU hcok
  have hmk : ∀ W : World, (Instr.makeSlice 22 (.int .i64 (n : Int)) (.int .i64 (n : Int))).run Try.prog W = .ok (.slice (some ⟨W.heap.size, 0, none⟩) n n) (W.alloc (.cells (madeCells #[.int .i64 0] n) 3)) :=
    fun W => run_make_row' 22 3 (.int .i64 0) 8 Try.underlying22 infoInt rfl .i64 .i64 n (by omega) (by omega) W
  have hus : ¬ S < (U : Int) := by omega
  go_enter Try.func13, Try.ntmps13
  go_wp2_with (go_at_call 25; refine (all_any _ cs _ (by first | exact HI.out.alloc2 _ _ | exact HI.out.alloc _)).mono ?_; rw [HRES.out]; rintro e w' ⟨rfl, rfl⟩)
  have hbox := NmBox.start w A n c T S (gt (firstOf cs S T))
  have HBOX := Lib.hid hbox
  clear hSe hmk hbox hus
  go_loopw [11, 49] (fun l i wr => ∃ k : Nat, k ≤ n ∧ i = .int .i64 k ∧ ∃ L : Int, l = .int .i64 L ∧ -512000 ≤ L ∧ L ≤ 512 ∧ Hid (L = S - sumTo (gt (firstOf cs S T)) k) ∧ Hid (NmBox w wr w.heap.size A n c T S (partOf n (gt (firstOf cs S T)) (fun _ => 0) k))) (fun _ i _ => n - (intOf i).toNat)
  case atStart => exact ⟨0, Nat.zero_le _, rfl, S, rfl, by omega, by omega, (by simp [sumTo] : _ = _), HBOX⟩
  case round =>
    clear HBOX
    obtain ⟨k, hk, rfl, L, rfl, hL0, hL1, HL, HB⟩ := hrel
    have k0 : (0 : Int) ≤ (k : Int) := by omega
    by_cases hlt : k < n
    · obtain ⟨b, off, x, rfl, hb, cx, EX⟩ := HX.out.at_ hlt
      replace cx := (HB.out.below.cell hb).trans cx
      have k1 : (k : Int) < (n : Int) := by omega
      have hxg := gt_at EX.out
      have hx0 : 0 ≤ x := by rw [← hxg]; exact (HCBD.out k).1
      have hxT : x ≤ T := by rw [← hxg]; exact (HCBD.out k).2
      have hfk := gt_first cs S T k
      rw [hxg] at hfk
      have hfb := HFB.out k
      have hsb := sumTo_bounds (F := gt (firstOf cs S T)) (M := 512) (fun i => HFB.out i) (k + 1)
      have hL2 : -512000 ≤ S - sumTo (gt (firstOf cs S T)) (k + 1) ∧ S - sumTo (gt (firstOf cs S T)) (k + 1) ≤ 512 := by omega
      have HL2 := Lib.hid hL2
      have HXG := Lib.hid hxg
      by_cases hpos : 0 < x
      · obtain ⟨m, hm⟩ : ∃ m, gt (firstOf cs S T) k = m := ⟨_, rfl⟩
        rw [hm] at hfk hfb
        have hmq : m = max (x * S / T) 1 := by rw [hfk, start, if_pos hpos]
        have hp := prod_bounds hx0 (Int.le_trans hxT hT4) (show 0 ≤ S by omega) hS5 (by omega)
        obtain ⟨p, hpe⟩ : ∃ p, x * S = p := ⟨_, rfl⟩
        rw [hpe] at hp hmq
        have e1 : IntKind.i64.wrap (x * S) = p := by rw [hpe]; exact IntWalk.i64_in _ (by omega)
        have hq0 : 0 ≤ p / T := Int.ediv_nonneg hp.1 (by omega)
        have hq1 : p / T ≤ p := Int.ediv_le_self T hp.1
        obtain ⟨q, hqe⟩ : ∃ q, p / T = q := ⟨_, rfl⟩
        rw [hqe] at hq0 hq1 hmq
        have e2 : p.tdiv T = q := by rw [Int.tdiv_eq_ediv_of_nonneg hp.1, hqe]
        have e3 : IntKind.i64.wrap q = q := IntWalk.i64_in _ (by omega)
        have hT00 : ¬ T = 0 := by omega
        obtain ⟨hm0, hm5⟩ := hfb
        have hp1 := hp.1
        have hp2 := hp.2
        have e4 : (if q < 1 then (1 : Int) else q) = m := by rw [hmq]; split <;> omega
        have HM := Lib.hid hm
        have HMQ := Lib.hid hmq
        have c1 := HB.out.norm.one
        have c2 := HB.out.size.one
        have c3 := HB.out.tot.one
        have hlk : (partOf n (gt (firstOf cs S T)) (fun _ => 0) k)[k]? = some 0 := by rw [partOf_at _ _ _ hlt, if_neg (by omega)]
        have cv := HB.out.norms.int_at hlk
        have fv := HB.out.norms.frozen k
        obtain ⟨c1, -⟩ := c1
        obtain ⟨c2, -⟩ := c2
        obtain ⟨c3, -⟩ := c3
        have hsu : Hid (sumTo (gt (firstOf cs S T)) (k + 1) = sumTo (gt (firstOf cs S T)) k + m) := (by rw [← hm]; rfl : _ = _)
        clear hm hmq hfk hpe hqe hlk hxg hsb hL2 hp hlt
        go_wp2
        go_still_tail 9, (by kernel_rfl)
        change wpList _ _ _ _ _ wr.drew
        go_wp2
        go_roundw
        case rel => exact ⟨k + 1, by omega, by go_num, L - m, by go_num, by have := HL2.out; have := HL.out; have := hsu.out; omega, by have := HL2.out; have := HL.out; have := hsu.out; omega, (by have := HL.out; have := hsu.out; omega : _ = _),
          (by rw [partOf_succ, HM.out]; first | exact HB.out.drew.store k m | exact (HB.out.store k m).drew : NmBox _ _ _ _ _ _ _ _ _)⟩
        case measure => simp [intOf]; omega
      · obtain rfl : x = 0 := by omega
        have hz : gt (firstOf cs S T) k = 0 := by rw [hfk]; rfl
        have HZ := Lib.hid hz
        clear hz hfk hfb hsb hL2 hxg
        go_wp2
        go_roundw
        case rel => exact ⟨k + 1, by omega, by go_num, L, rfl, hL0, hL1, (by have h1 := HL.out; have h2 := HZ.out; rw [sumTo, h2, Int.add_zero]; exact h1 : _ = _), (by rw [partOf_same HZ.out]; exact HB.out : NmBox _ _ _ _ _ _ _ _ _)⟩
        case measure => simp [intOf]; omega
    · obtain rfl : k = n := by omega
      have hcl := HX.out.1
      have hfl : (firstOf cs S T).length = k := by rw [firstOf, List.length_map]; exact hcl
      have hb0 := HB.out
      rw [partOf_top (l := firstOf cs S T) _ hfl fun _ _ => rfl] at hb0
      have hLe := HL.out
      rw [sumTo_list _ _ hfl] at hLe
      have HB1 := Lib.hid hb0
      obtain ⟨W1, rfl⟩ : ∃ W1 : World, W1 = wr := ⟨_, rfl⟩
      have hW1 : w.heap.size + 1 + 1 + 1 + 1 + 1 < W1.heap.size := hb0.norm.lt
      have hst0 := NSt.start HCOK.out
      rw [HT.out, ← hLe] at hst0
      have hup := HUP.out
      rw [HS.out, HT.out] at hup
      have hJ : L = (L.toNat : Int) ∧ iter (stepUp cs S T) L.toNat (firstOf cs S T) = mended cs S T := by
        refine ⟨by omega, ?_⟩
        unfold mended
        rw [if_pos hup, hLe]
      have HJ := Lib.hid hJ
      have hLs : 0 ≤ L := by omega
      clear hJ
      have HST0 := Lib.hid hst0
      have HCL := Lib.hid hcl
      clear hb0 hLe hst0 hfl hcl HB HL hup
      go_wp2
      go_loopw [11] (fun l wr => ∃ (j : Nat) (J : Int) (ns : List Int), l = .int .i64 J ∧ -1000000 ≤ J ∧ J ≤ 1000000 ∧ Hid (J = (j : Int) ∧ NSt cs ns S J ∧ iter (stepUp cs S T) j ns = mended cs S T) ∧ Hid (NmBox w wr w.heap.size A k c T S ns) ∧
        Hid (Blk wr (W1.heap.size) 34 #[fAbove w.heap.size (w.heap.size + 1 + 1) (w.heap.size + 1 + 1 + 1) (w.heap.size + 1 + 1 + 1 + 1 + 1)]) ∧
        Hid (Blk wr (W1.heap.size + 1) 46 #[.func (.func 27) #[] #[.pointer (some ⟨w.heap.size, 0, none⟩)], .func (.func 26) #[] #[.pointer (some ⟨w.heap.size, 0, none⟩), .pointer (some ⟨w.heap.size + 1 + 1 + 1, 0, none⟩), .pointer (some ⟨w.heap.size + 1 + 1 + 1 + 1 + 1, 0, none⟩), .pointer (some ⟨w.heap.size + 1 + 1, 0, none⟩)], .int .i64 (1)])) (fun l _ => (intOf l).natAbs)
      case atStart => exact ⟨_, L, firstOf cs S T, rfl, by omega, by omega, (⟨HJ.out.1, HST0.out, HJ.out.2⟩ : _ ∧ _), ((HB1.out.alloc _).alloc _ : NmBox _ _ _ _ _ _ _ _ _), ((Blk.new W1 _ _).alloc _ : Blk _ _ _ _), (Blk.new1 W1 _ _ _ : Blk _ _ _ _)⟩
      case round =>
        clear HB1 HST0 HJ
        obtain ⟨j, J, ns, rfl, hJ0, hJ1, HJ, HB, HA, HM⟩ := hrel
        by_cases hz : J = 0
        · obtain rfl := hz
          obtain rfl : j = 0 := by have := HJ.out.1; omega
          have HME : Hid (ns = mended cs S T) := (HJ.out.2.2 : _ = _)
          have HSM : Hid (NSt cs ns S 0) := HJ.out.2.1
          have hb0 := HB.out
          obtain ⟨ms, hms⟩ : ∃ ms, ms = mended cs S T := ⟨_, rfl⟩
          rw [HME.out, ← hms] at hb0
          have hsm := HSM.out
          rw [HME.out, ← hms] at hsm
          have HSM2 := Lib.hid hsm
          have HMS := Lib.hid hms
          rw [← partOf_zero (fun i => fin S T (gt cs i) (gt ms i)) (show ms.length = k by rw [hsm.len]; exact HCL.out)] at hb0
          have HB2 := Lib.hid hb0
          clear hb0 hms hsm HB HJ HME HSM
          obtain ⟨c0, -⟩ := HB2.out.counts.one
          go_wp2
          go_loopw [7, 102] (fun u i wr => ∃ q : Nat, q ≤ k ∧ i = .int .i64 q ∧ ∃ u' : Int, u = .int .i64 u' ∧ Hid (u' = pEnd cs U q) ∧ Hid (NmBox w wr w.heap.size A k c T S (partOf k (fun i => fin S T (gt cs i) (gt ms i)) (gt ms) q))) (fun _ i _ => k - (intOf i).toNat)
          case atStart => exact ⟨0, Nat.zero_le _, rfl, U, rfl, (rfl : _ = _), HB2⟩
          case round =>
            clear HB2 HA HM
            obtain ⟨q, hq, rfl, u', rfl, HPE, HB⟩ := hrel
            have q0 : (0 : Int) ≤ (q : Int) := by omega
            by_cases hlt : q < k
            · obtain ⟨b, off, x, rfl, hb, cx, EX⟩ := HX.out.at_ hlt
              replace cx := (HB.out.below.cell hb).trans cx
              have q1 : (q : Int) < (k : Int) := by omega
              have hxg := gt_at EX.out
              have hx0 : 0 ≤ x := by rw [← hxg]; exact (HCBD.out q).1
              have hxT : x ≤ T := by rw [← hxg]; exact (HCBD.out q).2
              obtain ⟨hp1, hp2⟩ := prod_bounds hx0 (Int.le_trans hxT hT4) (show 0 ≤ S by omega) hS5 (by omega)
              obtain ⟨c2, -⟩ := HB.out.size.one
              obtain ⟨c3, -⟩ := HB.out.tot.one
              obtain ⟨c1, -⟩ := HB.out.norm.one
              have HXG := Lib.hid hxg
              clear hxg
              by_cases hpos : 0 < x
              · have HP1 : Hid ((q : Int) + 1 = pEnd cs U (q + 1)) := (by rw [pEnd, if_pos (by rw [HXG.out]; exact hpos)] : _ = _)
                by_cases hr : x * S < T
                · have hlk := partOf_at (fun i => fin S T (gt cs i) (gt ms i)) (gt ms) q hlt
                  rw [if_neg (by omega)] at hlk
                  have cv := HB.out.norms.int_at hlk
                  have fv := HB.out.norms.frozen q
                  have HF : Hid (fin S T (gt cs q) (gt ms q) = -1) := (by rw [fin, HXG.out, if_pos ⟨hpos, hr⟩] : _ = _)
                  clear hlk
                  go_wp2
                  go_roundw
                  case rel => exact ⟨q + 1, by omega, by go_num, (q : Int) + 1, by go_num, HP1, (by rw [partOf_succ, HF.out]; exact HB.out.store q (-1) : NmBox _ _ _ _ _ _ _ _ _)⟩
                  case measure => simp [intOf]; omega
                · have HF : Hid (fin S T (gt cs q) (gt ms q) = gt ms q) := (by rw [fin, HXG.out, if_neg fun h => hr h.2] : _ = _)
                  go_wp2
                  go_roundw
                  case rel => exact ⟨q + 1, by omega, by go_num, (q : Int) + 1, by go_num, HP1, (by rw [partOf_same HF.out]; exact HB.out : NmBox _ _ _ _ _ _ _ _ _)⟩
                  case measure => simp [intOf]; omega
              · have HP1 : Hid (u' = pEnd cs U (q + 1)) := (by rw [pEnd, if_neg (by rw [HXG.out]; exact hpos)]; exact HPE.out : _ = _)
                have HF : Hid (fin S T (gt cs q) (gt ms q) = gt ms q) := (by rw [fin, HXG.out, if_neg fun h => hpos h.1] : _ = _)
                go_wp2
                go_roundw
                case rel => exact ⟨q + 1, by omega, by go_num, u', rfl, HP1, (by rw [partOf_same HF.out]; exact HB.out : NmBox _ _ _ _ _ _ _ _ _)⟩
                case measure => simp [intOf]; omega
            · obtain rfl : q = k := by omega
              obtain ⟨i0, hi0, hp0⟩ := used_pos HOK.out.2.1
              rw [HCL.out] at hi0
              obtain ⟨e, he, hel, -, -⟩ := pEnd_facts (cs := cs) (d := (U : Int)) hi0 hp0
              have he1 : pEnd cs 1 cs.length = (e : Int) + 1 := by rw [HCL.out, pEnd_indep (d' := (U : Int)) hi0 hp0]; exact he
              obtain rfl : u' = ((e + 1 : Nat) : Int) := by rw [HPE.out, he]; rfl
              have HE1 := Lib.hid he1
              obtain ⟨l, hl⟩ : ∃ l, e + 1 = l := ⟨_, rfl⟩
              have HLE := Lib.hid hl
              rw [hl]
              have hl1 : l ≤ q := by omega
              obtain ⟨c1, -⟩ := HB.out.norm.one
              obtain ⟨r0, r1, f0, f1⟩ := HB.out.res.two
              have hl0 : 0 < l := by omega
              clear he he1 hl hp0
              go_wp2
              refine bodyPost_ret (v := .tuple #[.agg #[.int .i64 log, .slice (some ⟨w.heap.size + 1 + 1 + 1 + 1, 0, none⟩) l q], .int .i64 0]) (by simp [results, Try.results13, go_sem, r0, r1]) rfl ?_
              have hfull : fullOf cs S T = partOf q (fun i => fin S T (gt cs i) (gt ms i)) (gt ms) q := by rw [fullOf, HCL.out, ← HMS.out]
              have hnorm : normsOf cs (2 ^ log.toNat) = (partOf q (fun i => fin S T (gt cs i) (gt ms i)) (gt ms) q).take l := by
                rw [HS.out, normsOf, HT.out, hfull, HE1.out, show ((e : Int) + 1).toNat = l by have := HLE.out; omega]
              refine ⟨w.heap.size + 1 + 1 + 1 + 1, l, partOf q (fun i => fin S T (gt cs i) (gt ms i)) (gt ms) q, by rw [HCL.out], by omega, ?_, by rw [partOf_len, HCL.out], hnorm.symm, by rw [hnorm, List.length_take, partOf_len]; omega, by rw [HCL.out]; exact hl1, ?_⟩
              · exact (HB.out.norms.far (p := ⟨w.heap.size + 1, 0, none⟩) (by simp <;> omega) _).far (p := ⟨w.heap.size + 1, 1, none⟩) (by simp <;> omega) _
              · exact (HB.out.below.setCell (p := ⟨w.heap.size + 1, 0, none⟩) (by simp) _).setCell (p := ⟨w.heap.size + 1, 1, none⟩) (by simp) _
        · obtain ⟨j', rfl⟩ : ∃ j', j = j' + 1 := ⟨j - 1, by have := HJ.out.1; omega⟩
          have hJp : 1 ≤ J := by have := HJ.out.1; omega
          have hst := HJ.out.2.1
          rw [HJ.out.1, Int.natCast_add] at hst
          obtain ⟨b, hbest, hblt, hstep, hst'⟩ := NSt.up (k := j') hst HCOK.out
          rw [HT.out] at hbest hstep
          have hit := HJ.out.2.2
          rw [iter, hstep] at hit
          have HIT := Lib.hid hit
          have HST := Lib.hid hst'
          have hlen := hst.len
          have hgt := gt_of (l := ns) (i := b) (by rw [hlen]; exact hblt)
          obtain ⟨x, hx⟩ : ∃ x, gt ns b = x := ⟨_, rfl⟩
          have hx0 := hst.nonneg HOK.out.1 b
          have hx5 := hst.le b
          rw [hx] at hgt hx0 hx5
          rw [HCL.out] at hblt
          have HBE := Lib.hid hbest
          have HXE := Lib.hid hx
          have HNL : Hid (ns.length = k) := (by rw [hlen, HCL.out] : _ = _)
          have HBD : Hid (∀ i, 0 ≤ gt ns i ∧ gt ns i ≤ 512) := (fun i => ⟨hst.nonneg HOK.out.1 i, hst.le i⟩ : ∀ i, _)
          have HMEM := Lib.hid (HB.out.mem HX.out hn HNL.out HBD.out HCBD.out ⟨by omega, hT4⟩ ⟨hS1, hS5⟩)
          have cv := HB.out.norms.int_at hgt
          have fv := HB.out.norms.frozen b
          obtain ⟨c1, -⟩ := HB.out.norm.one
          have m0 : wr.cell? ⟨W1.heap.size + 1, 0, none⟩ = some (.func (.func 27) #[] #[.pointer (some ⟨w.heap.size, 0, none⟩)]) := by rw [HM.out.cell]; rfl
          have m1 : wr.cell? ⟨W1.heap.size + 1, 1, none⟩ = some (.func (.func 26) #[] #[.pointer (some ⟨w.heap.size, 0, none⟩), .pointer (some ⟨w.heap.size + 1 + 1 + 1, 0, none⟩), .pointer (some ⟨w.heap.size + 1 + 1 + 1 + 1 + 1, 0, none⟩), .pointer (some ⟨w.heap.size + 1 + 1, 0, none⟩)]) := by rw [HM.out.cell]; rfl
          have m2 : wr.cell? ⟨W1.heap.size + 1, 2, none⟩ = some (.int .i64 (1)) := by rw [HM.out.cell]; rfl
          have hzb : (J != 0) = true := by simpa using hz
          have b0 : (0 : Int) ≤ (b : Int) := by omega
          have b1 : (b : Int) < (k : Int) := by omega
          have esum : IntKind.i64.wrap (x + (1)) = x + (1) := IntWalk.i64_in _ (by omega)

          clear hst hbest hstep hit hst' hlen hgt hx hz
          go_wp2
          refine wp_region_held_drew (S := fun w' => w'.cell? ⟨w.heap.size + 1 + 1 + 1 + 1 + 1, 0, none⟩ = some (.slice (some ⟨w.heap.size + 1 + 1 + 1 + 1, 0, none⟩) k k) ∧ w'.cell? ⟨W1.heap.size + 1, 0, none⟩ = some (.func (.func 27) #[] #[.pointer (some ⟨w.heap.size, 0, none⟩)]) ∧
              w'.cell? ⟨W1.heap.size + 1, 1, none⟩ = some (.func (.func 26) #[] #[.pointer (some ⟨w.heap.size, 0, none⟩), .pointer (some ⟨w.heap.size + 1 + 1 + 1, 0, none⟩), .pointer (some ⟨w.heap.size + 1 + 1 + 1 + 1 + 1, 0, none⟩), .pointer (some ⟨w.heap.size + 1 + 1, 0, none⟩)]) ∧ w'.cell? ⟨W1.heap.size + 1, 2, none⟩ = some (.int .i64 (1))) (by kernel_rfl) ?_ (fun hHeld => ?_)
          · exact ⟨c1, m0, m1, m2⟩
          refine wpAnyH_take (i := 0) (v := .slice (some ⟨w.heap.size + 1 + 1 + 1 + 1, 0, none⟩) k k) rfl (by kernel_rfl) (by kernel_rfl) (by kernel_rfl) (fun _ _ _ h => h) (Or.inl ⟨by rfl, ?_⟩) hHeld ?_
          · rintro W ⟨s1, s2, s3, s4⟩
            first | (go_simp; done) | (go_simp; with_reducible rfl)
          try simp only [Act.put, List.setIfInBounds_toArray, List.set_cons_zero, List.set_cons_succ]
          refine wpAnyH_take (i := 1) (v := .slice (some ⟨w.heap.size + 1 + 1 + 1 + 1, 0, none⟩) k k) rfl (by kernel_rfl) (by kernel_rfl) (by kernel_rfl) (fun _ _ _ h => h) (Or.inl ⟨by rfl, ?_⟩) hHeld ?_
          · rintro W ⟨s1, s2, s3, s4⟩
            first | (go_simp; done) | (go_simp; with_reducible rfl)
          try simp only [Act.put, List.setIfInBounds_toArray, List.set_cons_zero, List.set_cons_succ]
          refine wpAnyH_take (i := 2) (v := .pointer (some ⟨W1.heap.size + 1, 0, none⟩)) rfl (by kernel_rfl) (by kernel_rfl) (by kernel_rfl) (fun _ _ _ h => h) (Or.inl ⟨by rfl, ?_⟩) hHeld ?_
          · rintro W ⟨s1, s2, s3, s4⟩
            first | (go_simp; done) | (go_simp; with_reducible rfl)
          try simp only [Act.put, List.setIfInBounds_toArray, List.set_cons_zero, List.set_cons_succ]
          refine wpAnyH_take (i := 3) (v := .func (.func 27) #[] #[.pointer (some ⟨w.heap.size, 0, none⟩)]) rfl (by kernel_rfl) (by kernel_rfl) (by kernel_rfl) (fun _ _ _ h => h) (Or.inl ⟨by rfl, ?_⟩) hHeld ?_
          · rintro W ⟨s1, s2, s3, s4⟩
            first | (go_simp; done) | (go_simp; with_reducible rfl)
          try simp only [Act.put, List.setIfInBounds_toArray, List.set_cons_zero, List.set_cons_succ]
          refine wpAnyH_take (i := 4) (v := .pointer (some ⟨W1.heap.size + 1, 1, none⟩)) rfl (by kernel_rfl) (by kernel_rfl) (by kernel_rfl) (fun _ _ _ h => h) (Or.inl ⟨by rfl, ?_⟩) hHeld ?_
          · rintro W ⟨s1, s2, s3, s4⟩
            first | (go_simp; done) | (go_simp; with_reducible rfl)
          try simp only [Act.put, List.setIfInBounds_toArray, List.set_cons_zero, List.set_cons_succ]
          refine wpAnyH_take (i := 5) (v := .func (.func 26) #[] #[.pointer (some ⟨w.heap.size, 0, none⟩), .pointer (some ⟨w.heap.size + 1 + 1 + 1, 0, none⟩), .pointer (some ⟨w.heap.size + 1 + 1 + 1 + 1 + 1, 0, none⟩), .pointer (some ⟨w.heap.size + 1 + 1, 0, none⟩)]) rfl (by kernel_rfl) (by kernel_rfl) (by kernel_rfl) (fun _ _ _ h => h) (Or.inl ⟨by rfl, ?_⟩) hHeld ?_
          · rintro W ⟨s1, s2, s3, s4⟩
            first | (go_simp; done) | (go_simp; with_reducible rfl)
          try simp only [Act.put, List.setIfInBounds_toArray, List.set_cons_zero, List.set_cons_succ]
          refine wpAnyH_take (i := 9) (v := .pointer (some ⟨W1.heap.size + 1, 2, none⟩)) rfl (by kernel_rfl) (by kernel_rfl) (by kernel_rfl) (fun _ _ _ h => h) (Or.inl ⟨by rfl, ?_⟩) hHeld ?_
          · rintro W ⟨s1, s2, s3, s4⟩
            first | (go_simp; done) | (go_simp; with_reducible rfl)
          try simp only [Act.put, List.setIfInBounds_toArray, List.set_cons_zero, List.set_cons_succ]
          refine wpAnyH_take (i := 10) (v := .int .i64 (1)) rfl (by kernel_rfl) (by kernel_rfl) (by kernel_rfl) (fun _ _ _ h => h) (Or.inl ⟨by rfl, ?_⟩) hHeld ?_
          · rintro W ⟨s1, s2, s3, s4⟩
            first | (go_simp; done) | (go_simp; with_reducible rfl)
          try simp only [Act.put, List.setIfInBounds_toArray, List.set_cons_zero, List.set_cons_succ]
          refine wpAnyH_ready (rs := [6]) (by kernel_rfl) (by simp) (AllReadyH.cons rfl (fun K hK => ?_) AllReadyH.nil)
          go_simp
          go_at_call 30
          refine (furthest_up (by first | exact HMEM.out | exact HMEM.out.drew | exact HMEM.out.drewN _ | exact (HMEM.out.drew).drewN _) HCL.out).mono ?_
          rw [HBE.out, show bI (some b) = (b : Int) from rfl]
          rintro e w' ⟨rfl, nd, rfl⟩
          refine hK.out _ _ ⟨c1, m0, m1, m2⟩ (fun hHeld => ?_)
          clear hK K
          try simp only [Act.put, List.setIfInBounds_toArray, List.set_cons_zero, List.set_cons_succ]
          refine wpAnyH_take (i := 7) (v := .pointer (some ⟨w.heap.size + 1 + 1 + 1 + 1, b, none⟩)) rfl (by kernel_rfl) (by kernel_rfl) (by kernel_rfl) (fun _ _ _ h => h) (Or.inl ⟨by rfl, ?_⟩) hHeld ?_
          · rintro W ⟨s1, s2, s3, s4⟩
            first | (go_simp; done) | (go_simp; with_reducible rfl)
          try simp only [Act.put, List.setIfInBounds_toArray, List.set_cons_zero, List.set_cons_succ]
          refine wpAnyH_ready (rs := [8]) (by kernel_rfl) (by simp) (AllReadyH.cons rfl (fun K hK => ?_) AllReadyH.nil)
          go_simp
          refine hK.out _ _ ⟨c1, m0, m1, m2⟩ (fun hHeld => ?_)
          clear hK K
          try simp only [Act.put, List.setIfInBounds_toArray, List.set_cons_zero, List.set_cons_succ]
          refine wpAnyH_take (i := 11) (v := .int .i64 (x + (1))) rfl (by kernel_rfl) (by kernel_rfl) (by kernel_rfl) (fun _ _ _ h => h) (Or.inl ⟨by rfl, ?_⟩) hHeld ?_
          · rintro W ⟨s1, s2, s3, s4⟩
            first | (go_simp; done) | (go_simp; with_reducible rfl)
          try simp only [Act.put, List.setIfInBounds_toArray, List.set_cons_zero, List.set_cons_succ]
          refine wpAnyH_take (i := 12) (v := .pointer (some ⟨w.heap.size + 1 + 1 + 1 + 1, b, none⟩)) rfl (by kernel_rfl) (by kernel_rfl) (by kernel_rfl) (fun _ _ _ h => h) (Or.inl ⟨by rfl, ?_⟩) hHeld ?_
          · rintro W ⟨s1, s2, s3, s4⟩
            first | (go_simp; done) | (go_simp; with_reducible rfl)
          try simp only [Act.put, List.setIfInBounds_toArray, List.set_cons_zero, List.set_cons_succ]
          refine wpAnyH_ready (rs := [13]) (by kernel_rfl) (by simp) (AllReadyH.cons rfl (fun K hK => ?_) AllReadyH.nil)
          go_simp
          refine hK.out _ _ ⟨by rw [World.cell?_setCell_far _ _ _ _ (by simp <;> omega)]; exact c1, by rw [World.cell?_setCell_far _ _ _ _ (by simp <;> omega)]; exact m0, by rw [World.cell?_setCell_far _ _ _ _ (by simp <;> omega)]; exact m1, by rw [World.cell?_setCell_far _ _ _ _ (by simp <;> omega)]; exact m2⟩ (fun hHeld => ?_)
          clear hK K
          refine wpAnyH_done (by kernel_rfl) ?_ _
          go_wp2
          go_roundw
          case rel => exact ⟨j', J - 1, ns.set b (x + (1)), by go_num, by omega, by omega, (⟨by have := HJ.out.1; omega, (by have h1 := HST.out; have h2 := HJ.out.1; rw [HXE.out] at h1; rw [show J - 1 = (j' : Int) by omega]; exact h1), by have h1 := HIT.out; rw [HXE.out] at h1; exact h1⟩ : _ ∧ _ ∧ _),
            ((HB.out.drewN _).store b (x + (1)) : NmBox _ _ _ _ _ _ _ _ _), ((HA.out.drewN _).far (p := ⟨w.heap.size + 1 + 1 + 1 + 1, b, none⟩) (by simp <;> omega) _ : Blk _ _ _ _), ((HM.out.drewN _).far (p := ⟨w.heap.size + 1 + 1 + 1 + 1, b, none⟩) (by simp <;> omega) _ : Blk _ _ _ _)⟩
          case measure => simp [intOf]; omega
end Go.Proofs.Ytelijgibgpbcnaa

