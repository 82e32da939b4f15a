/-
  The reference of spread: Of's walk.
-/
import Derived.Test.YtkffhfdmdcecaaaSpOfP
namespace Go.Proofs.Ytkffhfdmdcecaaa
open Go.RowKit

theorem mix_none (N : Nat) : mixOf (fun _ => some (-1)) N N = olist N (fun _ => none) := by
  rw [mixOf_top]; rfl

theorem va_inv {m q : Nat} (hm : m < 10) (hq : q < 2 ^ m) : va m q * qinv m % 2 ^ m = q := by
  have h1 := mod_mul_inv (step_qinv ⟨m, hm⟩) q
  simp only at h1
  unfold va
  rw [h1, Nat.mod_eq_of_lt hq]

set_option maxHeartbeats 800000 in
theorem of_bad (log : Int) (v : Value) (xs : List Int) (w : World) (hx : Ints w .i64 v xs) (hv : ¬ Valid log xs 256 9) :
    Calls Try.prog 38 #[.agg #[.int .i64 log, v]] w fun e w' => e = .returned (.tuple #[.slice none 0 0, .int .i64 13]) ∧ Below w.heap.size w w' := by
  have HI := Lib.hid hx
  have HV := Lib.hid hv
  obtain ⟨A, n, c, rfl, -, -, -⟩ := hx.get
  clear hx hv
  go_enter Try.func38, Try.ntmps38
  go_wp2_with fail
  refine (may_any log _ xs 256 9 _ (HI.out.alloc _)).mono ?_
  rw [chk_13 HV.out]
  rintro e w1 ⟨rfl, hb⟩
  have HB1 := Lib.hid (((Below.refl _ w).alloc (Nat.le_refl _) _).trans (hb.mono (by simp)))
  clear hb
  go_wp2
  go_ret2
  exact ⟨rfl, HB1.out⟩

set_option maxHeartbeats 1600000 in
theorem of_ok (m : Nat) (v : Value) (xs : List Int) (w : World) (hx : Ints w .i64 v xs) (hw : ∀ x ∈ xs, x ≤ 9223372036854775807) (hm : m < 10) (hv : Valid m xs 256 9) (hall : (rares xs).length + (others xs).length = 2 ^ m) :
    Calls Try.prog 38 #[.agg #[.int .i64 m, v]] w fun e w' => ∃ sv l, e = .returned (.tuple #[sv, .int .i64 0]) ∧ FreshInts w' w.heap.size sv l ∧ IsSpread m xs l ∧ Below w.heap.size w w' := by
  have HI := Lib.hid hx
  have HV := Lib.hid hv
  have HW := Lib.hid hw
  have hN := (step_le ⟨m, hm⟩).2.2
  have hT2 := (step_le ⟨m, hm⟩).2.1
  have hT := stepI_pow ⟨m, hm⟩
  have hsucc := va_succ m
  have hvlt := va_lt m
  simp only at hN hT hT2
  obtain ⟨N, hNe⟩ : ∃ N, 2 ^ m = N := ⟨_, rfl⟩
  obtain ⟨T, hTe⟩ : ∃ T, stepOf (2 ^ m) = T := ⟨_, rfl⟩
  rw [hTe] at hT hT2 hsucc
  rw [hNe] at hN hT hsucc hvlt hall
  have hN0 : 0 < N := by rw [← hNe]; exact pow_pos2 m
  have hpow : (2 : Int) ^ m = (N : Int) := by rw [← hNe, Int.natCast_pow]; rfl
  have HNE := Lib.hid hNe
  have HT := Lib.hid hT
  have HSU := Lib.hid hsucc
  have HVL := Lib.hid hvlt
  have HPOW := Lib.hid hpow
  have HALL := Lib.hid hall
  have m0 : (0 : Int) ≤ (m : Int) := by omega
  have hz' : ¬ (N : Int) = 0 := by omega
  obtain ⟨A, n, c, rfl, hc, hmx, hx⟩ := hx.get
  have HX := Lib.hid hx
  clear hx hw hv hNe hT hsucc hvlt hTe hpow hall
  have hmk : ∀ W : World, (Instr.makeSlice 23 (.int .i64 (N : Int)) (.int .i64 (N : Int))).run Try.prog W = .ok (.slice (some ⟨W.heap.size, 0, none⟩) N N) (W.alloc (.cells (madeCells #[.int .i64 0] N) 3)) :=
    fun W => run_make_row' 23 3 (.int .i64 0) 8 Try.underlying23 infoInt rfl .i64 .i64 N (by omega) (by omega) W
  go_enter Try.func38, Try.ntmps38
  go_wp2_with fail
  refine (may_any m _ xs 256 9 _ (HI.out.alloc _)).mono ?_
  rw [chk_0 HV.out]
  rintro e w1 ⟨rfl, hb⟩
  have HB1 := Lib.hid (((Below.refl _ w).alloc (Nat.le_refl _) _).trans (hb.mono (by simp)))
  have HR1 := Lib.hid ((Blk.new w 25 #[.int .i64 m, .slice A n c]).below hb (by simp))
  clear hb
  obtain ⟨c0, c1, -, -⟩ := HR1.out.two
  go_wp2_with fail
  refine (size_in m m0 (by omega) _).mono ?_
  rw [Int.toNat_natCast, HPOW.out]
  rintro e w' ⟨rfl, rfl⟩
  go_wp2
  have hblk := Blk.new w1 3 (madeCells #[.int .i64 0] N)
  rw [mixOf_zero (fun _ => some (-1)) N] at hblk ⊢
  have HBLK := Lib.hid hblk
  clear hblk hmk
  go_loopw [7] (fun i wr => ∃ j : Nat, j ≤ N ∧ i = .int .i64 j ∧ Hid (Blk wr w1.heap.size 3 ((mixOf (fun _ => some (-1)) N j).map (Value.int .i64)).toArray) ∧ Hid (Below w1.heap.size w1 wr)) (fun i _ => N - (intOf i).toNat)
  case atStart => exact ⟨0, Nat.zero_le _, rfl, HBLK, ((Below.refl _ w1).alloc (Nat.le_refl _) _ : Below _ _ _)⟩
  case round =>
    clear HBLK
    obtain ⟨j, hj, rfl, HB, HBL⟩ := hrel
    by_cases hlt : j < N
    · have hj0 : (0 : Int) ≤ (j : Int) := by omega
      have hj1 : (j : Int) < (N : Int) := by omega
      have cb : wr.cell? ⟨w1.heap.size, j, none⟩ = some (.int .i64 ((mixOf (fun _ => some (-1)) N j).getD j 0)) := HB.out.int_at (by rw [List.getD_eq_getElem?_getD, List.getElem?_eq_getElem (by simp [mixOf]; omega)]; rfl)
      have fb : wr.frozen? ⟨w1.heap.size, j, none⟩ = false := HB.out.frozen j
      go_wp2
      go_roundw
      case rel => exact ⟨j + 1, by omega, by go_num, (by rw [mixOf_succ]; exact HB.out.set_ints j (-1) : Blk _ _ _ _), (HBL.out.setCell (p := ⟨w1.heap.size, j, none⟩) (Nat.le_refl _) _ : Below _ _ _)⟩
      case measure => simp [intOf]; omega
    · obtain rfl : j = N := by omega
      have hb0 := HB.out
      rw [mix_none] at hb0
      have HB0 := Lib.hid hb0
      clear hb0 HB
      go_wp2
      go_loopw [8, 9] (fun top i wr => ∃ k : Nat, k ≤ n ∧ i = .int .i64 k ∧ ∃ (T0 : Int) (mf : Nat → Option Int), top = .int .i64 T0 ∧ -1 ≤ T0 ∧ T0 ≤ 511 ∧ Hid (T0 = (j : Int) - 1 - (rares (xs.take k)).length ∧ RareMap j (rares (xs.take k)) mf) ∧
        Hid (Blk wr w1.heap.size 3 ((olist j mf).map (Value.int .i64)).toArray) ∧ Hid (Below w1.heap.size w1 wr)) (fun _ i _ => n - (intOf i).toNat)
      case atStart => exact ⟨0, Nat.zero_le _, rfl, (j : Int) - 1, fun _ => none, rfl, by omega, by omega, (by simp [rares]; exact RareMap.start j : _ ∧ _), HB0, HBL⟩
      case round =>
        clear HB0 HBL
        obtain ⟨k, hk, rfl, T0, mf, rfl, hT0, hT1, HRM, HB, HBL⟩ := hrel
        have cw : wr.cell? ⟨w.heap.size, 1, none⟩ = some (.slice A n c) := (HBL.out.cell (p := ⟨w.heap.size, 1, none⟩) HR1.out.lt).trans c1
        by_cases hlt : k < n
        · obtain ⟨b, off, x, rfl, hb, cx, EX⟩ := HX.out.at_ hlt
          replace cx := (HBL.out.cell (Nat.lt_of_lt_of_le hb HB1.out.size)).trans ((HB1.out.cell hb).trans cx)
          have h0 : (0 : Int) ≤ (k : Int) := by omega
          have h0' : (k : Int) < (n : Int) := by omega
          by_cases hx : x = -1
          · subst hx
            have h1 := (List.getElem?_eq_some_iff.1 (rares_at EX.out)).1
            have h3 := HALL.out
            have h4 := HRM.out.1
            obtain ⟨T1, rfl⟩ := Int.eq_ofNat_of_zero_le (show 0 ≤ T0 by omega)
            have hT1e : T1 = j - 1 - (rares (xs.take k)).length := by omega
            have cb : wr.cell? ⟨w1.heap.size, T1, none⟩ = some (.int .i64 ((mf T1).getD (-1))) := HB.out.int_at (olist_at mf (by omega))
            have fb : wr.frozen? ⟨w1.heap.size, T1, none⟩ = false := HB.out.frozen T1
            have t0 : (0 : Int) ≤ (T1 : Int) := by omega
            have t1 : (T1 : Int) < (j : Int) := by omega
            have HR2 : Hid ((T1 : Int) - 1 = (j : Int) - 1 - (rares (xs.take (k + 1))).length ∧ RareMap j (rares (xs.take (k + 1))) (upd mf T1 (k : Int))) := (by
              rw [rares_take EX.out, if_pos rfl]
              refine ⟨by simp; omega, ?_⟩
              rw [hT1e]
              exact HRM.out.2.snoc (by omega) k : _ ∧ _)
            clear h1 h3 h4 hT1e
            go_wp2
            go_roundw
            case rel => exact ⟨k + 1, by omega, by go_num, (T1 : Int) - 1, upd mf T1 (k : Int), by go_num, by omega, by omega, HR2, (by rw [← olist_set]; exact HB.out.set_ints T1 k : Blk _ _ _ _), (HBL.out.setCell (p := ⟨w1.heap.size, T1, none⟩) (Nat.le_refl _) _ : Below _ _ _)⟩
            case measure => simp [intOf]; omega
          · have hx' : (x == -1) = false := by simpa using hx
            have HR2 : Hid (T0 = (j : Int) - 1 - (rares (xs.take (k + 1))).length ∧ RareMap j (rares (xs.take (k + 1))) mf) := (by
              rw [rares_take EX.out, if_neg hx, List.append_nil]; exact HRM.out : _ ∧ _)
            clear hx
            go_wp2
            go_roundw
            case rel => exact ⟨k + 1, by omega, by go_num, T0, mf, rfl, hT0, hT1, HR2, HB, HBL⟩
            case measure => simp [intOf]; omega
        · obtain rfl : k = n := by omega
          have hr2 := HRM.out.2
          have htake : xs.take k = xs := List.take_of_length_le (by rw [HX.out.1]; omega)
          rw [htake] at hr2
          have HOS : Hid (OfSt m j (others (xs.take 0)).length 0 0 xs mf) := (OfSt.start hr2 : OfSt _ _ _ _ _ _ _)
          have HTK := Lib.hid htake
          clear hr2 htake HRM
          go_wp2
          go_loopw [10, 11] (fun at_ i wr => ∃ i2 : Nat, i2 ≤ k ∧ i = .int .i64 i2 ∧ ∃ (q q' : Nat) (mf : Nat → Option Int), at_ = .int .i64 (va m q' : Nat) ∧ Hid (OfSt m j (others (xs.take i2)).length q q' xs mf) ∧
            Hid (Blk wr w1.heap.size 3 ((olist j mf).map (Value.int .i64)).toArray) ∧ Hid (Below w1.heap.size w1 wr)) (fun _ i _ => k - (intOf i).toNat)
          case atStart => exact ⟨0, Nat.zero_le _, rfl, 0, 0, mf, by rw [va_zero]; rfl, HOS, HB, HBL⟩
          case round =>
            clear HOS HB HBL cw
            obtain ⟨i2, hi2, rfl, q, q', mf, rfl, HOS, HB, HBL⟩ := hrel
            have cw : wr.cell? ⟨w.heap.size, 1, none⟩ = some (.slice A k c) := (HBL.out.cell (p := ⟨w.heap.size, 1, none⟩) HR1.out.lt).trans c1
            by_cases hlt2 : i2 < k
            · obtain ⟨b, off, x, rfl, hb, cx0, EX⟩ := HX.out.at_ hlt2
              have h0 : (0 : Int) ≤ (i2 : Int) := by omega
              have h0' : (i2 : Int) < (k : Int) := by omega
              have hx1 : -1 ≤ x := HV.out.2.2.2.2.2.2.1 x (List.mem_of_getElem? EX.out)
              have hx2 : x ≤ 9223372036854775807 := HW.out x (List.mem_of_getElem? EX.out)
              obtain ⟨X, hX⟩ : ∃ X, x.toNat = X := ⟨_, rfl⟩
              have HXX := Lib.hid hX
              have hXx : X = x.toNat := hX.symm
              clear hX
              have HO2 : Hid (OfSt m j ((others (xs.take i2)).length + 0) q q' xs mf) := HOS
              go_wp2
              go_loopw [10, 12] (fun at_ i wr => ∃ p : Nat, p ≤ X ∧ i = .int .i64 p ∧ ∃ (q q' : Nat) (mf : Nat → Option Int), at_ = .int .i64 (va m q' : Nat) ∧ Hid (OfSt m j ((others (xs.take i2)).length + p) q q' xs mf) ∧
                Hid (Blk wr w1.heap.size 3 ((olist j mf).map (Value.int .i64)).toArray) ∧ Hid (Below w1.heap.size w1 wr)) (fun _ i _ => X - (intOf i).toNat)
              case atStart => exact ⟨0, Nat.zero_le _, rfl, q, q', mf, rfl, HO2, HB, HBL⟩
              case round =>
                clear HOS HO2 HB HBL
                obtain ⟨p, hp, rfl, q, q', mf, rfl, HOS, HB, HBL⟩ := hrel
                have cw : wr.cell? ⟨w.heap.size, 1, none⟩ = some (.slice (some ⟨b, off, none⟩) k c) := (HBL.out.cell (p := ⟨w.heap.size, 1, none⟩) HR1.out.lt).trans c1
                have cx := (HBL.out.cell (Nat.lt_of_lt_of_le hb HB1.out.size)).trans ((HB1.out.cell hb).trans cx0)
                have p0 : (0 : Int) ≤ (p : Int) := by omega
                by_cases hpl : p < X
                · have hpx : (p : Int) < x := by omega
                  have hOc : (others xs)[(others (xs.take i2)).length + p]? = some (i2 : Int) := others_at (X := X) (by rw [EX.out]; congr 1; omega) hpl
                  have HOC := Lib.hid hOc
                  have hcl := (List.getElem?_eq_some_iff.1 hOc).1
                  have HCL := Lib.hid hcl
                  clear hOc hcl
                  go_wp2
                  have hqlt : q' < j := by
                    have h1 := HOS.out.lt hm HNE.out HALL.out HCL.out
                    rcases HOS.out.at_ with h | h <;> omega
                  go_loopw [10] (fun at_ wr2 => wr2 = wr ∧ ∃ (q q' : Nat), at_ = .int .i64 (va m q' : Nat) ∧ Hid (OfSt m j ((others (xs.take i2)).length + p) q q' xs mf) ∧ q' < j) (fun at_ _ => j - (intOf at_).toNat * qinv m % j)
                  case atStart => exact ⟨rfl, q, q', rfl, HOS, hqlt⟩
                  case round =>
                    clear hqlt HOS
                    obtain ⟨rfl, q, q', rfl, HOS, hqlt⟩ := hrel
                    have hv1 := HVL.out q'
                    obtain ⟨a, ha⟩ : ∃ a, va m q' = a := ⟨_, rfl⟩
                    rw [ha] at hv1
                    have hsu := HSU.out q'
                    obtain ⟨a2, ha2⟩ : ∃ a2, va m (q' + 1) = a2 := ⟨_, rfl⟩
                    rw [ha, ha2] at hsu
                    have hrem : ((a : Int) + (T : Int)) % (j : Int) = (a2 : Int) := by rw [hsu]; rfl
                    have a0 : (0 : Int) ≤ (a : Int) := by omega
                    have a1 : (a : Int) < (j : Int) := by omega
                    have cb : wr.cell? ⟨w1.heap.size, a, none⟩ = some (.int .i64 ((mf a).getD (-1))) := HB.out.int_at (olist_at mf hv1)
                    have fb : wr.frozen? ⟨w1.heap.size, a, none⟩ = false := HB.out.frozen a
                    have HA := Lib.hid ha
                    have HA2 := Lib.hid ha2
                    cases hmf : mf a with
                    | some s =>
                      rw [hmf, Option.getD_some] at cb
                      have hs0 : 0 ≤ s := HOS.out.sp.nonneg hv1 hmf
                      obtain ⟨hq1, q2, hst⟩ := HOS.out.step hm HNE.out HALL.out HCL.out (by rw [ha, hmf]; rfl)
                      have hq2 : q' + 1 < j := by
                        have h1 := hst.lt hm HNE.out HALL.out HCL.out
                        rcases hst.at_ with h | h <;> omega
                      have HST := Lib.hid hst
                      have HM1 : Hid (a * qinv m % j = q') := (by rw [← ha, ← HNE.out]; exact va_inv hm (by rw [HNE.out]; exact hqlt) : _ = _)
                      have HM2 : Hid (a2 * qinv m % j = q' + 1) := (by rw [← ha2, ← HNE.out]; exact va_inv hm (by rw [HNE.out]; exact hq2) : _ = _)
                      clear hmf hst ha ha2 hsu
                      rw [HA.out]
                      go_wp2_with (go_at_call 51; refine (rstep_any j _).mono ?_; rw [HT.out]; rintro e w' ⟨rfl, rfl⟩)
                      go_roundw
                      case rel => exact ⟨trivial, q2, q' + 1, by rw [HA2.out]; exact congrArg _ hrem, HST, hq2⟩
                      case measure =>
                        have h1 := HM1.out
                        have h2 := HM2.out
                        simp [intOf, hrem, h1, h2]
                        omega
                    | none =>
                      rw [hmf, Option.getD_none] at cb
                      have hput := HOS.out.put hm HNE.out HALL.out HOC.out (by rw [ha, hmf])
                      rw [ha] at hput
                      have HPUT : Hid (OfSt m j ((others (xs.take i2)).length + (p + 1)) (q' + 1) q' xs (upd mf a (i2 : Int))) := (hput : OfSt _ _ _ _ _ _ _)
                      clear hput hmf ha ha2 hsu hrem
                      rw [HA.out]
                      go_wp2
                      go_roundw
                      case rel => exact ⟨p + 1, by omega, by go_num, q' + 1, q', upd mf a (i2 : Int), by rw [HA.out], HPUT, (by rw [← olist_set]; exact HB.out.set_ints a i2 : Blk _ _ _ _), (HBL.out.setCell (p := ⟨w1.heap.size, a, none⟩) (Nat.le_refl _) _ : Below _ _ _)⟩
                      case measure => simp [intOf]; omega
                · have hpx : ¬ (p : Int) < x := by omega
                  obtain rfl : p = X := by omega
                  have HO2 : Hid (OfSt m j (others (xs.take (i2 + 1))).length q q' xs mf) := (by
                    rw [others_take EX.out, HXX.out, List.length_append, List.length_replicate]; exact HOS.out : OfSt _ _ _ _ _ _ _)
                  go_wp2
                  go_roundw
                  case rel => exact ⟨i2 + 1, by omega, by go_num, q, q', mf, rfl, HO2, HB, HBL⟩
                  case measure => simp [intOf]; omega
            · obtain rfl : i2 = k := by omega
              have h1 := HOS.out
              rw [HTK.out] at h1
              have HSP := Lib.hid (h1.done hm HNE.out HALL.out)
              have hl := olist_len j mf
              clear h1
              go_wp2
              go_ret2
              exact ⟨_, olist j mf, rfl, ⟨w1.heap.size, 3, by rw [hl]; rfl, HB1.out.size, HB.out⟩, HSP.out, HB1.out.trans (HBL.out.mono HB1.out.size)⟩
end Go.Proofs.Ytkffhfdmdcecaaa
