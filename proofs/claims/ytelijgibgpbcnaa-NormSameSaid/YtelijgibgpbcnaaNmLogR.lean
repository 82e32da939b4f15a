/-
  The reference's Log.
-/
import Derived.Test.YtelijgibgpbcnaaNmLog
namespace Go.Proofs.Ytelijgibgpbcnaa
open Go.RowKit

theorem pow_int (k : Nat) : (2 : Int) ^ k = ((2 ^ k : Nat) : Int) := (Int.natCast_pow 2 k).symm
theorem size_nat (k : Nat) (hk : k ≤ 20) (w : World) : Calls Try.prog 20 #[.int .i64 (k : Int)] w fun e w' => e = .returned (.int .i64 ((2 ^ k : Nat) : Int)) ∧ w = w' :=
  (size_in k (by omega) (by omega) w).mono fun _ _ ⟨he, hw⟩ => ⟨by rw [he, Int.toNat_natCast, pow_int], hw⟩

set_option maxHeartbeats 3200000 in
theorem refLog_hi (v : Value) (cs : List Int) (most : Int) (w : World) (hx : Ints w .i64 v cs) (hm : 9 < most) :
    Calls Try.prog 17 #[v, .int .i64 most] w fun e w' => e = .returned (.int .i64 (logOf cs most)) ∧ w = w' := by
  have HI := Lib.hid hx
  obtain ⟨A, n, c, rfl, hc, hmx, hx⟩ := hx.get
  clear hx
  obtain ⟨T, U, b, hres, hb, hb'⟩ := cres_some cs
  have HRES := Lib.hid hres
  have hM : min most 9 = 9 := by omega
  have HMM := Lib.hid hM
  have hM9 : (9 : Int) ≤ 9 := by omega
  clear hres hM
  cases b with
  | false =>
    have HB := Lib.hid (hb' rfl)
    clear hb hb'
    go_enter Try.func17, Try.ntmps17
    go_wp2_with (go_at_call 19; refine (counts_any _ cs _ HI.out).mono ?_; rw [HRES.out]; rintro e w' ⟨rfl, rfl⟩)
    go_ret
    exact ⟨ret_int (logOf_no fun h => HB.out ⟨h.1, h.2.1⟩).symm, rfl⟩
  | true =>
    obtain ⟨h1, h2, hUe, hTe⟩ := hb rfl
    have HV := Lib.hid h1
    have HU := Lib.hid hUe
    have HT := Lib.hid hTe
    have hU1 : 1 ≤ U := by omega
    have hT0 := total_pos h1 h2
    have hT4 := h1.2
    rw [← hTe] at hT0 hT4
    have H2 := Lib.hid h2
    clear hb hb' h1 h2 hUe hTe
    by_cases l0 : (9 : Int) < 0
    · first
        | omega
        | (go_enter Try.func17, Try.ntmps17
           go_wp2_with (go_at_call 19; refine (counts_any _ cs _ HI.out).mono ?_; rw [HRES.out]; rintro e w' ⟨rfl, rfl⟩)
           go_ret
           exact ⟨ret_int (logOf_no fun h => by have := h.2.2.1; rw [HMM.out] at this; omega).symm, rfl⟩)
    · have hS := two_pow_le (log := 9) (by omega) hM9
      obtain ⟨S, hSe⟩ : ∃ S, (2 : Int) ^ (9 : Int).toNat = S := ⟨_, rfl⟩
      have hsz := fun W => size_in 9 (by omega) (by omega) W
      rw [hSe] at hS hsz
      obtain ⟨hS1, hS5⟩ := hS
      have HS := Lib.hid hSe
      have HSZ := Lib.hid hsz
      clear hSe hsz
      by_cases hus : S < U
      · go_enter Try.func17, Try.ntmps17
        go_wp2_with fail
        refine (counts_any _ cs _ HI.out).mono ?_
        rw [HRES.out]
        rintro e w' ⟨rfl, rfl⟩
        go_wp2_with fail
        refine (HSZ.out _).mono ?_
        rintro e w' ⟨rfl, rfl⟩
        go_wp2
        go_ret
        exact ⟨ret_int (logOf_no fun h => by have := h.2.2.2; rw [HMM.out, HS.out, ← HU.out] at this; omega).symm, rfl⟩
      · have hyes : logOf cs most = if usedOf cs = 1 then 0 else logIn cs 9 := by
          rw [logOf, HMM.out, if_pos ⟨HV.out, H2.out, by omega, by rw [HS.out, ← HU.out]; omega⟩]
        have HY := Lib.hid hyes
        clear hyes
        by_cases hu1 : U = 1
        · subst hu1
          go_enter Try.func17, Try.ntmps17
          go_wp2_with fail
          refine (counts_any _ cs _ HI.out).mono ?_
          rw [HRES.out]
          rintro e w' ⟨rfl, rfl⟩
          go_wp2_with fail
          refine (HSZ.out _).mono ?_
          rintro e w' ⟨rfl, rfl⟩
          go_wp2
          go_ret
          exact ⟨ret_int (by rw [HY.out, if_pos (by have := HU.out; omega)]), rfl⟩
        · have hub : (U == 1) = false := by simpa using hu1
          obtain ⟨K, hK⟩ : ∃ K : Nat, Lib.bitLen (U - 1).toNat = K := ⟨_, rfl⟩
          obtain ⟨L, hL⟩ : ∃ L : Nat, Lib.bitLen T.toNat = L := ⟨_, rfl⟩
          obtain ⟨ka, kb, kc⟩ := bitLen_oct (U - 1).toNat (by omega) (by omega)
          obtain ⟨la, lb, lc⟩ := bitLen_oct T.toNat (by omega) (by omega)
          have hK1 : K ≤ 10 := by rw [← hK]; exact bitLen_le (by omega) (by omega) (by omega)
          have hL1 : L ≤ 64 := by rw [← hL]; exact bitLen_le (by omega) (by omega) (by omega)
          rw [hK] at ka kb kc
          rw [hL] at la lb lc
          have HKB : Hid (2 ^ (K - 1) ≤ (U - 1).toNat ∧ (U - 1).toNat < 2 ^ K) := ⟨kb, kc⟩
          have HLB : Hid (2 ^ (L - 1) ≤ T.toNat ∧ T.toNat < 2 ^ L) := ⟨lb, lc⟩
          have HLI : Hid (logIn cs 9 = min 9 (max (K : Int) ((L : Int) - 2))) := (by
            have e1 : logU cs = K := by rw [logU, ← hK, show (U - 1).toNat = usedOf cs - 1 by have := HU.out; omega]
            have e2 : logT cs = L := by rw [logT, ← HT.out, hL]
            rw [logIn, e1, e2] : _ = _)
          clear hK hL kb kc lb lc hu1
          go_enter Try.func17, Try.ntmps17
          go_wp2_with fail
          refine (counts_any _ cs _ HI.out).mono ?_
          rw [HRES.out]
          rintro e w' ⟨rfl, rfl⟩
          go_wp2_with fail
          refine (HSZ.out _).mono ?_
          rintro e w' ⟨rfl, rfl⟩
          go_wp2
          go_loop [8] (fun i => ∃ k : Nat, k ≤ K ∧ i = .int .i64 k) (fun i => K - (intOf i).toNat)
          case atStart => exact ⟨0, Nat.zero_le _, rfl⟩
          case round =>
            obtain ⟨k, hk, rfl⟩ := hrel
            obtain ⟨P2, hP2⟩ : ∃ P2 : Nat, 2 ^ k = P2 := ⟨_, rfl⟩
            have hP5 : P2 ≤ 2 ^ 10 := by rw [← hP2]; exact Nat.pow_le_pow_right (by decide) (by omega)
            have HP2 := Lib.hid hP2
            clear hP2
            by_cases hlt : k < K
            · have hpu : (P2 : Int) < U := by
                have h1 := HKB.out.1
                have h2 := Nat.pow_le_pow_right (show 0 < 2 by decide) (show k ≤ K - 1 by omega)
                rw [HP2.out] at h2
                omega
              go_wp2_with (go_at_call 20; refine (size_nat _ (by omega) _).mono ?_; rw [HP2.out]; rintro e w' ⟨rfl, rfl⟩)
              go_round
              case rel => exact ⟨k + 1, by omega, by go_num⟩
              case measure => simp [intOf]; omega
            · obtain rfl : k = K := by omega
              have hpu : ¬ (P2 : Int) < U := by
                have h1 := HKB.out.2
                rw [HP2.out] at h1
                omega
              go_wp2_with (go_at_call 20; refine (size_nat _ (by omega) _).mono ?_; rw [HP2.out]; rintro e w' ⟨rfl, rfl⟩)
              go_loop [5, 9] (fun a f => ∃ j a' : Nat, j ≤ L - 1 ∧ f = .int .i64 j ∧ a = .int .i64 a' ∧ a' ≤ 1099511627776 ∧ Hid (a' = T.toNat / 2 ^ j)) (fun a _ => (intOf a).toNat)
              case atStart => exact ⟨0, T.toNat, Nat.zero_le _, rfl, by rw [Int.toNat_of_nonneg (by omega)], by omega, (by simp : _ = _)⟩
              case round =>
                obtain ⟨j, a', hj, rfl, rfl, ha4, HA⟩ := hrel
                have a0 : (0 : Int) ≤ (a' : Int) := by omega
                by_cases hjl : j < L - 1
                · have ha2 : 2 ≤ a' := by
                    rw [HA.out]
                    have h1 := HLB.out.1
                    have h2 : 2 * 2 ^ j ≤ 2 ^ (L - 1) := by rw [← Nat.pow_succ']; exact Nat.pow_le_pow_right (by decide) (by omega)
                    exact (Nat.le_div_iff_mul_le (Nat.two_pow_pos j)).2 (by omega)
                  have ha2i : (1 : Int) < (a' : Int) := by omega
                  have hdiv : (a' : Int) / 2 = ((a' / 2 : Nat) : Int) := by omega
                  have HD := Lib.hid hdiv
                  have HA2 : Hid (a' / 2 = T.toNat / 2 ^ (j + 1)) := (by rw [HA.out, Nat.div_div_eq_div_mul, Nat.pow_succ] : _ = _)
                  clear hdiv
                  go_wp2
                  go_round
                  case rel => exact ⟨j + 1, a' / 2, by omega, by go_num, by rw [HD.out], by omega, HA2⟩
                  case measure => simp [intOf]; omega
                · obtain rfl : j = L - 1 := by omega
                  have ha1 : a' < 2 := by
                    rw [HA.out]
                    have h1 := HLB.out.2
                    exact Nat.div_lt_of_lt_mul (by rw [Nat.mul_comm, ← Nat.pow_succ', show (L - 1).succ = L by omega]; exact h1)
                  have ha1i : ¬ (1 : Int) < (a' : Int) := by omega
                  have hf : ((L - 1 : Nat) : Int) = (L : Int) - 1 := by omega
                  have hf0 : (0 : Int) ≤ ((L - 1 : Nat) : Int) := by omega
                  have hf1 : ((L - 1 : Nat) : Int) ≤ 64 := by omega
                  have HF := Lib.hid hf
                  clear hf
                  go_wp2
                  go_ret
                  refine ⟨ret_int ?_, rfl⟩
                  rw [HY.out, if_neg (by have := HU.out; have := hub; simp at this; omega), HLI.out]
                  have := HF.out
                  omega

set_option maxHeartbeats 3200000 in
theorem refLog_lo (v : Value) (cs : List Int) (most : Int) (w : World) (hx : Ints w .i64 v cs) (hm : ¬ 9 < most) :
    Calls Try.prog 17 #[v, .int .i64 most] w fun e w' => e = .returned (.int .i64 (logOf cs most)) ∧ w = w' := by
  have HI := Lib.hid hx
  obtain ⟨A, n, c, rfl, hc, hmx, hx⟩ := hx.get
  clear hx
  obtain ⟨T, U, b, hres, hb, hb'⟩ := cres_some cs
  have HRES := Lib.hid hres
  have hM : min most 9 = most := by omega
  have HMM := Lib.hid hM
  have hM9 : (most : Int) ≤ 9 := by omega
  clear hres hM
  cases b with
  | false =>
    have HB := Lib.hid (hb' rfl)
    clear hb hb'
    go_enter Try.func17, Try.ntmps17
    go_wp2_with (go_at_call 19; refine (counts_any _ cs _ HI.out).mono ?_; rw [HRES.out]; rintro e w' ⟨rfl, rfl⟩)
    go_ret
    exact ⟨ret_int (logOf_no fun h => HB.out ⟨h.1, h.2.1⟩).symm, rfl⟩
  | true =>
    obtain ⟨h1, h2, hUe, hTe⟩ := hb rfl
    have HV := Lib.hid h1
    have HU := Lib.hid hUe
    have HT := Lib.hid hTe
    have hU1 : 1 ≤ U := by omega
    have hT0 := total_pos h1 h2
    have hT4 := h1.2
    rw [← hTe] at hT0 hT4
    have H2 := Lib.hid h2
    clear hb hb' h1 h2 hUe hTe
    by_cases l0 : (most : Int) < 0
    · first
        | omega
        | (go_enter Try.func17, Try.ntmps17
           go_wp2_with (go_at_call 19; refine (counts_any _ cs _ HI.out).mono ?_; rw [HRES.out]; rintro e w' ⟨rfl, rfl⟩)
           go_ret
           exact ⟨ret_int (logOf_no fun h => by have := h.2.2.1; rw [HMM.out] at this; omega).symm, rfl⟩)
    · have hS := two_pow_le (log := most) (by omega) hM9
      obtain ⟨S, hSe⟩ : ∃ S, (2 : Int) ^ (most : Int).toNat = S := ⟨_, rfl⟩
      have hsz := fun W => size_in most (by omega) (by omega) W
      rw [hSe] at hS hsz
      obtain ⟨hS1, hS5⟩ := hS
      have HS := Lib.hid hSe
      have HSZ := Lib.hid hsz
      clear hSe hsz
      by_cases hus : S < U
      · go_enter Try.func17, Try.ntmps17
        go_wp2_with fail
        refine (counts_any _ cs _ HI.out).mono ?_
        rw [HRES.out]
        rintro e w' ⟨rfl, rfl⟩
        go_wp2_with fail
        refine (HSZ.out _).mono ?_
        rintro e w' ⟨rfl, rfl⟩
        go_wp2
        go_ret
        exact ⟨ret_int (logOf_no fun h => by have := h.2.2.2; rw [HMM.out, HS.out, ← HU.out] at this; omega).symm, rfl⟩
      · have hyes : logOf cs most = if usedOf cs = 1 then 0 else logIn cs most := by
          rw [logOf, HMM.out, if_pos ⟨HV.out, H2.out, by omega, by rw [HS.out, ← HU.out]; omega⟩]
        have HY := Lib.hid hyes
        clear hyes
        by_cases hu1 : U = 1
        · subst hu1
          go_enter Try.func17, Try.ntmps17
          go_wp2_with fail
          refine (counts_any _ cs _ HI.out).mono ?_
          rw [HRES.out]
          rintro e w' ⟨rfl, rfl⟩
          go_wp2_with fail
          refine (HSZ.out _).mono ?_
          rintro e w' ⟨rfl, rfl⟩
          go_wp2
          go_ret
          exact ⟨ret_int (by rw [HY.out, if_pos (by have := HU.out; omega)]), rfl⟩
        · have hub : (U == 1) = false := by simpa using hu1
          obtain ⟨K, hK⟩ : ∃ K : Nat, Lib.bitLen (U - 1).toNat = K := ⟨_, rfl⟩
          obtain ⟨L, hL⟩ : ∃ L : Nat, Lib.bitLen T.toNat = L := ⟨_, rfl⟩
          obtain ⟨ka, kb, kc⟩ := bitLen_oct (U - 1).toNat (by omega) (by omega)
          obtain ⟨la, lb, lc⟩ := bitLen_oct T.toNat (by omega) (by omega)
          have hK1 : K ≤ 10 := by rw [← hK]; exact bitLen_le (by omega) (by omega) (by omega)
          have hL1 : L ≤ 64 := by rw [← hL]; exact bitLen_le (by omega) (by omega) (by omega)
          rw [hK] at ka kb kc
          rw [hL] at la lb lc
          have HKB : Hid (2 ^ (K - 1) ≤ (U - 1).toNat ∧ (U - 1).toNat < 2 ^ K) := ⟨kb, kc⟩
          have HLB : Hid (2 ^ (L - 1) ≤ T.toNat ∧ T.toNat < 2 ^ L) := ⟨lb, lc⟩
          have HLI : Hid (logIn cs most = min most (max (K : Int) ((L : Int) - 2))) := (by
            have e1 : logU cs = K := by rw [logU, ← hK, show (U - 1).toNat = usedOf cs - 1 by have := HU.out; omega]
            have e2 : logT cs = L := by rw [logT, ← HT.out, hL]
            rw [logIn, e1, e2] : _ = _)
          clear hK hL kb kc lb lc hu1
          go_enter Try.func17, Try.ntmps17
          go_wp2_with fail
          refine (counts_any _ cs _ HI.out).mono ?_
          rw [HRES.out]
          rintro e w' ⟨rfl, rfl⟩
          go_wp2_with fail
          refine (HSZ.out _).mono ?_
          rintro e w' ⟨rfl, rfl⟩
          go_wp2
          go_loop [8] (fun i => ∃ k : Nat, k ≤ K ∧ i = .int .i64 k) (fun i => K - (intOf i).toNat)
          case atStart => exact ⟨0, Nat.zero_le _, rfl⟩
          case round =>
            obtain ⟨k, hk, rfl⟩ := hrel
            obtain ⟨P2, hP2⟩ : ∃ P2 : Nat, 2 ^ k = P2 := ⟨_, rfl⟩
            have hP5 : P2 ≤ 2 ^ 10 := by rw [← hP2]; exact Nat.pow_le_pow_right (by decide) (by omega)
            have HP2 := Lib.hid hP2
            clear hP2
            by_cases hlt : k < K
            · have hpu : (P2 : Int) < U := by
                have h1 := HKB.out.1
                have h2 := Nat.pow_le_pow_right (show 0 < 2 by decide) (show k ≤ K - 1 by omega)
                rw [HP2.out] at h2
                omega
              go_wp2_with (go_at_call 20; refine (size_nat _ (by omega) _).mono ?_; rw [HP2.out]; rintro e w' ⟨rfl, rfl⟩)
              go_round
              case rel => exact ⟨k + 1, by omega, by go_num⟩
              case measure => simp [intOf]; omega
            · obtain rfl : k = K := by omega
              have hpu : ¬ (P2 : Int) < U := by
                have h1 := HKB.out.2
                rw [HP2.out] at h1
                omega
              go_wp2_with (go_at_call 20; refine (size_nat _ (by omega) _).mono ?_; rw [HP2.out]; rintro e w' ⟨rfl, rfl⟩)
              go_loop [5, 9] (fun a f => ∃ j a' : Nat, j ≤ L - 1 ∧ f = .int .i64 j ∧ a = .int .i64 a' ∧ a' ≤ 1099511627776 ∧ Hid (a' = T.toNat / 2 ^ j)) (fun a _ => (intOf a).toNat)
              case atStart => exact ⟨0, T.toNat, Nat.zero_le _, rfl, by rw [Int.toNat_of_nonneg (by omega)], by omega, (by simp : _ = _)⟩
              case round =>
                obtain ⟨j, a', hj, rfl, rfl, ha4, HA⟩ := hrel
                have a0 : (0 : Int) ≤ (a' : Int) := by omega
                by_cases hjl : j < L - 1
                · have ha2 : 2 ≤ a' := by
                    rw [HA.out]
                    have h1 := HLB.out.1
                    have h2 : 2 * 2 ^ j ≤ 2 ^ (L - 1) := by rw [← Nat.pow_succ']; exact Nat.pow_le_pow_right (by decide) (by omega)
                    exact (Nat.le_div_iff_mul_le (Nat.two_pow_pos j)).2 (by omega)
                  have ha2i : (1 : Int) < (a' : Int) := by omega
                  have hdiv : (a' : Int) / 2 = ((a' / 2 : Nat) : Int) := by omega
                  have HD := Lib.hid hdiv
                  have HA2 : Hid (a' / 2 = T.toNat / 2 ^ (j + 1)) := (by rw [HA.out, Nat.div_div_eq_div_mul, Nat.pow_succ] : _ = _)
                  clear hdiv
                  go_wp2
                  go_round
                  case rel => exact ⟨j + 1, a' / 2, by omega, by go_num, by rw [HD.out], by omega, HA2⟩
                  case measure => simp [intOf]; omega
                · obtain rfl : j = L - 1 := by omega
                  have ha1 : a' < 2 := by
                    rw [HA.out]
                    have h1 := HLB.out.2
                    exact Nat.div_lt_of_lt_mul (by rw [Nat.mul_comm, ← Nat.pow_succ', show (L - 1).succ = L by omega]; exact h1)
                  have ha1i : ¬ (1 : Int) < (a' : Int) := by omega
                  have hf : ((L - 1 : Nat) : Int) = (L : Int) - 1 := by omega
                  have hf0 : (0 : Int) ≤ ((L - 1 : Nat) : Int) := by omega
                  have hf1 : ((L - 1 : Nat) : Int) ≤ 64 := by omega
                  have HF := Lib.hid hf
                  clear hf
                  go_wp2
                  go_ret
                  refine ⟨ret_int ?_, rfl⟩
                  rw [HY.out, if_neg (by have := HU.out; have := hub; simp at this; omega), HLI.out]
                  have := HF.out
                  omega

theorem refLog_any (v : Value) (cs : List Int) (most : Int) (w : World) (hx : Ints w .i64 v cs) :
    Calls Try.prog 17 #[v, .int .i64 most] w fun e w' => e = .returned (.int .i64 (logOf cs most)) ∧ w = w' := by
  by_cases h : 9 < most
  · exact refLog_hi v cs most w hx h
  · exact refLog_lo v cs most w hx h
end Go.Proofs.Ytelijgibgpbcnaa
