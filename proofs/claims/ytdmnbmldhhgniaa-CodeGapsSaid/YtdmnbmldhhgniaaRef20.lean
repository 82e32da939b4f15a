/-
  The reference of code: Bits, Two, Of, Value.
-/
import Derived.Test.YtdmnbmldhhgniaaKind
import Derived.Test.YtdmnbmldhhgniaaRows
namespace Go.Proofs.Ytdmnbmldhhgniaa
open Go.RowKit

set_option maxHeartbeats 400000 in
theorem rBits_out (off : Bool) (c : Int) (h : c < 0 ∨ kN off ≤ c) (w : World) : Calls Try.prog 17 #[.int .i64 c, .bool off] w fun e w' => e = .returned (.int .i64 (-1)) ∧ w = w' := by
  by_cases h1 : c < 0
  · go_enter Try.func17, Try.ntmps17
    go_wp2
    go_ret
    exact ⟨rfl, rfl⟩
  · by_cases h2 : 43 < c
    · go_enter Try.func17, Try.ntmps17
      go_wp2
      go_ret
      exact ⟨rfl, rfl⟩
    · have hoff : off = true := by
        cases off with
        | true => rfl
        | false => simp [kN] at h; omega
      subst hoff
      have h3 : 27 < c := by simp [kN] at h; omega
      clear h
      go_enter Try.func17, Try.ntmps17
      go_wp2
      go_ret
      exact ⟨rfl, rfl⟩
set_option maxHeartbeats 800000 in
theorem rBits_in (off : Bool) (c : Int) (h0 : 0 ≤ c) (h1 : c < kN off) (w : World) : Calls Try.prog 17 #[.int .i64 c, .bool off] w fun e w' => e = .returned (.int .i64 (kBits off c)) ∧ w = w' := by
  cases off with
  | true =>
    have h2 : c ≤ 27 := by simp [kN] at h1; omega
    clear h1
    go_enter Try.func17, Try.ntmps17
    go_wp2
    go_ret
    exact ⟨rfl, rfl⟩
  | false =>
    have h2 : c ≤ 43 := by simp [kN] at h1; omega
    clear h1
    go_enter Try.func17, Try.ntmps17
    go_wp2
    go_loop [5, 6] (fun n i => ∃ j N : Int, n = .int .i64 N ∧ i = .int .i64 (16 + 2 * j) ∧ 0 ≤ j ∧ 16 + 2 * j ≤ c + 2 + 16 ∧ Hid (j = 0 ∧ N = 0 ∨ 1 ≤ j ∧ N = 2 + j ∧ 16 + 2 * (j - 1) ≤ c)) (fun _ i => (100 - intOf i).toNat)
    case atStart => exact ⟨0, 0, rfl, rfl, by omega, by omega, Or.inl ⟨rfl, rfl⟩⟩
    case round =>
      obtain ⟨j, N, rfl, rfl, hj0, hj1, HJ⟩ := hrel
      by_cases hle : 16 + 2 * j ≤ c
      · go_wp2
        go_round
        case rel => exact ⟨j + 1, 3 + j, by go_num, by go_num, by omega, by omega, Or.inr ⟨by omega, by omega, by omega⟩⟩
        case measure => simp [intOf]; omega
      · go_wp2
        go_ret
        refine ⟨ret_int ?_, rfl⟩
        simp only [kBits, lbits]
        rcases HJ.out with ⟨h1, h2⟩ | ⟨h1, h2, h3⟩ <;> simp <;> split <;> omega
set_option maxHeartbeats 400000 in
theorem rTwo_any (n : Int) (h0 : 0 ≤ n) (h1 : n ≤ 40) (w : World) : Calls Try.prog 23 #[.int .i64 n] w fun e w' => e = .returned (.int .i64 (2 ^ n.toNat)) ∧ w = w' := by
  obtain ⟨m, rfl⟩ := Int.eq_ofNat_of_zero_le h0
  go_enter Try.func23, Try.ntmps23
  go_wp2
  go_loop [3, 4] (fun x i => ∃ (k : Nat) (X : Int), k ≤ m ∧ i = .int .i64 k ∧ x = .int .i64 X ∧ 0 ≤ X ∧ X ≤ 1099511627776 ∧ Hid (X = 2 ^ k)) (fun _ i => m - (intOf i).toNat)
  case atStart => exact ⟨0, 1, Nat.zero_le _, rfl, rfl, by omega, by omega, rfl⟩
  case round =>
    obtain ⟨k, X, hk, rfl, rfl, hX0, hX1, HX⟩ := hrel
    by_cases hlt : k < m
    · have hX2 : X ≤ 549755813888 := by
        rw [HX.out]
        have : (2 : Int) ^ k ≤ 2 ^ 39 := by exact_mod_cast Nat.pow_le_pow_right (show 0 < 2 by decide) (show k ≤ 39 by omega)
        simpa using this
      go_wp2
      go_round
      case rel => exact ⟨k + 1, 2 * X, by omega, by go_num, by go_num, by omega, by omega, show _ = _ by rw [HX.out, Int.pow_succ, Int.mul_comm]⟩
      case measure => simp [intOf]; omega
    · obtain rfl : k = m := by omega
      go_wp2
      go_ret
      exact ⟨ret_int (by rw [HX.out]), rfl⟩

set_option maxHeartbeats 1600000 in
theorem rOf_any (off : Bool) (v : Int) (w : World) : Calls Try.prog 12 #[.int .i64 v, .bool off] w fun e w' =>
    e = .returned (.tuple #[.int .i64 (kc off v), .int .u64 (kr off v), .int .i64 (ke off v)]) ∧ w = w' := by
  have houtE : ¬ kIn off v → kc off v = 0 ∧ kr off v = 0 ∧ ke off v = 2 := fun h => ⟨if_neg h, if_neg h, if_neg h⟩
  have HOUT := Lib.hid houtE
  clear houtE
  obtain ⟨L, hL⟩ : ∃ L, kLeast off = L := ⟨_, rfl⟩
  have HL := Lib.hid hL
  clear hL
  by_cases hlo : v < L
  · have hn : ¬ kIn off v := fun h => by have := h.1; rw [HL.out] at this; omega
    obtain ⟨e1, e2, e3⟩ := HOUT.out hn
    rw [e1, e2, e3]
    clear e1 e2 e3 hn
    cases off with
    | true =>
      obtain rfl : (1 : Int) = L := HL.out
      go_enter Try.func12, Try.ntmps12
      go_wp2
      go_ret3
      exact ⟨rfl, rfl⟩
    | false =>
      obtain rfl : (0 : Int) = L := HL.out
      go_enter Try.func12, Try.ntmps12
      go_wp2
      go_ret3
      exact ⟨rfl, rfl⟩
  · have hst : ∀ off', off' = off → Hid (kFirst off' 0 = L) := fun off' h => by subst h; exact (kFirst_zero _).trans HL.out
    have HST := Lib.hid hst
    clear hst
    obtain ⟨N, hN⟩ : ∃ N, kN off = N := ⟨_, rfl⟩
    have hNN : N ≤ 44 := by rw [← hN]; cases off <;> decide
    have HN := Lib.hid hN
    clear hN
    have main : ∀ a : Act, True := fun _ => trivial
    clear main
    cases off with
    | true =>
      obtain rfl : (1 : Int) = L := HL.out
      go_enter Try.func12, Try.ntmps12
      go_wp2
      go_loop [7, 8] (fun l i => ∃ k F : Int, l = .int .i64 F ∧ i = .int .i64 k ∧ 0 ≤ k ∧ k ≤ N ∧ F ≤ v ∧ Hid (kFirst true k = F)) (fun _ i => (100 - intOf i).toNat)
      case atStart => exact ⟨0, 1, rfl, rfl, by omega, by rw [← HN.out]; decide, by omega, HST.out _ rfl⟩
      case round => 
        obtain ⟨k, F, rfl, rfl, hk0, hkN, hF, HF⟩ := hrel
        by_cases hlt : k < N
        · have hb := kBits_bd (off := true) hk0 (by rw [HN.out]; exact hlt)
          have hf := kFirst_bd (off := true) hk0 (by rw [HN.out]; exact hlt)
          have hnx := kFirst_next (off := true) hk0 (by rw [HN.out]; exact hlt)
          have hun := kCode_unique (off := true) (v := v) hk0 (by rw [HN.out]; exact hlt)
          rw [HF.out] at hf hnx hun
          obtain ⟨n, hn⟩ : ∃ n, n = kBits true k := ⟨_, rfl⟩
          obtain ⟨M, hM⟩ : ∃ M : Int, M = 2 ^ n.toNat := ⟨_, rfl⟩
          rw [← hn] at hb hf hnx hun
          rw [← hM] at hf hnx hun
          have hM1 : 1 ≤ M := by rw [hM]; exact Int.pow_pos (by decide)
          obtain ⟨hb0, hb1⟩ := hb
          obtain ⟨hf0, hf1⟩ := hf
          have HNX := Lib.hid hnx
          have HUN := Lib.hid hun
          have HM := Lib.hid hM
          have HNB := Lib.hid hn
          have hck : k < kN true := by rw [HN.out]; exact hlt
          have HCK := Lib.hid hck
          clear hnx hun hM hn hck
          by_cases hv : v < F + M
          · obtain ⟨hin, hcode⟩ := HUN.out hF hv
            have e1 : kc true v = k := by unfold kc; rw [if_pos hin, hcode]
            have e2 : kr true v = v - F := by unfold kr; rw [if_pos hin, hcode, HF.out]
            have e3 : ke true v = 0 := if_pos hin
            have HE : Hid (kc true v = k ∧ kr true v = v - F ∧ ke true v = 0) := ⟨e1, e2, e3⟩
            clear hin hcode e1 e2 e3
            go_wp2_with (first
              | (go_at_call 17; refine (rBits_in true k hk0 HCK.out _).mono ?_; rw [← HNB.out]; rintro e w' ⟨rfl, rfl⟩)
              | (go_at_call 23; refine (rTwo_any n hb0 (by omega) _).mono ?_; rw [← HM.out]; rintro e w' ⟨rfl, rfl⟩))
            go_ret3
            exact ⟨by rw [HE.out.1, HE.out.2.1, HE.out.2.2]; rfl, rfl⟩
          · go_wp2_with (first
              | (go_at_call 17; refine (rBits_in true k hk0 HCK.out _).mono ?_; rw [← HNB.out]; rintro e w' ⟨rfl, rfl⟩)
              | (go_at_call 23; refine (rTwo_any n hb0 (by omega) _).mono ?_; rw [← HM.out]; rintro e w' ⟨rfl, rfl⟩))
            go_round
            case rel => exact ⟨k + 1, F + M, by go_num, by go_num, by omega, by omega, by omega, HNX.out⟩
            case measure => simp [intOf]; omega
        · obtain rfl : k = N := by omega
          have hout : ¬ kIn true v := fun h => by
            have e := kFirst_top true
            rw [HN.out, HF.out] at e
            have := h.2
            omega
          have HE := Lib.hid (HOUT.out hout)
          have hge : kN true ≤ k := by rw [HN.out]; omega
          have HGE := Lib.hid hge
          clear hout hge
          go_wp2_with (go_at_call 17; refine (rBits_out true k (Or.inr HGE.out) _).mono ?_; rintro e w' ⟨rfl, rfl⟩)
          go_ret3
          exact ⟨by rw [HE.out.1, HE.out.2.1, HE.out.2.2]; rfl, rfl⟩
    | false =>
      obtain rfl : (0 : Int) = L := HL.out
      go_enter Try.func12, Try.ntmps12
      go_wp2
      go_loop [7, 8] (fun l i => ∃ k F : Int, l = .int .i64 F ∧ i = .int .i64 k ∧ 0 ≤ k ∧ k ≤ N ∧ F ≤ v ∧ Hid (kFirst false k = F)) (fun _ i => (100 - intOf i).toNat)
      case atStart => exact ⟨0, 0, rfl, rfl, by omega, by rw [← HN.out]; decide, by omega, HST.out _ rfl⟩
      case round => 
        obtain ⟨k, F, rfl, rfl, hk0, hkN, hF, HF⟩ := hrel
        by_cases hlt : k < N
        · have hb := kBits_bd (off := false) hk0 (by rw [HN.out]; exact hlt)
          have hf := kFirst_bd (off := false) hk0 (by rw [HN.out]; exact hlt)
          have hnx := kFirst_next (off := false) hk0 (by rw [HN.out]; exact hlt)
          have hun := kCode_unique (off := false) (v := v) hk0 (by rw [HN.out]; exact hlt)
          rw [HF.out] at hf hnx hun
          obtain ⟨n, hn⟩ : ∃ n, n = kBits false k := ⟨_, rfl⟩
          obtain ⟨M, hM⟩ : ∃ M : Int, M = 2 ^ n.toNat := ⟨_, rfl⟩
          rw [← hn] at hb hf hnx hun
          rw [← hM] at hf hnx hun
          have hM1 : 1 ≤ M := by rw [hM]; exact Int.pow_pos (by decide)
          obtain ⟨hb0, hb1⟩ := hb
          obtain ⟨hf0, hf1⟩ := hf
          have HNX := Lib.hid hnx
          have HUN := Lib.hid hun
          have HM := Lib.hid hM
          have HNB := Lib.hid hn
          have hck : k < kN false := by rw [HN.out]; exact hlt
          have HCK := Lib.hid hck
          clear hnx hun hM hn hck
          by_cases hv : v < F + M
          · obtain ⟨hin, hcode⟩ := HUN.out hF hv
            have e1 : kc false v = k := by unfold kc; rw [if_pos hin, hcode]
            have e2 : kr false v = v - F := by unfold kr; rw [if_pos hin, hcode, HF.out]
            have e3 : ke false v = 0 := if_pos hin
            have HE : Hid (kc false v = k ∧ kr false v = v - F ∧ ke false v = 0) := ⟨e1, e2, e3⟩
            clear hin hcode e1 e2 e3
            go_wp2_with (first
              | (go_at_call 17; refine (rBits_in false k hk0 HCK.out _).mono ?_; rw [← HNB.out]; rintro e w' ⟨rfl, rfl⟩)
              | (go_at_call 23; refine (rTwo_any n hb0 (by omega) _).mono ?_; rw [← HM.out]; rintro e w' ⟨rfl, rfl⟩))
            go_ret3
            exact ⟨by rw [HE.out.1, HE.out.2.1, HE.out.2.2]; rfl, rfl⟩
          · go_wp2_with (first
              | (go_at_call 17; refine (rBits_in false k hk0 HCK.out _).mono ?_; rw [← HNB.out]; rintro e w' ⟨rfl, rfl⟩)
              | (go_at_call 23; refine (rTwo_any n hb0 (by omega) _).mono ?_; rw [← HM.out]; rintro e w' ⟨rfl, rfl⟩))
            go_round
            case rel => exact ⟨k + 1, F + M, by go_num, by go_num, by omega, by omega, by omega, HNX.out⟩
            case measure => simp [intOf]; omega
        · obtain rfl : k = N := by omega
          have hout : ¬ kIn false v := fun h => by
            have e := kFirst_top false
            rw [HN.out, HF.out] at e
            have := h.2
            omega
          have HE := Lib.hid (HOUT.out hout)
          have hge : kN false ≤ k := by rw [HN.out]; omega
          have HGE := Lib.hid hge
          clear hout hge
          go_wp2_with (go_at_call 17; refine (rBits_out false k (Or.inr HGE.out) _).mono ?_; rintro e w' ⟨rfl, rfl⟩)
          go_ret3
          exact ⟨by rw [HE.out.1, HE.out.2.1, HE.out.2.2]; rfl, rfl⟩
end Go.Proofs.Ytdmnbmldhhgniaa
