/-
  The reference of code: Value. And the six exported functions under one contract each.
-/
import Derived.Test.YtdmnbmldhhgniaaRef20
import Derived.Test.YtdmnbmldhhgniaaCodeC
namespace Go.Proofs.Ytdmnbmldhhgniaa
open Go.RowKit

set_option maxHeartbeats 1600000 in
theorem rValue_out (off : Bool) (c r : Int) (h : c < 0 ∨ kN off ≤ c) (w : World) : Calls Try.prog 19 #[.int .i64 c, .int .u64 r, .bool off] w fun e w' =>
    e = .returned (.tuple #[.int .i64 0, .int .i64 2]) ∧ w = w' := by
  have H := Lib.hid h
  clear h
  go_enter Try.func19, Try.ntmps19
  go_wp2_with (go_at_call 17; refine (rBits_out off c H.out _).mono ?_; rintro e w' ⟨rfl, rfl⟩)
  go_ret2
  exact ⟨rfl, rfl⟩
set_option maxHeartbeats 1600000 in
theorem rValue_big (off : Bool) (c r : Int) (h0 : 0 ≤ c) (h1 : c < kN off) (_hr0 : 0 ≤ r) (hr1 : 2 ^ (kBits off c).toNat ≤ r) (w : World) : Calls Try.prog 19 #[.int .i64 c, .int .u64 r, .bool off] w fun e w' =>
    e = .returned (.tuple #[.int .i64 0, .int .i64 2]) ∧ w = w' := by
  have hb := kBits_bd h0 h1
  obtain ⟨n, hn⟩ : ∃ n, n = kBits off c := ⟨_, rfl⟩
  obtain ⟨M, hM⟩ : ∃ M : Int, M = 2 ^ n.toNat := ⟨_, rfl⟩
  rw [← hn] at hb hr1
  rw [← hM] at hr1
  have hM1 : 1 ≤ M := by rw [hM]; exact Int.pow_pos (by decide)
  have hM2 : M ≤ 134217728 := by
    rw [hM]; exact two_pow27 (by omega)
  obtain ⟨hb0, hb1⟩ := hb
  have HM := Lib.hid hM
  have HNB := Lib.hid hn
  have H1 := Lib.hid h1
  clear hM hn h1
  go_enter Try.func19, Try.ntmps19
  go_wp2_with (first
    | (go_at_call 17; refine (rBits_in off c h0 H1.out _).mono ?_; rw [← HNB.out]; rintro e w' ⟨rfl, rfl⟩)
    | (go_at_call 23; refine (rTwo_any n hb0 (by omega) _).mono ?_; rw [← HM.out]; rintro e w' ⟨rfl, rfl⟩))
  go_ret2
  exact ⟨rfl, rfl⟩
set_option maxHeartbeats 1600000 in
theorem rValue_in_true (c r : Int) (h0 : 0 ≤ c) (h1 : c < kN true) (hr0 : 0 ≤ r) (hr1 : r < 2 ^ (kBits true c).toNat) (w : World) : Calls Try.prog 19 #[.int .i64 c, .int .u64 r, .bool true] w fun e w' =>
    e = .returned (.tuple #[.int .i64 (kFirst true c + r), .int .i64 0]) ∧ w = w' := by
  have hb := kBits_bd h0 h1
  have hfc := kFirst_bd h0 h1
  have hcN : c ≤ 44 := by have : kN true ≤ 44 := by decide
                          omega
  obtain ⟨n, hn⟩ : ∃ n, n = kBits true c := ⟨_, rfl⟩
  obtain ⟨M, hM⟩ : ∃ M : Int, M = 2 ^ n.toNat := ⟨_, rfl⟩
  obtain ⟨G, hG⟩ : ∃ G, kFirst true c = G := ⟨_, rfl⟩
  rw [← hn] at hb hr1 hfc
  rw [← hM] at hr1 hfc
  rw [hG] at hfc
  rw [hG]
  have hM1 : 1 ≤ M := by rw [hM]; exact Int.pow_pos (by decide)
  have hM2 : M ≤ 134217728 := by
    rw [hM]; exact two_pow27 (by omega)
  obtain ⟨hb0, hb1⟩ := hb
  obtain ⟨hfc0, hfc1⟩ := hfc
  have HM := Lib.hid hM
  have HNB := Lib.hid hn
  have H1 := Lib.hid h1
  have HG := Lib.hid hG
  clear hM hn h1 hG
  go_enter Try.func19, Try.ntmps19
  go_wp2_with (first
    | (go_at_call 17; refine (rBits_in true c h0 H1.out _).mono ?_; rw [← HNB.out]; rintro e w' ⟨rfl, rfl⟩)
    | (go_at_call 23; refine (rTwo_any n hb0 (by omega) _).mono ?_; rw [← HM.out]; rintro e w' ⟨rfl, rfl⟩))
  go_loop [9, 10] (fun l i => ∃ k F : Int, l = .int .i64 F ∧ i = .int .i64 k ∧ 0 ≤ k ∧ k ≤ c ∧ 0 ≤ F ∧ F ≤ 268435456 ∧ Hid (kFirst true k = F)) (fun _ i => (100 - intOf i).toNat)
  case atStart => exact ⟨0, 1, rfl, rfl, by omega, by omega, by omega, by omega, kFirst_zero true⟩
  case round =>
    obtain ⟨k, F, rfl, rfl, hk0, hkc, hF0, hF1, HF⟩ := hrel
    by_cases hlt : k < c
    · have hkN : k < kN true := Int.lt_trans hlt H1.out
      have hb := kBits_bd (off := true) hk0 hkN
      have hf := kFirst_bd (off := true) hk0 hkN
      have hnx := kFirst_next (off := true) hk0 hkN
      rw [HF.out] at hf hnx
      obtain ⟨m, hm⟩ : ∃ m, m = kBits true k := ⟨_, rfl⟩
      obtain ⟨T, hT⟩ : ∃ T : Int, T = 2 ^ m.toNat := ⟨_, rfl⟩
      rw [← hm] at hb hf hnx
      rw [← hT] at hf hnx
      have hT1 : 1 ≤ T := by rw [hT]; exact Int.pow_pos (by decide)
      obtain ⟨hb0', hb1'⟩ := hb
      obtain ⟨hf0, hf1⟩ := hf
      have HNX := Lib.hid hnx
      have HT := Lib.hid hT
      have HMB := Lib.hid hm
      have HKN := Lib.hid hkN
      clear hnx hT hm hkN
      go_wp2_with (first
        | (go_at_call 17; refine (rBits_in true k hk0 HKN.out _).mono ?_; rw [← HMB.out]; rintro e w' ⟨rfl, rfl⟩)
        | (go_at_call 23; refine (rTwo_any m hb0' (by omega) _).mono ?_; rw [← HT.out]; rintro e w' ⟨rfl, rfl⟩))
      go_round
      case rel => exact ⟨k + 1, F + T, by go_num, by go_num, by omega, by omega, by omega, by omega, HNX.out⟩
      case measure => simp [intOf]; omega
    · obtain rfl : k = c := by omega
      obtain rfl : F = G := HF.out.symm.trans HG.out
      go_wp2
      go_ret2
      exact ⟨rfl, rfl⟩
set_option maxHeartbeats 1600000 in
theorem rValue_in_false (c r : Int) (h0 : 0 ≤ c) (h1 : c < kN false) (hr0 : 0 ≤ r) (hr1 : r < 2 ^ (kBits false c).toNat) (w : World) : Calls Try.prog 19 #[.int .i64 c, .int .u64 r, .bool false] w fun e w' =>
    e = .returned (.tuple #[.int .i64 (kFirst false c + r), .int .i64 0]) ∧ w = w' := by
  have hb := kBits_bd h0 h1
  have hfc := kFirst_bd h0 h1
  have hcN : c ≤ 44 := by have : kN false ≤ 44 := by decide
                          omega
  obtain ⟨n, hn⟩ : ∃ n, n = kBits false c := ⟨_, rfl⟩
  obtain ⟨M, hM⟩ : ∃ M : Int, M = 2 ^ n.toNat := ⟨_, rfl⟩
  obtain ⟨G, hG⟩ : ∃ G, kFirst false c = G := ⟨_, rfl⟩
  rw [← hn] at hb hr1 hfc
  rw [← hM] at hr1 hfc
  rw [hG] at hfc
  rw [hG]
  have hM1 : 1 ≤ M := by rw [hM]; exact Int.pow_pos (by decide)
  have hM2 : M ≤ 134217728 := by
    rw [hM]; exact two_pow27 (by omega)
  obtain ⟨hb0, hb1⟩ := hb
  obtain ⟨hfc0, hfc1⟩ := hfc
  have HM := Lib.hid hM
  have HNB := Lib.hid hn
  have H1 := Lib.hid h1
  have HG := Lib.hid hG
  clear hM hn h1 hG
  go_enter Try.func19, Try.ntmps19
  go_wp2_with (first
    | (go_at_call 17; refine (rBits_in false c h0 H1.out _).mono ?_; rw [← HNB.out]; rintro e w' ⟨rfl, rfl⟩)
    | (go_at_call 23; refine (rTwo_any n hb0 (by omega) _).mono ?_; rw [← HM.out]; rintro e w' ⟨rfl, rfl⟩))
  go_loop [9, 10] (fun l i => ∃ k F : Int, l = .int .i64 F ∧ i = .int .i64 k ∧ 0 ≤ k ∧ k ≤ c ∧ 0 ≤ F ∧ F ≤ 268435456 ∧ Hid (kFirst false k = F)) (fun _ i => (100 - intOf i).toNat)
  case atStart => exact ⟨0, 0, rfl, rfl, by omega, by omega, by omega, by omega, kFirst_zero false⟩
  case round =>
    obtain ⟨k, F, rfl, rfl, hk0, hkc, hF0, hF1, HF⟩ := hrel
    by_cases hlt : k < c
    · have hkN : k < kN false := Int.lt_trans hlt H1.out
      have hb := kBits_bd (off := false) hk0 hkN
      have hf := kFirst_bd (off := false) hk0 hkN
      have hnx := kFirst_next (off := false) hk0 hkN
      rw [HF.out] at hf hnx
      obtain ⟨m, hm⟩ : ∃ m, m = kBits false k := ⟨_, rfl⟩
      obtain ⟨T, hT⟩ : ∃ T : Int, T = 2 ^ m.toNat := ⟨_, rfl⟩
      rw [← hm] at hb hf hnx
      rw [← hT] at hf hnx
      have hT1 : 1 ≤ T := by rw [hT]; exact Int.pow_pos (by decide)
      obtain ⟨hb0', hb1'⟩ := hb
      obtain ⟨hf0, hf1⟩ := hf
      have HNX := Lib.hid hnx
      have HT := Lib.hid hT
      have HMB := Lib.hid hm
      have HKN := Lib.hid hkN
      clear hnx hT hm hkN
      go_wp2_with (first
        | (go_at_call 17; refine (rBits_in false k hk0 HKN.out _).mono ?_; rw [← HMB.out]; rintro e w' ⟨rfl, rfl⟩)
        | (go_at_call 23; refine (rTwo_any m hb0' (by omega) _).mono ?_; rw [← HT.out]; rintro e w' ⟨rfl, rfl⟩))
      go_round
      case rel => exact ⟨k + 1, F + T, by go_num, by go_num, by omega, by omega, by omega, by omega, HNX.out⟩
      case measure => simp [intOf]; omega
    · obtain rfl : k = c := by omega
      obtain rfl : F = G := HF.out.symm.trans HG.out
      go_wp2
      go_ret2
      exact ⟨rfl, rfl⟩

theorem jOk_not {off : Bool} {c r : Int} (h : ¬ jOk off c r) : (c < 0 ∨ kN off ≤ c) ∨ (0 ≤ c ∧ c < kN off ∧ 2 ^ (kBits off c).toNat ≤ r) := by
  unfold jOk at h
  by_cases h0 : 0 ≤ c
  · by_cases h1 : c < kN off
    · exact Or.inr ⟨h0, h1, by omega⟩
    · exact Or.inl (Or.inr (by omega))
  · exact Or.inl (Or.inl (by omega))
theorem kIn_not {off : Bool} {v : Int} (h : ¬ kIn off v) : v < kLeast off ∨ kTop off ≤ v := by unfold kIn at h; omega
theorem ret_tup3 {a b c a' b' c' : Int} (h1 : a = a') (h2 : b = b') (h3 : c = c') : Ending.returned (.tuple #[.int .i64 a, .int .u64 b, .int .i64 c]) = .returned (.tuple #[.int .i64 a', .int .u64 b', .int .i64 c']) := by subst h1 h2 h3; rfl
theorem ret_tup2 {a b a' b' : Int} (h1 : a = a') (h2 : b = b') : Ending.returned (.tuple #[.int .i64 a, .int .i64 b]) = .returned (.tuple #[.int .i64 a', .int .i64 b']) := by subst h1 h2; rfl

theorem rValue_any (off : Bool) (c r : Int) (hr0 : 0 ≤ r) (w : World) : Calls Try.prog 19 #[.int .i64 c, .int .u64 r, .bool off] w fun e w' =>
    e = .returned (.tuple #[.int .i64 (jv off c r), .int .i64 (je off c r)]) ∧ w = w' := by
  by_cases h : jOk off c r
  · have e1 : jv off c r = kFirst off c + r := if_pos h
    have e2 : je off c r = 0 := if_pos h
    rw [e1, e2]
    cases off with
    | true => exact rValue_in_true c r h.1 h.2.1 hr0 h.2.2 w
    | false => exact rValue_in_false c r h.1 h.2.1 hr0 h.2.2 w
  · have e1 : jv off c r = 0 := if_neg h
    have e2 : je off c r = 2 := if_neg h
    rw [e1, e2]
    rcases jOk_not h with h | ⟨h0, h1, h2⟩
    · exact rValue_out off c r h w
    · exact rValue_big off c r h0 h1 hr0 h2 w
theorem split_any (v : Int) (w : World) : Calls Try.prog 11 #[.int .i64 v] w fun e w' => e = .returned (.tuple #[.int .i64 (kc false v), .int .u64 (kr false v), .int .i64 (ke false v)]) ∧ Below w.heap.size w w' := by
  by_cases h : kIn false v
  · refine (split_in v h.1 h.2 w).mono fun e w' ⟨he, hb⟩ => ⟨he.trans (ret_tup3 ?_ ?_ ?_), hb⟩
    · exact (if_pos h).symm
    · exact (if_pos h).symm
    · exact (if_pos h).symm
  · refine (split_out v (kIn_not h) w).mono fun e w' ⟨he, hb⟩ => ⟨he.trans (ret_tup3 ?_ ?_ ?_), hb⟩
    · exact (if_neg h).symm
    · exact (if_neg h).symm
    · exact (if_neg h).symm
theorem splitOff_any (v : Int) (w : World) : Calls Try.prog 13 #[.int .i64 v] w fun e w' => e = .returned (.tuple #[.int .i64 (kc true v), .int .u64 (kr true v), .int .i64 (ke true v)]) ∧ Below w.heap.size w w' := by
  by_cases h : kIn true v
  · refine (splitOff_in v h.1 h.2 w).mono fun e w' ⟨he, hb⟩ => ⟨he.trans (ret_tup3 ?_ ?_ ?_), hb⟩
    · exact (if_pos h).symm
    · exact (if_pos h).symm
    · exact (if_pos h).symm
  · refine (splitOff_out v (kIn_not h) w).mono fun e w' ⟨he, hb⟩ => ⟨he.trans (ret_tup3 ?_ ?_ ?_), hb⟩
    · exact (if_neg h).symm
    · exact (if_neg h).symm
    · exact (if_neg h).symm
theorem join_any (c r : Int) (hr0 : 0 ≤ r) (hr1 : r ≤ 18446744073709551615) (w : World) : Calls Try.prog 18 #[.int .i64 c, .int .u64 r] w fun e w' => e = .returned (.tuple #[.int .i64 (jv false c r), .int .i64 (je false c r)]) ∧ Below w.heap.size w w' := by
  by_cases h : jOk false c r
  · refine (join_in c r h.1 h.2.1 hr0 h.2.2 w).mono fun e w' ⟨he, hb⟩ => ⟨he.trans (ret_tup2 ?_ ?_), hb⟩
    · exact (if_pos h).symm
    · exact (if_pos h).symm
  · have e1 : (0 : Int) = jv false c r := (if_neg h).symm
    have e2 : (2 : Int) = je false c r := (if_neg h).symm
    rcases jOk_not h with h | ⟨h0, h1, h2⟩
    · exact (join_out c r h w).mono fun e w' ⟨he, hb⟩ => ⟨he.trans (ret_tup2 e1 e2), hb⟩
    · exact (join_big c r h0 h1 hr0 h2 hr1 w).mono fun e w' ⟨he, hb⟩ => ⟨he.trans (ret_tup2 e1 e2), hb⟩
theorem joinOff_any (c r : Int) (hr0 : 0 ≤ r) (hr1 : r ≤ 18446744073709551615) (w : World) : Calls Try.prog 20 #[.int .i64 c, .int .u64 r] w fun e w' => e = .returned (.tuple #[.int .i64 (jv true c r), .int .i64 (je true c r)]) ∧ Below w.heap.size w w' := by
  by_cases h : jOk true c r
  · refine (joinOff_in c r h.1 h.2.1 hr0 h.2.2 w).mono fun e w' ⟨he, hb⟩ => ⟨he.trans (ret_tup2 ?_ ?_), hb⟩
    · exact (if_pos h).symm
    · exact (if_pos h).symm
  · have e1 : (0 : Int) = jv true c r := (if_neg h).symm
    have e2 : (2 : Int) = je true c r := (if_neg h).symm
    rcases jOk_not h with h | ⟨h0, h1, h2⟩
    · exact (joinOff_out c r h w).mono fun e w' ⟨he, hb⟩ => ⟨he.trans (ret_tup2 e1 e2), hb⟩
    · exact (joinOff_big c r h0 h1 hr0 h2 hr1 w).mono fun e w' ⟨he, hb⟩ => ⟨he.trans (ret_tup2 e1 e2), hb⟩
end Go.Proofs.Ytdmnbmldhhgniaa
