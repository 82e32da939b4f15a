/-
  The reference of norm: States, Size, May.
-/
import Derived.Test.YtkffhfdmdcecaaaNormCheck
namespace Go.Proofs.Ytkffhfdmdcecaaa
open Go.RowKit

set_option maxHeartbeats 400000 in
theorem states_any (n : Int) (w : World) (hn : -1 ≤ n) : Calls Try.prog 30 #[.int .i64 n] w fun e w' => e = .returned (.int .i64 n.natAbs) ∧ w = w' := by
  by_cases h : n = -1
  · subst h
    go_enter Try.func30, Try.ntmps30
    go_wp2
    go_ret
    exact ⟨rfl, rfl⟩
  · have h' : (n == -1) = false := by simpa using h
    have e : n = (n.natAbs : Int) := by omega
    have E := Lib.hid e
    clear e
    go_enter Try.func30, Try.ntmps30
    go_wp2
    go_ret
    exact ⟨ret_int E.out, rfl⟩
set_option maxHeartbeats 400000 in
theorem size_out (n : Int) (h : n < 0 ∨ 20 < n) (w : World) : Calls Try.prog 29 #[.int .i64 n] w fun e w' => e = .returned (.int .i64 0) ∧ w = w' := by
  rcases h with h | h
  · go_enter Try.func29, Try.ntmps29
    go_wp2
    go_ret
    exact ⟨rfl, rfl⟩
  · have h' : ¬ n < 0 := by omega
    go_enter Try.func29, Try.ntmps29
    go_wp2
    go_ret
    exact ⟨rfl, rfl⟩
set_option maxHeartbeats 400000 in
theorem size_in (n : Int) (h0 : 0 ≤ n) (h1 : n ≤ 20) (w : World) : Calls Try.prog 29 #[.int .i64 n] w fun e w' => e = .returned (.int .i64 (2 ^ n.toNat)) ∧ w = w' := by
  obtain ⟨m, rfl⟩ := Int.eq_ofNat_of_zero_le h0
  go_enter Try.func29, Try.ntmps29
  go_wp2
  go_loop [3, 4] (fun x i => ∃ (k : Nat) (X : Int), k ≤ m ∧ i = .int .i64 k ∧ x = .int .i64 X ∧ 0 ≤ X ∧ X ≤ 1048576 ∧ Hid (X = 2 ^ k)) (fun _ i => m - (intOf i).toNat)
  case atStart => exact ⟨0, 1, Nat.zero_le _, rfl, rfl, by omega, by omega, rfl⟩
  case round =>
    obtain ⟨k, X, hk, rfl, rfl, hX0, hX1, HX⟩ := hrel
    by_cases hlt : k < m
    · have hX2 : X ≤ 524288 := by
        rw [HX.out]
        have h1 : ((2 ^ k : Nat) : Int) ≤ ((2 ^ 19 : Nat) : Int) := Int.ofNat_le.2 (Nat.pow_le_pow_right (by decide) (by omega))
        rw [Int.natCast_pow, Int.natCast_pow] at h1
        exact Int.le_trans h1 (by decide)
      go_wp2
      go_round
      case rel => exact ⟨k + 1, 2 * X, by omega, by go_num, by go_num, by omega, by omega, show _ = _ by rw [HX.out, Int.pow_succ, Int.mul_comm]⟩
      case measure => simp [intOf]; omega
    · obtain rfl : k = m := by omega
      go_wp2
      go_ret
      exact ⟨ret_int (by rw [HX.out]), rfl⟩

set_option maxHeartbeats 1600000 in
theorem may_any (log : Int) (v : Value) (xs : List Int) (symbols most : Int) (w : World) (hx : Ints w .i64 v xs) :
    Calls Try.prog 50 #[.agg #[.int .i64 log, v], .int .i64 symbols, .int .i64 most] w fun e w' =>
      e = .returned (.int .i64 (chk log xs symbols most)) ∧ Below w.heap.size w w' := by
  obtain ⟨A, n, c, rfl, hc, hm, hx⟩ := hx.get
  have HX := Lib.hid hx
  clear hx
  have hb1 : ∀ o, Below w.heap.size w (w.alloc o) := fun o => (Below.refl _ _).alloc (Nat.le_refl _) o
  have HB1 := Lib.hid hb1
  clear hb1
  by_cases h1 : log < 0
  · go_enter Try.func50, Try.ntmps50
    go_wp2
    go_ret
    exact ⟨ret_int (chk_13 fun h => by have := h.1; omega).symm, HB1.out _⟩
  by_cases h2 : most < log
  · go_enter Try.func50, Try.ntmps50
    go_wp2
    go_ret
    exact ⟨ret_int (chk_13 fun h => by have := h.2.1; omega).symm, HB1.out _⟩
  by_cases h9 : 9 < log
  · go_enter Try.func50, Try.ntmps50
    go_wp2
    go_ret
    exact ⟨ret_int (chk_13 fun h => by have := h.2.2.1; omega).symm, HB1.out _⟩
  by_cases h4 : n = 0
  · subst h4
    go_enter Try.func50, Try.ntmps50
    go_wp2
    go_ret
    exact ⟨ret_int (chk_13 fun h => h.2.2.2.1 (List.eq_nil_of_length_eq_zero HX.out.1)).symm, HB1.out _⟩
  have hn1 : ¬ (n : Int) < 1 := by omega
  by_cases h5 : symbols < (n : Int)
  · go_enter Try.func50, Try.ntmps50
    go_wp2
    go_ret
    exact ⟨ret_int (chk_13 fun h => by have := h.2.2.2.2.1; rw [HX.out.1] at this; omega).symm, HB1.out _⟩
  obtain ⟨b, off, x, rfl, hb, cx, EX⟩ := HX.out.at_ (i := n - 1) (by omega)
  by_cases hx0 : x = 0
  · subst hx0
    go_enter Try.func50, Try.ntmps50
    go_wp2
    go_ret
    exact ⟨ret_int (chk_13 fun h => h.2.2.2.2.2.1 (by rw [getLast?_of HX.out.1, EX.out])).symm, HB1.out _⟩
  have hx0' : (x == 0) = false := by simpa using hx0
  have hS12 := two_pow_le (log := log) (by omega) (by omega)
  obtain ⟨S, hS⟩ : ∃ S, (2 : Int) ^ log.toNat = S := ⟨_, rfl⟩
  rw [hS] at hS12
  obtain ⟨hS1, hS2⟩ := hS12
  have HS := Lib.hid hS
  have hl5 : (xs.length : Int) ≤ symbols := by rw [HX.out.1]; omega
  have HPRE : Hid (xs ≠ [] ∧ (xs.length : Int) ≤ symbols ∧ xs.getLast? ≠ some 0) := ⟨fun h => by have := HX.out.1; rw [h] at this; simp at this; omega, hl5, by rw [getLast?_of HX.out.1, EX.out]; simpa using hx0⟩
  clear hx0 hl5 hx hS
  go_enter Try.func50, Try.ntmps50
  go_wp2
  clear cx hx0'
  go_loop [7, 8] (fun l i => ∃ k : Nat, ∃ L : Int, k ≤ n ∧ i = .int .i64 k ∧ l = .int .i64 L ∧ 0 ≤ L ∧ L ≤ 1024 ∧ Hid (L = statesSum (xs.take k)) ∧ Hid (∀ y ∈ xs.take k, -1 ≤ y)) (fun _ i => n - (intOf i).toNat)
  case atStart => exact ⟨0, 0, Nat.zero_le _, rfl, rfl, by omega, by omega, show _ = _ by simp [statesSum], fun y hy => by simp at hy⟩
  case round =>
    obtain ⟨k, L, hk, rfl, rfl, hL0, hL5, HL, HA⟩ := hrel
    by_cases hlt : k < n
    · obtain ⟨b', off', y, e1, hb', cy, EY⟩ := HX.out.at_ hlt
      injection e1 with e1
      injection e1 with e1 e2
      subst e1 e2
      replace cy : ∀ o, (w.alloc o).cell? ⟨b, off + k, none⟩ = some (.int .i64 y) := fun o => (World.cell?_alloc_lt w _ _ hb).trans cy
      have hymem : y ∈ xs := List.mem_of_getElem? EY.out
      have HYM := Lib.hid hymem
      clear hymem
      have h0 : (0 : Int) ≤ (k : Int) := by omega
      have h0' : (k : Int) < (n : Int) := by omega
      by_cases hy1 : y < -1
      · go_wp2
        go_ret
        exact ⟨ret_int (chk_13 fun h => by have := h.2.2.2.2.2.2.1 y HYM.out; omega).symm, HB1.out _⟩
      · by_cases hy5 : 512 < y
        · go_wp2
          go_ret
          exact ⟨ret_int (chk_13 fun h => by
            have e2 := h.2.2.2.2.2.2.2; rw [HS.out] at e2
            have e3 := statesSum_take_succ EY.out; have e4 := statesSum_take_le xs (k + 1); have e5 := statesSum_nonneg (xs.take k); omega).symm, HB1.out _⟩
        · by_cases hL : 512 < L
          · go_wp2
            go_ret
            exact ⟨ret_int (chk_13 fun h => by
              have e2 := h.2.2.2.2.2.2.2; rw [HS.out] at e2
              have e4 := statesSum_take_le xs k; have e5 := HL.out; omega).symm, HB1.out _⟩
          · have hst : Hid (L + (y.natAbs : Int) = statesSum (xs.take (k + 1)) ∧ ∀ z ∈ xs.take (k + 1), -1 ≤ z) := by
              refine ⟨by rw [statesSum_take_succ EY.out, HL.out], fun z hz => ?_⟩
              rw [List.take_add_one, EY.out] at hz; simp at hz; rcases hz with hz | hz
              · exact HA.out z hz
              · omega
            obtain ⟨a, ha⟩ : ∃ a : Int, a = (y.natAbs : Int) := ⟨_, rfl⟩
            have ha0 : 0 ≤ a := by omega
            have ha1 : a ≤ 512 := by omega
            have HAA := Lib.hid ha
            clear ha
            go_wp2_with (go_at_call 30; refine (states_any y _ (by omega)).mono ?_; rw [← HAA.out]; rintro e w' ⟨rfl, rfl⟩)
            go_round
            case rel => exact ⟨k + 1, L + a, by omega, by go_num, by go_num, by omega, by omega, (show _ = _ by rw [← hst.out.1, HAA.out]), hst.out.2⟩
            case measure => simp [intOf]; omega
    · obtain rfl : k = n := by omega
      have hall : xs.take k = xs := List.take_of_length_le (by rw [HX.out.1]; omega)
      have HALL := Lib.hid hall
      clear hall
      by_cases hz : L = S
      · subst hz
        go_wp2_with (go_at_call 29; refine (size_in log (by omega) (by omega) _).mono ?_; rw [HS.out]; rintro e w' ⟨rfl, rfl⟩)
        go_ret
        exact ⟨ret_int (chk_0 ⟨by omega, by omega, by omega, HPRE.out.1, HPRE.out.2.1, HPRE.out.2.2, fun z hz => HA.out z (by rw [HALL.out]; exact hz), by have e := HL.out; rw [HALL.out] at e; rw [HS.out]; omega⟩).symm, HB1.out _⟩
      · have hz' : (L != S) = true := by simpa using hz
        go_wp2_with (go_at_call 29; refine (size_in log (by omega) (by omega) _).mono ?_; rw [HS.out]; rintro e w' ⟨rfl, rfl⟩)
        go_ret
        exact ⟨ret_int (chk_13 fun h => by have e := HL.out; rw [HALL.out] at e; have e2 := h.2.2.2.2.2.2.2; rw [HS.out] at e2; omega).symm, HB1.out _⟩
end Go.Proofs.Ytkffhfdmdcecaaa
