/-
  norm.Check.
-/
import Derived.Test.YtkffhfdmdcecaaaSame
namespace Go.Proofs.Ytkffhfdmdcecaaa
open Go.RowKit

/-- The number of states of all norms. -/
def statesSum (xs : List Int) : Int := (xs.map fun x => (x.natAbs : Int)).sum
theorem statesSum_nil : statesSum [] = 0 := rfl
theorem statesSum_cons (x : Int) (xs : List Int) : statesSum (x :: xs) = x.natAbs + statesSum xs := by simp [statesSum]
theorem statesSum_append (xs ys : List Int) : statesSum (xs ++ ys) = statesSum xs + statesSum ys := by simp [statesSum, List.sum_append]
theorem statesSum_nonneg (xs : List Int) : 0 ≤ statesSum xs := by
  induction xs with
  | nil => simp [statesSum]
  | cons x xs ih => rw [statesSum_cons]; omega
theorem statesSum_take_succ {xs : List Int} {k : Nat} {x : Int} (h : xs[k]? = some x) : statesSum (xs.take (k + 1)) = statesSum (xs.take k) + x.natAbs := by
  rw [List.take_add_one, h, statesSum_append]; simp [statesSum]
theorem statesSum_take_le (xs : List Int) (k : Nat) : statesSum (xs.take k) ≤ statesSum xs := by
  have h := statesSum_append (xs.take k) (xs.drop k)
  rw [List.take_append_drop] at h
  have := statesSum_nonneg (xs.drop k)
  omega

/-- The table is valid for these bounds. -/
def Valid (log : Int) (xs : List Int) (symbols most : Int) : Prop :=
  0 ≤ log ∧ log ≤ most ∧ log ≤ 9 ∧ xs ≠ [] ∧ (xs.length : Int) ≤ symbols ∧ xs.getLast? ≠ some 0 ∧ (∀ x ∈ xs, -1 ≤ x) ∧ statesSum xs = 2 ^ log.toNat
instance (log : Int) (xs : List Int) (symbols most : Int) : Decidable (Valid log xs symbols most) := by unfold Valid; infer_instance
/-- Check's answer. -/
def chk (log : Int) (xs : List Int) (symbols most : Int) : Int := if Valid log xs symbols most then 0 else 13

theorem chk_13 {log : Int} {xs : List Int} {symbols most : Int} (h : ¬ Valid log xs symbols most) : chk log xs symbols most = 13 := if_neg h
theorem chk_0 {log : Int} {xs : List Int} {symbols most : Int} (h : Valid log xs symbols most) : chk log xs symbols most = 0 := if_pos h
theorem two_pow_le {log : Int} (h0 : 0 ≤ log) (h9 : log ≤ 9) : 1 ≤ (2 : Int) ^ log.toNat ∧ (2 : Int) ^ log.toNat ≤ 512 := by
  rcases (show log = 0 ∨ log = 1 ∨ log = 2 ∨ log = 3 ∨ log = 4 ∨ log = 5 ∨ log = 6 ∨ log = 7 ∨ log = 8 ∨ log = 9 by omega) with h | h | h | h | h | h | h | h | h | h <;> subst h <;> decide
theorem getLast?_of {xs : List Int} {n : Nat} (h : xs.length = n) : xs.getLast? = xs[n - 1]? := by
  rw [List.getLast?_eq_getElem?, h]

set_option maxHeartbeats 1600000 in
theorem check_any (log : Int) (v : Value) (xs : List Int) (symbols most : Int) (w : World) (hx : Ints w .i64 v xs) (hw : ∀ x ∈ xs, x ≤ 9223372036854775807) :
    Calls Try.prog 23 #[.agg #[.int .i64 log, v], .int .i64 symbols, .int .i64 most] w fun e w' =>
      e = .returned (.int .i64 (chk log xs symbols most)) ∧ Below w.heap.size w w' := by
  obtain ⟨A, n, c, rfl, hc, hm, hx⟩ := hx.get
  have HX := Lib.hid hx
  have HW := Lib.hid hw
  clear hx hw
  have hb1 : ∀ o, Below w.heap.size w (w.alloc o) := fun o => (Below.refl _ _).alloc (Nat.le_refl _) o
  have HB1 := Lib.hid hb1
  clear hb1
  obtain ⟨M, hM⟩ : ∃ M, (if (9 : Int) < most then 9 else most) = M := ⟨_, rfl⟩
  have hMl : log ≤ M ↔ log ≤ most ∧ log ≤ 9 := by rw [← hM]; split <;> omega
  have HML := Lib.hid hMl
  clear hMl
  by_cases h1 : log < 0
  · go_enter Try.func23, Try.ntmps23
    go_wp2
    go_ret
    exact ⟨ret_int (chk_13 fun h => by have := h.1; omega).symm, HB1.out _⟩
  by_cases h2 : M < log
  · go_enter Try.func23, Try.ntmps23
    go_wp2
    go_ret
    exact ⟨ret_int (chk_13 fun h => by have := HML.out.2 ⟨h.2.1, h.2.2.1⟩; omega).symm, HB1.out _⟩
  by_cases h4 : n = 0
  · subst h4
    go_enter Try.func23, Try.ntmps23
    go_wp2
    go_ret
    exact ⟨ret_int (chk_13 fun h => h.2.2.2.1 (List.eq_nil_of_length_eq_zero HX.out.1)).symm, HB1.out _⟩
  have h0 : ((n : Int) == 0) = false := by simp; omega
  by_cases h5 : symbols < (n : Int)
  · go_enter Try.func23, Try.ntmps23
    go_wp2
    go_ret
    exact ⟨ret_int (chk_13 fun h => by have := h.2.2.2.2.1; rw [HX.out.1] at this; omega).symm, HB1.out _⟩
  obtain ⟨b, off, x, rfl, hb, cx, EX⟩ := HX.out.at_ (i := n - 1) (by omega)
  by_cases hx0 : x = 0
  · subst hx0
    go_enter Try.func23, Try.ntmps23
    go_wp2
    go_ret
    exact ⟨ret_int (chk_13 fun h => h.2.2.2.2.2.1 (by rw [getLast?_of HX.out.1, EX.out])).symm, HB1.out _⟩
  have hx0' : (x == 0) = false := by simpa using hx0
  have h39 := HML.out.1 (by omega)
  obtain ⟨h3, h9⟩ := h39
  have H3 := Lib.hid h3
  have hS12 := two_pow_le (log := log) (by omega) h9
  obtain ⟨S, hS⟩ : ∃ S, (2 : Int) ^ log.toNat = S := ⟨_, rfl⟩
  rw [hS] at hS12
  obtain ⟨hS1, hS2⟩ := hS12
  have HS := Lib.hid hS
  have hl5 : (xs.length : Int) ≤ symbols := by rw [HX.out.1]; omega
  have HPRE : Hid (xs ≠ [] ∧ (xs.length : Int) ≤ symbols ∧ xs.getLast? ≠ some 0) := ⟨fun h => by have := HX.out.1; rw [h] at this; simp at this; omega, hl5, by rw [getLast?_of HX.out.1, EX.out]; simpa using hx0⟩
  clear hx0 hl5 hx
  go_enter Try.func23, Try.ntmps23
  go_wp2
  clear hS hM h3 h2 cx hx0' h0
  go_loop [7, 50] (fun l i => ∃ k : Nat, ∃ L : Int, k ≤ n ∧ i = .int .i64 k ∧ l = .int .i64 L ∧ 0 ≤ L ∧ L ≤ 512 ∧ Hid (L = S - statesSum (xs.take k)) ∧ Hid (∀ y ∈ xs.take k, -1 ≤ y)) (fun _ i => n - (intOf i).toNat)
  case atStart => exact ⟨0, S, Nat.zero_le _, rfl, rfl, by omega, hS2, show _ = _ by simp [statesSum], fun y hy => by simp at hy⟩
  case round =>
    obtain ⟨k, L, hk, rfl, rfl, hL0, hL5, HL, HA⟩ := hrel
    by_cases hlt : k < n
    · obtain ⟨b', off', y, e1, hb', cy, EY⟩ := HX.out.at_ hlt
      injection e1 with e1
      injection e1 with e1 e2
      subst e1 e2
      replace cy : ∀ o, (w.alloc o).cell? ⟨b, off + k, none⟩ = some (.int .i64 y) := fun o => (World.cell?_alloc_lt w _ _ hb).trans cy
      have hymem : y ∈ xs := List.mem_of_getElem? EY.out
      have hymax := HW.out y hymem
      have HYM := Lib.hid hymem
      clear hymem
      have h0 : (0 : Int) ≤ (k : Int) := by omega
      have h0' : (k : Int) < (n : Int) := by omega
      by_cases hy1 : y < -1
      · go_wp2
        go_ret
        exact ⟨ret_int (chk_13 fun h => by have := h.2.2.2.2.2.2.1 y HYM.out; omega).symm, HB1.out _⟩
      · by_cases hy2 : y = -1
        · subst hy2
          by_cases hgt : L < 1
          · go_wp2
            go_ret
            exact ⟨ret_int (chk_13 fun h => by
              have e := HL.out; have e2 := h.2.2.2.2.2.2.2; rw [HS.out] at e2
              have e3 := statesSum_take_succ EY.out; have e4 := statesSum_take_le xs (k + 1); simp at e3; omega).symm, HB1.out _⟩
          · go_wp2
            go_round
            case rel => exact ⟨k + 1, L - 1, by omega, by go_num, by go_num, by omega, by omega, (show _ = _ by have e := HL.out; have e3 := statesSum_take_succ EY.out; simp at e3; omega), fun z hz => by
              rw [List.take_add_one, EY.out] at hz; simp at hz; rcases hz with hz | hz
              · exact HA.out z hz
              · omega⟩
            case measure => simp [intOf]; omega
        · have hy3 : 0 ≤ y := by omega
          by_cases hgt : L < y
          · go_wp2
            go_ret
            exact ⟨ret_int (chk_13 fun h => by
              have e := HL.out; have e2 := h.2.2.2.2.2.2.2; rw [HS.out] at e2
              have e3 := statesSum_take_succ EY.out; have e4 := statesSum_take_le xs (k + 1); omega).symm, HB1.out _⟩
          · go_wp2
            go_round
            case rel => exact ⟨k + 1, L - y, by omega, by go_num, by go_num, by omega, by omega, (show _ = _ by have e := HL.out; have e3 := statesSum_take_succ EY.out; omega), fun z hz => by
              rw [List.take_add_one, EY.out] at hz; simp at hz; rcases hz with hz | hz
              · exact HA.out z hz
              · omega⟩
            case measure => simp [intOf]; omega
    · obtain rfl : k = n := by omega
      have hall : xs.take k = xs := List.take_of_length_le (by rw [HX.out.1]; omega)
      have HALL := Lib.hid hall
      clear hall
      by_cases hz : L = 0
      · subst hz
        go_wp2
        go_ret
        exact ⟨ret_int (chk_0 ⟨by omega, H3.out, h9, HPRE.out.1, HPRE.out.2.1, HPRE.out.2.2, fun z hz => HA.out z (by rw [HALL.out]; exact hz), by have e := HL.out; rw [HALL.out] at e; rw [HS.out]; omega⟩).symm, HB1.out _⟩
      · have hz' : (L != 0) = true := by simpa using hz
        go_wp2
        go_ret
        exact ⟨ret_int (chk_13 fun h => by have e := HL.out; rw [HALL.out] at e; have e2 := h.2.2.2.2.2.2.2; rw [HS.out] at e2; omega).symm, HB1.out _⟩
end Go.Proofs.Ytkffhfdmdcecaaa
