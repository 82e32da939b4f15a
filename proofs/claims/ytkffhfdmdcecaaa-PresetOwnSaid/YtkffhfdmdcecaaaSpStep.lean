/-
  spread.Step and the reference's Step.
-/
import Derived.Test.YtkffhfdmdcecaaaSpPlain
namespace Go.Proofs.Ytkffhfdmdcecaaa
open Go.RowKit

def stepI (n : Int) : Int := if n < 16 then 1 else if 512 < n then 323 else n / 2 + n / 8 + 3
theorem stepI_lo {n : Int} (h : n < 16) : 1 = stepI n := by unfold stepI; rw [if_pos h]
theorem stepI_hi {n : Int} (h : 512 < n) : 323 = stepI n := by unfold stepI; rw [if_neg (by omega), if_pos h]
theorem stepI_mid {n : Int} (h : 16 ≤ n) (h' : n ≤ 512) : n.tdiv 2 + n.tdiv 8 + 3 = stepI n := by
  unfold stepI; rw [if_neg (by omega), if_neg (by omega), Int.tdiv_eq_ediv_of_nonneg (by omega), Int.tdiv_eq_ediv_of_nonneg (by omega)]
theorem stepI_pow : ∀ m : Fin 10, stepI ((2 ^ m.1 : Nat) : Int) = (stepOf (2 ^ m.1) : Int) := by decide
theorem div_bounds {n : Int} (h : 16 ≤ n) (h' : n ≤ 512) : ∃ a b : Int, n.tdiv 2 = a ∧ n.tdiv 8 = b ∧ 0 ≤ a ∧ a ≤ 256 ∧ 0 ≤ b ∧ b ≤ 64 :=
  ⟨_, _, rfl, rfl, by rw [Int.tdiv_eq_ediv_of_nonneg (by omega)]; omega, by rw [Int.tdiv_eq_ediv_of_nonneg (by omega)]; omega, by rw [Int.tdiv_eq_ediv_of_nonneg (by omega)]; omega, by rw [Int.tdiv_eq_ediv_of_nonneg (by omega)]; omega⟩

set_option maxHeartbeats 400000 in
theorem step_any (n : Int) (w : World) : Calls Try.prog 56 #[.int .i64 n] w fun e w' => e = .returned (.int .i64 (stepI n)) ∧ w = w' := by
  by_cases h : n < 16
  · by_cases h1 : n < 1
    · have e1 : max n 1 = 1 := by omega
      go_enter Try.func56, Try.ntmps56
      go_wp2
      go_ret
      exact ⟨ret_int (stepI_lo h), rfl⟩
    · have e1 : max n 1 = n := by omega
      go_enter Try.func56, Try.ntmps56
      go_wp2
      go_ret
      exact ⟨ret_int (stepI_lo h), rfl⟩
  · by_cases h5 : 512 < n
    · go_enter Try.func56, Try.ntmps56
      go_wp2
      go_ret
      exact ⟨ret_int (stepI_hi h5), rfl⟩
    · obtain ⟨a, b, ha, hb, ha0, ha1, hb0, hb1⟩ := div_bounds (n := n) (by omega) (by omega)
      have HS : Hid (a + b + 3 = stepI n) := (by rw [← ha, ← hb]; exact stepI_mid (by omega) (by omega) : a + b + 3 = stepI n)
      go_enter Try.func56, Try.ntmps56
      go_wp2
      go_ret
      exact ⟨ret_int HS.out, rfl⟩

set_option maxHeartbeats 400000 in
theorem rstep_any (n : Int) (w : World) : Calls Try.prog 51 #[.int .i64 n] w fun e w' => e = .returned (.int .i64 (stepI n)) ∧ w = w' := by
  by_cases h : n < 16
  · go_enter Try.func51, Try.ntmps51
    go_wp2
    go_ret
    exact ⟨ret_int (stepI_lo h), rfl⟩
  · by_cases h5 : 512 < n
    · go_enter Try.func51, Try.ntmps51
      go_wp2
      go_ret
      exact ⟨ret_int (stepI_hi h5), rfl⟩
    · obtain ⟨a, b, ha, hb, ha0, ha1, hb0, hb1⟩ := div_bounds (n := n) (by omega) (by omega)
      have HS : Hid (a + b + 3 = stepI n) := (by rw [← ha, ← hb]; exact stepI_mid (by omega) (by omega) : a + b + 3 = stepI n)
      go_enter Try.func51, Try.ntmps51
      go_wp2
      go_ret
      exact ⟨ret_int HS.out, rfl⟩
end Go.Proofs.Ytkffhfdmdcecaaa
