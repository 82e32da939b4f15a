/-
  slices.Equal of bytes.
-/
import Derived.Test.YtamhkfnghgbenaaRows
import Derived.Test.YtamhkfnghgbenaaAppend
namespace Go.Proofs.Ytamhkfnghgbenaa
set_option linter.all false
open Go.RowKit

/-- Are two lists equal. -/
def listEq (xs ys : List Int) : Bool := decide (xs = ys)

theorem take_succ_eq' {xs ys : List Int} {k : Nat} {x : Int} (h : xs.take k = ys.take k) (ex : xs[k]? = some x) (ey : ys[k]? = some x) : xs.take (k + 1) = ys.take (k + 1) := by
  rw [List.take_add_one, List.take_add_one, h, ex, ey]

theorem drewN_addS (w : World) (m n : Nat) : (w.drewN m).drewN n = w.drewN (m + n) := by simp [World.drewN, Nat.add_assoc]

theorem slEq_any (w : World) (A A2 : Option Addr) (n n2 c c2 : Nat) (xs ys : List Int) (h1 : AtInts w .u8 A n xs) (h2 : AtInts w .u8 A2 n2 ys) (hn : n ≤ 9223372036854775807) (hn2 : n2 ≤ 9223372036854775807) :
    Calls Try.prog 35 #[.slice A n c, .slice A2 n2 c2] w fun e w' => e = .returned (.bool (listEq xs ys)) ∧ ∃ m, w' = w.drewN m := by
  have HX := Lib.hid h1
  have HY := Lib.hid h2
  have hnn : (n : Int) ≤ 9223372036854775807 := by omega
  have hnn2 : (n2 : Int) ≤ 9223372036854775807 := by omega
  clear h1 h2
  by_cases hne : n = n2
  · subst hne
    go_enter Try.func35, Try.ntmps35
    go_wp2
    go_loopw [13] (fun i wr => ∃ k : Nat, k ≤ n ∧ i = .int .i64 k ∧ Hid (xs.take k = ys.take k) ∧ ∃ m, wr = w.drewN m) (fun i _ => n - (intOf i).toNat)
    case atStart => exact ⟨0, Nat.zero_le _, rfl, (rfl : xs.take 0 = ys.take 0), 0, rfl⟩
    case round =>
      obtain ⟨k, hk, rfl, HE, m, rfl⟩ := hrel
      have k0 : (0 : Int) ≤ (k : Int) := by omega
      by_cases hlt : k < n
      · obtain ⟨b, off, x, rfl, hb, cx, EX⟩ := HX.out.at_ hlt
        obtain ⟨b2, off2, y, rfl, hb2, cy, EY⟩ := HY.out.at_ hlt
        have k1 : (k : Int) < (n : Int) := by omega
        by_cases hxy : x = y
        · subst hxy
          go_wp2
          go_quiet (fail)
          go_wp2
          go_roundw
          case rel => exact ⟨k + 1, by omega, by go_num, (take_succ_eq' HE.out EX.out EY.out : _ = _), _, rfl⟩
          case measure => simp [intOf]; omega
        · have hf : listEq xs ys = false := decide_eq_false (fun e => by rw [e] at EX; have := EX.out; rw [EY.out] at this; exact hxy (Option.some.inj this).symm)
          have HF := Lib.hid hf
          have hxyb : (x == y) = false := by simpa using hxy
          clear hf hxy
          go_wp2
          go_quiet (fail)
          go_wp2
          go_ret
          exact ⟨ret_bool HF.out.symm, _, drewN_addS _ _ _⟩
      · obtain rfl : k = n := by omega
        have ht : listEq xs ys = true := by
          have := HE.out
          rw [List.take_of_length_le (by rw [HX.out.1]; omega), List.take_of_length_le (by rw [HY.out.1]; omega)] at this
          exact decide_eq_true this
        have HT := Lib.hid ht
        clear ht
        go_wp2
        go_ret
        exact ⟨ret_bool HT.out.symm, _, rfl⟩
  · have hf : listEq xs ys = false := decide_eq_false (fun e => hne (by rw [← HX.out.1, ← HY.out.1, e]))
    rw [hf]
    have hb : (n == n2) = false := by simpa using hne
    have hb' : ¬ (n : Int) = (n2 : Int) := by omega
    clear hf
    go_enter Try.func35, Try.ntmps35
    go_wp2
    go_ret
    exact ⟨rfl, 0, rfl⟩

end Go.Proofs.Ytamhkfnghgbenaa
