/-
  norm tables compared (the reference's Same).
-/
import Derived.Test.YtkffhfdmdcecaaaRows
import Derived.Test.YtkffhfdmdcecaaaBase
namespace Go.Proofs.Ytkffhfdmdcecaaa
open Go.RowKit

theorem take_succ_eq {xs ys : List Int} {k : Nat} {x : Int} (h : xs.take k = ys.take k) (ex : xs[k]? = some x) (ey : ys[k]? = some x) :
    xs.take (k + 1) = ys.take (k + 1) := by
  rw [List.take_add_one, List.take_add_one, h, ex, ey]

/-- The tables (la, xs) and (lb, ys) are equal. -/
def tabEq (la lb : Int) (xs ys : List Int) : Bool := decide (la = lb ∧ xs = ys)

set_option maxHeartbeats 400000 in
theorem same_any (la lb : Int) (va vb : Value) (xs ys : List Int) (w : World) (hx : Ints w .i64 va xs) (hy : Ints w .i64 vb ys) :
    Calls Try.prog 11 #[.agg #[.int .i64 la, va], .agg #[.int .i64 lb, vb]] w fun e w' =>
      e = .returned (.bool (tabEq la lb xs ys)) ∧ Below w.heap.size w w' := by
  obtain ⟨A, n, c, rfl, hc, hm, hx⟩ := hx.get
  obtain ⟨A', n', c', rfl, hc', hm', hy⟩ := hy.get
  have HX := Lib.hid hx
  have HY := Lib.hid hy
  clear hx hy
  by_cases h1 : la = lb
  · subst h1
    by_cases h2 : n = n'
    · subst h2
      go_enter Try.func11, Try.ntmps11
      go_wp2
      go_loopw [5] (fun i wr => ∃ k : Nat, k ≤ n ∧ i = .int .i64 k ∧ Hid (xs.take k = ys.take k) ∧ Below w.heap.size w wr ∧ wr.cell? ⟨w.heap.size, 1, none⟩ = some (.slice A n c) ∧ wr.cell? ⟨w.heap.size + 1, 1, none⟩ = some (.slice A' n c')) (fun i _ => n - (intOf i).toNat)
      case atStart => exact ⟨0, Nat.zero_le _, rfl, rfl, ((Below.refl _ _).alloc (Nat.le_refl _) _).alloc (by simp) _, by go_simp, by go_simp⟩
      case round =>
        obtain ⟨k, hk, rfl, HT, hB, hc1, hc2⟩ := hrel
        by_cases hlt : k < n
        · obtain ⟨b, off, x, rfl, hb, cx, EX⟩ := HX.out.at_ hlt
          obtain ⟨b', off', y, rfl, hb', cy, EY⟩ := HY.out.at_ hlt
          replace cx := (hB.cell hb).trans cx
          replace cy := (hB.cell hb').trans cy
          have h0 : (0 : Int) ≤ (k : Int) := by omega
          have h0' : (k : Int) < (n : Int) := by omega
          by_cases hxy : x = y
          · subst hxy
            go_wp2
            go_quiet (fail)
            go_wp2
            go_roundw
            case rel => exact ⟨k + 1, by omega, by go_num, take_succ_eq HT.out EX.out EY.out, below_drewN hB _, hc1, hc2⟩
            case measure => simp [intOf]; omega
          · have hne : (x != y) = true := by simpa using hxy
            go_wp2
            go_quiet (fail)
            go_wp2
            go_ret
            refine ⟨ret_bool (decide_eq_false ?_).symm, below_drewN hB _⟩
            rintro ⟨-, rfl⟩
            exact hxy (by have := EX.out.symm.trans EY.out; simpa using this)
        · go_wp2
          go_ret
          refine ⟨ret_bool (decide_eq_true ⟨rfl, ?_⟩).symm, hB⟩
          have h1 := HT.out
          rwa [List.take_of_length_le (by rw [HX.out.1]; omega), List.take_of_length_le (by rw [HY.out.1]; omega)] at h1
    · have hne : ((n : Int) != (n' : Int)) = true := by simp; omega
      go_enter Try.func11, Try.ntmps11
      go_wp2
      go_ret
      refine ⟨ret_bool (decide_eq_false ?_).symm, ((Below.refl _ _).alloc (Nat.le_refl _) _).alloc (by simp) _⟩
      rintro ⟨-, rfl⟩
      exact h2 (HX.out.1.symm.trans HY.out.1)
  · have hne : (la != lb) = true := by simpa using h1
    go_enter Try.func11, Try.ntmps11
    go_wp2
    go_ret
    refine ⟨ret_bool (decide_eq_false ?_).symm, ((Below.refl _ _).alloc (Nat.le_refl _) _).alloc (by simp) _⟩
    rintro ⟨h, -⟩
    exact h1 h

theorem same_true (l : Int) (va vb : Value) (xs : List Int) (w : World) (hx : Ints w .i64 va xs) (hy : Ints w .i64 vb xs) :
    Calls Try.prog 11 #[.agg #[.int .i64 l, va], .agg #[.int .i64 l, vb]] w fun e w' =>
      e = .returned (.bool true) ∧ Below w.heap.size w w' :=
  (same_any l l va vb xs xs w hx hy).mono fun _ _ ⟨he, hb⟩ => ⟨he.trans (ret_bool (decide_eq_true ⟨rfl, rfl⟩)), hb⟩
end Go.Proofs.Ytkffhfdmdcecaaa
