/-
  Bytes as strings; the reference's Same.
-/
import Derived.Test.YtohmkcoodaidcaaRfCopy
import Derived.Test.YtohmkcoodaidcaaRfLast
import Derived.Test.YtohmkcoodaidcaaBytes
namespace Go.Proofs.Ytohmkcoodaidcaa
open Go.RowKit

theorem refSame_any (w : World) (S S' : Nat) (cv cv' : Value) (T T' : Nat) (C C' : List Int) (hC : Ints w .u8 cv C) (hC' : Ints w .u8 cv' C') (hu : U8s C) (hu' : U8s C') :
    Calls Try.prog 25 #[rv S cv T, rv S' cv' T'] w fun e w' => e = .returned (.bool (decide (S = S') && listEq C C')) ∧ Below w.heap.size w w' := by
  obtain ⟨A, n, c, rfl, -⟩ := hC.get
  obtain ⟨A', n', c', rfl, -⟩ := hC'.get
  have HB := Lib.hid (((Below.refl w.heap.size w).alloc (Nat.le_refl _) (.cells #[.int .i64 S, .slice A n c, .int .i64 T] 36)).alloc (by simp) (.cells #[.int .i64 S', .slice A' n' c', .int .i64 T'] 36))
  have q1 := conv_str (hC.alloc2 (.cells #[.int .i64 S, .slice A n c, .int .i64 T] 36) (.cells #[.int .i64 S', .slice A' n' c', .int .i64 T'] 36))
  have q2 := conv_str (hC'.alloc2 (.cells #[.int .i64 S, .slice A n c, .int .i64 T] 36) (.cells #[.int .i64 S', .slice A' n' c', .int .i64 T'] 36))
  have HEQ := Lib.hid (str_beq hu hu')
  clear hC hC' hu hu'
  unfold rv
  by_cases hS : S = S'
  · subst hS
    go_enter Try.func25, Try.ntmps25
    go_wp2
    go_ret
    exact ⟨ret_bool (by rw [← HEQ.out]; simp), HB.out⟩
  · have h1 : ((S : Int) == (S' : Int)) = false := by simp; omega
    have hd : decide (S = S') = false := decide_eq_false hS
    have HD := Lib.hid hd
    clear hd hS
    go_enter Try.func25, Try.ntmps25
    go_wp2
    go_ret
    exact ⟨ret_bool (by rw [HD.out]; rfl), HB.out⟩
end Go.Proofs.Ytohmkcoodaidcaa
