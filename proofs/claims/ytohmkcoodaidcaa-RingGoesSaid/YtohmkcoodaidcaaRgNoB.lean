/-
  No ring: Byte.
-/
import Derived.Test.YtohmkcoodaidcaaRgNone
import Derived.Test.YtohmkcoodaidcaaRgBy
namespace Go.Proofs.Ytohmkcoodaidcaa
set_option maxRecDepth 100000
open Go.RowKit

theorem byte_no (w : World) {p : Value} (h : NoRing w p) (off : Int) : Calls Try.prog 29 #[p, .int .i64 off] w fun e w' => e = .returned (.tuple #[.int .u8 0, .bool false]) ∧ ∃ m, w' = w.drewN m := by
  have HN := Lib.hid h
  by_cases h1 : off < 1
  · go_enter Try.func29, Try.ntmps29
    go_wp2
    go_ret2
    exact ⟨rfl, 0, rfl⟩
  · have h2 : 0 < off := by omega
    go_enter Try.func29, Try.ntmps29
    go_wp2_with (go_at_call 13; refine (len_no _ HN.out).mono ?_; rintro e w1 ⟨rfl, rfl⟩)
    go_ret2
    exact ⟨rfl, 0, rfl⟩
end Go.Proofs.Ytohmkcoodaidcaa
