/-
  code: Split and SplitOffset.
-/
import Derived.Test.YtkffhfdmdcecaaaCodeOf
import Derived.Test.YtkffhfdmdcecaaaKind
namespace Go.Proofs.Ytkffhfdmdcecaaa
open Go.RowKit

set_option maxHeartbeats 400000 in
theorem split_in (v : Int) (h0 : 0 ≤ v) (h1 : v < 262144) (w : World) : Calls Try.prog 24 #[.int .i64 v] w fun e w' => e = .returned (.tuple #[.int .i64 (lcode v), .int .u64 (v - lfirst (lcode v)), .int .i64 0]) ∧ Below w.heap.size w w' := by
  go_enter Try.func24, Try.ntmps24
  go_wp2_with fail
  refine (numbers_any _).mono ?_
  rintro e w1 ⟨rfl, hb, hb1, -⟩
  have HB := Lib.hid hb
  have HB1 := Lib.hid hb1
  clear hb hb1
  go_wp2_with fail
  refine (of_num v h0 h1 (w.heap.size + 1) _ HB.out).mono ?_
  rintro e w2 ⟨rfl, hb2⟩
  have HB2 := Lib.hid (HB1.out.trans (hb2.mono HB1.out.size))
  clear hb2
  go_wp2
  go_ret3
  exact ⟨rfl, HB2.out⟩
set_option maxHeartbeats 400000 in
theorem split_out (v : Int) (h : v < 0 ∨ 262144 ≤ v) (w : World) : Calls Try.prog 24 #[.int .i64 v] w fun e w' => e = .returned (.tuple #[.int .i64 0, .int .u64 0, .int .i64 2]) ∧ Below w.heap.size w w' := by
  go_enter Try.func24, Try.ntmps24
  go_wp2_with fail
  refine (numbers_any _).mono ?_
  rintro e w1 ⟨rfl, hb, hb1, -⟩
  have HB := Lib.hid hb
  have HB1 := Lib.hid hb1
  clear hb hb1
  go_wp2_with fail
  refine (of_num_out v h (w.heap.size + 1) _ ).mono ?_
  rintro e w2 ⟨rfl, hb2⟩
  have HB2 := Lib.hid (HB1.out.trans (hb2.mono HB1.out.size))
  clear hb2
  go_wp2
  go_ret3
  exact ⟨rfl, HB2.out⟩
set_option maxHeartbeats 400000 in
theorem splitOff_in (v : Int) (h0 : 1 ≤ v) (h1 : v < 268435456) (w : World) : Calls Try.prog 25 #[.int .i64 v] w fun e w' => e = .returned (.tuple #[.int .i64 (ocode v), .int .u64 (v - ofirst (ocode v)), .int .i64 0]) ∧ Below w.heap.size w w' := by
  go_enter Try.func25, Try.ntmps25
  go_wp2_with fail
  refine (offsets_any _).mono ?_
  rintro e w1 ⟨rfl, hb1⟩
  have HB1 := Lib.hid hb1
  clear hb1
  go_wp2_with fail
  refine (of_off v h0 h1 _).mono ?_
  rintro e w2 ⟨rfl, hb2⟩
  have HB2 := Lib.hid (HB1.out.trans (hb2.mono HB1.out.size))
  clear hb2
  go_wp2
  go_ret3
  exact ⟨rfl, HB2.out⟩
set_option maxHeartbeats 400000 in
theorem splitOff_out (v : Int) (h : v < 1 ∨ 268435456 ≤ v) (w : World) : Calls Try.prog 25 #[.int .i64 v] w fun e w' => e = .returned (.tuple #[.int .i64 0, .int .u64 0, .int .i64 2]) ∧ Below w.heap.size w w' := by
  go_enter Try.func25, Try.ntmps25
  go_wp2_with fail
  refine (offsets_any _).mono ?_
  rintro e w1 ⟨rfl, hb1⟩
  have HB1 := Lib.hid hb1
  clear hb1
  go_wp2_with fail
  refine (of_off_out v h _).mono ?_
  rintro e w2 ⟨rfl, hb2⟩
  have HB2 := Lib.hid (HB1.out.trans (hb2.mono HB1.out.size))
  clear hb2
  go_wp2
  go_ret3
  exact ⟨rfl, HB2.out⟩
end Go.Proofs.Ytkffhfdmdcecaaa
