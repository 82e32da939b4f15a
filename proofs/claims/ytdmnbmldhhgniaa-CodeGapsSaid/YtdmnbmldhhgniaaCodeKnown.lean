/-
  code: the chapter's examples.
-/
import Derived.Test.YtdmnbmldhhgniaaCodeAny
namespace Go.Proofs.Ytdmnbmldhhgniaa
open Go.RowKit

set_option maxHeartbeats 400000 in
theorem is_true (v c r : Int) (h1 : kc false v = c) (h2 : kr false v = r) (h3 : ke false v = 0) (w : World) : Calls Try.prog 25 #[.int .i64 v, .int .i64 c, .int .u64 r] w fun e w' => e = .returned (.bool true) ∧ Below w.heap.size w w' := by
  have H1 := Lib.hid h1
  have H2 := Lib.hid h2
  have H3 := Lib.hid h3
  clear h1 h2 h3
  go_enter Try.func25, Try.ntmps25
  go_wp2_with (go_at_call 11; refine (split_any v _).mono ?_; rw [H1.out, H2.out, H3.out]; rintro e w' ⟨rfl, hb⟩; have HB := Lib.hid hb; clear hb)
  go_ret
  exact ⟨rfl, HB.out⟩

set_option maxHeartbeats 400000 in
theorem off_true (v c r : Int) (h1 : kc true v = c) (h2 : kr true v = r) (h3 : ke true v = 0) (w : World) : Calls Try.prog 26 #[.int .i64 v, .int .i64 c, .int .u64 r] w fun e w' => e = .returned (.bool true) ∧ Below w.heap.size w w' := by
  have H1 := Lib.hid h1
  have H2 := Lib.hid h2
  have H3 := Lib.hid h3
  clear h1 h2 h3
  go_enter Try.func26, Try.ntmps26
  go_wp2_with (go_at_call 13; refine (splitOff_any v _).mono ?_; rw [H1.out, H2.out, H3.out]; rintro e w' ⟨rfl, hb⟩; have HB := Lib.hid hb; clear hb)
  go_ret
  exact ⟨rfl, HB.out⟩

set_option maxHeartbeats 1600000 in
theorem known_any (w : World) : Calls Try.prog 14 #[] w fun e w' => e = .returned (.bool true) ∧ Below w.heap.size w w' := by
  go_enter Try.func14, Try.ntmps14
  go_wp2_with fail
  refine (split_any 262144 _).mono ?_
  rw [show kc false 262144 = 0 from by decide, show kr false 262144 = 0 from by decide, show ke false 262144 = 2 from by decide]
  rintro e w1 ⟨rfl, hb1⟩
  have HB1 := Lib.hid hb1
  clear hb1
  go_wp2_with fail
  refine (splitOff_any 0 _).mono ?_
  rw [show kc true 0 = 0 from by decide, show kr true 0 = 0 from by decide, show ke true 0 = 2 from by decide]
  rintro e w2 ⟨rfl, hb2⟩
  have HB2 := Lib.hid (HB1.out.trans (hb2.mono HB1.out.size))
  clear hb2 HB1
  go_wp2_with fail
  refine (is_true 0 0 0 (by decide +kernel) (by decide +kernel) (by decide +kernel) _).mono ?_
  rintro e w3 ⟨rfl, hb⟩
  have HB3 := Lib.hid (HB2.out.trans (hb.mono HB2.out.size))
  clear hb HB2
  go_wp2_with fail
  refine (is_true 15 15 0 (by decide +kernel) (by decide +kernel) (by decide +kernel) _).mono ?_
  rintro e w4 ⟨rfl, hb⟩
  have HB4 := Lib.hid (HB3.out.trans (hb.mono HB3.out.size))
  clear hb HB3
  go_wp2_with fail
  refine (is_true 16 16 0 (by decide +kernel) (by decide +kernel) (by decide +kernel) _).mono ?_
  rintro e w5 ⟨rfl, hb⟩
  have HB5 := Lib.hid (HB4.out.trans (hb.mono HB4.out.size))
  clear hb HB4
  go_wp2_with fail
  refine (is_true 23 16 7 (by decide +kernel) (by decide +kernel) (by decide +kernel) _).mono ?_
  rintro e w6 ⟨rfl, hb⟩
  have HB6 := Lib.hid (HB5.out.trans (hb.mono HB5.out.size))
  clear hb HB5
  go_wp2_with fail
  refine (is_true 24 17 0 (by decide +kernel) (by decide +kernel) (by decide +kernel) _).mono ?_
  rintro e w7 ⟨rfl, hb⟩
  have HB7 := Lib.hid (HB6.out.trans (hb.mono HB6.out.size))
  clear hb HB6
  go_wp2_with fail
  refine (is_true 100 21 4 (by decide +kernel) (by decide +kernel) (by decide +kernel) _).mono ?_
  rintro e w8 ⟨rfl, hb⟩
  have HB8 := Lib.hid (HB7.out.trans (hb.mono HB7.out.size))
  clear hb HB7
  go_wp2_with fail
  refine (is_true 131072 42 0 (by decide +kernel) (by decide +kernel) (by decide +kernel) _).mono ?_
  rintro e w9 ⟨rfl, hb⟩
  have HB9 := Lib.hid (HB8.out.trans (hb.mono HB8.out.size))
  clear hb HB8
  go_wp2_with fail
  refine (is_true 262143 43 65535 (by decide +kernel) (by decide +kernel) (by decide +kernel) _).mono ?_
  rintro e w10 ⟨rfl, hb⟩
  have HB10 := Lib.hid (HB9.out.trans (hb.mono HB9.out.size))
  clear hb HB9
  go_wp2_with fail
  refine (off_true 1 0 0 (by decide +kernel) (by decide +kernel) (by decide +kernel) _).mono ?_
  rintro e w11 ⟨rfl, hb⟩
  have HB11 := Lib.hid (HB10.out.trans (hb.mono HB10.out.size))
  clear hb HB10
  go_wp2_with fail
  refine (off_true 3 1 1 (by decide +kernel) (by decide +kernel) (by decide +kernel) _).mono ?_
  rintro e w12 ⟨rfl, hb⟩
  have HB12 := Lib.hid (HB11.out.trans (hb.mono HB11.out.size))
  clear hb HB11
  go_wp2_with fail
  refine (off_true 4 2 0 (by decide +kernel) (by decide +kernel) (by decide +kernel) _).mono ?_
  rintro e w13 ⟨rfl, hb⟩
  have HB13 := Lib.hid (HB12.out.trans (hb.mono HB12.out.size))
  clear hb HB12
  go_wp2_with fail
  refine (off_true 268435455 27 134217727 (by decide +kernel) (by decide +kernel) (by decide +kernel) _).mono ?_
  rintro e w14 ⟨rfl, hb⟩
  have HB14 := Lib.hid (HB13.out.trans (hb.mono HB13.out.size))
  clear hb HB13
  go_wp2
  go_ret
  exact ⟨rfl, HB14.out⟩
end Go.Proofs.Ytdmnbmldhhgniaa
