/-
  CodeValues: the law's walk.
-/
import Derived.Test.YtdmnbmldhhgniaaCodeKnown
namespace Go.Proofs.Ytdmnbmldhhgniaa
open Go.RowKit
set_option maxHeartbeats 1600000 in
theorem codeValues_walk (c : Int) (_ : (Lit.int .i64 c).wf = true) (r : Int) (hwf : (Lit.int .u64 r).wf = true) (w : World) : Calls Try.prog 7 #[.int .i64 c, .int .u64 r] w fun e w' => e = .returned (.bool true) ∧ Below w.heap.size w w' := by
  have hr : 0 ≤ r ∧ r ≤ 18446744073709551615 := by
    simp [Lit.wf, IntKind.min, IntKind.max, IntKind.signed, IntKind.bits] at hwf
    omega
  clear hwf
  obtain ⟨hr0, hr1⟩ := hr
  go_enter Try.func7, Try.ntmps7
  go_wp2_with fail
  refine (join_any c r hr0 hr1 _).mono ?_
  rintro e w1 ⟨rfl, hb⟩
  have HB1 := Lib.hid hb
  clear hb
  go_wp2_with fail
  refine (rValue_any false c r hr0 _).mono ?_
  rintro e w' ⟨rfl, rfl⟩
  go_wp2_with fail
  refine (joinOff_any c r hr0 hr1 _).mono ?_
  rintro e w2 ⟨rfl, hb⟩
  have HB2 := Lib.hid (HB1.out.trans (hb.mono HB1.out.size))
  clear hb HB1
  go_wp2_with fail
  refine (rValue_any true c r hr0 _).mono ?_
  rintro e w' ⟨rfl, rfl⟩
  go_wp2_with fail
  refine (known_any _).mono ?_
  rintro e w3 ⟨rfl, hb⟩
  have HB3 := Lib.hid (HB2.out.trans (hb.mono HB2.out.size))
  clear hb HB2
  go_wp2
  go_ret
  exact ⟨rfl, HB3.out⟩
end Go.Proofs.Ytdmnbmldhhgniaa
