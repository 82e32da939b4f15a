/-
  NormLogs: the law's walk.
-/
import Derived.Test.YtelijgibgpbcnaaNmAllc
namespace Go.Proofs.Ytelijgibgpbcnaa
open Go.RowKit

set_option maxHeartbeats 1600000 in
theorem normLogs_walk (v : Value) (cs : List Int) {w : World} (hI : Ints w .i64 v cs ∧ ∀ z ∈ cs, (Lit.int .i64 z).wf = true) (most : Int) (_ : (Lit.int .i64 most).wf = true) :
    Calls Try.prog 4 #[v, .int .i64 most] w fun e w' => e = .returned (.bool true) ∧ Below w.heap.size w w' := by
  obtain ⟨hI, -⟩ := hI
  have HI := Lib.hid hI
  obtain ⟨A, n, c, rfl, hc, hmx, -⟩ := hI.get
  clear hI
  by_cases h6 : 300 < (n : Int)
  · go_enter Try.func4, Try.ntmps4
    go_wp2_with (go_at_call 12; refine (known_any _).mono ?_; rintro e w2 ⟨rfl, hb⟩; have HB := Lib.hid hb; clear hb)
    go_ret
    exact ⟨rfl, HB.out⟩
  go_enter Try.func4, Try.ntmps4
  go_wp2_with (first | (go_at_call 16; refine (recLog_any _ cs most _ HI.out).mono ?_; rintro e w3 ⟨rfl, rfl⟩) | (go_at_call 17; refine (refLog_any _ cs most _ HI.out).mono ?_; rintro e w3 ⟨rfl, rfl⟩) | (go_at_call 12; refine (known_any _).mono ?_; rintro e w4 ⟨rfl, hb⟩; have HB4 := Lib.hid hb; clear hb))
  go_ret
  exact ⟨rfl, HB4.out⟩
end Go.Proofs.Ytelijgibgpbcnaa
