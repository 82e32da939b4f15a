/-
  RingNone: the law's walk.
-/
import Derived.Test.YtohmkcoodaidcaaRnA
import Derived.Test.YtohmkcoodaidcaaRnB
namespace Go.Proofs.Ytohmkcoodaidcaa
set_option linter.all false
set_option maxRecDepth 100000
open Go.RowKit

set_option maxHeartbeats 6400000 in
theorem rn_few (x : ActD) {w : World} (hx : x.Ok w) (zero : Bool) (hf : ¬ fewP [x] 1) :
    Calls Try.prog 10 #[.agg #[.int .i64 x.what, x.bv, .int .i64 x.off, .int .i64 x.n], .bool zero] w fun e w' => e = .returned (.bool true) ∧ Below w.heap.size w w' := by
  have HX := Lib.hid hx
  obtain ⟨xw, xbv, xb, xo, xn⟩ := x
  obtain ⟨Ax, nx, cx, hbx, -⟩ := hx.ints.get
  simp only at hbx
  subst hbx
  obtain ⟨w1, hw1⟩ : ∃ w1, (w.alloc (.cells #[.int .i64 xw, .slice Ax nx cx, .int .i64 xo, .int .i64 xn] 43)).alloc (.cells #[.int .i64 xw, .slice Ax nx cx, .int .i64 xo, .int .i64 xn] 43) = w1 := ⟨_, rfl⟩
  have hb1 : Below w.heap.size w w1 := by rw [← hw1]; exact ((Below.refl _ w).alloc (Nat.le_refl _) _).alloc (by simp) _
  have HACT : Hid (Acts w1 (.slice (some ⟨w.heap.size + 1, 0, none⟩) 1 1) [⟨xw, .slice Ax nx cx, xb, xo, xn⟩]) := (by
    refine one_act (t := 43) ?_ (HX.out.below hb1 (Nat.le_refl _))
    rw [← hw1]
    have := Blk.new (w.alloc (.cells #[.int .i64 xw, .slice Ax nx cx, .int .i64 xo, .int .i64 xn] 43)) 43 #[.int .i64 xw, .slice Ax nx cx, .int .i64 xo, .int .i64 xn]
    rwa [World.size_alloc] at this : Acts _ _ _)
  have HK1 : Hid (Blk w1 w.heap.size 43 #[.int .i64 xw, .slice Ax nx cx, .int .i64 xo, .int .i64 xn]) := (by
    rw [← hw1]
    exact (Blk.new w _ _).below ((Below.refl _ _).alloc (Nat.le_refl _) _) (by simp) : Blk _ _ _ _)
  have HB1 := Lib.hid hb1
  clear hx hb1
  have HD : Hid (decide (fewP [⟨xw, .slice Ax nx cx, xb, xo, xn⟩] 1) = false) := (decide_eq_false hf : _ = _)
  clear hf
  go_enter Try.func10, Try.ntmps10
  go_wp2_with fail
  refine (few_any _ _ [⟨xw, .slice Ax nx cx, xb, xo, xn⟩] HACT.out 1).mono ?_
  rw [HD.out]
  rintro e wf ⟨rfl, hw⟩
  obtain rfl : w1 = wf := hw.symm
  go_wp2_with (go_at_call 12; refine (works_any _).mono ?_; rintro e w9 ⟨rfl, hb⟩; have HBE := Lib.hid (HB1.out.trans (hb.mono HB1.out.size)); clear hb)
  go_ret
  exact ⟨rfl, HBE.out⟩

theorem ringNone_walk (x : ActD) {w : World} (hx : x.Ok w) (zero : Bool) :
    Calls Try.prog 10 #[.agg #[.int .i64 x.what, x.bv, .int .i64 x.off, .int .i64 x.n], .bool zero] w fun e w' => e = .returned (.bool true) ∧ Below w.heap.size w w' := by
  by_cases hf : fewP [x] 1
  · cases zero
    · exact rn_false x hx hf
    · exact rn_true x hx hf
  · exact rn_few x hx zero hf
end Go.Proofs.Ytohmkcoodaidcaa
