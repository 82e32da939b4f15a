/-
  RingNone: the law's walk, a nil ring.
-/
import Derived.Test.YtohmkcoodaidcaaRnBase
namespace Go.Proofs.Ytohmkcoodaidcaa
set_option linter.all false
set_option maxRecDepth 100000
open Go.RowKit

set_option maxHeartbeats 6400000 in
theorem rn_false (x : ActD) {w : World} (hx : x.Ok w) (hf : fewP [x] 1) :
    Calls Try.prog 10 #[.agg #[.int .i64 x.what, x.bv, .int .i64 x.off, .int .i64 x.n], .bool false] w fun e w' => e = .returned (.bool true) ∧ Below w.heap.size w w' := by
  have HX := Lib.hid hx
  obtain ⟨xw, xbv, xb, xo, xn⟩ := x
  obtain ⟨Ax, nx, cx, hbx, -⟩ := hx.ints.get
  simp only at hbx
  subst hbx
  obtain ⟨w1, hw1⟩ : ∃ w1, (w.alloc (.cells #[.int .i64 xw, .slice Ax nx cx, .int .i64 xo, .int .i64 xn] 43)).alloc (.cells #[.int .i64 xw, .slice Ax nx cx, .int .i64 xo, .int .i64 xn] 43) = w1 := ⟨_, rfl⟩
  have hb1 : Below w.heap.size w w1 := by rw [← hw1]; exact ((Below.refl _ w).alloc (Nat.le_refl _) _).alloc (by simp) _
  have HACT : Hid (Acts w1 (.slice (some ⟨w.heap.size + 1, 0, none⟩) 1 1) [⟨xw, .slice Ax nx cx, xb, xo, xn⟩]) := (by
    refine one_act (t := 43) ?_ (HX.out.below hb1 (Nat.le_refl _))
    rw [← hw1]
    have := Blk.new (w.alloc (.cells #[.int .i64 xw, .slice Ax nx cx, .int .i64 xo, .int .i64 xn] 43)) 43 #[.int .i64 xw, .slice Ax nx cx, .int .i64 xo, .int .i64 xn]
    rwa [World.size_alloc] at this : Acts _ _ _)
  have HK1 : Hid (Blk w1 w.heap.size 43 #[.int .i64 xw, .slice Ax nx cx, .int .i64 xo, .int .i64 xn]) := (by
    rw [← hw1]
    exact (Blk.new w _ _).below ((Below.refl _ _).alloc (Nat.le_refl _) _) (by simp) : Blk _ _ _ _)
  have HB1 := Lib.hid hb1
  clear hx hb1
  have HD : Hid (decide (fewP [⟨xw, .slice Ax nx cx, xb, xo, xn⟩] 1) = true) := (decide_eq_true hf : _ = _)
  clear hf
  have HN : Hid (NoRing w1 (.pointer none)) := (.inl rfl : NoRing _ _)
  have HK := HK1
  have HB := HB1
  go_enter Try.func10, Try.ntmps10
  go_wp2_with fail
  refine (few_any _ _ [⟨xw, .slice Ax nx cx, xb, xo, xn⟩] HACT.out 1).mono ?_
  rw [HD.out]
  rintro e wf ⟨rfl, hw⟩
  obtain rfl : w1 = wf := hw.symm
  go_wp2_with fail
  refine (new_ok _ (S := 3) (bv := .slice none 0 0) (bs := []) (by decide) (by decide) (Ints.nil _ _) (by intro z hz; cases hz) (by simp)).mono ?_
  rintro e w3 ⟨g, v, rfl, hm⟩
  have HN3 := Lib.hid (HN.out.below hm.below (Nat.le_refl _))
  have HK3 := Lib.hid (HK.out.below hm.below HK.out.lt)
  have HB3 := Lib.hid (HB.out.trans (hm.below.mono HB.out.size))
  have HR3 := Lib.hid hm.ring
  clear hm HN HK HB
  obtain ⟨c0, c1, c2, c3⟩ := blk4 HK3.out
  go_wp2_with fail
  refine (copy_no _ HN3.out xo xn).mono ?_
  rintro e w4 ⟨rfl, hb⟩
  have HN4 := Lib.hid (HN3.out.below hb (Nat.le_refl _))
  have HK4 := Lib.hid (HK3.out.below hb HK3.out.lt)
  have HB4 := Lib.hid (HB3.out.trans (hb.mono HB3.out.size))
  have HR4 := Lib.hid (HR3.out.below hb (Nat.le_refl _))
  clear hb HN3 HK3 HB3 HR3 c0 c1 c2 c3
  obtain ⟨c0, c1, c2, c3⟩ := blk4 HK4.out
  go_wp2_with fail
  refine (byte_no _ HN4.out xo).mono ?_
  rintro e w5 ⟨rfl, hm⟩
  have hb : Below w4.heap.size w4 w5 := (by obtain ⟨m, rfl⟩ := hm; exact below_drewN (Below.refl _ _) m)
  have HN5 := Lib.hid (HN4.out.below hb (Nat.le_refl _))
  have HK5 := Lib.hid (HK4.out.below hb HK4.out.lt)
  have HB5 := Lib.hid (HB4.out.trans (hb.mono HB4.out.size))
  have HR5 := Lib.hid (HR4.out.below hb (Nat.le_refl _))
  clear hb hm HN4 HK4 HB4 HR4 c0 c1 c2 c3
  obtain ⟨c0, c1, c2, c3⟩ := blk4 HK5.out
  go_wp2_with fail
  refine (num_any _ _).mono ?_
  rintro e wn1 ⟨rfl, hw⟩
  obtain rfl : w5 = wn1 := hw.symm
  go_wp2_with fail
  refine (num_any _ _).mono ?_
  rintro e wn2 ⟨rfl, hw⟩
  obtain rfl : w5 = wn2 := hw.symm
  go_wp2_with fail
  refine (add_no _ HN5.out _).mono ?_
  rintro e wn3 ⟨rfl, hw⟩
  obtain rfl : w5 = wn3 := hw.symm
  go_wp2_with fail
  refine (num_any _ _).mono ?_
  rintro e wn4 ⟨rfl, hw⟩
  obtain rfl : w5 = wn4 := hw.symm
  go_wp2_with fail
  refine (last_no _ HN5.out _).mono ?_
  rintro e wn5 ⟨rfl, hw⟩
  obtain rfl : w5 = wn5 := hw.symm
  go_wp2_with fail
  refine (over_no _ HN5.out).mono ?_
  rintro e w6 ⟨rfl, hb⟩
  have HN6 := Lib.hid (HN5.out.below hb (Nat.le_refl _))
  have HN0 : Hid (NoRing w6 (.pointer none)) := (.inl rfl : NoRing _ _)
  have HB6 := Lib.hid (HB5.out.trans (hb.mono HB5.out.size))
  have HR6 := Lib.hid (HR5.out.below hb (Nat.le_refl _))
  clear hb HN5 HK5 HB5 HR5 c0 c1 c2 c3
  go_wp2_with fail
  refine (size_no _ HN6.out).mono ?_
  rintro e wn6 ⟨rfl, hw⟩
  obtain rfl : w6 = wn6 := hw.symm
  go_wp2_with fail
  refine (len_no _ HN6.out).mono ?_
  rintro e wn7 ⟨rfl, hw⟩
  obtain rfl : w6 = wn7 := hw.symm
  go_wp2_with fail
  refine (total_no _ HN6.out).mono ?_
  rintro e wn8 ⟨rfl, hw⟩
  obtain rfl : w6 = wn8 := hw.symm
  go_wp2_with fail
  refine (cl_none _ HN6.out).mono ?_
  rintro e wn9 ⟨rfl, hw⟩
  obtain rfl : w6 = wn9 := hw.symm
  go_wp2_with fail
  refine (eq_no _ HN6.out HN0.out).mono ?_
  rintro e wn10 ⟨rfl, hw⟩
  obtain rfl : w6 = wn10 := hw.symm
  go_wp2_with fail
  refine (eq_no_ring _ HN6.out HR6.out).mono ?_
  rintro e wn11 ⟨rfl, hw⟩
  obtain rfl : w6 = wn11 := hw.symm
  go_wp2_with (go_at_call 12; refine (works_any _).mono ?_; rintro e w9 ⟨rfl, hb⟩; have HBE := Lib.hid (HB6.out.trans (hb.mono HB6.out.size)); clear hb)
  go_ret
  exact ⟨rfl, HBE.out⟩
end Go.Proofs.Ytohmkcoodaidcaa
