/-
  NormMay: the law's walk.
-/
import Derived.Test.YtelijgibgpbcnaaNmAllc
import Derived.Deep.RegionHeld3
import Derived.Test.YtelijgibgpbcnaaArgs
namespace Go.Proofs.Ytelijgibgpbcnaa
open Go.RowKit

theorem bcell {W w1 : World} (hb : Below W.heap.size W w1) : (∀ b o, b < W.heap.size → w1.cell? ⟨b, o, none⟩ = W.cell? ⟨b, o, none⟩) ∧ (∀ b o, b < W.heap.size → w1.frozen? ⟨b, o, none⟩ = W.frozen? ⟨b, o, none⟩) :=
  ⟨fun b o h => hb.cell (p := ⟨b, o, none⟩) h, fun b o h => hb.frozen (p := ⟨b, o, none⟩) h⟩
/-- All that the law needs of a world on its way. -/
structure MaySt (w W : World) (log : Int) (v : Value) (xs : List Int) : Prop where
  below : Below w.heap.size w W
  box : Blk W w.heap.size 25 #[.int .i64 log, v]
  ints : Ints W .i64 v xs
theorem MaySt.start {w : World} {log : Int} {v : Value} {xs : List Int} (h : Ints w .i64 v xs) : MaySt w (w.alloc (.cells #[.int .i64 log, v] 25)) log v xs :=
  ⟨(Below.refl _ _).alloc (Nat.le_refl _) _, Blk.new _ _ _, h.alloc _⟩
theorem MaySt.drew {w W : World} {log : Int} {v : Value} {xs : List Int} (h : MaySt w W log v xs) : MaySt w W.drew log v xs := ⟨h.below.drew, h.box, h.ints⟩
theorem MaySt.next {w W W' : World} {log : Int} {v : Value} {xs : List Int} (h : MaySt w W log v xs) (hb : Below W.heap.size W W') : MaySt w W' log v xs :=
  ⟨h.below.trans (hb.mono h.below.size), h.box.below hb h.box.lt, h.ints.below hb (Nat.le_refl _)⟩

set_option maxHeartbeats 3200000 in
theorem normMay_walk (log : Int) (v : Value) (xs : List Int) (_ : (Lit.int .i64 log).wf = true) {w : World} (hI : Ints w .i64 v xs ∧ ∀ z ∈ xs, (Lit.int .i64 z).wf = true) (symbols : Int) (_ : (Lit.int .i64 symbols).wf = true) (most : Int) (_ : (Lit.int .i64 most).wf = true) :
    Calls Try.prog 10 #[.agg #[.int .i64 log, v], .int .i64 symbols, .int .i64 most] w fun e w' => e = .returned (.bool true) ∧ Below w.heap.size w w' := by
  obtain ⟨hI, hwf⟩ := hI
  have HW := Lib.hid (wfAll_i64 hwf)
  have HI := Lib.hid hI
  obtain ⟨A, n, c, rfl, hc, hmx, -⟩ := hI.get
  clear hI hwf
  have hb0 : ∀ o, Below w.heap.size w (w.alloc o) := fun o => (Below.refl _ w).alloc (Nat.le_refl _) o
  have HB0 := Lib.hid hb0
  have HST := Lib.hid (MaySt.start (log := log) HI.out)
  clear hb0
  by_cases h6 : 600 < (n : Int)
  · go_enter Try.func10, Try.ntmps10
    go_wp2_with (go_at_call 12; refine (known_any _).mono ?_; rintro e w2 ⟨rfl, hb⟩; have HB := Lib.hid ((HB0.out _).trans (hb.mono (by simp))); clear hb)
    go_ret
    exact ⟨rfl, HB.out⟩
  go_enter Try.func10, Try.ntmps10
  go_wp2_with fail
  go_region_held3 (fun w' => Hid (MaySt w w' log (.slice A n c) xs) ∧ w'.cell? ⟨w.heap.size, 0, none⟩ = some (.int .i64 log) ∧ w'.cell? ⟨w.heap.size, 1, none⟩ = some (.slice A n c))
    (first | (exact ⟨HST.out.drew, HST.out.box.two.1, HST.out.box.two.2.1⟩) | (exact ⟨HS3.out, HS3.out.box.two.1, HS3.out.box.two.2.1⟩) | (exact ⟨HS2.out, HS2.out.box.two.1, HS2.out.box.two.2.1⟩) | (exact ⟨HS1.out, HS1.out.box.two.1, HS1.out.box.two.2.1⟩))
    (first
      | (go_at_call 23; first
          | (refine (check_any log _ xs symbols most _ (HST.out.drew.ints) HW.out).mono ?_; rintro e w2 ⟨rfl, hb⟩; have HS1 := Lib.hid (HST.out.drew.next hb); clear hb)
          | (refine (check_any log _ xs symbols most _ (HS1.out.ints) HW.out).mono ?_; rintro e w2 ⟨rfl, hb⟩; have HS2 := Lib.hid (HS1.out.next hb); clear hb))
      | (go_at_call 21; first
          | (refine (may_any log _ xs symbols most _ (HST.out.drew.ints)).mono ?_; rintro e w2 ⟨rfl, hb⟩; have HS1 := Lib.hid (HST.out.drew.next hb); clear hb)
          | (refine (may_any log _ xs symbols most _ (HS1.out.ints)).mono ?_; rintro e w2 ⟨rfl, hb⟩; have HS2 := Lib.hid (HS1.out.next hb); clear hb))
      | (go_at_call 12; refine (known_any _).mono ?_; rintro e w4 ⟨rfl, hb⟩; have HS3 := Lib.hid (HS2.out.next hb); clear hb))
  all_goals
    go_wp2
    go_ret
    exact ⟨rfl, HS3.out.below⟩
end Go.Proofs.Ytelijgibgpbcnaa
