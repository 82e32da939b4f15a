/-
  No ring (nil, or zero): Size, Len, Total, Add, Byte, Last, Copy, Equal.
-/
import Derived.Test.YtndgdehlnmheeaaRgCopy
namespace Go.Proofs.Ytndgdehlnmheeaa
set_option maxRecDepth 100000
open Go.RowKit

theorem NoRing.below {w w' : World} {B : Nat} {p : Value} (h : NoRing w p) (hb : Below B w w') (hB : w.heap.size ≤ B) : NoRing w' p := by
  rcases h with rfl | ⟨g, rfl, h⟩
  · exact .inl rfl
  · exact .inr ⟨g, rfl, h.below hb (Nat.lt_of_lt_of_le h.lt hB)⟩
theorem NoRing.alloc {w : World} {p : Value} (h : NoRing w p) (o : Obj) : NoRing (w.alloc o) p := h.below ((Below.refl _ w).alloc (Nat.le_refl _) o) (Nat.le_refl _)

theorem size_no (w : World) {p : Value} (h : NoRing w p) : Calls Try.prog 54 #[p] w fun e w' => e = .returned (.int .i64 0) ∧ w' = w := by
  have HN := Lib.hid h
  go_enter Try.func54, Try.ntmps54
  go_wp2_with (go_at_call 33; refine (none_no _ HN.out).mono ?_; rintro e w1 ⟨rfl, rfl⟩)
  go_ret
  exact ⟨rfl, rfl⟩
theorem len_no (w : World) {p : Value} (h : NoRing w p) : Calls Try.prog 36 #[p] w fun e w' => e = .returned (.int .i64 0) ∧ w' = w := by
  have HN := Lib.hid h
  go_enter Try.func36, Try.ntmps36
  go_wp2_with (go_at_call 33; refine (none_no _ HN.out).mono ?_; rintro e w1 ⟨rfl, rfl⟩)
  go_ret
  exact ⟨rfl, rfl⟩
theorem total_no (w : World) {p : Value} (h : NoRing w p) : Calls Try.prog 20 #[p] w fun e w' => e = .returned (.int .i64 0) ∧ w' = w := by
  have HN := Lib.hid h
  go_enter Try.func20, Try.ntmps20
  go_wp2_with (go_at_call 33; refine (none_no _ HN.out).mono ?_; rintro e w1 ⟨rfl, rfl⟩)
  go_ret
  exact ⟨rfl, rfl⟩
theorem add_no (w : World) {p : Value} (h : NoRing w p) (bv : Value) : Calls Try.prog 27 #[p, bv] w fun e w' => e = .returned (.int .i64 1) ∧ w' = w := by
  have HN := Lib.hid h
  go_enter Try.func27, Try.ntmps27
  go_wp2_with (go_at_call 33; refine (none_no _ HN.out).mono ?_; rintro e w1 ⟨rfl, rfl⟩)
  go_ret
  exact ⟨rfl, rfl⟩
theorem last_no (w : World) {p : Value} (h : NoRing w p) (n : Int) : Calls Try.prog 15 #[p, .int .i64 n] w fun e w' => e = .returned (.slice none 0 0) ∧ w' = w := by
  have HN := Lib.hid h
  go_enter Try.func15, Try.ntmps15
  go_wp2_with (go_at_call 33; refine (none_no _ HN.out).mono ?_; rintro e w1 ⟨rfl, rfl⟩)
  go_ret
  exact ⟨rfl, rfl⟩
theorem copy_no (w : World) {p : Value} (h : NoRing w p) (off n : Int) :
    Calls Try.prog 74 #[p, .int .i64 off, .int .i64 n] w fun e w' => e = .returned (.tuple #[.slice none 0 0, .int .i64 1]) ∧ Below w.heap.size w w' := by
  have HN := Lib.hid h
  have HB := Lib.hid ((((Below.refl w.heap.size w).alloc (Nat.le_refl _) (.cells #[.int .i64 off] 3))).alloc (by simp) (.cells #[.slice none 0 0] 22))
  clear h
  go_enter Try.func74, Try.ntmps74
  go_wp2
  refine wp_scope_once 0 (by rfl) ?_
  go_wp2_with (go_at_call 33; refine (none_no _ ((HN.out.alloc _).alloc _)).mono ?_; rintro e w1 ⟨rfl, rfl⟩)
  go_step3
  simp only [Exit.then]
  refine ⟨rfl, ?_⟩
  show Code.wp _ _ _ _ _
  go_wp2
  rw [Exit.noGoto_ret]
  go_ret2
  exact ⟨rfl, HB.out⟩
theorem eq_no (w : World) {p p' : Value} (h : NoRing w p) (h' : NoRing w p') : Calls Try.prog 29 #[p, p'] w fun e w' => e = .returned (.bool true) ∧ w' = w := by
  have HN := Lib.hid h
  have HN' := Lib.hid h'
  clear h h'
  go_enter Try.func29, Try.ntmps29
  go_wp2_with fail
  refine (none_no _ HN.out).mono ?_
  rintro e w1 ⟨rfl, rfl⟩
  go_wp2_with fail
  refine (none_no _ HN.out).mono ?_
  rintro e w1 ⟨rfl, rfl⟩
  go_wp2_with fail
  refine (none_no _ HN'.out).mono ?_
  rintro e w1 ⟨rfl, rfl⟩
  go_wp2
  go_ret
  exact ⟨rfl, rfl⟩
theorem eq_no_ring (w : World) {p : Value} (h : NoRing w p) {g : Nat} {v : Value} {S T : Nat} {st : List Int} (h' : Ring w g v S st T) : Calls Try.prog 29 #[p, rp g] w fun e w' => e = .returned (.bool false) ∧ w' = w := by
  have HN := Lib.hid h
  have HN' := Lib.hid h'
  clear h h'
  unfold rp
  go_enter Try.func29, Try.ntmps29
  go_wp2_with fail
  refine (none_no _ HN.out).mono ?_
  rintro e w1 ⟨rfl, rfl⟩
  go_wp2_with fail
  refine (none_no _ HN.out).mono ?_
  rintro e w1 ⟨rfl, rfl⟩
  go_wp2_with fail
  refine (none_ring _ HN'.out.blk HN'.out.pos).mono ?_
  rintro e w1 ⟨rfl, rfl⟩
  go_wp2
  go_ret
  exact ⟨rfl, rfl⟩
end Go.Proofs.Ytndgdehlnmheeaa
