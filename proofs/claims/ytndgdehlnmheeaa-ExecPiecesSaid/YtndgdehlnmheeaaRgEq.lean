/-
  slices.Equal of bytes; Ring: Equal.
-/
import Derived.Test.YtndgdehlnmheeaaRgCl
import Derived.Test.YtndgdehlnmheeaaSlEq
namespace Go.Proofs.Ytndgdehlnmheeaa
set_option maxRecDepth 100000
open Go.RowKit

theorem len_q {w : World} {g : Nat} {v : Value} {S T : Nat} {st : List Int} (h : Ring w g v S st T) {L : Nat} (hL : min S st.length = L) :
    Calls Try.prog 36 #[rp g] w fun e w' => e = .returned (.int .i64 L) ∧ ∃ m, w' = w.drewN m := by
  subst hL
  exact len_ring w h

theorem eq_ring (w : World) {g g' : Nat} {v v' : Value} {S S' T T' : Nat} {st st' : List Int} (h : Ring w g v S st T) (h' : Ring w g' v' S' st' T') :
    Calls Try.prog 29 #[rp g, rp g'] w fun e w' => e = .returned (.bool (decide (S = S') && listEq (lastN S st) (lastN S' st'))) ∧ ∃ m, w' = w.drewN m := by
  have HR := Lib.hid h
  have HR' := Lib.hid h'
  obtain ⟨c0, c1, c2, -⟩ := ring_cells h.blk
  obtain ⟨d0, d1, d2, -⟩ := ring_cells h'.blk
  obtain ⟨L, hL⟩ : ∃ L, min S st.length = L := ⟨_, rfl⟩
  obtain ⟨L', hL'⟩ : ∃ L, min S' st'.length = L := ⟨_, rfl⟩
  have HL := Lib.hid hL
  have HL' := Lib.hid hL'
  have hll : lastN L st = lastN S st := by rw [← hL]; unfold lastN; congr 1; omega
  have hll' : lastN L' st' = lastN S' st' := by rw [← hL']; unfold lastN; congr 1; omega
  have HLL := Lib.hid hll
  have HLL' := Lib.hid hll'
  have HM : Hid (L ≤ st.length) := (by omega : L ≤ st.length)
  have HM' : Hid (L' ≤ st'.length) := (by omega : L' ≤ st'.length)
  have HB : Hid (L ≤ 9223372036854775807) := (by have := h.max; omega : L ≤ _)
  have HB' : Hid (L' ≤ 9223372036854775807) := (by have := h'.max; omega : L' ≤ _)
  clear h h' hL hL' hll hll'
  unfold rp
  by_cases hS : S = S'
  · subst hS
    have hd : decide ((S : Int) = (S : Int)) = true := decide_eq_true rfl
    go_enter Try.func29, Try.ntmps29
    go_wp2_with (go_at_call 33; first | (with_reducible refine (none_ring _ HR.out.blk HR.out.pos).mono ?_; rintro e w1 ⟨rfl, rfl⟩) | (with_reducible refine (none_ring _ HR'.out.blk HR'.out.pos).mono ?_; rintro e w1 ⟨rfl, rfl⟩))
    go_quiet (first
      | (go_at_call 36; first | (with_reducible refine Calls.quiet_of (len_q (HR.out.drewN _) HL.out)) | (with_reducible refine Calls.quiet_of (len_q (HR'.out.drewN _) HL'.out)))
      | (go_at_call 35; first | (with_reducible refine Calls.quiet_of (end_q (HR.out.drewN _) HM.out)) | (with_reducible refine Calls.quiet_of (end_q (HR'.out.drewN _) HM'.out)))
      | (go_at_call 46; refine Calls.quiet_of (slEq_any _ _ _ _ _ _ _ _ _ ((HR.out.drewN _).endAt HM.out) ((HR'.out.drewN _).endAt HM'.out) HB.out HB'.out)))
    go_wp2
    go_ret
    exact ⟨ret_bool (by rw [HLL.out, HLL'.out]; simp), _, rfl⟩
  · have hd : decide ((S : Int) = (S' : Int)) = false := decide_eq_false (by omega)
    have hd2 : decide (S = S') = false := decide_eq_false hS
    have HD2 := Lib.hid hd2
    have hd3 : (S == S') = false := by simpa using hS
    have hd4 : ((S : Int) == (S' : Int)) = false := by simp; omega
    clear hS hd2
    go_enter Try.func29, Try.ntmps29
    go_wp2_with (go_at_call 33; first | (with_reducible refine (none_ring _ HR.out.blk HR.out.pos).mono ?_; rintro e w1 ⟨rfl, rfl⟩) | (with_reducible refine (none_ring _ HR'.out.blk HR'.out.pos).mono ?_; rintro e w1 ⟨rfl, rfl⟩))
    go_quiet (first
      | (go_at_call 36; first | (with_reducible refine Calls.quiet_of (len_q (HR.out.drewN _) HL.out)) | (with_reducible refine Calls.quiet_of (len_q (HR'.out.drewN _) HL'.out)))
      | (go_at_call 35; first | (with_reducible refine Calls.quiet_of (end_q (HR.out.drewN _) HM.out)) | (with_reducible refine Calls.quiet_of (end_q (HR'.out.drewN _) HM'.out)))
      | (go_at_call 46; refine Calls.quiet_of (slEq_any _ _ _ _ _ _ _ _ _ ((HR.out.drewN _).endAt HM.out) ((HR'.out.drewN _).endAt HM'.out) HB.out HB'.out)))
    go_wp2
    go_ret
    exact ⟨ret_bool (by rw [HD2.out]; rfl), _, rfl⟩
end Go.Proofs.Ytndgdehlnmheeaa
