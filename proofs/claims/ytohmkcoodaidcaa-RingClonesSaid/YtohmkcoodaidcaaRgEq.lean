/-
  slices.Equal of bytes; Ring: Equal.
-/
import Derived.Test.YtohmkcoodaidcaaRgCl
namespace Go.Proofs.Ytohmkcoodaidcaa
open Go.RowKit

/-- Are two lists equal. -/
def listEq (xs ys : List Int) : Bool := decide (xs = ys)

theorem take_succ_eq' {xs ys : List Int} {k : Nat} {x : Int} (h : xs.take k = ys.take k) (ex : xs[k]? = some x) (ey : ys[k]? = some x) : xs.take (k + 1) = ys.take (k + 1) := by
  rw [List.take_add_one, List.take_add_one, h, ex, ey]

theorem slEq_any (w : World) (A A2 : Option Addr) (n n2 c c2 : Nat) (xs ys : List Int) (h1 : AtInts w .u8 A n xs) (h2 : AtInts w .u8 A2 n2 ys) (hn : n ≤ 9223372036854775807) (hn2 : n2 ≤ 9223372036854775807) :
    Calls Try.prog 42 #[.slice A n c, .slice A2 n2 c2] w fun e w' => e = .returned (.bool (listEq xs ys)) ∧ ∃ m, w' = w.drewN m := by
  have HX := Lib.hid h1
  have HY := Lib.hid h2
  have hnn : (n : Int) ≤ 9223372036854775807 := by omega
  have hnn2 : (n2 : Int) ≤ 9223372036854775807 := by omega
  clear h1 h2
  by_cases hne : n = n2
  · subst hne
    go_enter Try.func42, Try.ntmps42
    go_wp2
    go_loopw [13] (fun i wr => ∃ k : Nat, k ≤ n ∧ i = .int .i64 k ∧ Hid (xs.take k = ys.take k) ∧ ∃ m, wr = w.drewN m) (fun i _ => n - (intOf i).toNat)
    case atStart => exact ⟨0, Nat.zero_le _, rfl, (rfl : xs.take 0 = ys.take 0), 0, rfl⟩
    case round =>
      obtain ⟨k, hk, rfl, HE, m, rfl⟩ := hrel
      have k0 : (0 : Int) ≤ (k : Int) := by omega
      by_cases hlt : k < n
      · obtain ⟨b, off, x, rfl, hb, cx, EX⟩ := HX.out.at_ hlt
        obtain ⟨b2, off2, y, rfl, hb2, cy, EY⟩ := HY.out.at_ hlt
        have k1 : (k : Int) < (n : Int) := by omega
        by_cases hxy : x = y
        · subst hxy
          go_wp2
          go_quiet (fail)
          go_wp2
          go_roundw
          case rel => exact ⟨k + 1, by omega, by go_num, (take_succ_eq' HE.out EX.out EY.out : _ = _), _, rfl⟩
          case measure => simp [intOf]; omega
        · have hf : listEq xs ys = false := decide_eq_false (fun e => by rw [e] at EX; have := EX.out; rw [EY.out] at this; exact hxy (Option.some.inj this).symm)
          have HF := Lib.hid hf
          have hxyb : (x == y) = false := by simpa using hxy
          clear hf hxy
          go_wp2
          go_quiet (fail)
          go_wp2
          go_ret
          exact ⟨ret_bool HF.out.symm, _, drewN_add _ _ _⟩
      · obtain rfl : k = n := by omega
        have ht : listEq xs ys = true := by
          have := HE.out
          rw [List.take_of_length_le (by rw [HX.out.1]; omega), List.take_of_length_le (by rw [HY.out.1]; omega)] at this
          exact decide_eq_true this
        have HT := Lib.hid ht
        clear ht
        go_wp2
        go_ret
        exact ⟨ret_bool HT.out.symm, _, rfl⟩
  · have hf : listEq xs ys = false := decide_eq_false (fun e => hne (by rw [← HX.out.1, ← HY.out.1, e]))
    rw [hf]
    have hb : (n == n2) = false := by simpa using hne
    have hb' : ¬ (n : Int) = (n2 : Int) := by omega
    clear hf
    go_enter Try.func42, Try.ntmps42
    go_wp2
    go_ret
    exact ⟨rfl, 0, rfl⟩

theorem len_q {w : World} {g : Nat} {v : Value} {S T : Nat} {st : List Int} (h : Ring w g v S st T) {L : Nat} (hL : min S st.length = L) :
    Calls Try.prog 13 #[rp g] w fun e w' => e = .returned (.int .i64 L) ∧ ∃ m, w' = w.drewN m := by
  subst hL
  exact len_ring w h

theorem eq_ring (w : World) {g g' : Nat} {v v' : Value} {S S' T T' : Nat} {st st' : List Int} (h : Ring w g v S st T) (h' : Ring w g' v' S' st' T') :
    Calls Try.prog 23 #[rp g, rp g'] w fun e w' => e = .returned (.bool (decide (S = S') && listEq (lastN S st) (lastN S' st'))) ∧ ∃ m, w' = w.drewN m := by
  have HR := Lib.hid h
  have HR' := Lib.hid h'
  obtain ⟨c0, c1, c2, -⟩ := ring_cells h.blk
  obtain ⟨d0, d1, d2, -⟩ := ring_cells h'.blk
  obtain ⟨L, hL⟩ : ∃ L, min S st.length = L := ⟨_, rfl⟩
  obtain ⟨L', hL'⟩ : ∃ L, min S' st'.length = L := ⟨_, rfl⟩
  have HL := Lib.hid hL
  have HL' := Lib.hid hL'
  have hll : lastN L st = lastN S st := by rw [← hL]; unfold lastN; congr 1; omega
  have hll' : lastN L' st' = lastN S' st' := by rw [← hL']; unfold lastN; congr 1; omega
  have HLL := Lib.hid hll
  have HLL' := Lib.hid hll'
  have HM : Hid (L ≤ st.length) := (by omega : L ≤ st.length)
  have HM' : Hid (L' ≤ st'.length) := (by omega : L' ≤ st'.length)
  have HB : Hid (L ≤ 9223372036854775807) := (by have := h.max; omega : L ≤ _)
  have HB' : Hid (L' ≤ 9223372036854775807) := (by have := h'.max; omega : L' ≤ _)
  clear h h' hL hL' hll hll'
  unfold rp
  by_cases hS : S = S'
  · subst hS
    have hd : decide ((S : Int) = (S : Int)) = true := decide_eq_true rfl
    go_enter Try.func23, Try.ntmps23
    go_wp2_with (go_at_call 33; first | (with_reducible refine (none_ring _ HR.out.blk HR.out.pos).mono ?_; rintro e w1 ⟨rfl, rfl⟩) | (with_reducible refine (none_ring _ HR'.out.blk HR'.out.pos).mono ?_; rintro e w1 ⟨rfl, rfl⟩))
    go_quiet (first
      | (go_at_call 13; first | (with_reducible refine Calls.quiet_of (len_q (HR.out.drewN _) HL.out)) | (with_reducible refine Calls.quiet_of (len_q (HR'.out.drewN _) HL'.out)))
      | (go_at_call 34; first | (with_reducible refine Calls.quiet_of (end_q (HR.out.drewN _) HM.out)) | (with_reducible refine Calls.quiet_of (end_q (HR'.out.drewN _) HM'.out)))
      | (go_at_call 42; refine Calls.quiet_of (slEq_any _ _ _ _ _ _ _ _ _ ((HR.out.drewN _).endAt HM.out) ((HR'.out.drewN _).endAt HM'.out) HB.out HB'.out)))
    go_wp2
    go_ret
    exact ⟨ret_bool (by rw [HLL.out, HLL'.out]; simp), _, rfl⟩
  · have hd : decide ((S : Int) = (S' : Int)) = false := decide_eq_false (by omega)
    have hd2 : decide (S = S') = false := decide_eq_false hS
    have HD2 := Lib.hid hd2
    have hd3 : (S == S') = false := by simpa using hS
    have hd4 : ((S : Int) == (S' : Int)) = false := by simp; omega
    clear hS hd2
    go_enter Try.func23, Try.ntmps23
    go_wp2_with (go_at_call 33; first | (with_reducible refine (none_ring _ HR.out.blk HR.out.pos).mono ?_; rintro e w1 ⟨rfl, rfl⟩) | (with_reducible refine (none_ring _ HR'.out.blk HR'.out.pos).mono ?_; rintro e w1 ⟨rfl, rfl⟩))
    go_quiet (first
      | (go_at_call 13; first | (with_reducible refine Calls.quiet_of (len_q (HR.out.drewN _) HL.out)) | (with_reducible refine Calls.quiet_of (len_q (HR'.out.drewN _) HL'.out)))
      | (go_at_call 34; first | (with_reducible refine Calls.quiet_of (end_q (HR.out.drewN _) HM.out)) | (with_reducible refine Calls.quiet_of (end_q (HR'.out.drewN _) HM'.out)))
      | (go_at_call 42; refine Calls.quiet_of (slEq_any _ _ _ _ _ _ _ _ _ ((HR.out.drewN _).endAt HM.out) ((HR'.out.drewN _).endAt HM'.out) HB.out HB'.out)))
    go_wp2
    go_ret
    exact ⟨ret_bool (by rw [HD2.out]; rfl), _, rfl⟩
end Go.Proofs.Ytohmkcoodaidcaa
