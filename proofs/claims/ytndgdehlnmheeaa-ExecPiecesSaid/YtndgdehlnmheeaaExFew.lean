/-
  exec's laws: few.
-/
import Derived.Test.YtndgdehlnmheeaaExWorks
import Derived.Test.YtndgdehlnmheeaaArgs
namespace Go.Proofs.Ytndgdehlnmheeaa
set_option linter.all false
set_option maxRecDepth 100000
open Go.RowKit

theorem u8_wf {x : Int} (h : (Lit.int .u8 x).wf = true) : 0 ≤ x ∧ x < 256 := by
  have h1 : IntKind.u8.min = 0 := rfl
  have h2 : IntKind.u8.max = 255 := rfl
  simp only [Lit.wf, Bool.and_eq_true, decide_eq_true_eq] at h
  omega
/-- What few answers: true only for small arguments. -/
def FewPost (ss : List SeqD) (na nb : Nat) (w : World) (e : Ending) (w' : World) : Prop := ∃ b : Bool, e = .returned (.bool b) ∧ w' = w ∧ (b = true → ss.length ≤ 60 ∧ na ≤ 300 ∧ nb ≤ 300)
theorem FewPost.no (ss : List SeqD) (na nb : Nat) (w : World) : FewPost ss na nb w (.returned (.bool false)) w := ⟨false, rfl, rfl, fun h => by cases h⟩
theorem FewPost.yes {ss : List SeqD} {na nb : Nat} (w : World) (b : Bool) (h : ss.length ≤ 60 ∧ na ≤ 300 ∧ nb ≤ 300) : FewPost ss na nb w (.returned (.bool b)) w := ⟨b, rfl, rfl, fun _ => h⟩

set_option maxHeartbeats 1600000 in
theorem few_any (w : World) (v : Value) (ss : List SeqD) (h : Seqs w v ss) (A1 A2 : Option Addr) (na nb c1 c2 : Nat) (h1 : na ≤ 9223372036854775807) (h2 : nb ≤ 9223372036854775807) :
    Calls Try.prog 11 #[v, .slice A1 na c1, .slice A2 nb c2] w (FewPost ss na nb w) := by
  have HS := Lib.hid h
  obtain ⟨⟨A, c, hv', hlc, hcm, -⟩, -⟩ := h
  obtain ⟨n, hn⟩ : ∃ n, ss.length = n := ⟨_, rfl⟩
  rw [hn] at hv' hlc
  subst hv'
  have HN := Lib.hid hn
  have hni : (n : Int) ≤ 9223372036854775807 := by have := hcm; simp only [maxLen] at this; omega
  have hnai : (na : Int) ≤ 9223372036854775807 := by omega
  have hnbi : (nb : Int) ≤ 9223372036854775807 := by omega
  clear hn
  by_cases hg : n ≤ 60 ∧ na ≤ 300 ∧ nb ≤ 300
  · obtain ⟨g1, g2, g3⟩ := hg
    have gi1 : (n : Int) ≤ 60 := by omega
    have gi2 : (na : Int) ≤ 300 := by omega
    have gi3 : (nb : Int) ≤ 300 := by omega
    go_enter Try.func11, Try.ntmps11
    go_wp2
    go_loop [7, 8] (fun s i => ∃ (k : Nat) (N : Int), k ≤ n ∧ i = .int .i64 k ∧ s = .int .i64 N ∧ Hid (0 ≤ N ∧ N ≤ 600 * k)) (fun _ i => n - (intOf i).toNat)
    case atStart => exact ⟨0, 0, Nat.zero_le _, rfl, rfl, (by omega : _ ∧ _)⟩
    case round =>
      obtain ⟨k, N, hk, rfl, rfl, HNN⟩ := hrel
      by_cases hlt : k < n
      · have hx := List.getElem?_eq_getElem (l := ss) (i := k) (by rw [HN.out]; omega)
        obtain ⟨⟨lit, len, offs⟩, hse⟩ : ∃ s, ss[k]'(by rw [HN.out]; omega) = s := ⟨_, rfl⟩
        rw [hse] at hx
        obtain ⟨A0, c0, he, -, -, h4⟩ := HS.out.at_
        injection he with e1 e2 e3
        subst e1 e3
        clear e2
        obtain ⟨b, off, rfl, hcell⟩ := h4 (by rw [HN.out]; omega)
        obtain ⟨q0, q1, q2⟩ := hcell k _ hx
        simp only at q0 q1 q2
        have hblt := World.block_lt_of_cell? w _ q0
        have k0 : (0 : Int) ≤ (k : Int) := by omega
        have k1 : (k : Int) < (n : Int) := by omega
        have hnn := HNN.out
        clear hx hse hcell h4
        by_cases hl1 : 600 < len ∧ len ≤ 131072
        · obtain ⟨l1, l2⟩ := hl1
          clear HNN hnn
          go_wp2
          go_ret
          exact FewPost.no _ _ _ _
        · by_cases hl2 : 0 < len ∧ len ≤ 600
          · obtain ⟨l1, l2⟩ := hl2
            have l3 : ¬ 600 < len := by omega
            have z1 : -9223372036854775808 ≤ N + len := by omega
            have z2 : N + len ≤ 9223372036854775807 := by omega
            have HN2 : Hid (0 ≤ N + len ∧ N + len ≤ 600 * ((k + 1 : Nat) : Int)) := (by omega : _ ∧ _)
            clear HNN hnn hl1
            go_wp2
            go_round
            case rel => exact ⟨k + 1, N + len, by omega, by go_num, rfl, (HN2.out : _ ∧ _)⟩
            case measure => simp [intOf]; omega
          · have HN2 : Hid (0 ≤ N ∧ N ≤ 600 * ((k + 1 : Nat) : Int)) := (by omega : _ ∧ _)
            have hor : len ≤ 0 ∨ 131072 < len := by omega
            clear HNN hnn hl1 hl2
            rcases hor with o1 | o1
            all_goals
              go_wp2
              go_round
              case rel => exact ⟨k + 1, N, by omega, by go_num, rfl, (HN2.out : _ ∧ _)⟩
              case measure => simp [intOf]; omega
      · obtain rfl : k = n := by omega
        have hnn := HNN.out
        clear HNN
        go_wp2
        go_ret
        exact FewPost.yes _ _ ⟨by rw [HN.out]; exact g1, g2, g3⟩
  · have hcase : 60 < n ∨ (n ≤ 60 ∧ 300 < na) ∨ (n ≤ 60 ∧ na ≤ 300 ∧ 300 < nb) := by omega
    clear hg
    rcases hcase with g1 | ⟨g1, g2⟩ | ⟨g1, g2, g3⟩
    · have gi1 : (60 : Int) < (n : Int) := by omega
      go_enter Try.func11, Try.ntmps11
      go_wp2
      go_ret
      exact FewPost.no _ _ _ _
    · have gi1 : (n : Int) ≤ 60 := by omega
      have gi2 : (300 : Int) < (na : Int) := by omega
      go_enter Try.func11, Try.ntmps11
      go_wp2
      go_ret
      exact FewPost.no _ _ _ _
    · have gi1 : (n : Int) ≤ 60 := by omega
      have gi2 : (na : Int) ≤ 300 := by omega
      have gi3 : (300 : Int) < (nb : Int) := by omega
      go_enter Try.func11, Try.ntmps11
      go_wp2
      go_ret
      exact FewPost.no _ _ _ _
end Go.Proofs.Ytndgdehlnmheeaa
