/-
  The reference's ring: Last, Byte.
-/
import Derived.Test.YtohmkcoodaidcaaRfAdd
namespace Go.Proofs.Ytohmkcoodaidcaa
open Go.RowKit

theorem refLast_none (w : World) (S : Nat) (cv : Value) (T : Nat) (n : Int) (hn : n < 1) :
    Calls Try.prog 40 #[rv S cv T, .int .i64 n] w fun e w' => e = .returned (.slice none 0 0) ∧ Below w.heap.size w w' := by
  have HB := Lib.hid ((Below.refl w.heap.size w).alloc (Nat.le_refl _) (.cells #[.int .i64 S, cv, .int .i64 T] 36))
  unfold rv
  go_enter Try.func40, Try.ntmps40
  go_wp2
  go_ret
  exact ⟨rfl, HB.out⟩

theorem refLast_some (w : World) (S : Nat) (cv : Value) (T : Nat) (C : List Int) (hC : Ints w .u8 cv C) (n : Nat) (hn : 1 ≤ n) (hn2 : n ≤ 9223372036854775807) :
    Calls Try.prog 40 #[rv S cv T, .int .i64 n] w fun e w' => ∃ v', e = .returned v' ∧ Ints w' .u8 v' (lastN n C) ∧ Below w.heap.size w w' ∧ v'.ownBlock = cv.ownBlock := by
  obtain ⟨A, N, c, rfl, hc, hm, hat⟩ := hC.get
  have hN : C.length = N := hat.1
  have HB := Lib.hid ((Below.refl w.heap.size w).alloc (Nat.le_refl _) (.cells #[.int .i64 S, .slice A N c, .int .i64 T] 36))
  obtain ⟨D, hD⟩ : ∃ D, N - n = D := ⟨_, rfl⟩
  have HR := Lib.hid (show Ints (w.alloc (.cells #[.int .i64 S, .slice A N c, .int .i64 T] 36)) .u8 (.slice (if c = D then A else A.map (·.add D)) (N - D) (c - D)) (lastN n C) by
      have h1 := at_cut hat hc (j := D) (by omega)
      have h2 : C.drop D = lastN n C := by unfold lastN; rw [hN, hD]
      rw [h2] at h1
      exact (h1.ints (by omega) (by simp only [maxLen]; omega)).alloc _)
  have e0 : ¬ (n : Int) < 1 := by omega
  have hnm : (N : Int) ≤ 9223372036854775807 := by omega
  have e3 : (D : Int) ≤ (N : Int) := by omega
  have HD := Lib.hid hD
  have HI := Lib.hid hC
  clear hC hat
  by_cases hlt : n < N
  · have e1 : (N : Int) - (n : Int) = (D : Int) := by omega
    have e4 : ¬ (D : Int) < 0 := by omega
    have e5 : (0 : Int) < (D : Int) := by omega
    clear hD hN
    unfold rv
    go_enter Try.func40, Try.ntmps40
    go_wp2
    go_ret
    have hr := HR.out
    rw [if_neg (by omega)] at hr
    exact ⟨_, rfl, hr, HB.out, own_map _ _ _ _ _ _⟩
  · obtain rfl : D = 0 := by omega
    obtain ⟨Z, hZ⟩ : ∃ Z : Int, (N : Int) - (n : Int) = Z := ⟨_, rfl⟩
    have e4 : Z ≤ 0 := by omega
    have e5 : ¬ (0 : Int) < Z := by omega
    have e6 : -9223372036854775808 ≤ Z := by omega
    have HLL := Lib.hid (show lastN n C = C from lastN_all (by rw [hN]; omega))
    clear hD hN
    unfold rv
    go_enter Try.func40, Try.ntmps40
    go_wp2
    go_ret
    exact ⟨_, rfl, by rw [HLL.out]; exact HI.out.alloc _, HB.out, rfl⟩

theorem refByte_out (w : World) (S : Nat) (cv : Value) (T : Nat) (C : List Int) (hC : Ints w .u8 cv C) (off : Int) (ho : off < 1 ∨ (C.length : Int) < off) :
    Calls Try.prog 41 #[rv S cv T, .int .i64 off] w fun e w' => e = .returned (.tuple #[.int .u8 0, .bool false]) ∧ Below w.heap.size w w' := by
  obtain ⟨A, N, c, rfl, hc, hm, hat⟩ := hC.get
  have HB := Lib.hid ((Below.refl w.heap.size w).alloc (Nat.le_refl _) (.cells #[.int .i64 S, .slice A N c, .int .i64 T] 36))
  have hN : C.length = N := hat.1
  rw [hN] at ho
  clear hC hat hN
  by_cases h1 : off < 1
  · clear ho
    unfold rv
    go_enter Try.func41, Try.ntmps41
    go_wp2
    go_ret2
    exact ⟨rfl, HB.out⟩
  · have h2 : (N : Int) < off := by omega
    clear ho
    unfold rv
    go_enter Try.func41, Try.ntmps41
    go_wp2
    go_ret2
    exact ⟨rfl, HB.out⟩

theorem refByte_in (w : World) (S : Nat) (cv : Value) (T : Nat) (C : List Int) (hC : Ints w .u8 cv C) (off : Nat) (h1 : 1 ≤ off) (h2 : off ≤ C.length) {x : Int} (hx : C[C.length - off]? = some x) :
    Calls Try.prog 41 #[rv S cv T, .int .i64 off] w fun e w' => e = .returned (.tuple #[.int .u8 x, .bool true]) ∧ Below w.heap.size w w' := by
  obtain ⟨A, N, c, rfl, hc, hm, hat⟩ := hC.get
  have HB := Lib.hid ((Below.refl w.heap.size w).alloc (Nat.le_refl _) (.cells #[.int .i64 S, .slice A N c, .int .i64 T] 36))
  have hN : C.length = N := hat.1
  rw [hN] at h2 hx
  obtain ⟨D, hD⟩ : ∃ D, N - off = D := ⟨_, rfl⟩
  rw [hD] at hx
  obtain ⟨b, o, rfl, hcell⟩ := hat.2 (by omega)
  have cx0 := hcell _ _ hx
  have hblt := World.block_lt_of_cell? w _ cx0
  have cx : (w.alloc (.cells #[.int .i64 S, .slice (some ⟨b, o, none⟩) N c, .int .i64 T] 36)).cell? ⟨b, o + D, none⟩ = some (.int .u8 x) := (World.cell?_alloc_lt w _ _ hblt).trans cx0
  have e0 : ¬ (off : Int) < 1 := by omega
  have e1 : (N : Int) - (off : Int) = (D : Int) := by omega
  have e2 : ¬ (N : Int) < (off : Int) := by omega
  have e3 : (0 : Int) ≤ (D : Int) := by omega
  have e4 : (D : Int) < (N : Int) := by omega
  have e5 : (N : Int) ≤ 9223372036854775807 := by omega
  clear hC hat hN hx hD hcell cx0
  unfold rv
  go_enter Try.func41, Try.ntmps41
  go_wp2
  go_ret2
  exact ⟨rfl, HB.out⟩
end Go.Proofs.Ytohmkcoodaidcaa
