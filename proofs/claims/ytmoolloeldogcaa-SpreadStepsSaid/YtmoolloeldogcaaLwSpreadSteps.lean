/-
  SpreadSteps: the law's walk.
-/
import Derived.Test.YtmoolloeldogcaaSp08
namespace Go.Proofs.Ytmoolloeldogcaa
open Go.RowKit

theorem infoBool : (Try.prog.info? 4).map (fun i => (i.zero, i.size, i.bytes)) = some (some (.bool false), 1, 1) := by kernel_rfl

/-- Which indices have been visited before the i-th. -/
def seenOf (m N i : Nat) : Array Value := ((List.range N).map fun a => Value.bool (decide (a ∈ (List.range i).map (va m)))).toArray
theorem seenOf_zero (m N : Nat) : madeCells #[Value.bool false] N = seenOf m N 0 := by
  apply Array.ext
  · simp [size_madeCells, seenOf]
  · intro i h1 h2
    have e : i % 1 = 0 := Nat.mod_one i
    simp [madeCells, seenOf, e]
theorem seenOf_succ (m N i : Nat) : seenOf m N (i + 1) = (seenOf m N i).setIfInBounds (va m i) (.bool true) := by
  apply Array.ext
  · simp [seenOf]
  · intro a h1 h2
    simp only [seenOf, List.range_succ, List.map_append, List.map_singleton]
    rw [Array.getElem_setIfInBounds]
    · by_cases e : va m i = a
      · simp [e]
      · have e' : ¬ a = va m i := fun h => e h.symm
        simp [e, e']
    · simpa [seenOf] using h1
theorem seenOf_at {m N i : Nat} (hm : m < 10) (hN : 2 ^ m = N) (hi : i < N) : (seenOf m N i)[va m i]? = some (.bool false) := by
  have h1 : va m i < N := by rw [← hN]; exact va_lt m i
  have h2 : va m i ∉ (List.range i).map (va m) := by
    intro h
    obtain ⟨j, hj, e⟩ := List.mem_map.1 h
    have hj' := List.mem_range.1 hj
    have := va_inj hm (by omega) (by omega) e
    omega
  simp only [seenOf, List.getElem?_toArray, List.getElem?_map, List.getElem?_range h1, Option.map_some]
  rw [decide_eq_false h2]

set_option maxHeartbeats 800000 in
theorem steps_out (s l : Int) (h : l < 0 ∨ 9 < l) (w : World) : Calls Try.prog 4 #[.int .i64 s, .int .i64 l] w fun e w' => e = .returned (.bool true) ∧ Below w.heap.size w w' := by
  obtain ⟨S, hS⟩ : ∃ S, stepI s = S := ⟨_, rfl⟩
  have HS := Lib.hid hS
  clear hS
  rcases h with h | h
  all_goals
    try have h' : ¬ l < 0 := by omega
    go_enter Try.func4, Try.ntmps4
    go_wp2_with (first
      | (go_at_call 15; refine (step_any s _).mono ?_; rw [HS.out]; rintro e w' ⟨rfl, rfl⟩)
      | (go_at_call 16; refine (rstep_any s _).mono ?_; rw [HS.out]; rintro e w' ⟨rfl, rfl⟩)
      | (go_at_call 11; refine (known_any _).mono ?_; rintro e w2 ⟨rfl, hb⟩; have HB := Lib.hid hb; clear hb))
    go_ret
    exact ⟨rfl, HB.out⟩

set_option maxHeartbeats 800000 in
theorem steps_in (s : Int) (m : Nat) (hm : m < 10) (w : World) : Calls Try.prog 4 #[.int .i64 s, .int .i64 m] w fun e w' => e = .returned (.bool true) ∧ Below w.heap.size w w' := by
  obtain ⟨S, hS⟩ : ∃ S, stepI s = S := ⟨_, rfl⟩
  have HS := Lib.hid hS
  have hN := (step_le ⟨m, hm⟩).2.2
  have hT1 := (step_le ⟨m, hm⟩).1
  have hT2 := (step_le ⟨m, hm⟩).2.1
  have hT := stepI_pow ⟨m, hm⟩
  have hsucc := va_succ m
  have hvlt := va_lt m
  have htop := va_top m
  simp only at hN hT hT1 hT2
  obtain ⟨N, hNe⟩ : ∃ N, 2 ^ m = N := ⟨_, rfl⟩
  obtain ⟨T, hTe⟩ : ∃ T, stepOf (2 ^ m) = T := ⟨_, rfl⟩
  rw [hTe] at hT hT1 hT2 hsucc
  rw [hNe] at hN hT hsucc hvlt htop
  have hN0 : 0 < N := by rw [← hNe]; exact pow_pos2 m
  have hpow : (2 : Int) ^ m = (N : Int) := by rw [← hNe, Int.natCast_pow]; rfl
  have HNE := Lib.hid hNe
  have HT := Lib.hid hT
  have HSU := Lib.hid hsucc
  have HVL := Lib.hid hvlt
  have HTOP := Lib.hid htop
  have HPOW := Lib.hid hpow
  clear hS hNe hT hsucc hvlt htop hTe hpow
  have m0 : (0 : Int) ≤ (m : Int) := by omega
  have m9 : (m : Int) ≤ 9 := by omega
  have t1 : ¬ (T : Int) < 1 := by omega
  have hz' : ¬ (N : Int) = 0 := by omega
  have hmk : ∀ W : World, (Instr.makeSlice 34 (.int .i64 (N : Int)) (.int .i64 (N : Int))).run Try.prog W = .ok (.slice (some ⟨W.heap.size, 0, none⟩) N N) (W.alloc (.cells (madeCells #[.bool false] N) 4)) :=
    fun W => run_make_row' 34 4 (.bool false) 1 Try.underlying34 infoBool rfl .i64 .i64 N (by omega) (by omega) W
  go_enter Try.func4, Try.ntmps4
  go_wp2_with fail
  refine (step_any s _).mono ?_
  rw [HS.out]
  rintro e w' ⟨rfl, rfl⟩
  go_wp2_with fail
  refine (rstep_any s _).mono ?_
  rw [HS.out]
  rintro e w' ⟨rfl, rfl⟩
  go_wp2_with fail
  refine (size_in m m0 (by omega) _).mono ?_
  rw [Int.toNat_natCast, HPOW.out]
  rintro e w' ⟨rfl, rfl⟩
  go_wp2_with fail
  refine (step_any N _).mono ?_
  rw [HT.out]
  rintro e w' ⟨rfl, rfl⟩
  go_wp2
  have hblk := Blk.new w 4 (madeCells #[.bool false] N)
  rw [seenOf_zero m N] at hblk ⊢
  have HBLK := Lib.hid hblk
  clear hblk hmk
  go_loopw [8, 9] (fun at_ i wr => ∃ j : Nat, j ≤ N ∧ i = .int .i64 j ∧ at_ = .int .i64 (va m j : Nat) ∧ Hid (Blk wr w.heap.size 4 (seenOf m N j)) ∧ Below w.heap.size w wr) (fun _ i _ => N - (intOf i).toNat)
  case atStart => exact ⟨0, Nat.zero_le _, rfl, by rw [va_zero]; rfl, HBLK, (Below.refl _ w).alloc (Nat.le_refl _) _⟩
  case round =>
    obtain ⟨j, hj, rfl, rfl, HB, hbel⟩ := hrel
    by_cases hlt : j < N
    · have hv1 := HVL.out j
      obtain ⟨a, ha⟩ : ∃ a, va m j = a := ⟨_, rfl⟩
      have hat := seenOf_at hm HNE.out hlt
      have hsu := HSU.out j
      rw [ha] at hv1 hat hsu ⊢
      have cb : wr.cell? ⟨w.heap.size, a, none⟩ = some (.bool false) := (HB.out.cell a).trans hat
      have fb : wr.frozen? ⟨w.heap.size, a, none⟩ = false := HB.out.frozen a
      have HA := Lib.hid ha
      obtain ⟨a2, ha2⟩ : ∃ a2, va m (j + 1) = a2 := ⟨_, rfl⟩
      rw [ha2] at hsu
      have hrem : ((a : Int) + (T : Int)) % (N : Int) = (a2 : Int) := by rw [hsu]; rfl
      have HA2 := Lib.hid ha2
      have a0 : (0 : Int) ≤ (a : Int) := by omega
      have a1 : (a : Int) < (N : Int) := by omega
      clear ha ha2 hat hsu
      go_wp2
      go_roundw
      case rel => exact ⟨j + 1, by omega, by go_num, by rw [HA2.out]; exact congrArg _ hrem, (by
        rw [seenOf_succ, HA.out]
        exact HB.out.set_ a (.bool true) : Blk _ _ _ _), hbel.setCell (p := ⟨w.heap.size, a, none⟩) (Nat.le_refl _) _⟩
      case measure => simp [intOf]; omega
    · obtain rfl : j = N := by omega
      rw [HTOP.out]
      go_wp2_with (go_at_call 11; refine (known_any _).mono ?_; rintro e w2 ⟨rfl, hb⟩; have HB2 := Lib.hid (hbel.trans (hb.mono hbel.size)); clear hb)
      go_ret
      exact ⟨rfl, HB2.out⟩

theorem spreadSteps_walk (s : Int) (_ : (Lit.int .i64 s).wf = true) (l : Int) (_ : (Lit.int .i64 l).wf = true) (w : World) : Calls Try.prog 4 #[.int .i64 s, .int .i64 l] w fun e w' => e = .returned (.bool true) ∧ Below w.heap.size w w' := by
  by_cases h : l < 0 ∨ 9 < l
  · exact steps_out s l h w
  · obtain ⟨m, rfl⟩ := Int.eq_ofNat_of_zero_le (show 0 ≤ l by omega)
    exact steps_in s m (by omega) w
end Go.Proofs.Ytmoolloeldogcaa
