/-
  spread.turn: the iterator over the visiting order.
-/
import Derived.RangeFuncNested
import Derived.RangeFuncBound
import Derived.RangeFuncCalls
import Derived.RangeFuncLeaves
import Derived.RangeFuncWrites
import Derived.Shelf.Abstract
import Derived.Shelf.RegionOpen
import Derived.OwnWalkIn
import Derived.TacticsInMore
import Derived.LoopNIn
import Derived.LoopIn
import Derived.Sort.BigQuietIn
import Derived.Stop.RegionWithIn
import Derived.Test.YtkffhfdmdcecaaaSpStep
namespace Go.Proofs.Ytkffhfdmdcecaaa
open Go.RowKit Go.Shelf

attribute [local go_sem] Oper.semAt_some

/-- The boxed size is what it was. -/
def KeepBox (Bn : Nat) (W W' : World) : Prop := ∀ v, W.cell? ⟨Bn, 0, none⟩ = some v → W'.cell? ⟨Bn, 0, none⟩ = some v

set_option maxRecDepth 100000 in
set_option maxHeartbeats 1000000 in
theorem turn1_in {α : Type} (val : α → Nat) (vx : Nat → α) (n N S : Nat) (hN : N ≤ 512) (hN0 : 0 < N) (hS1 : S ≤ 323) (hS : stepI (N : Int) = (S : Int)) (hva : ∀ k, val (vx k) = k * S % N)
    (hn : 1 ≤ n) (l Bn : Nat) (J Jx : List α → World → Prop) (W : World) (hJa : AbidesFrom W.heap.size J)
    (hY : ∀ pre x W, J pre W → pre.length < N → YieldAt Fence.wide (n - 1) Try.prog l #[.int .i64 (val x : Nat)] W fun e W' =>
      (e = .returned (.bool true) ∧ J (pre ++ [x]) W' ∧ KeepBox Bn W W') ∨ (e = .returned (.bool false) ∧ Jx (pre ++ [x]) W'))
    (hBn : W.cell? ⟨Bn, 0, none⟩ = some (.int .i64 (N : Int))) (h0 : J [] W) :
    CallsIn Fence.wide n Try.prog 55 #[.func (.yield l) #[] #[], .pointer (some ⟨Bn, 0, none⟩)] W fun e W' => (∃ v, e = .returned v) ∧
      ((∃ ys, ys = (List.range N).map vx ∧ J ys W') ∨ (∃ pre, pre <+: (List.range N).map vx ∧ Jx pre W')) := by
  have HVA := Lib.hid hva
  have HS := Lib.hid hS
  clear hva hS
  refine callsIn_of_wp Try.func55 rfl trivial ?_ rfl
  simp only [Try.ntmps55, List.size_toArray, List.length_cons, List.length_nil, Nat.reduceAdd, Nat.reduceSub, Array.replicate_succ, Array.replicate_zero, List.push_toArray, List.append_toArray, List.nil_append, List.cons_append]
  gi_wp2
  gi_loopw [5] (fun i wr => ∃ k : Nat, k ≤ N ∧ i = .int .i64 k ∧ J ((List.range k).map vx) wr ∧ wr.cell? ⟨Bn, 0, none⟩ = some (.int .i64 (N : Int)))
    (fun i _ => N - (intOf i).toNat)
  case atStart => exact ⟨0, Nat.zero_le _, rfl, h0, hBn⟩
  case round =>
    obtain ⟨k, hk, rfl, hJ, hc⟩ := hrel
    by_cases hlt : k < N
    · obtain ⟨M, hM⟩ : ∃ M : Nat, k * S = M := ⟨_, rfl⟩
      obtain ⟨a, ha⟩ : ∃ a : Nat, val (vx k) = a := ⟨_, rfl⟩
      have hM1 : M ≤ 512 * 323 := by rw [← hM]; exact Nat.mul_le_mul (by omega) hS1
      have hmul : (k : Int) * (S : Int) = (M : Int) := by rw [← hM, Int.natCast_mul]
      have hrem : (M : Int) % (N : Int) = (a : Int) := by rw [← ha, HVA.out, hM]; rfl
      have hz : ((N : Int) == 0) = false := by simp; omega
      have hz' : ¬ (N : Int) = 0 := by omega
      have M0 : (0 : Int) ≤ (M : Int) := by omega
      have M1 : (M : Int) ≤ 165376 := by omega
      have HA := Lib.hid ha
      have hup : Hid ((List.range (k + 1)).map vx = (List.range k).map vx ++ [vx k]) := (by rw [List.range_succ, List.map_append, List.map_singleton] : _ = _)
      have hJd : J ((List.range k).map vx) wr.drew := hJa _ _ _ none hJ ⟨rfl, rfl, rfl, Nat.le_refl _, fun _ _ _ => rfl⟩ (fun r e => by cases e)
      obtain ⟨fn, tmps, assign, body, hy, hR0⟩ := hY _ (vx k) wr.drew hJd (by simpa using hlt)
      have hR := hR0.mono (R' := fun e W' => ∃ b : Bool, e = .returned (.bool b) ∧ Hid ((b = true ∧ J ((List.range (k + 1)).map vx) W' ∧ W'.cell? ⟨Bn, 0, none⟩ = some (.int .i64 (N : Int))) ∨ (b = false ∧ Jx ((List.range (k + 1)).map vx) W'))) (by
        rintro e W' (⟨rfl, h1, h2⟩ | ⟨rfl, h1⟩)
        · exact ⟨true, rfl, .inl ⟨rfl, by rw [hup.out]; exact h1, h2 _ hc⟩⟩
        · exact ⟨false, rfl, .inr ⟨rfl, by rw [hup.out]; exact h1⟩⟩)
      rw [ha] at hy
      clear hM ha hY hR0
      gi_wp2
      gi_region_with (first
        | (refine ⟨trivial, ?_⟩; gi_at_call 56; refine (callsIn_wide.2 (step_any _ _)).mono ?_; rw [HS.out]; rintro e w' ⟨rfl, rfl⟩)
        | (refine hR.mono ?_; rintro e W' ⟨b, rfl, H⟩))
      all_goals (rcases H.out with ⟨rfl, hJ', hc'⟩ | ⟨rfl, hJx'⟩ <;> clear H)
      all_goals first
        | (have hJ' := hJ'
           gi_wp2
           go_roundw
           case rel => exact ⟨k + 1, by omega, by go_num, hJ', hc'⟩
           case measure => simp [intOf]; omega)
        | (have hJx' := hJx'
           gi_wp2
           refine bodyPost_ret (results_none rfl _ _ _) rfl ?_
           exact ⟨⟨_, rfl⟩, .inr ⟨_, ⟨((List.range N).map vx).drop (k + 1), by
             rw [← List.map_drop, ← List.map_append]
             congr 1
             rw [← List.take_append_drop (k + 1) (List.range N)]
             congr 1
             · rw [List.take_range, Nat.min_eq_left (by omega)]
             · rw [List.take_append_drop]⟩, hJx'⟩⟩)
    · obtain rfl : k = N := by omega
      gi_wp2
      go_end0
      exact ⟨⟨_, rfl⟩, .inl ⟨_, rfl, hJ⟩⟩

/-- The k-th visited index as an index. -/
def vaF (m k : Nat) : Fin (2 ^ m) := ⟨va m k, va_lt m k⟩

theorem turn_stops (n m : Nat) (hm : m < 10) (hn : 1 ≤ n) (Bn : Nat) (w : World) (hBn : w.cell? ⟨Bn, 0, none⟩ = some (.int .i64 ((2 ^ m : Nat) : Int))) :
    SeqStopsK Fence.wide n Try.prog 55 #[.pointer (some ⟨Bn, 0, none⟩)] (fun x : Fin (2 ^ m) => #[Value.int .i64 (x.1 : Nat)]) (KeepBox Bn)
      (fun ys => ys = (List.range (2 ^ m)).map (vaF m)) (fun pre => pre <+: (List.range (2 ^ m)).map (vaF m)) (2 ^ m) w := fun l J Jx W hW hJ _ hY h0 =>
  turn1_in (fun x : Fin (2 ^ m) => x.1) (vaF m) n (2 ^ m) (stepOf (2 ^ m)) (step_le ⟨m, hm⟩).2.2 (pow_pos2 m) (step_le ⟨m, hm⟩).2.1 (stepI_pow ⟨m, hm⟩) (fun _ => rfl) hn l Bn J Jx W hJ hY
    ((hW.cell (p := ⟨Bn, 0, none⟩) (World.block_lt_of_cell? w _ hBn)).trans hBn) h0

set_option maxHeartbeats 400000 in
theorem turn_any (n : Int) (w : World) : Calls Try.prog 54 #[.int .i64 n] w fun e w' =>
    e = .returned (.func (.func 55) #[] #[.pointer (some ⟨w.heap.size, 0, none⟩)]) ∧ w' = w.alloc (.cells #[.int .i64 n] 3) := by
  go_enter Try.func54, Try.ntmps54
  go_wp2
  go_ret
  exact ⟨rfl, rfl⟩
end Go.Proofs.Ytkffhfdmdcecaaa
