/-
  code: the methods of a kind, at both kinds; the six exported functions.
-/
import Derived.Test.YtkffhfdmdcecaaaCode
namespace Go.Proofs.Ytkffhfdmdcecaaa
open Go.RowKit

set_option maxHeartbeats 800000 in
theorem of_num (v : Int) (h0 : 0 ≤ v) (h1 : v < 262144) (b : Nat) (w : World) (hb : w.cell? ⟨b, 0, none⟩ = some (.func (.func 39) #[] #[])) :
    Calls Try.prog 35 #[numV b, .int .i64 v] w fun e w' => e = .returned (.tuple #[.int .i64 (lcode v), .int .u64 (v - lfirst (lcode v)), .int .i64 0]) ∧ Below w.heap.size w w' := by
  have hs := lcode_spec h0 h1
  have ht := lfirst_top hs.1 hs.2.1
  have hbl := World.block_lt_of_cell? w _ hb
  have hb' : ∀ o, (w.alloc o).cell? ⟨b, 0, none⟩ = some (.func (.func 39) #[] #[]) := fun o => (World.cell?_alloc_lt w _ _ hbl).trans hb
  have HB := Lib.hid hb'
  clear hb'
  rw [numV_unfold]

  obtain ⟨c, hc⟩ : ∃ c, c = lcode v := ⟨_, rfl⟩
  obtain ⟨f, hf⟩ : ∃ f, f = lfirst c := ⟨_, rfl⟩
  rw [← hc, ← hf] at hs
  rw [← hc, ← hf] at ht
  rw [← hc, ← hf]
  obtain ⟨hs0, hs1, hs2, -⟩ := hs
  obtain ⟨ht0, -, -, ht1⟩ := ht
  have HC := Lib.hid hc
  have HF := Lib.hid hf
  clear hc hf ht1
  have h0' : ¬ v < 0 := by omega
  have h1' : ¬ 262144 ≤ v := by omega
  go_enter Try.func35, Try.ntmps35
  go_wp2_with (first
    | (go_at_call 40; refine (lcode_any v h0 h1 _).mono ?_; rw [← HC.out]; rintro e w' ⟨rfl, rfl⟩)
    | (go_at_call 43; refine (lfirst_any c hs0 hs1 b _ (HB.out _)).mono ?_; rw [← HF.out]; rintro e w' ⟨rfl, rfl⟩)
    | go_in)
  go_ret3
  exact ⟨rfl, below_alloc _ _⟩
set_option maxHeartbeats 800000 in
theorem of_num_out (v : Int) (h : v < 0 ∨ 262144 ≤ v) (b : Nat) (w : World) :
    Calls Try.prog 35 #[numV b, .int .i64 v] w fun e w' => e = .returned (.tuple #[.int .i64 0, .int .u64 0, .int .i64 2]) ∧ Below w.heap.size w w' := by
  rw [numV_unfold]
  rcases h with h | h
  · go_enter Try.func35, Try.ntmps35
    go_wp2
    go_ret3
    exact ⟨rfl, below_alloc _ _⟩
  · have h' : ¬ v < 0 := by omega
    go_enter Try.func35, Try.ntmps35
    go_wp2
    go_ret3
    exact ⟨rfl, below_alloc _ _⟩
set_option maxHeartbeats 800000 in
theorem of_off (v : Int) (h0 : 1 ≤ v) (h1 : v < 268435456) (w : World) :
    Calls Try.prog 35 #[offV, .int .i64 v] w fun e w' => e = .returned (.tuple #[.int .i64 (ocode v), .int .u64 (v - ofirst (ocode v)), .int .i64 0]) ∧ Below w.heap.size w w' := by
  have hs := ocode_spec h0 h1
  have ht := ofirst_top hs.1 hs.2.1
  rw [offV_unfold]
  obtain ⟨c, hc⟩ : ∃ c, c = ocode v := ⟨_, rfl⟩
  obtain ⟨f, hf⟩ : ∃ f, f = ofirst c := ⟨_, rfl⟩
  rw [← hc, ← hf] at hs
  rw [← hc, ← hf] at ht
  rw [← hc, ← hf]
  obtain ⟨hs0, hs1, hs2, -⟩ := hs
  obtain ⟨ht0, ht1⟩ := ht
  have HC := Lib.hid hc
  have HF := Lib.hid hf
  clear hc hf ht1
  have h0' : ¬ v < 1 := by omega
  have h1' : ¬ 268435456 ≤ v := by omega
  go_enter Try.func35, Try.ntmps35
  go_wp2_with (first
    | (go_at_call 45; refine (ocode_any v h0 h1 _).mono ?_; rw [← HC.out]; rintro e w' ⟨rfl, rfl⟩)
    | (go_at_call 47; refine (ofirst_any c hs0 hs1 _).mono ?_; rw [← HF.out]; rintro e w' ⟨rfl, rfl⟩)
    | go_in)
  go_ret3
  exact ⟨rfl, below_alloc _ _⟩
set_option maxHeartbeats 800000 in
theorem of_off_out (v : Int) (h : v < 1 ∨ 268435456 ≤ v) (w : World) :
    Calls Try.prog 35 #[offV, .int .i64 v] w fun e w' => e = .returned (.tuple #[.int .i64 0, .int .u64 0, .int .i64 2]) ∧ Below w.heap.size w w' := by
  rw [offV_unfold]
  rcases h with h | h
  · go_enter Try.func35, Try.ntmps35
    go_wp2
    go_ret3
    exact ⟨rfl, below_alloc _ _⟩
  · have h' : ¬ v < 1 := by omega
    go_enter Try.func35, Try.ntmps35
    go_wp2
    go_ret3
    exact ⟨rfl, below_alloc _ _⟩

end Go.Proofs.Ytkffhfdmdcecaaa
