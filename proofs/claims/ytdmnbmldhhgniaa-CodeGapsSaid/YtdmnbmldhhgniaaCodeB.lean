/-
  code: the methods of a kind, at both kinds; the six exported functions.
-/
import Derived.Test.YtdmnbmldhhgniaaCode
namespace Go.Proofs.Ytdmnbmldhhgniaa
open Go.RowKit

set_option maxHeartbeats 800000 in
theorem of_num (v : Int) (h0 : 0 ≤ v) (h1 : v < 262144) (b : Nat) (w : World) (hb : w.cell? ⟨b, 0, none⟩ = some (.func (.func 29) #[] #[])) :
    Calls Try.prog 22 #[numV b, .int .i64 v] w fun e w' => e = .returned (.tuple #[.int .i64 (lcode v), .int .u64 (v - lfirst (lcode v)), .int .i64 0]) ∧ Below w.heap.size w w' := by
  have hs := lcode_spec h0 h1
  have ht := lfirst_top hs.1 hs.2.1
  have hbl := World.block_lt_of_cell? w _ hb
  have hb' : ∀ o, (w.alloc o).cell? ⟨b, 0, none⟩ = some (.func (.func 29) #[] #[]) := fun o => (World.cell?_alloc_lt w _ _ hbl).trans hb
  have HB := Lib.hid hb'
  clear hb'
  rw [numV_unfold]

  obtain ⟨c, hc⟩ : ∃ c, c = lcode v := ⟨_, rfl⟩
  obtain ⟨f, hf⟩ : ∃ f, f = lfirst c := ⟨_, rfl⟩
  rw [← hc, ← hf] at hs
  rw [← hc, ← hf] at ht
  rw [← hc, ← hf]
  obtain ⟨hs0, hs1, hs2, -⟩ := hs
  obtain ⟨ht0, -, -, ht1⟩ := ht
  have HC := Lib.hid hc
  have HF := Lib.hid hf
  clear hc hf ht1
  have h0' : ¬ v < 0 := by omega
  have h1' : ¬ 262144 ≤ v := by omega
  go_enter Try.func22, Try.ntmps22
  go_wp2_with (first
    | (go_at_call 30; refine (lcode_any v h0 h1 _).mono ?_; rw [← HC.out]; rintro e w' ⟨rfl, rfl⟩)
    | (go_at_call 33; refine (lfirst_any c hs0 hs1 b _ (HB.out _)).mono ?_; rw [← HF.out]; rintro e w' ⟨rfl, rfl⟩)
    | go_in)
  go_ret3
  exact ⟨rfl, below_alloc _ _⟩
set_option maxHeartbeats 800000 in
theorem of_num_out (v : Int) (h : v < 0 ∨ 262144 ≤ v) (b : Nat) (w : World) :
    Calls Try.prog 22 #[numV b, .int .i64 v] w fun e w' => e = .returned (.tuple #[.int .i64 0, .int .u64 0, .int .i64 2]) ∧ Below w.heap.size w w' := by
  rw [numV_unfold]
  rcases h with h | h
  · go_enter Try.func22, Try.ntmps22
    go_wp2
    go_ret3
    exact ⟨rfl, below_alloc _ _⟩
  · have h' : ¬ v < 0 := by omega
    go_enter Try.func22, Try.ntmps22
    go_wp2
    go_ret3
    exact ⟨rfl, below_alloc _ _⟩
set_option maxHeartbeats 800000 in
theorem many_num (c : Int) (h0 : 0 ≤ c) (h1 : c < 44) (b : Nat) (w : World) (hb : w.cell? ⟨b, 0, none⟩ = some (.func (.func 29) #[] #[])) :
    Calls Try.prog 27 #[numV b, .int .i64 c] w fun e w' => e = .returned (.tuple #[.int .i64 (lbits c), .int .i64 0]) ∧ Below w.heap.size w w' := by
  have hbl := World.block_lt_of_cell? w _ hb
  have hb' : ∀ o, (w.alloc o).cell? ⟨b, 0, none⟩ = some (.func (.func 29) #[] #[]) := fun o => (World.cell?_alloc_lt w _ _ hbl).trans hb
  have HB := Lib.hid hb'
  clear hb'
  rw [numV_unfold]

  have h0' : ¬ c < 0 := by omega
  have h1' : ¬ 44 ≤ c := by omega
  go_enter Try.func27, Try.ntmps27
  go_wp2_with (first
    | (go_at_call 32; refine (lbits_any c h0 h1 b _ (HB.out _)).mono ?_; rintro e w' ⟨rfl, rfl⟩)
    | go_in)
  go_ret2
  exact ⟨rfl, below_alloc _ _⟩
set_option maxHeartbeats 800000 in
theorem many_num_out (c : Int) (h : c < 0 ∨ 44 ≤ c) (b : Nat) (w : World) :
    Calls Try.prog 27 #[numV b, .int .i64 c] w fun e w' => e = .returned (.tuple #[.int .i64 0, .int .i64 2]) ∧ Below w.heap.size w w' := by
  rw [numV_unfold]
  rcases h with h | h
  · go_enter Try.func27, Try.ntmps27
    go_wp2
    go_ret2
    exact ⟨rfl, below_alloc _ _⟩
  · have h' : ¬ c < 0 := by omega
    go_enter Try.func27, Try.ntmps27
    go_wp2
    go_ret2
    exact ⟨rfl, below_alloc _ _⟩
set_option maxHeartbeats 800000 in
theorem of_off (v : Int) (h0 : 1 ≤ v) (h1 : v < 268435456) (w : World) :
    Calls Try.prog 22 #[offV, .int .i64 v] w fun e w' => e = .returned (.tuple #[.int .i64 (ocode v), .int .u64 (v - ofirst (ocode v)), .int .i64 0]) ∧ Below w.heap.size w w' := by
  have hs := ocode_spec h0 h1
  have ht := ofirst_top hs.1 hs.2.1
  rw [offV_unfold]
  obtain ⟨c, hc⟩ : ∃ c, c = ocode v := ⟨_, rfl⟩
  obtain ⟨f, hf⟩ : ∃ f, f = ofirst c := ⟨_, rfl⟩
  rw [← hc, ← hf] at hs
  rw [← hc, ← hf] at ht
  rw [← hc, ← hf]
  obtain ⟨hs0, hs1, hs2, -⟩ := hs
  obtain ⟨ht0, ht1⟩ := ht
  have HC := Lib.hid hc
  have HF := Lib.hid hf
  clear hc hf ht1
  have h0' : ¬ v < 1 := by omega
  have h1' : ¬ 268435456 ≤ v := by omega
  go_enter Try.func22, Try.ntmps22
  go_wp2_with (first
    | (go_at_call 35; refine (ocode_any v h0 h1 _).mono ?_; rw [← HC.out]; rintro e w' ⟨rfl, rfl⟩)
    | (go_at_call 37; refine (ofirst_any c hs0 hs1 _).mono ?_; rw [← HF.out]; rintro e w' ⟨rfl, rfl⟩)
    | go_in)
  go_ret3
  exact ⟨rfl, below_alloc _ _⟩
set_option maxHeartbeats 800000 in
theorem of_off_out (v : Int) (h : v < 1 ∨ 268435456 ≤ v) (w : World) :
    Calls Try.prog 22 #[offV, .int .i64 v] w fun e w' => e = .returned (.tuple #[.int .i64 0, .int .u64 0, .int .i64 2]) ∧ Below w.heap.size w w' := by
  rw [offV_unfold]
  rcases h with h | h
  · go_enter Try.func22, Try.ntmps22
    go_wp2
    go_ret3
    exact ⟨rfl, below_alloc _ _⟩
  · have h' : ¬ v < 1 := by omega
    go_enter Try.func22, Try.ntmps22
    go_wp2
    go_ret3
    exact ⟨rfl, below_alloc _ _⟩
set_option maxHeartbeats 800000 in
theorem many_off (c : Int) (h0 : 0 ≤ c) (h1 : c < 28) (w : World) :
    Calls Try.prog 27 #[offV, .int .i64 c] w fun e w' => e = .returned (.tuple #[.int .i64 (c), .int .i64 0]) ∧ Below w.heap.size w w' := by
  rw [offV_unfold]
  have h0' : ¬ c < 0 := by omega
  have h1' : ¬ 28 ≤ c := by omega
  go_enter Try.func27, Try.ntmps27
  go_wp2
  go_ret2
  exact ⟨rfl, below_alloc _ _⟩
set_option maxHeartbeats 800000 in
theorem many_off_out (c : Int) (h : c < 0 ∨ 28 ≤ c) (w : World) :
    Calls Try.prog 27 #[offV, .int .i64 c] w fun e w' => e = .returned (.tuple #[.int .i64 0, .int .i64 2]) ∧ Below w.heap.size w w' := by
  rw [offV_unfold]
  rcases h with h | h
  · go_enter Try.func27, Try.ntmps27
    go_wp2
    go_ret2
    exact ⟨rfl, below_alloc _ _⟩
  · have h' : ¬ c < 0 := by omega
    go_enter Try.func27, Try.ntmps27
    go_wp2
    go_ret2
    exact ⟨rfl, below_alloc _ _⟩
end Go.Proofs.Ytdmnbmldhhgniaa
