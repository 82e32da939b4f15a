/-
  code: the value of a code and a rest; the six exported functions.
-/
import Derived.Test.YtdmnbmldhhgniaaCodeB
namespace Go.Proofs.Ytdmnbmldhhgniaa
open Go.RowKit

set_option maxHeartbeats 1600000 in
theorem value_num (c r : Int) (h0 : 0 ≤ c) (h1 : c < 44) (hr0 : 0 ≤ r) (hr1 : r < 2 ^ (lbits c).toNat) (b : Nat) (w : World) (hb : w.cell? ⟨b, 0, none⟩ = some (.func (.func 29) #[] #[])) :
    Calls Try.prog 28 #[numV b, .int .i64 c, .int .u64 r] w fun e w' => e = .returned (.tuple #[.int .i64 (lfirst c + r), .int .i64 0]) ∧ Below w.heap.size w w' := by
  have ht := lfirst_top h0 h1
  have hbl := World.block_lt_of_cell? w _ hb
  have hb1 : ∀ o, (w.alloc o).cell? ⟨b, 0, none⟩ = some (.func (.func 29) #[] #[]) := fun o => (World.cell?_alloc_lt w _ _ hbl).trans hb
  have HB1 := Lib.hid hb1
  clear hb1
  obtain ⟨n, hn⟩ : ∃ n, n = lbits c := ⟨_, rfl⟩
  obtain ⟨f, hf⟩ : ∃ f, f = lfirst c := ⟨_, rfl⟩
  rw [← hn, ← hf] at ht
  rw [← hn] at hr1
  rw [← hf]
  obtain ⟨S, hS⟩ : ∃ S, (2 : Int) ^ n.toNat = S := ⟨_, rfl⟩
  rw [hS] at ht hr1
  have hS0 : 1 ≤ S := by rw [← hS]; exact Int.pow_pos (by decide)
  obtain ⟨ht0, ht1, ht2, ht3⟩ := ht
  have HN := Lib.hid hn
  have HF := Lib.hid hf
  clear hn hf hb
  rw [numV_unfold]
  go_enter Try.func28, Try.ntmps28
  go_wp2_with fail
  rw [← numV_unfold]
  refine (many_num c h0 h1 b _ (HB1.out _)).mono ?_
  rw [← HN.out]
  rintro e w1 ⟨rfl, hb1⟩
  have HBL := Lib.hid ((below_alloc w _).trans (hb1.mono (by simp)))
  have HR := Lib.hid ((Blk.new w _ _).below hb1 (by simp))
  have HB2 := Lib.hid ((hb1.cell (p := ⟨b, 0, none⟩) (by simp; omega)).trans (HB1.out _))
  clear hb1 HB1
  have hc5 : w1.cell? ⟨w.heap.size, 5, none⟩ = some (.func (.func 33) #[] #[.pointer (some ⟨b, 0, none⟩)]) := by rw [HR.out.cell]; rfl
  go_wp2_with (first
    | (go_at_call 33; refine (lfirst_any c h0 h1 b _ HB2.out).mono ?_; rw [← HF.out]; rintro e w' ⟨rfl, rfl⟩)
    | go_in)
  go_ret2
  exact ⟨rfl, HBL.out⟩
set_option maxHeartbeats 1600000 in
theorem value_num_big (c r : Int) (h0 : 0 ≤ c) (h1 : c < 44) (hr0 : 0 ≤ r) (hr1 : 2 ^ (lbits c).toNat ≤ r) (hr2 : r ≤ 18446744073709551615) (b : Nat) (w : World) (hb : w.cell? ⟨b, 0, none⟩ = some (.func (.func 29) #[] #[])) :
    Calls Try.prog 28 #[numV b, .int .i64 c, .int .u64 r] w fun e w' => e = .returned (.tuple #[.int .i64 0, .int .i64 2]) ∧ Below w.heap.size w w' := by
  have ht := lfirst_top h0 h1
  have hbl := World.block_lt_of_cell? w _ hb
  have hb1 : ∀ o, (w.alloc o).cell? ⟨b, 0, none⟩ = some (.func (.func 29) #[] #[]) := fun o => (World.cell?_alloc_lt w _ _ hbl).trans hb
  have HB1 := Lib.hid hb1
  clear hb1
  obtain ⟨n, hn⟩ : ∃ n, n = lbits c := ⟨_, rfl⟩
  obtain ⟨f, hf⟩ : ∃ f, f = lfirst c := ⟨_, rfl⟩
  rw [← hn, ← hf] at ht
  rw [← hn] at hr1
  obtain ⟨S, hS⟩ : ∃ S, (2 : Int) ^ n.toNat = S := ⟨_, rfl⟩
  rw [hS] at ht hr1
  have hS0 : 1 ≤ S := by rw [← hS]; exact Int.pow_pos (by decide)
  obtain ⟨ht0, ht1, ht2, ht3⟩ := ht
  have HN := Lib.hid hn
  have HF := Lib.hid hf
  clear hn hf hb
  rw [numV_unfold]
  go_enter Try.func28, Try.ntmps28
  go_wp2_with fail
  rw [← numV_unfold]
  refine (many_num c h0 h1 b _ (HB1.out _)).mono ?_
  rw [← HN.out]
  rintro e w1 ⟨rfl, hb1⟩
  have HBL := Lib.hid ((below_alloc w _).trans (hb1.mono (by simp)))
  have HR := Lib.hid ((Blk.new w _ _).below hb1 (by simp))
  have HB2 := Lib.hid ((hb1.cell (p := ⟨b, 0, none⟩) (by simp; omega)).trans (HB1.out _))
  clear hb1 HB1
  have hc5 : w1.cell? ⟨w.heap.size, 5, none⟩ = some (.func (.func 33) #[] #[.pointer (some ⟨b, 0, none⟩)]) := by rw [HR.out.cell]; rfl
  go_wp2
  go_ret2
  exact ⟨rfl, HBL.out⟩
set_option maxHeartbeats 1600000 in
theorem value_num_out (c r : Int) (h : c < 0 ∨ 44 ≤ c) (b : Nat) (w : World) :
    Calls Try.prog 28 #[numV b, .int .i64 c, .int .u64 r] w fun e w' => e = .returned (.tuple #[.int .i64 0, .int .i64 2]) ∧ Below w.heap.size w w' := by
  have H := Lib.hid h
  clear h
  rw [numV_unfold]
  go_enter Try.func28, Try.ntmps28
  go_wp2_with fail
  rw [← numV_unfold]
  refine (many_num_out c H.out b _).mono ?_
  rintro e w1 ⟨rfl, hb1⟩
  have HBL := Lib.hid ((below_alloc w _).trans (hb1.mono (by simp)))
  clear hb1
  go_wp2
  go_ret2
  exact ⟨rfl, HBL.out⟩
set_option maxHeartbeats 1600000 in
theorem value_off (c r : Int) (h0 : 0 ≤ c) (h1 : c < 28) (hr0 : 0 ≤ r) (hr1 : r < 2 ^ (c).toNat) (w : World) :
    Calls Try.prog 28 #[offV, .int .i64 c, .int .u64 r] w fun e w' => e = .returned (.tuple #[.int .i64 (ofirst c + r), .int .i64 0]) ∧ Below w.heap.size w w' := by
  have ht := ofirst_top h0 h1
  obtain ⟨n, hn⟩ : ∃ n, n = c := ⟨_, rfl⟩
  obtain ⟨f, hf⟩ : ∃ f, f = ofirst c := ⟨_, rfl⟩
  rw [← hf] at ht
  rw [← hf]
  obtain ⟨S, hS⟩ : ∃ S, (2 : Int) ^ c.toNat = S := ⟨_, rfl⟩
  rw [hS] at ht hr1
  have hS0 : 1 ≤ S := by rw [← hS]; exact Int.pow_pos (by decide)
  obtain ⟨ht0, ht3⟩ := ht
  have HN := Lib.hid hn
  have HF := Lib.hid hf
  clear hn hf 
  rw [offV_unfold]
  go_enter Try.func28, Try.ntmps28
  go_wp2_with fail
  rw [← offV_unfold]
  refine (many_off c h0 h1 _).mono ?_
  rintro e w1 ⟨rfl, hb1⟩
  have HBL := Lib.hid ((below_alloc w _).trans (hb1.mono (by simp)))
  have HR := Lib.hid ((Blk.new w _ _).below hb1 (by simp))
  clear hb1
  have hc5 : w1.cell? ⟨w.heap.size, 5, none⟩ = some (.func (.func 37) #[] #[]) := by rw [HR.out.cell]; rfl
  go_wp2_with (first
    | (go_at_call 37; refine (ofirst_any c h0 h1 _).mono ?_; rw [← HF.out]; rintro e w' ⟨rfl, rfl⟩)
    | go_in)
  go_ret2
  exact ⟨rfl, HBL.out⟩
set_option maxHeartbeats 1600000 in
theorem value_off_big (c r : Int) (h0 : 0 ≤ c) (h1 : c < 28) (hr0 : 0 ≤ r) (hr1 : 2 ^ (c).toNat ≤ r) (hr2 : r ≤ 18446744073709551615) (w : World) :
    Calls Try.prog 28 #[offV, .int .i64 c, .int .u64 r] w fun e w' => e = .returned (.tuple #[.int .i64 0, .int .i64 2]) ∧ Below w.heap.size w w' := by
  have ht := ofirst_top h0 h1
  obtain ⟨n, hn⟩ : ∃ n, n = c := ⟨_, rfl⟩
  obtain ⟨f, hf⟩ : ∃ f, f = ofirst c := ⟨_, rfl⟩
  rw [← hf] at ht
  obtain ⟨S, hS⟩ : ∃ S, (2 : Int) ^ c.toNat = S := ⟨_, rfl⟩
  rw [hS] at ht hr1
  have hS0 : 1 ≤ S := by rw [← hS]; exact Int.pow_pos (by decide)
  obtain ⟨ht0, ht3⟩ := ht
  have HN := Lib.hid hn
  have HF := Lib.hid hf
  clear hn hf 
  rw [offV_unfold]
  go_enter Try.func28, Try.ntmps28
  go_wp2_with fail
  rw [← offV_unfold]
  refine (many_off c h0 h1 _).mono ?_
  rintro e w1 ⟨rfl, hb1⟩
  have HBL := Lib.hid ((below_alloc w _).trans (hb1.mono (by simp)))
  have HR := Lib.hid ((Blk.new w _ _).below hb1 (by simp))
  clear hb1
  have hc5 : w1.cell? ⟨w.heap.size, 5, none⟩ = some (.func (.func 37) #[] #[]) := by rw [HR.out.cell]; rfl
  go_wp2
  go_ret2
  exact ⟨rfl, HBL.out⟩
set_option maxHeartbeats 1600000 in
theorem value_off_out (c r : Int) (h : c < 0 ∨ 28 ≤ c) (w : World) :
    Calls Try.prog 28 #[offV, .int .i64 c, .int .u64 r] w fun e w' => e = .returned (.tuple #[.int .i64 0, .int .i64 2]) ∧ Below w.heap.size w w' := by
  have H := Lib.hid h
  clear h
  rw [offV_unfold]
  go_enter Try.func28, Try.ntmps28
  go_wp2_with fail
  rw [← offV_unfold]
  refine (many_off_out c H.out _).mono ?_
  rintro e w1 ⟨rfl, hb1⟩
  have HBL := Lib.hid ((below_alloc w _).trans (hb1.mono (by simp)))
  clear hb1
  go_wp2
  go_ret2
  exact ⟨rfl, HBL.out⟩
set_option maxHeartbeats 400000 in
theorem split_in (v : Int) (h0 : 0 ≤ v) (h1 : v < 262144) (w : World) : Calls Try.prog 11 #[.int .i64 v] w fun e w' => e = .returned (.tuple #[.int .i64 (lcode v), .int .u64 (v - lfirst (lcode v)), .int .i64 0]) ∧ Below w.heap.size w w' := by
  go_enter Try.func11, Try.ntmps11
  go_wp2_with fail
  refine (numbers_any _).mono ?_
  rintro e w1 ⟨rfl, hb, hb1, -⟩
  have HB := Lib.hid hb
  have HB1 := Lib.hid hb1
  clear hb hb1
  go_wp2_with fail
  refine (of_num v h0 h1 (w.heap.size + 1) _ HB.out).mono ?_
  rintro e w2 ⟨rfl, hb2⟩
  have HB2 := Lib.hid (HB1.out.trans (hb2.mono HB1.out.size))
  clear hb2
  go_wp2
  go_ret3
  exact ⟨rfl, HB2.out⟩
set_option maxHeartbeats 400000 in
theorem split_out (v : Int) (h : v < 0 ∨ 262144 ≤ v) (w : World) : Calls Try.prog 11 #[.int .i64 v] w fun e w' => e = .returned (.tuple #[.int .i64 0, .int .u64 0, .int .i64 2]) ∧ Below w.heap.size w w' := by
  go_enter Try.func11, Try.ntmps11
  go_wp2_with fail
  refine (numbers_any _).mono ?_
  rintro e w1 ⟨rfl, hb, hb1, -⟩
  have HB := Lib.hid hb
  have HB1 := Lib.hid hb1
  clear hb hb1
  go_wp2_with fail
  refine (of_num_out v h (w.heap.size + 1) _ ).mono ?_
  rintro e w2 ⟨rfl, hb2⟩
  have HB2 := Lib.hid (HB1.out.trans (hb2.mono HB1.out.size))
  clear hb2
  go_wp2
  go_ret3
  exact ⟨rfl, HB2.out⟩
set_option maxHeartbeats 400000 in
theorem splitOff_in (v : Int) (h0 : 1 ≤ v) (h1 : v < 268435456) (w : World) : Calls Try.prog 13 #[.int .i64 v] w fun e w' => e = .returned (.tuple #[.int .i64 (ocode v), .int .u64 (v - ofirst (ocode v)), .int .i64 0]) ∧ Below w.heap.size w w' := by
  go_enter Try.func13, Try.ntmps13
  go_wp2_with fail
  refine (offsets_any _).mono ?_
  rintro e w1 ⟨rfl, hb1⟩
  have HB1 := Lib.hid hb1
  clear hb1
  go_wp2_with fail
  refine (of_off v h0 h1 _).mono ?_
  rintro e w2 ⟨rfl, hb2⟩
  have HB2 := Lib.hid (HB1.out.trans (hb2.mono HB1.out.size))
  clear hb2
  go_wp2
  go_ret3
  exact ⟨rfl, HB2.out⟩
set_option maxHeartbeats 400000 in
theorem splitOff_out (v : Int) (h : v < 1 ∨ 268435456 ≤ v) (w : World) : Calls Try.prog 13 #[.int .i64 v] w fun e w' => e = .returned (.tuple #[.int .i64 0, .int .u64 0, .int .i64 2]) ∧ Below w.heap.size w w' := by
  go_enter Try.func13, Try.ntmps13
  go_wp2_with fail
  refine (offsets_any _).mono ?_
  rintro e w1 ⟨rfl, hb1⟩
  have HB1 := Lib.hid hb1
  clear hb1
  go_wp2_with fail
  refine (of_off_out v h _).mono ?_
  rintro e w2 ⟨rfl, hb2⟩
  have HB2 := Lib.hid (HB1.out.trans (hb2.mono HB1.out.size))
  clear hb2
  go_wp2
  go_ret3
  exact ⟨rfl, HB2.out⟩
set_option maxHeartbeats 400000 in
theorem extra_in (c : Int) (h0 : 0 ≤ c) (h1 : c < 44) (w : World) : Calls Try.prog 15 #[.int .i64 c] w fun e w' => e = .returned (.tuple #[.int .i64 (lbits c), .int .i64 0]) ∧ Below w.heap.size w w' := by
  go_enter Try.func15, Try.ntmps15
  go_wp2_with fail
  refine (numbers_any _).mono ?_
  rintro e w1 ⟨rfl, hb, hb1, -⟩
  have HB := Lib.hid hb
  have HB1 := Lib.hid hb1
  clear hb hb1
  go_wp2_with fail
  refine (many_num c h0 h1 (w.heap.size + 1) _ HB.out).mono ?_
  rintro e w2 ⟨rfl, hb2⟩
  have HB2 := Lib.hid (HB1.out.trans (hb2.mono HB1.out.size))
  clear hb2
  go_wp2
  go_ret2
  exact ⟨rfl, HB2.out⟩
set_option maxHeartbeats 400000 in
theorem extra_out (c : Int) (h : c < 0 ∨ 44 ≤ c) (w : World) : Calls Try.prog 15 #[.int .i64 c] w fun e w' => e = .returned (.tuple #[.int .i64 0, .int .i64 2]) ∧ Below w.heap.size w w' := by
  go_enter Try.func15, Try.ntmps15
  go_wp2_with fail
  refine (numbers_any _).mono ?_
  rintro e w1 ⟨rfl, hb, hb1, -⟩
  have HB := Lib.hid hb
  have HB1 := Lib.hid hb1
  clear hb hb1
  go_wp2_with fail
  refine (many_num_out c h (w.heap.size + 1) _ ).mono ?_
  rintro e w2 ⟨rfl, hb2⟩
  have HB2 := Lib.hid (HB1.out.trans (hb2.mono HB1.out.size))
  clear hb2
  go_wp2
  go_ret2
  exact ⟨rfl, HB2.out⟩
set_option maxHeartbeats 400000 in
theorem offBits_in (c : Int) (h0 : 0 ≤ c) (h1 : c < 28) (w : World) : Calls Try.prog 16 #[.int .i64 c] w fun e w' => e = .returned (.tuple #[.int .i64 c, .int .i64 0]) ∧ Below w.heap.size w w' := by
  go_enter Try.func16, Try.ntmps16
  go_wp2_with fail
  refine (offsets_any _).mono ?_
  rintro e w1 ⟨rfl, hb1⟩
  have HB1 := Lib.hid hb1
  clear hb1
  go_wp2_with fail
  refine (many_off c h0 h1 _).mono ?_
  rintro e w2 ⟨rfl, hb2⟩
  have HB2 := Lib.hid (HB1.out.trans (hb2.mono HB1.out.size))
  clear hb2
  go_wp2
  go_ret2
  exact ⟨rfl, HB2.out⟩
set_option maxHeartbeats 400000 in
theorem offBits_out (c : Int) (h : c < 0 ∨ 28 ≤ c) (w : World) : Calls Try.prog 16 #[.int .i64 c] w fun e w' => e = .returned (.tuple #[.int .i64 0, .int .i64 2]) ∧ Below w.heap.size w w' := by
  go_enter Try.func16, Try.ntmps16
  go_wp2_with fail
  refine (offsets_any _).mono ?_
  rintro e w1 ⟨rfl, hb1⟩
  have HB1 := Lib.hid hb1
  clear hb1
  go_wp2_with fail
  refine (many_off_out c h _).mono ?_
  rintro e w2 ⟨rfl, hb2⟩
  have HB2 := Lib.hid (HB1.out.trans (hb2.mono HB1.out.size))
  clear hb2
  go_wp2
  go_ret2
  exact ⟨rfl, HB2.out⟩
set_option maxHeartbeats 400000 in
theorem join_in (c r : Int) (h0 : 0 ≤ c) (h1 : c < 44) (hr0 : 0 ≤ r) (hr1 : r < 2 ^ (lbits c).toNat) (w : World) : Calls Try.prog 18 #[.int .i64 c, .int .u64 r] w fun e w' => e = .returned (.tuple #[.int .i64 (lfirst c + r), .int .i64 0]) ∧ Below w.heap.size w w' := by
  go_enter Try.func18, Try.ntmps18
  go_wp2_with fail
  refine (numbers_any _).mono ?_
  rintro e w1 ⟨rfl, hb, hb1, -⟩
  have HB := Lib.hid hb
  have HB1 := Lib.hid hb1
  clear hb hb1
  go_wp2_with fail
  refine (value_num c r h0 h1 hr0 hr1 (w.heap.size + 1) _ HB.out).mono ?_
  rintro e w2 ⟨rfl, hb2⟩
  have HB2 := Lib.hid (HB1.out.trans (hb2.mono HB1.out.size))
  clear hb2
  go_wp2
  go_ret2
  exact ⟨rfl, HB2.out⟩
set_option maxHeartbeats 400000 in
theorem join_big (c r : Int) (h0 : 0 ≤ c) (h1 : c < 44) (hr0 : 0 ≤ r) (hr1 : 2 ^ (lbits c).toNat ≤ r) (hr2 : r ≤ 18446744073709551615) (w : World) : Calls Try.prog 18 #[.int .i64 c, .int .u64 r] w fun e w' => e = .returned (.tuple #[.int .i64 0, .int .i64 2]) ∧ Below w.heap.size w w' := by
  go_enter Try.func18, Try.ntmps18
  go_wp2_with fail
  refine (numbers_any _).mono ?_
  rintro e w1 ⟨rfl, hb, hb1, -⟩
  have HB := Lib.hid hb
  have HB1 := Lib.hid hb1
  clear hb hb1
  go_wp2_with fail
  refine (value_num_big c r h0 h1 hr0 hr1 hr2 (w.heap.size + 1) _ HB.out).mono ?_
  rintro e w2 ⟨rfl, hb2⟩
  have HB2 := Lib.hid (HB1.out.trans (hb2.mono HB1.out.size))
  clear hb2
  go_wp2
  go_ret2
  exact ⟨rfl, HB2.out⟩
set_option maxHeartbeats 400000 in
theorem join_out (c r : Int) (h : c < 0 ∨ 44 ≤ c) (w : World) : Calls Try.prog 18 #[.int .i64 c, .int .u64 r] w fun e w' => e = .returned (.tuple #[.int .i64 0, .int .i64 2]) ∧ Below w.heap.size w w' := by
  go_enter Try.func18, Try.ntmps18
  go_wp2_with fail
  refine (numbers_any _).mono ?_
  rintro e w1 ⟨rfl, hb, hb1, -⟩
  have HB := Lib.hid hb
  have HB1 := Lib.hid hb1
  clear hb hb1
  go_wp2_with fail
  refine (value_num_out c r h (w.heap.size + 1) _ ).mono ?_
  rintro e w2 ⟨rfl, hb2⟩
  have HB2 := Lib.hid (HB1.out.trans (hb2.mono HB1.out.size))
  clear hb2
  go_wp2
  go_ret2
  exact ⟨rfl, HB2.out⟩
set_option maxHeartbeats 400000 in
theorem joinOff_in (c r : Int) (h0 : 0 ≤ c) (h1 : c < 28) (hr0 : 0 ≤ r) (hr1 : r < 2 ^ c.toNat) (w : World) : Calls Try.prog 20 #[.int .i64 c, .int .u64 r] w fun e w' => e = .returned (.tuple #[.int .i64 (ofirst c + r), .int .i64 0]) ∧ Below w.heap.size w w' := by
  go_enter Try.func20, Try.ntmps20
  go_wp2_with fail
  refine (offsets_any _).mono ?_
  rintro e w1 ⟨rfl, hb1⟩
  have HB1 := Lib.hid hb1
  clear hb1
  go_wp2_with fail
  refine (value_off c r h0 h1 hr0 hr1 _).mono ?_
  rintro e w2 ⟨rfl, hb2⟩
  have HB2 := Lib.hid (HB1.out.trans (hb2.mono HB1.out.size))
  clear hb2
  go_wp2
  go_ret2
  exact ⟨rfl, HB2.out⟩
set_option maxHeartbeats 400000 in
theorem joinOff_big (c r : Int) (h0 : 0 ≤ c) (h1 : c < 28) (hr0 : 0 ≤ r) (hr1 : 2 ^ c.toNat ≤ r) (hr2 : r ≤ 18446744073709551615) (w : World) : Calls Try.prog 20 #[.int .i64 c, .int .u64 r] w fun e w' => e = .returned (.tuple #[.int .i64 0, .int .i64 2]) ∧ Below w.heap.size w w' := by
  go_enter Try.func20, Try.ntmps20
  go_wp2_with fail
  refine (offsets_any _).mono ?_
  rintro e w1 ⟨rfl, hb1⟩
  have HB1 := Lib.hid hb1
  clear hb1
  go_wp2_with fail
  refine (value_off_big c r h0 h1 hr0 hr1 hr2 _).mono ?_
  rintro e w2 ⟨rfl, hb2⟩
  have HB2 := Lib.hid (HB1.out.trans (hb2.mono HB1.out.size))
  clear hb2
  go_wp2
  go_ret2
  exact ⟨rfl, HB2.out⟩
set_option maxHeartbeats 400000 in
theorem joinOff_out (c r : Int) (h : c < 0 ∨ 28 ≤ c) (w : World) : Calls Try.prog 20 #[.int .i64 c, .int .u64 r] w fun e w' => e = .returned (.tuple #[.int .i64 0, .int .i64 2]) ∧ Below w.heap.size w w' := by
  go_enter Try.func20, Try.ntmps20
  go_wp2_with fail
  refine (offsets_any _).mono ?_
  rintro e w1 ⟨rfl, hb1⟩
  have HB1 := Lib.hid hb1
  clear hb1
  go_wp2_with fail
  refine (value_off_out c r h _).mono ?_
  rintro e w2 ⟨rfl, hb2⟩
  have HB2 := Lib.hid (HB1.out.trans (hb2.mono HB1.out.size))
  clear hb2
  go_wp2
  go_ret2
  exact ⟨rfl, HB2.out⟩
end Go.Proofs.Ytdmnbmldhhgniaa
