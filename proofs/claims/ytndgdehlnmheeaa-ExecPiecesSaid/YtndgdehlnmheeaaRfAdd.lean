/-
  The reference's ring: Add.
-/
import Derived.Test.YtndgdehlnmheeaaRfRing
namespace Go.Proofs.Ytndgdehlnmheeaa
set_option maxRecDepth 100000
open Go.RowKit

/-- On the way through the reference's Add. -/
structure AddSt (w W : World) (S T : Nat) (cv v : Value) (xs : List Int) : Prop where
  below : Below w.heap.size w W
  box : Blk W w.heap.size 45 #[.int .i64 S, cv, .int .i64 T]
  zero : Blk W (w.heap.size + 1) 45 #[.int .i64 0, .slice none 0 0, .int .i64 0]
  row : Row W v xs
  own : ∀ k, v.ownBlock = some k → w.heap.size + 1 + 1 ≤ k
  size : w.heap.size + 1 + 1 ≤ W.heap.size
section
variable {w W W2 : World} {S T : Nat} {cv v v' : Value} {xs ys : List Int}
theorem AddSt.next (h : AddSt w W S T cv v xs) (hrow : Row W2 v' ys) (hg : W.grownBy W2 v.ownBlock) (hown : v'.ownBlock = v.ownBlock ∨ v'.ownBlock = some W.heap.size) : AddSt w W2 S T cv v' ys := by
  have hf : ∀ k, k < w.heap.size + 1 + 1 → some k ≠ v.ownBlock := fun k hk e => by have := h.own k e.symm; omega
  have hb : Below w.heap.size W W2 := ⟨hg.os, hg.tape, hg.output, hg.size, fun k hk => hg.block k (by have := h.size; omega) (hf k (by omega))⟩
  refine ⟨h.below.trans hb, (hg.block _ h.box.lt (hf _ (by omega))).trans h.box, (hg.block _ h.zero.lt (hf _ (by omega))).trans h.zero, hrow, fun k hk => ?_, Nat.le_trans h.size hg.size⟩
  rcases hown with e | e
  · exact h.own k (e ▸ hk)
  · have : W.heap.size = k := Option.some.inj (e.symm.trans hk)
    have := h.size
    omega
theorem AddSt.first {o1 o2 o3 : Obj} {c3 N : Nat} {A3 : Option Addr} (hb : Below w.heap.size w (((w.alloc o1).alloc o2).alloc o3)) (h1 : Blk (((w.alloc o1).alloc o2).alloc o3) w.heap.size 45 #[.int .i64 S, cv, .int .i64 T])
    (h2 : Blk (((w.alloc o1).alloc o2).alloc o3) (w.heap.size + 1) 45 #[.int .i64 0, .slice none 0 0, .int .i64 0]) (hrow : Row W2 (.slice A3 N c3) ys)
    (hg : (((w.alloc o1).alloc o2).alloc o3).grownBy W2 (Value.slice (some ⟨w.heap.size + 1 + 1, 0, none⟩) 0 0).ownBlock)
    (hown : (Value.slice A3 N c3).ownBlock = (Value.slice (some ⟨w.heap.size + 1 + 1, 0, none⟩) 0 0).ownBlock ∨ (Value.slice A3 N c3).ownBlock = some (((w.alloc o1).alloc o2).alloc o3).heap.size) : AddSt w W2 S T cv (.slice A3 N c3) ys := by
  have hf : ∀ k, k < w.heap.size + 1 + 1 → some k ≠ (Value.slice (some ⟨w.heap.size + 1 + 1, 0, none⟩) 0 0).ownBlock := fun k hk e => by have : k = w.heap.size + 1 + 1 := Option.some.inj e; omega
  have hs : (((w.alloc o1).alloc o2).alloc o3).heap.size = w.heap.size + 1 + 1 + 1 := by simp
  have hb2 : Below w.heap.size (((w.alloc o1).alloc o2).alloc o3) W2 := ⟨hg.os, hg.tape, hg.output, hg.size, fun k hk => hg.block k (by omega) (hf k (by omega))⟩
  refine ⟨hb.trans hb2, (hg.block _ h1.lt (hf _ (by omega))).trans h1, (hg.block _ h2.lt (hf _ (by omega))).trans h2, hrow, fun k hk => ?_, by have := hg.size; omega⟩
  rcases hown with e | e
  · have : w.heap.size + 1 + 1 = k := Option.some.inj (e.symm.trans hk)
    omega
  · have : (((w.alloc o1).alloc o2).alloc o3).heap.size = k := Option.some.inj (e.symm.trans hk)
    omega
theorem AddSt.ints (h : AddSt w W S T cv v xs) (hcv : ∀ x, cv ≠ .int .u8 x) (u1 u2 : Value) : Ints ((W.setCell ⟨w.heap.size, 1, none⟩ u1).setCell ⟨w.heap.size, 2, none⟩ u2) .u8 v xs := by
  obtain ⟨k1, k2, k3, -⟩ := h.box.three
  exact ints_far (ints_far h.row.ints k2 hcv u1) (p := ⟨w.heap.size, 2, none⟩) ((World.cell?_setCell_other _ _ _ _ (by simp)).trans k3) (fun x e => by cases e) u2
theorem AddSt.after (h : AddSt w W S T cv v xs) {u1 u2 : Value} (hb : Below ((W.setCell ⟨w.heap.size, 1, none⟩ u1).setCell ⟨w.heap.size, 2, none⟩ u2).heap.size ((W.setCell ⟨w.heap.size, 1, none⟩ u1).setCell ⟨w.heap.size, 2, none⟩ u2) W2) : Below w.heap.size w W2 :=
  ((h.below.setCell (p := ⟨w.heap.size, 1, none⟩) (Nat.le_refl _) u1).setCell (p := ⟨w.heap.size, 2, none⟩) (Nat.le_refl _) u2).trans (hb.mono (by have := h.size; simp; omega))
theorem AddSt.res (h : AddSt w W S T cv v xs) {u1 u2 : Value} (hb : Below ((W.setCell ⟨w.heap.size, 1, none⟩ u1).setCell ⟨w.heap.size, 2, none⟩ u2).heap.size ((W.setCell ⟨w.heap.size, 1, none⟩ u1).setCell ⟨w.heap.size, 2, none⟩ u2) W2) :
    Blk W2 (w.heap.size + 1) 45 #[.int .i64 0, .slice none 0 0, .int .i64 0] :=
  ((h.zero.far (p := ⟨w.heap.size, 1, none⟩) (by simp) u1).far (p := ⟨w.heap.size, 2, none⟩) (by simp) u2).below hb (by have := h.size; simp; omega)
end

theorem refAdd_any (w : World) (S : Nat) (cv bv : Value) (T : Nat) (C bs : List Int) (hC : Ints w .u8 cv C) (hx : Ints w .u8 bv bs) (hS : S ≤ 9223372036854775807) (hl : C.length + bs.length ≤ 100000000000000) (hT : T + bs.length ≤ 9223372036854775807) :
    Calls Try.prog 49 #[rv S cv T, bv] w fun e w' => ∃ bv', e = .returned (rv S bv' (T + bs.length)) ∧ Ints w' .u8 bv' (lastN S (C ++ bs)) ∧ Below w.heap.size w w' ∧ ∀ k, bv'.ownBlock = some k → w.heap.size ≤ k := by
  obtain ⟨A, n, c, rfl, -, -, hat⟩ := hC.get
  obtain rfl : C.length = n := hat.1
  obtain ⟨A2, n2, c2, rfl, -, -, hat2⟩ := hx.get
  obtain rfl : bs.length = n2 := hat2.1
  have HA := Lib.hid hat
  have HA2 := Lib.hid hat2
  obtain ⟨N, hN⟩ : ∃ N, C.length = N := ⟨_, rfl⟩
  obtain ⟨M, hM⟩ : ∃ M, bs.length = M := ⟨_, rfl⟩
  obtain ⟨T2, hT2⟩ : ∃ T2, T + M = T2 := ⟨_, rfl⟩
  rw [hN, hM] at hl
  rw [hN] at HA ⊢
  rw [hM] at HA2 hT ⊢
  rw [hT2] at hT ⊢
  have e1 : (T : Int) + (M : Int) = (T2 : Int) := by omega
  have e2 : (T2 : Int) ≤ 9223372036854775807 := by omega
  have HL := Lib.hid hl
  have HN := Lib.hid hN
  have HM := Lib.hid hM
  have HS := Lib.hid hS
  clear hC hx hat hat2 hN hM hl hT2 hS
  have HB0 := Lib.hid ((((Below.refl w.heap.size w).alloc (Nat.le_refl _) (.cells #[.int .i64 S, .slice A N c, .int .i64 T] 45)).alloc (by simp) (.cells #[.int .i64 0, .slice none 0 0, .int .i64 0] 45)).alloc (by simp; omega) (.cells #[] 5))
  have HR0 := Lib.hid (row_empty_at (w := (w.alloc (.cells #[.int .i64 S, .slice A N c, .int .i64 T] 45)).alloc (.cells #[.int .i64 0, .slice none 0 0, .int .i64 0] 45)) (g := w.heap.size + 1 + 1) (by simp))
  have HK0 := Lib.hid (((Blk.new w 45 #[.int .i64 S, .slice A N c, .int .i64 T]).alloc (.cells #[.int .i64 0, .slice none 0 0, .int .i64 0] 45)).alloc (.cells #[] 5))
  have HJ0 := Lib.hid ((Blk.new1 w (.cells #[.int .i64 S, .slice A N c, .int .i64 T] 45) 45 #[.int .i64 0, .slice none 0 0, .int .i64 0]).alloc (.cells #[] 5))
  unfold rv
  go_enter Try.func49, Try.ntmps49
  go_wp2_with (first
    | (at_builtin; refine wpList_append_row rfl _ _ rfl (.slice (some ⟨w.heap.size + 1 + 1, 0, none⟩) 0 0) [] C rfl HR0.out A N c rfl (HA.out.below HB0.out (Nat.le_refl _)) (by simp; have := HL.out; omega) N (by simp) ?_; intro A3 c3 w2 hrow hgrow hown; have HST := Lib.hid (AddSt.first HB0.out HK0.out HJ0.out hrow hgrow hown); clear hrow hgrow hown)
    | (at_builtin; refine wpList_append_row rfl _ _ rfl (.slice A3 N c3) C bs rfl HST.out.row A2 M c2 rfl (HA2.out.below HST.out.below (Nat.le_refl _)) (by have := HN.out; have := HL.out; omega) (N + M) (by rw [HN.out]) ?_; intro A4 c4 w3 hrow hgrow hown; have HST3 := Lib.hid (HST.out.next hrow hgrow hown); clear hrow hgrow hown; obtain ⟨k1, k2, k3, k4, k5, k6⟩ := HST3.out.box.three)
    | (go_at_call 64; refine (held_any _ S _ T2 (C ++ bs) (HST3.out.ints (fun x e => by cases e) _ _) HS.out).mono ?_; rintro e w4 ⟨bv', rfl, hi, hb, ho⟩; have HO4 := Lib.hid ho; clear ho; obtain ⟨A5, n5, c5, rfl, -, -, -⟩ := hi.get; have HI4 := Lib.hid hi; have HB4 := Lib.hid (HST3.out.after hb); have HK4 := Lib.hid (HST3.out.res hb); obtain ⟨j1, j2, j3, j4, j5, j6⟩ := HK4.out.three; clear hi hb))
  have hb5 := ((HB4.out.setCell (p := ⟨w.heap.size + 1, 0, none⟩) (by simp) (.int .i64 S)).setCell (p := ⟨w.heap.size + 1, 1, none⟩) (by simp) (.slice A5 n5 c5)).setCell (p := ⟨w.heap.size + 1, 2, none⟩) (by simp) (.int .i64 T2)
  refine bodyPost_ret (v := rv S (.slice A5 n5 c5) T2) (by simp [results, Try.results49, go_sem, j1, j2, j3]) rfl ?_
  exact ⟨_, rfl, ints_res HI4.out HK4.out (fun x e => by cases e) _ _ _, hb5, fun k hk => by have := HST3.out.own k (HO4.out.symm.trans hk); omega⟩
end Go.Proofs.Ytndgdehlnmheeaa
