/-
  The reference's ring: held, New, Add.
-/
import Derived.Test.YtndgdehlnmheeaaRgCopy
namespace Go.Proofs.Ytndgdehlnmheeaa
set_option maxRecDepth 100000
open Go.RowKit

/-- The reference's ring as a value. -/
abbrev rv (S : Nat) (bv : Value) (T : Nat) : Value := .agg #[.int .i64 S, bv, .int .i64 T]

theorem at_cut {w : World} {k : IntKind} {A : Option Addr} {n c j : Nat} {xs : List Int} (h : AtInts w k A n xs) (hc : n ≤ c) (hj : j ≤ n) : AtInts w k (if c = j then A else A.map (·.add j)) (n - j) (xs.drop j) := by
  refine ⟨by rw [List.length_drop, h.1], fun h0 => ?_⟩
  obtain ⟨b, off, rfl, hcell⟩ := h.2 (by omega)
  rw [if_neg (by omega)]
  refine ⟨b, off + j, by simp [add_zero_off], fun i x hx => ?_⟩
  rw [List.getElem?_drop] at hx
  rw [Nat.add_assoc]
  exact hcell _ x hx

/-- Where a slice lies does not hang on its lengths. -/
theorem own_ge {v : Value} {b B k0 : Nat} {v0 : Value} (h : v.ownBlock = v0.ownBlock ∨ v.ownBlock = some k0) (h0 : v0.ownBlock = some b) (hb : B ≤ b) (hk : B ≤ k0) : ∀ k, v.ownBlock = some k → B ≤ k := fun k h1 => by
  rcases h with h | h
  · rw [h, h0] at h1; obtain rfl := Option.some.inj h1; exact hb
  · rw [h] at h1; obtain rfl := Option.some.inj h1; exact hk

theorem held_any (w : World) (S : Nat) (bv : Value) (T : Nat) (C : List Int) (hx : Ints w .u8 bv C) (hS : S ≤ 9223372036854775807) :
    Calls Try.prog 64 #[rv S bv T] w fun e w' => ∃ bv', e = .returned (rv S bv' T) ∧ Ints w' .u8 bv' (lastN S C) ∧ Below w.heap.size w w' ∧ bv'.ownBlock = bv.ownBlock := by
  obtain ⟨A, n, c, rfl, hc, hm, hat⟩ := hx.get
  have hn : C.length = n := hat.1
  have hcm : c ≤ maxLen := by simp only [maxLen]; exact hm
  have hnm : n ≤ 9223372036854775807 := by omega
  have HB : Hid (∀ o1 o2, Below w.heap.size w ((w.alloc o1).alloc o2)) := (fun o1 o2 => ((Below.refl _ w).alloc (Nat.le_refl _) _).alloc (by simp) _ : ∀ o1 o2, _)
  have HI : Hid (∀ o1 o2, Ints ((w.alloc o1).alloc o2) .u8 (.slice A n c) C) := (fun o1 o2 => hx.alloc2 o1 o2 : ∀ o1 o2, _)
  have HA := Lib.hid hat
  clear hx hat
  by_cases hlt : S < n
  · obtain ⟨D, hD⟩ : ∃ D, n - S = D := ⟨_, rfl⟩
    have e1 : (n : Int) - (S : Int) = (D : Int) := by omega
    have e2 : (S : Int) < (n : Int) := by omega
    have e3 : (D : Int) ≤ (n : Int) := by omega
    have e4 : n - D = S := by omega
    have HR : Hid (∀ o1 o2, Ints ((w.alloc o1).alloc o2) .u8 (.slice (if c = D then A else A.map (·.add D)) S (c - D)) (lastN S C)) := (fun o1 o2 => by
      have h1 := at_cut HA.out hc (j := D) (by omega)
      rw [e4] at h1
      have h2 : C.drop D = lastN S C := by unfold lastN; rw [hn, hD]
      rw [h2] at h1
      exact (h1.ints (by omega) (by omega)).alloc2 o1 o2 : ∀ o1 o2, _)
    clear hn hD
    unfold rv
    go_enter Try.func64, Try.ntmps64
    go_wp2
    all_goals have hr := HR.out
    · rw [if_pos (by assumption), show c - D = 0 by omega] at hr
      refine bodyPost_ret (v := rv S (.slice A S 0) T) (by simp [results, Try.results64, go_sem]) rfl ?_
      exact ⟨_, rfl, hr _ _, HB.out _ _, own_any _ _ _ _ _⟩
    · rw [if_neg (by assumption)] at hr
      refine bodyPost_ret (v := rv S (.slice (A.map (·.add D)) S (c - D)) T) (by simp [results, Try.results64, go_sem]) rfl ?_
      exact ⟨_, rfl, hr _ _, HB.out _ _, own_map _ _ _ _ _ _⟩
  · have hl : lastN S C = C := lastN_all (by omega)
    rw [hl]
    have e2 : ¬ (S : Int) < (n : Int) := by omega
    clear hn hl
    unfold rv
    go_enter Try.func64, Try.ntmps64
    go_wp2
    refine bodyPost_ret (v := rv S (.slice A n c) T) (by simp [results, Try.results64, go_sem]) rfl ?_
    exact ⟨_, rfl, HI.out _ _, HB.out _ _, rfl⟩

theorem refNew_bad (w : World) (S : Int) (bv : Value) (h : S < 1 ∨ 134217728 < S) :
    Calls Try.prog 48 #[.int .i64 S, bv] w fun e w' => e = .returned (.tuple #[rv 0 (.slice none 0 0) 0, .int .i64 2]) ∧ Below w.heap.size w w' := by
  have HB := Lib.hid ((Below.refl w.heap.size w).alloc (Nat.le_refl _) (.cells #[.int .i64 0, .slice none 0 0, .int .i64 0] 45))
  by_cases h1 : S < 1
  · clear h
    go_enter Try.func48, Try.ntmps48
    go_wp2
    refine bodyPost_ret (v := .tuple #[rv 0 (.slice none 0 0) 0, .int .i64 2]) (by simp [results, Try.results48, go_sem]) rfl ?_
    exact ⟨rfl, HB.out⟩
  · have h2 : 134217728 < S := by omega
    clear h
    go_enter Try.func48, Try.ntmps48
    go_wp2
    refine bodyPost_ret (v := .tuple #[rv 0 (.slice none 0 0) 0, .int .i64 2]) (by simp [results, Try.results48, go_sem]) rfl ?_
    exact ⟨rfl, HB.out⟩

theorem row_empty_at {w : World} {g : Nat} (hg : g = w.heap.size) : Row (w.alloc (.cells #[] 5)) (.slice (some ⟨g, 0, none⟩) 0 0) [] := by subst hg; exact row_empty w

theorem Blk.three {w : World} {g : Nat} {t : TypeId} {a b c : Value} (h : Blk w g t #[a, b, c]) : w.cell? ⟨g, 0, none⟩ = some a ∧ w.cell? ⟨g, 1, none⟩ = some b ∧ w.cell? ⟨g, 2, none⟩ = some c ∧ w.frozen? ⟨g, 0, none⟩ = false ∧ w.frozen? ⟨g, 1, none⟩ = false ∧ w.frozen? ⟨g, 2, none⟩ = false :=
  ⟨by rw [h.cell]; rfl, by rw [h.cell]; rfl, by rw [h.cell]; rfl, h.frozen 0, h.frozen 1, h.frozen 2⟩

/-- A result of three cells is stored: a slice of bytes lies elsewhere. -/
theorem ints_res {w : World} {g : Nat} {t : TypeId} {a c : Int} {b : Value} {v : Value} {xs : List Int} (h : Ints w .u8 v xs) (hk : Blk w g t #[.int .i64 a, b, .int .i64 c]) (hb : ∀ x, b ≠ .int .u8 x) (u0 u1 u2 : Value) :
    Ints (((w.setCell ⟨g, 0, none⟩ u0).setCell ⟨g, 1, none⟩ u1).setCell ⟨g, 2, none⟩ u2) .u8 v xs := by
  obtain ⟨k1, k2, k3, -⟩ := hk.three
  have h1 := ints_far h k1 (fun x e => by cases e) u0
  have h2 := ints_far h1 (p := ⟨g, 1, none⟩) ((World.cell?_setCell_other _ _ _ _ (by simp)).trans k2) hb u1
  exact ints_far h2 (p := ⟨g, 2, none⟩) ((World.cell?_setCell_other _ _ _ _ (by simp)).trans ((World.cell?_setCell_other _ _ _ _ (by simp)).trans k3)) (fun x e => by cases e) u2

theorem refNew_ok (w : World) {S : Nat} {bv : Value} {bs : List Int} (h1 : 1 ≤ S) (h2 : S ≤ 134217728) (hx : Ints w .u8 bv bs) (hl : bs.length ≤ 100000000000000) :
    Calls Try.prog 48 #[.int .i64 S, bv] w fun e w' => ∃ bv', e = .returned (.tuple #[rv S bv' 0, .int .i64 0]) ∧ Ints w' .u8 bv' (lastN S bs) ∧ Below w.heap.size w w' ∧ ∀ k, bv'.ownBlock = some k → w.heap.size ≤ k ∧ k < w'.heap.size := by
  obtain ⟨A, n, c, rfl, hc, hm, hat⟩ := hx.get
  obtain rfl : bs.length = n := hat.1
  have HA := Lib.hid hat
  have e1 : ¬ (S : Int) < 1 := by omega
  have e2 : ¬ (134217728 : Int) < (S : Int) := by omega
  have H2 := Lib.hid (show S ≤ 9223372036854775807 by omega)
  have HL := Lib.hid hl
  obtain ⟨N, hN⟩ : ∃ N, bs.length = N := ⟨_, rfl⟩
  rw [hN] at HL HA hc
  have HN := Lib.hid hN
  rw [hN]
  clear hx hat h1 h2 hl hN
  go_enter Try.func48, Try.ntmps48
  have HR0 := Lib.hid (row_empty_at (w := w.alloc (.cells #[.int .i64 0, .slice none 0 0, .int .i64 0] 45)) (g := w.heap.size + 1) (by simp))
  have HB0 := Lib.hid (((Below.refl w.heap.size w).alloc (Nat.le_refl _) (.cells #[.int .i64 0, .slice none 0 0, .int .i64 0] 45)).alloc (by simp) (.cells #[] 5))
  have HK0 := Lib.hid ((Blk.new w 45 #[.int .i64 0, .slice none 0 0, .int .i64 0]).alloc (.cells #[] 5))
  go_wp2_with (first
    | (at_builtin; refine wpList_append_row rfl _ _ rfl _ [] bs rfl HR0.out A N c rfl (HA.out.below HB0.out (Nat.le_refl _)) (by simp; have := HL.out; omega) N (by simp) ?_; intro A2 c2 w2 hrow hgrow hown; have HRW := Lib.hid hrow; have HB2 := Lib.hid (HB0.out.grown hgrow (by simp; omega) fun r hr => by have : w.heap.size + 1 = r := Option.some.inj hr; omega); have hs2 := HB2.out.size; have HK2 := Lib.hid (HK0.out.grown hgrow (fun e => by have : w.heap.size = w.heap.size + 1 := Option.some.inj e; omega)); have HOW := Lib.hid (own_ge (B := w.heap.size) hown rfl (by simp) (by simp; omega)); clear hrow hgrow hown)
    | (go_at_call 64; refine (held_any _ S _ 0 bs ((HRW.out.ints).alloc _) H2.out).mono ?_; rintro e w3 ⟨bv', rfl, hi, hb, ho⟩; have HO3 := Lib.hid ho; have HS3 := Lib.hid hb.size; clear ho; obtain ⟨A3, n3, c3, rfl, -, -, -⟩ := hi.get; have HI3 := Lib.hid hi; have HB3 := Lib.hid ((HB2.out.alloc HB2.out.size (.cells #[.int .i64 S, .slice A2 N c2, .int .i64 0] 45)).trans (hb.mono (by simp; omega))); have HK3 := Lib.hid ((HK2.out.alloc (.cells #[.int .i64 S, .slice A2 N c2, .int .i64 0] 45)).below hb (by simp; omega)); obtain ⟨k1, k2, k3, k4, k5, k6⟩ := HK3.out.three; clear hi hb))
  have hb4 := ((HB3.out.setCell (p := ⟨w.heap.size, 0, none⟩) (Nat.le_refl _) (.int .i64 S)).setCell (p := ⟨w.heap.size, 1, none⟩) (Nat.le_refl _) (.slice A3 n3 c3)).setCell (p := ⟨w.heap.size, 2, none⟩) (Nat.le_refl _) (.int .i64 0)
  refine bodyPost_ret (v := .tuple #[rv S (.slice A3 n3 c3) 0, .int .i64 0]) (by simp [results, Try.results48, go_sem, k1, k2, k3]) rfl ?_
  exact ⟨_, rfl, ints_res HI3.out HK3.out (fun x e => by cases e) _ _ _, hb4, fun k hk => ⟨HOW.out k (HO3.out.symm.trans hk), by have h5 := HRW.out.lt k (HO3.out.symm.trans hk); have h6 := HS3.out; simp at h6 ⊢; omega⟩⟩
end Go.Proofs.Ytndgdehlnmheeaa
