/-
  Ring: keep, put.
-/
import Derived.Test.YtndgdehlnmheeaaRgClone
import Derived.StillTailTactics
namespace Go.Proofs.Ytndgdehlnmheeaa
set_option maxRecDepth 100000
open Go.RowKit

/-- What keep and put leave. -/
structure Kept (w w' : World) (g : Nat) (v0 v : Value) (o : Option Nat) (S : Nat) (st : List Int) (T : Nat) : Prop where
  blk : Blk w' g 64 #[v, .int .i64 S, .int .i64 T]
  row : Row w' v st
  own : v.ownBlock = v0.ownBlock ∨ ∀ k, v.ownBlock = some k → w.heap.size ≤ k
  but : But w w' g o

theorem keep_any (w : World) {g : Nat} {v : Value} {S T : Nat} {st : List Int} (hb : Blk w g 64 #[v, .int .i64 S, .int .i64 T]) (hr : Row w v st) (hne : v.ownBlock ≠ some g)
    (h1 : 1 ≤ S) (h2 : S ≤ 134217728) (hl : st.length ≤ 140737488355328) :
    Calls Try.prog 53 #[rp g, .int .i64 S] w fun e w' => e = .returned (.tuple #[]) ∧ ∃ v', Kept w w' g v v' none S (keepL S st) T := by
  have HB := Lib.hid hb
  have HR := Lib.hid hr
  have HL := Lib.hid hl
  obtain ⟨A, n, c, rfl, hlc, hc, hat⟩ := hr.ints.get
  obtain rfl : st.length = n := hat.1
  obtain ⟨c0, -⟩ := ring_cells hb
  have hglt := hb.lt
  by_cases hk : 2 * S < st.length
  · have hat2 : AtInts w .u8 (if st.length = st.length - S then A else A.map (·.add (st.length - S))) S (lastN S st) := by
      refine ⟨by rw [lastN_length]; omega, fun h0 => ?_⟩
      obtain ⟨b, off, rfl, hcell⟩ := hat.2 (by omega)
      rw [if_neg (by omega)]
      refine ⟨b, off + (st.length - S), by simp [add_zero_off], fun i x hx => ?_⟩
      rw [lastN_get] at hx
      rw [Nat.add_assoc]
      exact hcell _ x hx
    rw [if_neg (by omega)] at hat2
    have hkl : keepL S st = lastN S st := if_pos hk
    have hll : (lastN S st).length = S := hat2.1
    rw [hkl]
    have HI := Lib.hid (hat2.ints (Nat.le_refl S) (by simp only [maxLen]; omega))
    have HLL := Lib.hid hll
    obtain ⟨N, hN⟩ : ∃ N, st.length = N := ⟨_, rfl⟩
    rw [hN] at hk c0 hlc HI
    obtain ⟨D, hD⟩ : ∃ D, N - S = D := ⟨_, rfl⟩
    rw [hD] at HI
    have e1 : (N : Int) - (S : Int) = (D : Int) := by omega
    have e2 : (2 : Int) * (S : Int) < (N : Int) := by omega
    have e3 : (D : Int) ≤ N := by omega
    have e4 : N - D = S := by omega
    have e5 : ¬ N = D := by omega
    have e6 : (S : Int) ≤ 134217728 := by omega
    have e7 : (N : Int) ≤ 9223372036854775807 := by omega
    clear hat hat2 hr hb hkl hll hN hD hl
    unfold rp
    go_enter Try.func53, Try.ntmps53
    go_wp2_with (go_at_call 34; refine (clone_any _ _ _ HI.out (by rw [HLL.out]; omega)).mono ?_; rw [HLL.out]; rintro e w1 ⟨A1, c1, rfl, h1, h2, h3⟩; have HW := Lib.hid h1; have HO := Lib.hid h2; have HBL := Lib.hid h3; have hlt := h3.size; have c0' := (h3.cell (p := ⟨g, 0, none⟩) hglt).trans c0; have f0 := (HB.out.below h3 hglt).frozen 0; clear h1 h2 h3)
    go_end0
    refine ⟨rfl, _, ?_, ?_, .inr HO.out, ?_⟩
    · exact (HB.out.below HBL.out hglt).set_ 0 _
    · refine Row.same HW.out fun k hk => Below.heap_setCell _ _ _ _ fun e => ?_
      have := HO.out k hk
      simp only at e
      omega
    · exact (But.of_below HBL.out g none).set_ 0 _
  · have hkl : keepL S st = st := if_neg hk
    rw [hkl]
    obtain ⟨N, hN⟩ : ∃ N, st.length = N := ⟨_, rfl⟩
    rw [hN] at hk c0 hlc
    have e2 : ¬ (2 : Int) * (S : Int) < (N : Int) := by omega
    have e6 : (S : Int) ≤ 134217728 := by omega
    have e7 : (N : Int) ≤ 9223372036854775807 := by omega
    clear hat hr hb hkl hN hl
    unfold rp
    go_enter Try.func53, Try.ntmps53
    go_wp2
    go_end0
    exact ⟨rfl, _, HB.out, HR.out, .inl rfl, But.refl _ _ _⟩

/-- What put, Add and Copy leave of a ring. -/
structure Put (w w' : World) (g : Nat) (v0 v : Value) (S : Nat) (st : List Int) (T : Nat) : Prop where
  ring : Ring w' g v S st T
  own : v.ownBlock = v0.ownBlock ∨ ∀ k, v.ownBlock = some k → w.heap.size ≤ k
  but : But w w' g v0.ownBlock

theorem own_after {w w1 : World} {v0 v1 v2 : Value} (hsz : w.heap.size ≤ w1.heap.size) (h1 : v1.ownBlock = v0.ownBlock ∨ ∀ k, v1.ownBlock = some k → w.heap.size ≤ k) (h2 : v2.ownBlock = v1.ownBlock ∨ ∀ k, v2.ownBlock = some k → w1.heap.size ≤ k) :
    v2.ownBlock = v0.ownBlock ∨ ∀ k, v2.ownBlock = some k → w.heap.size ≤ k := by
  rcases h2 with h2 | h2
  · rw [h2]; exact h1
  · exact .inr fun k hk => Nat.le_trans hsz (h2 k hk)
theorem own_fresh {w : World} {v0 v1 : Value} (h : v1.ownBlock = v0.ownBlock ∨ v1.ownBlock = some w.heap.size) : v1.ownBlock = v0.ownBlock ∨ ∀ k, v1.ownBlock = some k → w.heap.size ≤ k := by
  rcases h with h | h
  · exact .inl h
  · exact .inr fun k hk => by rw [h] at hk; exact Nat.le_of_eq (Option.some.inj hk)

theorem put_any (w : World) {g : Nat} {v bv : Value} {S T : Nat} {st bs : List Int} (h : Ring w g v S st T) (hx : Ints w .u8 bv bs) (hu : U8s bs) (hl : bs.length ≤ 100000000000000) :
    Calls Try.prog 32 #[rp g, bv] w fun e w' => e = .returned (.tuple #[]) ∧ ∃ v', Put w w' g v v' S (keepL S (st ++ bs)) T := by
  have HR := Lib.hid h
  have HU := Lib.hid (h.u8.append hu)
  obtain ⟨A, c, rfl, hlc, hc, hat⟩ := h.form
  obtain ⟨A2, m, c2, rfl, -, -, hat2⟩ := hx.get
  have hm : bs.length = m := hat2.1
  obtain ⟨c0, c1, -⟩ := ring_cells h.blk
  have hglt := h.lt
  have HA := Lib.hid hat2
  have HL : Hid (st.length + m ≤ 140000000000000) := (by have := h.len; have := h.max; omega : st.length + m ≤ _)
  clear h hx hu hat hat2 hl
  unfold rp
  go_enter Try.func32, Try.ntmps32
  go_wp2_with (at_builtin; refine wpList_append_row rfl _ _ rfl _ st bs rfl HR.out.row A2 m c2 rfl HA.out (by have := HL.out; omega) (st.length + m) rfl ?_; intro A3 c3 w1 hrow hgrow hown; have c0' := (World.cell?_of_block (a := ⟨g, 0, none⟩) (hgrow.block g hglt (fun e => HR.out.ne e.symm))).trans c0; have c1' := (World.cell?_of_block (a := ⟨g, 1, none⟩) (hgrow.block g hglt (fun e => HR.out.ne e.symm))).trans c1; have hb1 : Blk w1 g _ _ := (hgrow.block g hglt (fun e => HR.out.ne e.symm)).trans HR.out.blk; have f0 := hb1.frozen 0; have HB1 := Lib.hid hb1; have HRW := Lib.hid hrow; have HG := Lib.hid hgrow; have HO := Lib.hid (own_fresh hown); clear hrow hgrow hown hb1)
  have hB2 : Blk (w1.setCell ⟨g, 0, none⟩ (.slice A3 (st.length + m) c3)) g 64 #[.slice A3 (st.length + m) c3, .int .i64 S, .int .i64 T] := HB1.out.set_ 0 _
  have hne2 : (Value.slice A3 (st.length + m) c3).ownBlock ≠ some g := by
    rcases HO.out with h | h
    · rw [h]; exact HR.out.ne
    · intro e; have := h g e; omega
  have hR2 : Row (w1.setCell ⟨g, 0, none⟩ (.slice A3 (st.length + m) c3)) (.slice A3 (st.length + m) c3) (st ++ bs) :=
    HRW.out.same fun k hk => Below.heap_setCell _ _ _ _ fun e => hne2 (by rw [hk]; exact congrArg some e)
  have hU2 : But w (w1.setCell ⟨g, 0, none⟩ (.slice A3 (st.length + m) c3)) g (Value.slice A st.length c).ownBlock := (But.of_grown HG.out g).set_ 0 _
  generalize w1.setCell ⟨g, 0, none⟩ (.slice A3 (st.length + m) c3) = W at hB2 hR2 hU2 ⊢
  obtain ⟨d0, d1, -⟩ := ring_cells hB2
  have HB2 := Lib.hid hB2
  have HR2 := Lib.hid hR2
  have HU2 := Lib.hid hU2
  have HNE := Lib.hid hne2
  clear hB2 hR2 hU2 hne2 c0' c1' f0 HB1 HRW HG c0 c1
  go_still_tail 7, (by kernel_rfl)
  change wpList _ _ _ _ _ W.drew
  go_wp2_with (go_at_call 53; refine (keep_any W.drew HB2.out HR2.out HNE.out HR.out.pos HR.out.max (by rw [List.length_append, hm]; have := HL.out; omega)).mono ?_; rintro e w3 ⟨rfl, v', hk⟩)
  go_end0
  refine ⟨rfl, v', ⟨⟨hk.blk, hk.row, ?_, HR.out.pos, HR.out.max, keepL_len _ _, HU.out.keep⟩, own_after HU2.out.size HO.out hk.own, (HU2.out.drewN 1).trans (hk.but : But (W.drewN 1) w3 g none) (.inr fun k hk => by cases hk)⟩⟩
  rcases hk.own with h | h
  · rw [h]; exact HNE.out
  · intro e; have := h g e; have := HU2.out.size; simp at *; omega
end Go.Proofs.Ytndgdehlnmheeaa
