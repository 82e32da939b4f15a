/-
  PresetUnlike: the law's walk.
-/
import Derived.Test.YtkffhfdmdcecaaaPresetB
import Derived.Test.YtkffhfdmdcecaaaNormEq
import Derived.Deep.RegionHeld3
namespace Go.Proofs.Ytkffhfdmdcecaaa
open Go.RowKit

theorem unlike_keep {w0 w w' : World} {b1 b2 b3 : Nat} {x1 y1 x2 y2 x3 y3 u1 u2 u3 : Value} {l1 l2 l3 : List Int} (hb : Below w.heap.size w w')
    (hs : w.cell? ⟨b1, 0, none⟩ = some x1 ∧ w.cell? ⟨b1, 1, none⟩ = some y1 ∧ w.cell? ⟨b2, 0, none⟩ = some x2 ∧ w.cell? ⟨b2, 1, none⟩ = some y2 ∧ w.cell? ⟨b3, 0, none⟩ = some x3 ∧ w.cell? ⟨b3, 1, none⟩ = some y3 ∧ Ints w .i64 u1 l1 ∧ Ints w .i64 u2 l2 ∧ Ints w .i64 u3 l3 ∧ Below w0.heap.size w0 w) :
    w'.cell? ⟨b1, 0, none⟩ = some x1 ∧ w'.cell? ⟨b1, 1, none⟩ = some y1 ∧ w'.cell? ⟨b2, 0, none⟩ = some x2 ∧ w'.cell? ⟨b2, 1, none⟩ = some y2 ∧ w'.cell? ⟨b3, 0, none⟩ = some x3 ∧ w'.cell? ⟨b3, 1, none⟩ = some y3 ∧ Ints w' .i64 u1 l1 ∧ Ints w' .i64 u2 l2 ∧ Ints w' .i64 u3 l3 ∧ Below w0.heap.size w0 w' := by
  obtain ⟨h1, h2, h3, h4, h5, h6, i1, i2, i3, hB⟩ := hs
  have k : ∀ (p : Addr) (v : Value), w.cell? p = some v → w'.cell? p = some v := fun p v h => (hb.cell (World.block_lt_of_cell? w _ h)).trans h
  exact ⟨k _ _ h1, k _ _ h2, k _ _ h3, k _ _ h4, k _ _ h5, k _ _ h6, i1.below hb (Nat.le_refl _), i2.below hb (Nat.le_refl _), i3.below hb (Nat.le_refl _), hB.trans (hb.mono hB.size)⟩

set_option maxHeartbeats 3200000 in
theorem presetUnlike_walk (w : World) : Calls Try.prog 5 #[] w fun e w' => e = .returned (.bool true) ∧ Below w.heap.size w w' := by
  go_enter Try.func5, Try.ntmps5
  go_wp2_with fail
  refine (table_0 _).mono ?_
  rintro e w1 ⟨v1, rfl, ⟨g1, t1, rfl, hg, hk⟩, hb⟩
  rw [show llN.length = 44 from rfl]
  have HB1 := Lib.hid hb
  have HF1 : Hid (FreshInts w1 w.heap.size (.slice (some ⟨g1, 0, none⟩) 44 44) llN) := ⟨g1, t1, rfl, hg, hk⟩
  clear hg hk hb
  go_wp2_with fail
  refine (table_1 _).mono ?_
  rintro e w2 ⟨v2, rfl, ⟨g2, t2, rfl, hg, hk⟩, hb⟩
  rw [show ofN.length = 28 from rfl]
  have hb' := (below1 w1 _).trans (hb.mono (by simp))
  have HB2 := Lib.hid (HB1.out.trans (hb'.mono HB1.out.size))
  have HF2 : Hid (FreshInts w2 _ (.slice (some ⟨g2, 0, none⟩) 28 28) ofN) := ⟨g2, t2, rfl, hg, hk⟩
  have HR1_2 := Lib.hid ((Blk.new w1 25 #[.int .i64 6, .slice (some ⟨g1, 0, none⟩) 44 44]).below hb (by simp))
  have HI1_2 := Lib.hid ((HF1.out.ints (by decide)).below hb' (Nat.le_refl _))
  clear hg hk hb hb'
  go_wp2_with fail
  refine (table_2 _).mono ?_
  rintro e w3 ⟨v3, rfl, ⟨g3, t3, rfl, hg, hk⟩, hb⟩
  rw [show mlN.length = 44 from rfl]
  have hb' := (below1 w2 _).trans (hb.mono (by simp))
  have HB3 := Lib.hid (HB2.out.trans (hb'.mono HB2.out.size))
  have HF3 : Hid (FreshInts w3 _ (.slice (some ⟨g3, 0, none⟩) 44 44) mlN) := ⟨g3, t3, rfl, hg, hk⟩
  have HR2_3 := Lib.hid ((Blk.new w2 25 #[.int .i64 5, .slice (some ⟨g2, 0, none⟩) 28 28]).below hb (by simp))
  have HR1_3 := Lib.hid (HR1_2.out.below hb' HR1_2.out.lt)
  have HI1_3 := Lib.hid (HI1_2.out.below hb' (Nat.le_refl _))
  have HI2_3 := Lib.hid ((HF2.out.ints (by decide)).below hb' (Nat.le_refl _))
  clear hg hk hb hb'
  have HR3_3 := Lib.hid (Blk.new w3 25 #[.int .i64 6, .slice (some ⟨g3, 0, none⟩) 44 44])
  obtain ⟨W, hW⟩ : ∃ W, W = w3.alloc (.cells #[.int .i64 6, .slice (some ⟨g3, 0, none⟩) 44 44] 25) := ⟨_, rfl⟩
  have hb3 := below1 w3 (.cells #[.int .i64 6, .slice (some ⟨g3, 0, none⟩) 44 44] 25)
  rw [← hW] at hb3
  have HS : Hid (W.drew.cell? ⟨w1.heap.size, 0, none⟩ = some (.int .i64 6) ∧ W.drew.cell? ⟨w1.heap.size, 1, none⟩ = some (.slice (some ⟨g1, 0, none⟩) 44 44) ∧ W.drew.cell? ⟨w2.heap.size, 0, none⟩ = some (.int .i64 5) ∧ W.drew.cell? ⟨w2.heap.size, 1, none⟩ = some (.slice (some ⟨g2, 0, none⟩) 28 28) ∧ W.drew.cell? ⟨w3.heap.size, 0, none⟩ = some (.int .i64 6) ∧ W.drew.cell? ⟨w3.heap.size, 1, none⟩ = some (.slice (some ⟨g3, 0, none⟩) 44 44) ∧ Ints W.drew .i64 (.slice (some ⟨g1, 0, none⟩) 44 44) llN ∧ Ints W.drew .i64 (.slice (some ⟨g2, 0, none⟩) 28 28) ofN ∧ Ints W.drew .i64 (.slice (some ⟨g3, 0, none⟩) 44 44) mlN ∧ Below w.heap.size w W.drew) :=
    ⟨(HR1_3.out.below hb3 HR1_3.out.lt).two.1, (HR1_3.out.below hb3 HR1_3.out.lt).two.2.1, (HR2_3.out.below hb3 HR2_3.out.lt).two.1, (HR2_3.out.below hb3 HR2_3.out.lt).two.2.1, by rw [hW]; exact HR3_3.out.two.1, by rw [hW]; exact HR3_3.out.two.2.1,
      HI1_3.out.below hb3.drew (Nat.le_refl _), HI2_3.out.below hb3.drew (Nat.le_refl _), (HF3.out.ints (by decide)).below hb3.drew (Nat.le_refl _), (HB3.out.trans (hb3.mono HB3.out.size)).drew⟩
  have HW := Lib.hid hW
  clear hb3 hW
  go_wp2
  rw [← HW.out]
  go_region_held3 (fun w' => w'.cell? ⟨w1.heap.size, 0, none⟩ = some (.int .i64 6) ∧ w'.cell? ⟨w1.heap.size, 1, none⟩ = some (.slice (some ⟨g1, 0, none⟩) 44 44) ∧ w'.cell? ⟨w2.heap.size, 0, none⟩ = some (.int .i64 5) ∧ w'.cell? ⟨w2.heap.size, 1, none⟩ = some (.slice (some ⟨g2, 0, none⟩) 28 28) ∧ w'.cell? ⟨w3.heap.size, 0, none⟩ = some (.int .i64 6) ∧ w'.cell? ⟨w3.heap.size, 1, none⟩ = some (.slice (some ⟨g3, 0, none⟩) 44 44) ∧ Ints w' .i64 (.slice (some ⟨g1, 0, none⟩) 44 44) llN ∧ Ints w' .i64 (.slice (some ⟨g2, 0, none⟩) 28 28) ofN ∧ Ints w' .i64 (.slice (some ⟨g3, 0, none⟩) 44 44) mlN ∧ Below w.heap.size w w') (first | exact HS.out | assumption | exact unlike_keep (by assumption) (by assumption))
    (first
      | (go_at_call 12; refine (ll_any _).mono ?_; rintro e w' ⟨u1, rfl, hf2, hb2⟩; have HV1 := Lib.hid (hf2.ints (by decide)))
      | (go_at_call 14; refine (of_any _).mono ?_; rintro e w' ⟨u2, rfl, hf2, hb2⟩; have HV2 := Lib.hid (hf2.ints (by decide)))
      | (go_at_call 15; refine (ml_any _).mono ?_; rintro e w' ⟨u3, rfl, hf2, hb2⟩; have HV3 := Lib.hid (hf2.ints (by decide)))
      | (go_at_call 22; with_reducible refine (normEq_true 6 (.slice (some ⟨g1, 0, none⟩) 44 44) u1 llN _ ?_ HV1.out).mono ?_; exact (by assumption : _ ∧ _ ∧ _ ∧ _ ∧ _ ∧ _ ∧ _ ∧ _ ∧ _ ∧ Below w.heap.size w _).2.2.2.2.2.2.1; rintro e w' ⟨rfl, hb2⟩)
      | (go_at_call 22; with_reducible refine (normEq_true 5 (.slice (some ⟨g2, 0, none⟩) 28 28) u2 ofN _ ?_ HV2.out).mono ?_; exact (by assumption : _ ∧ _ ∧ _ ∧ _ ∧ _ ∧ _ ∧ _ ∧ _ ∧ _ ∧ Below w.heap.size w _).2.2.2.2.2.2.2.1; rintro e w' ⟨rfl, hb2⟩)
      | (go_at_call 22; with_reducible refine (normEq_true 6 (.slice (some ⟨g3, 0, none⟩) 44 44) u3 mlN _ ?_ HV3.out).mono ?_; exact (by assumption : _ ∧ _ ∧ _ ∧ _ ∧ _ ∧ _ ∧ _ ∧ _ ∧ _ ∧ Below w.heap.size w _).2.2.2.2.2.2.2.2.1; rintro e w' ⟨rfl, hb2⟩)
      | (go_at_call 22; with_reducible refine (normEq_false 6 5 (.slice (some ⟨g1, 0, none⟩) 44 44) (.slice (some ⟨g2, 0, none⟩) 28 28) llN ofN _ ?_ ?_ (by decide)).mono ?_; exact (by assumption : _ ∧ _ ∧ _ ∧ _ ∧ _ ∧ _ ∧ _ ∧ _ ∧ _ ∧ Below w.heap.size w _).2.2.2.2.2.2.1; exact (by assumption : _ ∧ _ ∧ _ ∧ _ ∧ _ ∧ _ ∧ _ ∧ _ ∧ _ ∧ Below w.heap.size w _).2.2.2.2.2.2.2.1; rintro e w' ⟨rfl, hb2⟩)
      | (go_at_call 22; with_reducible refine (normEq_false 5 6 (.slice (some ⟨g2, 0, none⟩) 28 28) (.slice (some ⟨g3, 0, none⟩) 44 44) ofN mlN _ ?_ ?_ (by decide)).mono ?_; exact (by assumption : _ ∧ _ ∧ _ ∧ _ ∧ _ ∧ _ ∧ _ ∧ _ ∧ _ ∧ Below w.heap.size w _).2.2.2.2.2.2.2.1; exact (by assumption : _ ∧ _ ∧ _ ∧ _ ∧ _ ∧ _ ∧ _ ∧ _ ∧ _ ∧ Below w.heap.size w _).2.2.2.2.2.2.2.2.1; rintro e w' ⟨rfl, hb2⟩)
      | (go_at_call 22; with_reducible refine (normEq_false 6 6 (.slice (some ⟨g1, 0, none⟩) 44 44) (.slice (some ⟨g3, 0, none⟩) 44 44) llN mlN _ ?_ ?_ (by decide)).mono ?_; exact (by assumption : _ ∧ _ ∧ _ ∧ _ ∧ _ ∧ _ ∧ _ ∧ _ ∧ _ ∧ Below w.heap.size w _).2.2.2.2.2.2.1; exact (by assumption : _ ∧ _ ∧ _ ∧ _ ∧ _ ∧ _ ∧ _ ∧ _ ∧ _ ∧ Below w.heap.size w _).2.2.2.2.2.2.2.2.1; rintro e w' ⟨rfl, hb2⟩)
      | (go_at_call 16; refine (known_any _).mono ?_; rintro e w' ⟨rfl, hb2⟩))
  go_wp2
  go_ret
  exact ⟨rfl, (by assumption : _ ∧ _ ∧ _ ∧ _ ∧ _ ∧ _ ∧ _ ∧ _ ∧ _ ∧ Below w.heap.size w _).2.2.2.2.2.2.2.2.2⟩
end Go.Proofs.Ytkffhfdmdcecaaa
