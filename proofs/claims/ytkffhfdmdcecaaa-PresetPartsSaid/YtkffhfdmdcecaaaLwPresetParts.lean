/-
  PresetParts: the law's walk.
-/
import Derived.Test.YtkffhfdmdcecaaaPresetB
import Derived.Test.YtkffhfdmdcecaaaSame
import Derived.Deep.RegionHeld3
namespace Go.Proofs.Ytkffhfdmdcecaaa
open Go.RowKit

/-- What is held while the last statement runs: the table's box, its norms, and that nothing old has turned. -/
theorem parts_keep {w0 w w' : World} {b : Nat} {x y v : Value} {xs : List Int} (hb : Below w.heap.size w w')
    (hs : w.cell? ⟨b, 0, none⟩ = some x ∧ w.cell? ⟨b, 1, none⟩ = some y ∧ Ints w .i64 v xs ∧ Below w0.heap.size w0 w) : w'.cell? ⟨b, 0, none⟩ = some x ∧ w'.cell? ⟨b, 1, none⟩ = some y ∧ Ints w' .i64 v xs ∧ Below w0.heap.size w0 w' :=
  ⟨(hb.cell (World.block_lt_of_cell? w _ hs.1)).trans hs.1, (hb.cell (World.block_lt_of_cell? w _ hs.2.1)).trans hs.2.1, hs.2.2.1.below hb (Nat.le_refl _), hs.2.2.2.trans (hb.mono hs.2.2.2.size)⟩

set_option maxHeartbeats 1600000 in
theorem presetParts_0 (w : World) : Calls Try.prog 4 #[.int .i64 0] w fun e w' => e = .returned (.bool true) ∧ Below w.heap.size w w' := by
  go_enter Try.func4, Try.ntmps4
  go_wp2_with fail
  refine (table_0 _).mono ?_
  rintro e w1 ⟨v1, rfl, ⟨g1, t1, rfl, hg1, hk1⟩, hb1⟩
  rw [show llN.length = 44 from rfl]
  have HF1 : Hid (FreshInts w1 w.heap.size (.slice (some ⟨g1, 0, none⟩) 44 44) llN) := ⟨g1, t1, rfl, hg1, hk1⟩
  have HB1 := Lib.hid hb1
  clear hb1 hg1 hk1
  go_wp2_with fail
  refine (symbols_0 _).mono ?_
  rintro e w2 ⟨rfl, hb2⟩
  have HR2 := Lib.hid ((Blk.new w1 25 #[.int .i64 6, .slice (some ⟨g1, 0, none⟩) 44 44]).below hb2 (by simp))
  have HB2 := Lib.hid (HB1.out.trans ((below1 w1 _).trans (hb2.mono (by simp)) |>.mono HB1.out.size))
  have HF2 := Lib.hid (HF1.out.below ((below1 w1 _).trans (hb2.mono (by simp))) (Nat.le_refl _))
  clear hb2 HF1 HB1
  go_wp2_with fail
  refine (log_0 _).mono ?_
  rintro e w3 ⟨rfl, hb3⟩
  have HR3 := Lib.hid (HR2.out.below hb3 HR2.out.lt)
  have HB3 := Lib.hid (HB2.out.trans (hb3.mono HB2.out.size))
  have HF3 := Lib.hid (HF2.out.below hb3 (Nat.le_refl _))
  clear hb3 HF2 HB2 HR2
  go_wp2
  have hS : w3.drew.cell? ⟨w1.heap.size, 0, none⟩ = some (.int .i64 6) ∧ w3.drew.cell? ⟨w1.heap.size, 1, none⟩ = some (.slice (some ⟨g1, 0, none⟩) 44 44) ∧ Ints w3.drew .i64 (.slice (some ⟨g1, 0, none⟩) 44 44) llN ∧ Below w.heap.size w w3.drew := ⟨HR3.out.two.1, HR3.out.two.2.1, HF3.out.ints (by decide), HB3.out.drew⟩
  go_region_held3 (fun w' => w'.cell? ⟨w1.heap.size, 0, none⟩ = some (.int .i64 6) ∧ w'.cell? ⟨w1.heap.size, 1, none⟩ = some (.slice (some ⟨g1, 0, none⟩) 44 44) ∧ Ints w' .i64 (.slice (some ⟨g1, 0, none⟩) 44 44) llN ∧ Below w.heap.size w w') (first | exact hS | assumption | exact parts_keep (by assumption) (by assumption))
    (first
      | (go_at_call 13; refine (refOf_0 _).mono ?_; rintro e w' ⟨v2, rfl, hf2, hb2⟩; have HV2 := Lib.hid (hf2.ints (by decide)))
      | (go_at_call 11; refine (same_true 6 _ v2 llN _ ?_ HV2.out).mono ?_; exact (by assumption : _ ∧ _ ∧ _ ∧ _).2.2.1; rintro e w' ⟨rfl, hb2⟩)
      | (go_at_call 20; refine (refSymbols_0 _).mono ?_; rintro e w' ⟨rfl, rfl⟩)
      | (go_at_call 21; refine (refLog_0 _).mono ?_; rintro e w' ⟨rfl, rfl⟩)
      | (go_at_call 16; refine (known_any _).mono ?_; rintro e w' ⟨rfl, hb2⟩))
  go_wp2
  go_ret
  exact ⟨rfl, (by assumption : _ ∧ _ ∧ _ ∧ Below w.heap.size w _).2.2.2⟩

set_option maxHeartbeats 1600000 in
theorem presetParts_1 (w : World) : Calls Try.prog 4 #[.int .i64 1] w fun e w' => e = .returned (.bool true) ∧ Below w.heap.size w w' := by
  go_enter Try.func4, Try.ntmps4
  go_wp2_with fail
  refine (table_1 _).mono ?_
  rintro e w1 ⟨v1, rfl, ⟨g1, t1, rfl, hg1, hk1⟩, hb1⟩
  rw [show ofN.length = 28 from rfl]
  have HF1 : Hid (FreshInts w1 w.heap.size (.slice (some ⟨g1, 0, none⟩) 28 28) ofN) := ⟨g1, t1, rfl, hg1, hk1⟩
  have HB1 := Lib.hid hb1
  clear hb1 hg1 hk1
  go_wp2_with fail
  refine (symbols_1 _).mono ?_
  rintro e w2 ⟨rfl, hb2⟩
  have HR2 := Lib.hid ((Blk.new w1 25 #[.int .i64 5, .slice (some ⟨g1, 0, none⟩) 28 28]).below hb2 (by simp))
  have HB2 := Lib.hid (HB1.out.trans ((below1 w1 _).trans (hb2.mono (by simp)) |>.mono HB1.out.size))
  have HF2 := Lib.hid (HF1.out.below ((below1 w1 _).trans (hb2.mono (by simp))) (Nat.le_refl _))
  clear hb2 HF1 HB1
  go_wp2_with fail
  refine (log_1 _).mono ?_
  rintro e w3 ⟨rfl, hb3⟩
  have HR3 := Lib.hid (HR2.out.below hb3 HR2.out.lt)
  have HB3 := Lib.hid (HB2.out.trans (hb3.mono HB2.out.size))
  have HF3 := Lib.hid (HF2.out.below hb3 (Nat.le_refl _))
  clear hb3 HF2 HB2 HR2
  go_wp2
  have hS : w3.drew.cell? ⟨w1.heap.size, 0, none⟩ = some (.int .i64 5) ∧ w3.drew.cell? ⟨w1.heap.size, 1, none⟩ = some (.slice (some ⟨g1, 0, none⟩) 28 28) ∧ Ints w3.drew .i64 (.slice (some ⟨g1, 0, none⟩) 28 28) ofN ∧ Below w.heap.size w w3.drew := ⟨HR3.out.two.1, HR3.out.two.2.1, HF3.out.ints (by decide), HB3.out.drew⟩
  go_region_held3 (fun w' => w'.cell? ⟨w1.heap.size, 0, none⟩ = some (.int .i64 5) ∧ w'.cell? ⟨w1.heap.size, 1, none⟩ = some (.slice (some ⟨g1, 0, none⟩) 28 28) ∧ Ints w' .i64 (.slice (some ⟨g1, 0, none⟩) 28 28) ofN ∧ Below w.heap.size w w') (first | exact hS | assumption | exact parts_keep (by assumption) (by assumption))
    (first
      | (go_at_call 13; refine (refOf_1 _).mono ?_; rintro e w' ⟨v2, rfl, hf2, hb2⟩; have HV2 := Lib.hid (hf2.ints (by decide)))
      | (go_at_call 11; refine (same_true 5 _ v2 ofN _ ?_ HV2.out).mono ?_; exact (by assumption : _ ∧ _ ∧ _ ∧ _).2.2.1; rintro e w' ⟨rfl, hb2⟩)
      | (go_at_call 20; refine (refSymbols_1 _).mono ?_; rintro e w' ⟨rfl, rfl⟩)
      | (go_at_call 21; refine (refLog_1 _).mono ?_; rintro e w' ⟨rfl, rfl⟩)
      | (go_at_call 16; refine (known_any _).mono ?_; rintro e w' ⟨rfl, hb2⟩))
  go_wp2
  go_ret
  exact ⟨rfl, (by assumption : _ ∧ _ ∧ _ ∧ Below w.heap.size w _).2.2.2⟩

set_option maxHeartbeats 1600000 in
theorem presetParts_2 (w : World) : Calls Try.prog 4 #[.int .i64 2] w fun e w' => e = .returned (.bool true) ∧ Below w.heap.size w w' := by
  go_enter Try.func4, Try.ntmps4
  go_wp2_with fail
  refine (table_2 _).mono ?_
  rintro e w1 ⟨v1, rfl, ⟨g1, t1, rfl, hg1, hk1⟩, hb1⟩
  rw [show mlN.length = 44 from rfl]
  have HF1 : Hid (FreshInts w1 w.heap.size (.slice (some ⟨g1, 0, none⟩) 44 44) mlN) := ⟨g1, t1, rfl, hg1, hk1⟩
  have HB1 := Lib.hid hb1
  clear hb1 hg1 hk1
  go_wp2_with fail
  refine (symbols_2 _).mono ?_
  rintro e w2 ⟨rfl, hb2⟩
  have HR2 := Lib.hid ((Blk.new w1 25 #[.int .i64 6, .slice (some ⟨g1, 0, none⟩) 44 44]).below hb2 (by simp))
  have HB2 := Lib.hid (HB1.out.trans ((below1 w1 _).trans (hb2.mono (by simp)) |>.mono HB1.out.size))
  have HF2 := Lib.hid (HF1.out.below ((below1 w1 _).trans (hb2.mono (by simp))) (Nat.le_refl _))
  clear hb2 HF1 HB1
  go_wp2_with fail
  refine (log_2 _).mono ?_
  rintro e w3 ⟨rfl, hb3⟩
  have HR3 := Lib.hid (HR2.out.below hb3 HR2.out.lt)
  have HB3 := Lib.hid (HB2.out.trans (hb3.mono HB2.out.size))
  have HF3 := Lib.hid (HF2.out.below hb3 (Nat.le_refl _))
  clear hb3 HF2 HB2 HR2
  go_wp2
  have hS : w3.drew.cell? ⟨w1.heap.size, 0, none⟩ = some (.int .i64 6) ∧ w3.drew.cell? ⟨w1.heap.size, 1, none⟩ = some (.slice (some ⟨g1, 0, none⟩) 44 44) ∧ Ints w3.drew .i64 (.slice (some ⟨g1, 0, none⟩) 44 44) mlN ∧ Below w.heap.size w w3.drew := ⟨HR3.out.two.1, HR3.out.two.2.1, HF3.out.ints (by decide), HB3.out.drew⟩
  go_region_held3 (fun w' => w'.cell? ⟨w1.heap.size, 0, none⟩ = some (.int .i64 6) ∧ w'.cell? ⟨w1.heap.size, 1, none⟩ = some (.slice (some ⟨g1, 0, none⟩) 44 44) ∧ Ints w' .i64 (.slice (some ⟨g1, 0, none⟩) 44 44) mlN ∧ Below w.heap.size w w') (first | exact hS | assumption | exact parts_keep (by assumption) (by assumption))
    (first
      | (go_at_call 13; refine (refOf_2 _).mono ?_; rintro e w' ⟨v2, rfl, hf2, hb2⟩; have HV2 := Lib.hid (hf2.ints (by decide)))
      | (go_at_call 11; refine (same_true 6 _ v2 mlN _ ?_ HV2.out).mono ?_; exact (by assumption : _ ∧ _ ∧ _ ∧ _).2.2.1; rintro e w' ⟨rfl, hb2⟩)
      | (go_at_call 20; refine (refSymbols_2 _).mono ?_; rintro e w' ⟨rfl, rfl⟩)
      | (go_at_call 21; refine (refLog_2 _).mono ?_; rintro e w' ⟨rfl, rfl⟩)
      | (go_at_call 16; refine (known_any _).mono ?_; rintro e w' ⟨rfl, hb2⟩))
  go_wp2
  go_ret
  exact ⟨rfl, (by assumption : _ ∧ _ ∧ _ ∧ Below w.heap.size w _).2.2.2⟩

set_option maxHeartbeats 800000 in
theorem presetParts_no (p : Int) (h : p < 0 ∨ 3 ≤ p) (w : World) : Calls Try.prog 4 #[.int .i64 p] w fun e w' => e = .returned (.bool true) ∧ Below w.heap.size w w' := by
  have H := Lib.hid h
  clear h
  go_enter Try.func4, Try.ntmps4
  go_wp2_with fail
  refine (table_no p H.out _).mono ?_
  rintro e w1 ⟨rfl, hb1⟩
  have HB1 := Lib.hid hb1
  clear hb1
  go_wp2_with fail
  refine (symbols_no p H.out _).mono ?_
  rintro e w2 ⟨rfl, hb2⟩
  have HR2 := Lib.hid ((Blk.new w1 25 #[.int .i64 0, .slice none 0 0]).below hb2 (by simp))
  have HB2 := Lib.hid (HB1.out.trans ((below1 w1 _).trans (hb2.mono (by simp)) |>.mono HB1.out.size))
  clear hb2 HB1
  go_wp2_with fail
  refine (log_no p H.out _).mono ?_
  rintro e w3 ⟨rfl, hb3⟩
  have HR3 := Lib.hid (HR2.out.below hb3 HR2.out.lt)
  have HB3 := Lib.hid (HB2.out.trans (hb3.mono HB2.out.size))
  clear hb3 HB2 HR2
  obtain ⟨hx, hy, -, -⟩ := HR3.out.two
  rcases H.out with h | h
  · go_wp2_with fail
    refine (same_true 0 _ _ [] _ (Ints.nil _ _) (Ints.nil _ _)).mono ?_
    rintro e w4 ⟨rfl, hb4⟩
    have HB4 := Lib.hid (HB3.out.trans (hb4.mono HB3.out.size))
    clear hb4
    go_wp2_with fail
    refine (known_any _).mono ?_
    rintro e w5 ⟨rfl, hb5⟩
    have HB5 := Lib.hid (HB4.out.trans (hb5.mono HB4.out.size))
    clear hb5
    go_wp2
    go_ret
    exact ⟨rfl, HB5.out⟩
  · have h0 : ¬ p < 0 := by omega
    have h2 : 2 < p := by omega
    go_wp2_with fail
    refine (same_true 0 _ _ [] _ (Ints.nil _ _) (Ints.nil _ _)).mono ?_
    rintro e w4 ⟨rfl, hb4⟩
    have HB4 := Lib.hid (HB3.out.trans (hb4.mono HB3.out.size))
    clear hb4
    go_wp2_with fail
    refine (known_any _).mono ?_
    rintro e w5 ⟨rfl, hb5⟩
    have HB5 := Lib.hid (HB4.out.trans (hb5.mono HB4.out.size))
    clear hb5
    go_wp2
    go_ret
    exact ⟨rfl, HB5.out⟩

theorem presetParts_walk (p : Int) (_ : (Lit.int .i64 p).wf = true) (w : World) : Calls Try.prog 4 #[.int .i64 p] w fun e w' => e = .returned (.bool true) ∧ Below w.heap.size w w' := by
  rcases (show p = 0 ∨ p = 1 ∨ p = 2 ∨ (p < 0 ∨ 3 ≤ p) by omega) with rfl | rfl | rfl | h
  · exact presetParts_0 w
  · exact presetParts_1 w
  · exact presetParts_2 w
  · exact presetParts_no p h w
end Go.Proofs.Ytkffhfdmdcecaaa
