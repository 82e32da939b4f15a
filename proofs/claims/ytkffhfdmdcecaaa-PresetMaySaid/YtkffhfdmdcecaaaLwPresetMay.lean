/-
  PresetMay: the law's walk.
-/
import Derived.Test.YtkffhfdmdcecaaaPresetB
import Derived.Test.YtkffhfdmdcecaaaNormCheck
namespace Go.Proofs.Ytkffhfdmdcecaaa
open Go.RowKit

theorem llN_at {k : Nat} {x : Int} (h : llN[k]? = some x) : x ≠ 0 ∧ (x = -1 ↔ 38 ≤ k) := by
  have hk : k < 44 := (List.getElem?_eq_some_iff.1 h).1
  have : ∀ k : Fin 44, llN.getD k.1 0 ≠ 0 ∧ (llN.getD k.1 0 = -1 ↔ 38 ≤ k.1) := by decide
  have h2 := this ⟨k, hk⟩
  simp only [List.getD_eq_getElem?_getD, h] at h2
  exact h2
theorem mlN_at {k : Nat} {x : Int} (h : mlN[k]? = some x) : x ≠ 0 ∧ (x = -1 ↔ 38 ≤ k) := by
  have hk : k < 44 := (List.getElem?_eq_some_iff.1 h).1
  have : ∀ k : Fin 44, mlN.getD k.1 0 ≠ 0 ∧ (mlN.getD k.1 0 = -1 ↔ 38 ≤ k.1) := by decide
  have h2 := this ⟨k, hk⟩
  simp only [List.getD_eq_getElem?_getD, h] at h2
  exact h2
theorem ofN_at {k : Nat} {x : Int} (h : ofN[k]? = some x) : x ≠ 0 ∧ (x = -1 ↔ 22 ≤ k) := by
  have hk : k < 28 := (List.getElem?_eq_some_iff.1 h).1
  have : ∀ k : Fin 28, ofN.getD k.1 0 ≠ 0 ∧ (ofN.getD k.1 0 = -1 ↔ 22 ≤ k.1) := by decide
  have h2 := this ⟨k, hk⟩
  simp only [List.getD_eq_getElem?_getD, h] at h2
  exact h2

set_option maxHeartbeats 1600000 in
theorem presetMay_0 (w : World) : Calls Try.prog 6 #[.int .i64 0] w fun e w' => e = .returned (.bool true) ∧ Below w.heap.size w w' := by
  go_enter Try.func6, Try.ntmps6
  go_wp2_with fail
  refine (table_0 _).mono ?_
  rintro e w1 ⟨v1, rfl, ⟨g1, t1, rfl, hg1, hk1⟩, hb1⟩
  rw [show llN.length = 44 from rfl]
  have HF1 : Hid (FreshInts w1 w.heap.size (.slice (some ⟨g1, 0, none⟩) 44 44) llN) := ⟨g1, t1, rfl, hg1, hk1⟩
  have HB1 := Lib.hid hb1
  clear hb1 hg1 hk1
  go_wp2_with fail
  refine (symbols_0 _).mono ?_
  rintro e w2 ⟨rfl, hb2⟩
  have hb2' := (below1 w1 (.cells #[.int .i64 6, .slice (some ⟨g1, 0, none⟩) 44 44] 25)).trans (hb2.mono (by simp))
  have HR2 := Lib.hid ((Blk.new w1 25 #[.int .i64 6, .slice (some ⟨g1, 0, none⟩) 44 44]).below hb2 (by simp))
  have HB2 := Lib.hid (HB1.out.trans (hb2'.mono HB1.out.size))
  have HF2 := Lib.hid (HF1.out.below hb2' (Nat.le_refl _))
  clear hb2 hb2' HF1 HB1
  go_wp2_with fail
  refine (log_0 _).mono ?_
  rintro e w3 ⟨rfl, hb3⟩
  have HR3 := Lib.hid (HR2.out.below hb3 HR2.out.lt)
  have HB3 := Lib.hid (HB2.out.trans (hb3.mono HB2.out.size))
  have HF3 := Lib.hid (HF2.out.below hb3 (Nat.le_refl _))
  clear hb3 HF2 HB2 HR2
  obtain ⟨hx, hy, -, -⟩ := HR3.out.two
  go_wp2_with fail
  refine (check_any 6 _ llN 44 9 _ (HF3.out.ints (by decide)) (by decide)).mono ?_
  rintro e w4 ⟨rfl, hb4⟩
  rw [show chk 6 llN 44 9 = 0 from by decide]
  have HR4 := Lib.hid (HR3.out.below hb4 HR3.out.lt)
  have HB4 := Lib.hid (HB3.out.trans (hb4.mono HB3.out.size))
  have HF4 := Lib.hid (HF3.out.below hb4 (Nat.le_refl _))
  clear hb4 HF3 HB3 HR3 hx hy
  go_wp2
  obtain ⟨-, hy, -, -⟩ := HR4.out.two
  go_loop [9] (fun i => ∃ k : Nat, k ≤ 44 ∧ i = .int .i64 k) (fun i => 44 - (intOf i).toNat)
  case atStart => exact ⟨0, Nat.zero_le _, rfl⟩
  case round =>
    obtain ⟨k, hk, rfl⟩ := hrel
    by_cases hlt : k < 44
    · have hx : ∃ x, llN[k]? = some x := ⟨_, List.getElem?_eq_getElem (by simpa [llN] using hlt)⟩
      obtain ⟨x, hx⟩ := hx
      have h1 := llN_at hx
      have cx : w4.cell? ⟨g1, k, none⟩ = some (.int .i64 x) := by
        obtain ⟨g, t, e, _, hk⟩ := HF4.out
        injection e with e; injection e with e; injection e with e; subst e
        exact hk.int_at hx
      clear hx
      obtain ⟨hz, hm⟩ := h1
      have h0 : (0 : Int) ≤ (k : Int) := by omega
      have hz' : (x == 0) = false := by simpa using hz
      by_cases hr : 38 ≤ k
      · obtain rfl := hm.2 hr
        clear hm hz hz'
        have hd : decide ((38 : Int) ≤ (k : Int)) = true := by simp; omega
        go_wp2
        go_round
        case rel => exact ⟨k + 1, by omega, by go_num⟩
        case measure => simp [intOf]; omega
      · have hm' : (x == -1) = false := by simpa using fun h => hr (hm.1 h)
        clear hm hz
        go_wp2
        go_round
        case rel => exact ⟨k + 1, by omega, by go_num⟩
        case measure => simp [intOf]; omega
    · obtain rfl : k = 44 := by omega
      go_wp2_with fail
      refine (known_any _).mono ?_
      rintro e w5 ⟨rfl, hb5⟩
      have HB5 := Lib.hid (HB4.out.trans (hb5.mono HB4.out.size))
      clear hb5
      go_wp2
      go_ret
      exact ⟨rfl, HB5.out⟩

set_option maxHeartbeats 1600000 in
theorem presetMay_1 (w : World) : Calls Try.prog 6 #[.int .i64 1] w fun e w' => e = .returned (.bool true) ∧ Below w.heap.size w w' := by
  go_enter Try.func6, Try.ntmps6
  go_wp2_with fail
  refine (table_1 _).mono ?_
  rintro e w1 ⟨v1, rfl, ⟨g1, t1, rfl, hg1, hk1⟩, hb1⟩
  rw [show ofN.length = 28 from rfl]
  have HF1 : Hid (FreshInts w1 w.heap.size (.slice (some ⟨g1, 0, none⟩) 28 28) ofN) := ⟨g1, t1, rfl, hg1, hk1⟩
  have HB1 := Lib.hid hb1
  clear hb1 hg1 hk1
  go_wp2_with fail
  refine (symbols_1 _).mono ?_
  rintro e w2 ⟨rfl, hb2⟩
  have hb2' := (below1 w1 (.cells #[.int .i64 5, .slice (some ⟨g1, 0, none⟩) 28 28] 25)).trans (hb2.mono (by simp))
  have HR2 := Lib.hid ((Blk.new w1 25 #[.int .i64 5, .slice (some ⟨g1, 0, none⟩) 28 28]).below hb2 (by simp))
  have HB2 := Lib.hid (HB1.out.trans (hb2'.mono HB1.out.size))
  have HF2 := Lib.hid (HF1.out.below hb2' (Nat.le_refl _))
  clear hb2 hb2' HF1 HB1
  go_wp2_with fail
  refine (log_1 _).mono ?_
  rintro e w3 ⟨rfl, hb3⟩
  have HR3 := Lib.hid (HR2.out.below hb3 HR2.out.lt)
  have HB3 := Lib.hid (HB2.out.trans (hb3.mono HB2.out.size))
  have HF3 := Lib.hid (HF2.out.below hb3 (Nat.le_refl _))
  clear hb3 HF2 HB2 HR2
  obtain ⟨hx, hy, -, -⟩ := HR3.out.two
  go_wp2_with fail
  refine (check_any 5 _ ofN 28 8 _ (HF3.out.ints (by decide)) (by decide)).mono ?_
  rintro e w4 ⟨rfl, hb4⟩
  rw [show chk 5 ofN 28 8 = 0 from by decide]
  have HR4 := Lib.hid (HR3.out.below hb4 HR3.out.lt)
  have HB4 := Lib.hid (HB3.out.trans (hb4.mono HB3.out.size))
  have HF4 := Lib.hid (HF3.out.below hb4 (Nat.le_refl _))
  clear hb4 HF3 HB3 HR3 hx hy
  go_wp2
  obtain ⟨-, hy, -, -⟩ := HR4.out.two
  go_loop [9] (fun i => ∃ k : Nat, k ≤ 28 ∧ i = .int .i64 k) (fun i => 28 - (intOf i).toNat)
  case atStart => exact ⟨0, Nat.zero_le _, rfl⟩
  case round =>
    obtain ⟨k, hk, rfl⟩ := hrel
    by_cases hlt : k < 28
    · have hx : ∃ x, ofN[k]? = some x := ⟨_, List.getElem?_eq_getElem (by simpa [ofN] using hlt)⟩
      obtain ⟨x, hx⟩ := hx
      have h1 := ofN_at hx
      have cx : w4.cell? ⟨g1, k, none⟩ = some (.int .i64 x) := by
        obtain ⟨g, t, e, _, hk⟩ := HF4.out
        injection e with e; injection e with e; injection e with e; subst e
        exact hk.int_at hx
      clear hx
      obtain ⟨hz, hm⟩ := h1
      have h0 : (0 : Int) ≤ (k : Int) := by omega
      have hz' : (x == 0) = false := by simpa using hz
      by_cases hr : 22 ≤ k
      · obtain rfl := hm.2 hr
        clear hm hz hz'
        have hd : decide ((22 : Int) ≤ (k : Int)) = true := by simp; omega
        go_wp2
        go_round
        case rel => exact ⟨k + 1, by omega, by go_num⟩
        case measure => simp [intOf]; omega
      · have hm' : (x == -1) = false := by simpa using fun h => hr (hm.1 h)
        clear hm hz
        go_wp2
        go_round
        case rel => exact ⟨k + 1, by omega, by go_num⟩
        case measure => simp [intOf]; omega
    · obtain rfl : k = 28 := by omega
      go_wp2_with fail
      refine (known_any _).mono ?_
      rintro e w5 ⟨rfl, hb5⟩
      have HB5 := Lib.hid (HB4.out.trans (hb5.mono HB4.out.size))
      clear hb5
      go_wp2
      go_ret
      exact ⟨rfl, HB5.out⟩

set_option maxHeartbeats 1600000 in
theorem presetMay_2 (w : World) : Calls Try.prog 6 #[.int .i64 2] w fun e w' => e = .returned (.bool true) ∧ Below w.heap.size w w' := by
  go_enter Try.func6, Try.ntmps6
  go_wp2_with fail
  refine (table_2 _).mono ?_
  rintro e w1 ⟨v1, rfl, ⟨g1, t1, rfl, hg1, hk1⟩, hb1⟩
  rw [show mlN.length = 44 from rfl]
  have HF1 : Hid (FreshInts w1 w.heap.size (.slice (some ⟨g1, 0, none⟩) 44 44) mlN) := ⟨g1, t1, rfl, hg1, hk1⟩
  have HB1 := Lib.hid hb1
  clear hb1 hg1 hk1
  go_wp2_with fail
  refine (symbols_2 _).mono ?_
  rintro e w2 ⟨rfl, hb2⟩
  have hb2' := (below1 w1 (.cells #[.int .i64 6, .slice (some ⟨g1, 0, none⟩) 44 44] 25)).trans (hb2.mono (by simp))
  have HR2 := Lib.hid ((Blk.new w1 25 #[.int .i64 6, .slice (some ⟨g1, 0, none⟩) 44 44]).below hb2 (by simp))
  have HB2 := Lib.hid (HB1.out.trans (hb2'.mono HB1.out.size))
  have HF2 := Lib.hid (HF1.out.below hb2' (Nat.le_refl _))
  clear hb2 hb2' HF1 HB1
  go_wp2_with fail
  refine (log_2 _).mono ?_
  rintro e w3 ⟨rfl, hb3⟩
  have HR3 := Lib.hid (HR2.out.below hb3 HR2.out.lt)
  have HB3 := Lib.hid (HB2.out.trans (hb3.mono HB2.out.size))
  have HF3 := Lib.hid (HF2.out.below hb3 (Nat.le_refl _))
  clear hb3 HF2 HB2 HR2
  obtain ⟨hx, hy, -, -⟩ := HR3.out.two
  go_wp2_with fail
  refine (check_any 6 _ mlN 44 9 _ (HF3.out.ints (by decide)) (by decide)).mono ?_
  rintro e w4 ⟨rfl, hb4⟩
  rw [show chk 6 mlN 44 9 = 0 from by decide]
  have HR4 := Lib.hid (HR3.out.below hb4 HR3.out.lt)
  have HB4 := Lib.hid (HB3.out.trans (hb4.mono HB3.out.size))
  have HF4 := Lib.hid (HF3.out.below hb4 (Nat.le_refl _))
  clear hb4 HF3 HB3 HR3 hx hy
  go_wp2
  obtain ⟨-, hy, -, -⟩ := HR4.out.two
  go_loop [9] (fun i => ∃ k : Nat, k ≤ 44 ∧ i = .int .i64 k) (fun i => 44 - (intOf i).toNat)
  case atStart => exact ⟨0, Nat.zero_le _, rfl⟩
  case round =>
    obtain ⟨k, hk, rfl⟩ := hrel
    by_cases hlt : k < 44
    · have hx : ∃ x, mlN[k]? = some x := ⟨_, List.getElem?_eq_getElem (by simpa [mlN] using hlt)⟩
      obtain ⟨x, hx⟩ := hx
      have h1 := mlN_at hx
      have cx : w4.cell? ⟨g1, k, none⟩ = some (.int .i64 x) := by
        obtain ⟨g, t, e, _, hk⟩ := HF4.out
        injection e with e; injection e with e; injection e with e; subst e
        exact hk.int_at hx
      clear hx
      obtain ⟨hz, hm⟩ := h1
      have h0 : (0 : Int) ≤ (k : Int) := by omega
      have hz' : (x == 0) = false := by simpa using hz
      by_cases hr : 38 ≤ k
      · obtain rfl := hm.2 hr
        clear hm hz hz'
        have hd : decide ((38 : Int) ≤ (k : Int)) = true := by simp; omega
        go_wp2
        go_round
        case rel => exact ⟨k + 1, by omega, by go_num⟩
        case measure => simp [intOf]; omega
      · have hm' : (x == -1) = false := by simpa using fun h => hr (hm.1 h)
        clear hm hz
        go_wp2
        go_round
        case rel => exact ⟨k + 1, by omega, by go_num⟩
        case measure => simp [intOf]; omega
    · obtain rfl : k = 44 := by omega
      go_wp2_with fail
      refine (known_any _).mono ?_
      rintro e w5 ⟨rfl, hb5⟩
      have HB5 := Lib.hid (HB4.out.trans (hb5.mono HB4.out.size))
      clear hb5
      go_wp2
      go_ret
      exact ⟨rfl, HB5.out⟩

set_option maxHeartbeats 800000 in
theorem presetMay_no (p : Int) (h : p < 0 ∨ 3 ≤ p) (w : World) : Calls Try.prog 6 #[.int .i64 p] w fun e w' => e = .returned (.bool true) ∧ Below w.heap.size w w' := by
  rcases h with h | h
  · go_enter Try.func6, Try.ntmps6
    go_wp2_with fail
    refine (known_any _).mono ?_
    rintro e w5 ⟨rfl, hb5⟩
    have HB5 := Lib.hid hb5
    clear hb5
    go_wp2
    go_ret
    exact ⟨rfl, HB5.out⟩
  · have h0 : ¬ p < 0 := by omega
    have h2 : 2 < p := by omega
    go_enter Try.func6, Try.ntmps6
    go_wp2_with fail
    refine (known_any _).mono ?_
    rintro e w5 ⟨rfl, hb5⟩
    have HB5 := Lib.hid hb5
    clear hb5
    go_wp2
    go_ret
    exact ⟨rfl, HB5.out⟩

theorem presetMay_walk (p : Int) (_ : (Lit.int .i64 p).wf = true) (w : World) : Calls Try.prog 6 #[.int .i64 p] w fun e w' => e = .returned (.bool true) ∧ Below w.heap.size w w' := by
  rcases (show p = 0 ∨ p = 1 ∨ p = 2 ∨ (p < 0 ∨ 3 ≤ p) by omega) with rfl | rfl | rfl | h
  · exact presetMay_0 w
  · exact presetMay_1 w
  · exact presetMay_2 w
  · exact presetMay_no p h w
end Go.Proofs.Ytkffhfdmdcecaaa
