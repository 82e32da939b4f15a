/-
  PresetOwn: the law's walk.
-/
import Derived.Test.YtkffhfdmdcecaaaCeTab
import Derived.Deep.RegionHeld3
namespace Go.Proofs.Ytkffhfdmdcecaaa
set_option linter.all false
set_option maxRecDepth 100000
open Go.RowKit Go.Shelf

/-- The cells 0 .. n-1 of block g can be written. -/
def CellsW (w : World) (g n : Nat) : Prop := g < w.heap.size ∧ ∀ j, j < n → (∃ u, w.cell? ⟨g, j, none⟩ = some u) ∧ w.frozen? ⟨g, j, none⟩ = false
theorem CellsW.set_ {w : World} {g m : Nat} (h : CellsW w g m) (i : Nat) (u : Value) : CellsW (w.setCell ⟨g, i, none⟩ u) g m := ⟨by simpa using h.1, fun j hj => by
  obtain ⟨⟨x, hx⟩, hf⟩ := h.2 j hj
  refine ⟨?_, by rw [World.frozen?_setCell]; exact hf⟩
  by_cases e : j = i
  · subst e; exact ⟨u, World.cell?_setCell_same' w _ u (by rw [hx]; rfl)⟩
  · exact ⟨x, by rw [World.cell?_setCell_other _ _ _ _ (by simp [e])]; exact hx⟩⟩
theorem CellsW.far {w : World} {g m : Nat} (h : CellsW w g m) {p : Addr} (hp : g ≠ p.block) (u : Value) : CellsW (w.setCell p u) g m := ⟨by simpa using h.1, fun j hj => by
  obtain ⟨⟨x, hx⟩, hf⟩ := h.2 j hj
  refine ⟨⟨x, ?_⟩, by rw [World.frozen?_setCell]; exact hf⟩
  rw [World.cell?_setCell_other _ _ _ _ (by intro e; exact hp (by rw [e]))]; exact hx⟩
theorem CellsW.below {w w' : World} {g m B : Nat} (h : CellsW w g m) (hb : Below B w w') (hB : w.heap.size ≤ B) : CellsW w' g m := by
  have hg : g < B := Nat.lt_of_lt_of_le h.1 hB
  refine ⟨Nat.lt_of_lt_of_le h.1 hb.size, fun j hj => ?_⟩
  obtain ⟨⟨x, hx⟩, hf⟩ := h.2 j hj
  exact ⟨⟨x, (hb.cell (p := ⟨g, j, none⟩) hg).trans hx⟩, by unfold World.frozen? at hf ⊢; rw [hb.block g hg]; exact hf⟩
theorem CellsW.blk {w : World} {g : Nat} {t : TypeId} {cs : Array Value} (h : Blk w g t cs) : CellsW w g cs.size := ⟨h.lt, fun j hj => ⟨⟨cs[j]'hj, by rw [h.cell]; exact Array.getElem?_eq_getElem hj⟩, h.frozen j⟩⟩
/-- A slice of n elements, of sz cells each, that lies in a block of its own from B on. -/
def Wr (w : World) (B : Nat) (A : Option Addr) (n sz : Nat) : Prop := n ≤ 1000000 ∧ (0 < n → ∃ g, A = some ⟨g, 0, none⟩ ∧ B ≤ g ∧ CellsW w g (n * sz))

/-- What Table and Cells give, for any part. -/
structure OwnH (p : Int) : Prop where
  tab : ∀ w, Calls Try.prog 17 #[.int .i64 p] w fun e w' => ∃ lg er A n c, e = .returned (.tuple #[.agg #[.int .i64 lg, .slice A n c], .int .i64 er]) ∧ n ≤ c ∧ Wr w' w.heap.size A n 1 ∧ Below w.heap.size w w'
  cel : ∀ w, Calls Try.prog 26 #[.int .i64 p] w fun e w' => ∃ er A n c, e = .returned (.tuple #[.slice A n c, .int .i64 er]) ∧ n ≤ c ∧ Wr w' w.heap.size A n 3 ∧ Below w.heap.size w w'

theorem ownH (p : Int) : OwnH p := by
  rcases part_cases p with h | ⟨m, N, xs, h⟩
  · exact ⟨fun w => (table_no p h w).mono fun e w' hr => ⟨_, _, _, _, _, hr.1, Nat.le_refl _, ⟨by omega, fun h => by omega⟩, hr.2⟩, fun w => (cells_no p h w).mono fun e w' hr => ⟨_, _, _, _, hr.1, Nat.le_refl _, ⟨by omega, fun h => by omega⟩, hr.2⟩⟩
  · refine ⟨fun w => (h.tab w).mono ?_, fun w => (cells_ok h w).mono ?_⟩
    · rintro e w' ⟨v, rfl, ⟨g, t, rfl, hg, hk⟩, hb⟩
      exact ⟨_, _, _, _, _, rfl, Nat.le_refl _, ⟨by have := h.len; omega, fun _ => ⟨g, rfl, hg, by have := CellsW.blk hk; simpa using this⟩⟩, hb⟩
    · rintro e w' ⟨cv, l, g, c, rfl, hs, hrd, hg, hb⟩
      obtain rfl := hrd.val
      refine ⟨_, _, _, _, rfl, hrd.cap.1, ⟨?_, fun _ => ⟨g, rfl, hg, hrd.lt, fun j hj => ⟨?_, hrd.fz j hj⟩⟩⟩, hb⟩
      · have := (step_le ⟨m, h.lt⟩).2.2
        simp only [h.pow] at this
        omega
      · have h3 : j = j / 3 * 3 + j % 3 := by omega
        have hi : j / 3 < N := by omega
        rcases (show j % 3 = 0 ∨ j % 3 = 1 ∨ j % 3 = 2 by omega) with e | e | e
        · exact ⟨_, by rw [h3, e]; exact hrd.s _ hi⟩
        · exact ⟨_, by rw [h3, e]; exact hrd.b _ hi⟩
        · exact ⟨_, by rw [h3, e]; exact hrd.z _ hi⟩

/-- The slice of the three tables, and their norms. -/
structure OwnSt (w w5 wr : World) (g1 g2 g3 : Nat) : Prop where
  below : Below w.heap.size w wr
  L : Blk wr w5.heap.size 25 #[.int .i64 6, .slice (some ⟨g1, 0, none⟩) 44 44, .int .i64 5, .slice (some ⟨g2, 0, none⟩) 28 28, .int .i64 6, .slice (some ⟨g3, 0, none⟩) 44 44]
  c1 : ∀ j, j < 44 → (∃ u, wr.cell? ⟨g1, j, none⟩ = some u) ∧ wr.frozen? ⟨g1, j, none⟩ = false
  c2 : ∀ j, j < 28 → (∃ u, wr.cell? ⟨g2, j, none⟩ = some u) ∧ wr.frozen? ⟨g2, j, none⟩ = false
  c3 : ∀ j, j < 44 → (∃ u, wr.cell? ⟨g3, j, none⟩ = some u) ∧ wr.frozen? ⟨g3, j, none⟩ = false
  lt : w.heap.size ≤ g1 ∧ g1 < g2 ∧ g2 < g3 ∧ g3 < w5.heap.size
theorem OwnSt.cells {w w5 wr : World} {g1 g2 g3 : Nat} (h : OwnSt w w5 wr g1 g2 g3) : wr.cell? ⟨w5.heap.size, 0, none⟩ = some (.int .i64 6) ∧ wr.cell? ⟨w5.heap.size, 1, none⟩ = some (.slice (some ⟨g1, 0, none⟩) 44 44) ∧ wr.cell? ⟨w5.heap.size, 2, none⟩ = some (.int .i64 5) ∧ wr.cell? ⟨w5.heap.size, 3, none⟩ = some (.slice (some ⟨g2, 0, none⟩) 28 28) ∧ wr.cell? ⟨w5.heap.size, 4, none⟩ = some (.int .i64 6) ∧ wr.cell? ⟨w5.heap.size, 5, none⟩ = some (.slice (some ⟨g3, 0, none⟩) 44 44) := by
  refine ⟨?_, ?_, ?_, ?_, ?_, ?_⟩ <;> rw [h.L.cell] <;> rfl
theorem OwnSt.w1 {w w5 wr : World} {g1 g2 g3 : Nat} (h : OwnSt w w5 wr g1 g2 g3) : CellsW wr g1 44 ∧ CellsW wr g2 28 ∧ CellsW wr g3 44 := by
  have := h.L.lt
  have := h.lt
  exact ⟨⟨by omega, h.c1⟩, ⟨by omega, h.c2⟩, ⟨by omega, h.c3⟩⟩
theorem OwnSt.set1 {w w5 wr : World} {g1 g2 g3 : Nat} (h : OwnSt w w5 wr g1 g2 g3) (q : Nat) (u : Value) : OwnSt w w5 (wr.setCell ⟨g1, q, none⟩ u) g1 g2 g3 := by
  have hl := h.lt
  have hw := h.w1
  exact ⟨h.below.setCell (p := ⟨g1, q, none⟩) hl.1 _, h.L.far (by simp only; omega) _, (hw.1.set_ q u).2, (hw.2.1.far (by simp only; omega) u).2, (hw.2.2.far (by simp only; omega) u).2, hl⟩
theorem OwnSt.set2 {w w5 wr : World} {g1 g2 g3 : Nat} (h : OwnSt w w5 wr g1 g2 g3) (q : Nat) (u : Value) : OwnSt w w5 (wr.setCell ⟨g2, q, none⟩ u) g1 g2 g3 := by
  have hl := h.lt
  have hw := h.w1
  exact ⟨h.below.setCell (p := ⟨g2, q, none⟩) (by simp only; omega) _, h.L.far (by simp only; omega) _, (hw.1.far (by simp only; omega) u).2, (hw.2.1.set_ q u).2, (hw.2.2.far (by simp only; omega) u).2, hl⟩
theorem OwnSt.set3 {w w5 wr : World} {g1 g2 g3 : Nat} (h : OwnSt w w5 wr g1 g2 g3) (q : Nat) (u : Value) : OwnSt w w5 (wr.setCell ⟨g3, q, none⟩ u) g1 g2 g3 := by
  have hl := h.lt
  have hw := h.w1
  exact ⟨h.below.setCell (p := ⟨g3, q, none⟩) (by simp only; omega) _, h.L.far (by simp only; omega) _, (hw.1.far (by simp only; omega) u).2, (hw.2.1.far (by simp only; omega) u).2, (hw.2.2.set_ q u).2, hl⟩

set_option maxHeartbeats 6400000 in
theorem presetOwn_any (p : Int) (w : World) : Calls Try.prog 10 #[.int .i64 p] w fun e w' => e = .returned (.bool true) ∧ Below w.heap.size w w' := by
  have HO := Lib.hid (ownH p)
  go_enter Try.func10, Try.ntmps10
  go_wp2_with fail
  refine (HO.out.tab _).mono ?_
  rintro e w1 ⟨lg, er, A, n, c, rfl, hnc, hwr, hb⟩
  have HB1 := Lib.hid hb
  have hn6 := hwr.1
  have hs1 := hb.size
  obtain ⟨w2, hw2⟩ : ∃ w2, w1.alloc (.cells #[.int .i64 lg, .slice A n c] 25) = w2 := ⟨_, rfl⟩
  have hb12 : Below w1.heap.size w1 w2 := by rw [← hw2]; exact (Below.refl _ _).alloc (Nat.le_refl _) _
  have HR2 : Hid (Below w.heap.size w w2 ∧ Blk w2 w1.heap.size 25 #[.int .i64 lg, .slice A n c] ∧ (0 < n → ∃ g, A = some ⟨g, 0, none⟩ ∧ w.heap.size ≤ g ∧ g < w1.heap.size ∧ CellsW w2 g n)) := (by
    refine ⟨hb.trans (hb12.mono hs1), by rw [← hw2]; exact Blk.new _ _ _, fun h0 => ?_⟩
    obtain ⟨g, hA, hg, hc⟩ := hwr.2 h0
    rw [Nat.mul_one] at hc
    exact ⟨g, hA, hg, hc.1, hc.below hb12 (Nat.le_refl _)⟩ : Below _ _ _ ∧ Blk _ _ _ _ ∧ _)
  have HW2 := Lib.hid hw2
  clear hw2 hb12 hwr hb
  go_wp2
  rw [HW2.out]
  go_loopw [5] (fun i wr => ∃ k : Nat, k ≤ n ∧ i = .int .i64 k ∧ Hid (Below w.heap.size w wr ∧ Blk wr w1.heap.size 25 #[.int .i64 lg, .slice A n c] ∧ (0 < n → ∃ g, A = some ⟨g, 0, none⟩ ∧ w.heap.size ≤ g ∧ g < w1.heap.size ∧ CellsW wr g n))) (fun i _ => n - (intOf i).toNat)
  case atStart => exact ⟨0, Nat.zero_le _, rfl, HR2⟩
  case round =>
    clear HR2 HW2
    obtain ⟨k, hk, rfl, HR⟩ := hrel
    obtain ⟨-, c1, -, -⟩ := HR.out.2.1.two
    have k0 : (0 : Int) ≤ (k : Int) := by omega
    by_cases hlt : k < n
    · obtain ⟨g, rfl, hg, hg1, hc⟩ := HR.out.2.2 (by omega)
      have k1 : (k : Int) < (n : Int) := by omega
      obtain ⟨⟨u, hu⟩, hf⟩ := hc.2 k hlt
      have HC := Lib.hid hc
      clear hc
      go_wp2
      go_roundw
      case rel => exact ⟨k + 1, by omega, by go_num, (⟨HR.out.1.setCell (p := ⟨g, k, none⟩) hg _, HR.out.2.1.far (by simp only; omega) _, fun _ => ⟨g, rfl, hg, hg1, HC.out.set_ k _⟩⟩ : Below _ _ _ ∧ Blk _ _ _ _ ∧ _)⟩
      case measure => simp [intOf]; omega
    · obtain rfl : k = n := by omega
      have HBK := Lib.hid HR.out.1
      have hsw := HR.out.1.size
      clear HR
      go_wp2_with fail
      refine (ll_any _).mono ?_
      rintro e w3 ⟨v1, rfl, ⟨g1, t1, rfl, hg1, hk1⟩, hb⟩
      rw [show llN.length = 44 from rfl]
      have HC1 : Hid (CellsW w3 g1 44) := (CellsW.blk hk1 : CellsW _ _ _)
      have HB3 := Lib.hid (HBK.out.trans (hb.mono hsw))
      have hl1 := hk1.lt
      have hs3 := hb.size
      clear hk1 hb
      go_wp2_with fail
      refine (of_any _).mono ?_
      rintro e w4 ⟨v2, rfl, ⟨g2, t2, rfl, hg2, hk2⟩, hb⟩
      rw [show ofN.length = 28 from rfl]
      have HC2 : Hid (CellsW w4 g2 28 ∧ CellsW w4 g1 44) := (⟨CellsW.blk hk2, HC1.out.below hb (Nat.le_refl _)⟩ : CellsW _ _ _ ∧ CellsW _ _ _)
      have HB4 := Lib.hid (HB3.out.trans (hb.mono HB3.out.size))
      have hl2 := hk2.lt
      have hs4 := hb.size
      clear hk2 hb HC1 HB3
      go_wp2_with fail
      refine (ml_any _).mono ?_
      rintro e w5 ⟨v3, rfl, ⟨g3, t3, rfl, hg3, hk3⟩, hb⟩
      rw [show mlN.length = 44 from rfl]
      have hst : OwnSt w w5 (w5.alloc (.cells #[.int .i64 6, .slice (some ⟨g1, 0, none⟩) 44 44, .int .i64 5, .slice (some ⟨g2, 0, none⟩) 28 28, .int .i64 6, .slice (some ⟨g3, 0, none⟩) 44 44] 25)) g1 g2 g3 := by
        have hba : Below w5.heap.size w5 (w5.alloc (.cells #[.int .i64 6, .slice (some ⟨g1, 0, none⟩) 44 44, .int .i64 5, .slice (some ⟨g2, 0, none⟩) 28 28, .int .i64 6, .slice (some ⟨g3, 0, none⟩) 44 44] 25)) := (Below.refl _ _).alloc (Nat.le_refl _) _
        have hb5 := HB4.out.trans (hb.mono HB4.out.size)
        exact ⟨hb5.trans (hba.mono hb5.size), Blk.new _ _ _, ((HC2.out.2.below hb (Nat.le_refl _)).below hba (Nat.le_refl _)).2, ((HC2.out.1.below hb (Nat.le_refl _)).below hba (Nat.le_refl _)).2, ((show CellsW w5 g3 44 from CellsW.blk hk3).below hba (Nat.le_refl _)).2, by have := hk3.lt; omega⟩
      have HS := Lib.hid hst
      obtain ⟨w6, hw6⟩ : ∃ w6, w5.alloc (.cells #[.int .i64 6, .slice (some ⟨g1, 0, none⟩) 44 44, .int .i64 5, .slice (some ⟨g2, 0, none⟩) 28 28, .int .i64 6, .slice (some ⟨g3, 0, none⟩) 44 44] 25) = w6 := ⟨_, rfl⟩
      rw [hw6] at HS
      have HW6 := Lib.hid hw6
      clear hst hw6 hk3 hb HC2 HB4
      go_wp2
      rw [HW6.out]
      clear HW6
      go_loopw [7] (fun i wr => ∃ k : Nat, k ≤ 3 ∧ i = .int .i64 k ∧ Hid (OwnSt w w5 wr g1 g2 g3)) (fun i _ => 3 - (intOf i).toNat)
      case atStart => exact ⟨0, Nat.zero_le _, rfl, HS⟩
      case round =>
        clear HS
        obtain ⟨i, hi, rfl, HS⟩ := hrel
        obtain ⟨cl0, cl1, cl2, cl3, cl4, cl5⟩ := HS.out.cells
        by_cases hi3 : i < 3
        · rcases (show i = 0 ∨ i = 1 ∨ i = 2 by omega) with rfl | rfl | rfl
          · go_wp2
            go_loopw [8] (fun j wr => ∃ q : Nat, q ≤ 44 ∧ j = .int .i64 q ∧ Hid (OwnSt w w5 wr g1 g2 g3)) (fun j _ => 44 - (intOf j).toNat)
            case atStart => exact ⟨0, Nat.zero_le _, rfl, HS⟩
            case round =>
              clear HS cl0 cl1 cl2 cl3 cl4 cl5
              obtain ⟨q, hq, rfl, HS⟩ := hrel
              have q0 : (0 : Int) ≤ (q : Int) := by omega
              obtain ⟨cl0, cl1, cl2, cl3, cl4, cl5⟩ := HS.out.cells
              by_cases hql : q < 44
              · have q1 : (q : Int) < 44 := by omega
                obtain ⟨⟨u, hu⟩, hf⟩ := HS.out.c1 q hql
                go_wp2
                go_roundw
                case rel => exact ⟨q + 1, by omega, by go_num, (HS.out.set1 q _ : OwnSt _ _ _ _ _ _)⟩
                case measure => simp [intOf]; omega
              · obtain rfl : q = 44 := by omega
                go_wp2
                go_roundw
                case rel => exact ⟨1, by omega, by go_num, HS⟩
                case measure => simp [intOf] <;> omega
          · go_wp2
            go_loopw [8] (fun j wr => ∃ q : Nat, q ≤ 28 ∧ j = .int .i64 q ∧ Hid (OwnSt w w5 wr g1 g2 g3)) (fun j _ => 28 - (intOf j).toNat)
            case atStart => exact ⟨0, Nat.zero_le _, rfl, HS⟩
            case round =>
              clear HS cl0 cl1 cl2 cl3 cl4 cl5
              obtain ⟨q, hq, rfl, HS⟩ := hrel
              have q0 : (0 : Int) ≤ (q : Int) := by omega
              obtain ⟨cl0, cl1, cl2, cl3, cl4, cl5⟩ := HS.out.cells
              by_cases hql : q < 28
              · have q1 : (q : Int) < 28 := by omega
                obtain ⟨⟨u, hu⟩, hf⟩ := HS.out.c2 q hql
                go_wp2
                go_roundw
                case rel => exact ⟨q + 1, by omega, by go_num, (HS.out.set2 q _ : OwnSt _ _ _ _ _ _)⟩
                case measure => simp [intOf]; omega
              · obtain rfl : q = 28 := by omega
                go_wp2
                go_roundw
                case rel => exact ⟨2, by omega, by go_num, HS⟩
                case measure => simp [intOf] <;> omega
          · go_wp2
            go_loopw [8] (fun j wr => ∃ q : Nat, q ≤ 44 ∧ j = .int .i64 q ∧ Hid (OwnSt w w5 wr g1 g2 g3)) (fun j _ => 44 - (intOf j).toNat)
            case atStart => exact ⟨0, Nat.zero_le _, rfl, HS⟩
            case round =>
              clear HS cl0 cl1 cl2 cl3 cl4 cl5
              obtain ⟨q, hq, rfl, HS⟩ := hrel
              have q0 : (0 : Int) ≤ (q : Int) := by omega
              obtain ⟨cl0, cl1, cl2, cl3, cl4, cl5⟩ := HS.out.cells
              by_cases hql : q < 44
              · have q1 : (q : Int) < 44 := by omega
                obtain ⟨⟨u, hu⟩, hf⟩ := HS.out.c3 q hql
                go_wp2
                go_roundw
                case rel => exact ⟨q + 1, by omega, by go_num, (HS.out.set3 q _ : OwnSt _ _ _ _ _ _)⟩
                case measure => simp [intOf]; omega
              · obtain rfl : q = 44 := by omega
                go_wp2
                go_roundw
                case rel => exact ⟨3, by omega, by go_num, HS⟩
                case measure => simp [intOf] <;> omega

        · obtain rfl : i = 3 := by omega
          have HB7 := Lib.hid HS.out.below
          have hs7 := HS.out.below.size
          clear HS cl0 cl1 cl2 cl3 cl4 cl5
          go_wp2_with fail
          refine (HO.out.cel _).mono ?_
          rintro e w8 ⟨er8, A8, n8, c8, rfl, hnc8, hwr8, hb⟩
          have HR8 : Hid (Below w.heap.size w w8 ∧ (0 < n8 → ∃ g, A8 = some ⟨g, 0, none⟩ ∧ w.heap.size ≤ g ∧ CellsW w8 g (n8 * 3))) := (⟨HB7.out.trans (hb.mono hs7), fun h0 => by
            obtain ⟨g, hA, hg, hc⟩ := hwr8.2 h0
            exact ⟨g, hA, by omega, hc⟩⟩ : Below _ _ _ ∧ _)
          have hn86 := hwr8.1
          clear hwr8 hb
          go_wp2
          go_loopw [11] (fun i wr => ∃ k : Nat, k ≤ n8 ∧ i = .int .i64 k ∧ Hid (Below w.heap.size w wr ∧ (0 < n8 → ∃ g, A8 = some ⟨g, 0, none⟩ ∧ w.heap.size ≤ g ∧ CellsW wr g (n8 * 3)))) (fun i _ => n8 - (intOf i).toNat)
          case atStart => exact ⟨0, Nat.zero_le _, rfl, HR8⟩
          case round =>
            clear HR8
            obtain ⟨j, hj, rfl, HR⟩ := hrel
            have j0 : (0 : Int) ≤ (j : Int) := by omega
            by_cases hjl : j < n8
            · obtain ⟨g, rfl, hg, hc⟩ := HR.out.2 (by omega)
              have j1 : (j : Int) < (n8 : Int) := by omega
              obtain ⟨⟨u0, hu0⟩, hf0⟩ := hc.2 (j * 3) (by omega)
              obtain ⟨⟨u1, hu1⟩, hf1⟩ := hc.2 (j * 3 + 1) (by omega)
              obtain ⟨⟨u2, hu2⟩, hf2⟩ := hc.2 (j * 3 + 2) (by omega)
              have HC := Lib.hid hc
              clear hc
              go_wp2
              go_roundw
              case rel => exact ⟨j + 1, by omega, by go_num, (⟨((HR.out.1.setCell (p := ⟨g, j * 3, none⟩) hg _).setCell (p := ⟨g, j * 3 + 1, none⟩) hg _).setCell (p := ⟨g, j * 3 + 2, none⟩) hg _, fun _ => ⟨g, rfl, hg, ((HC.out.set_ _ _).set_ _ _).set_ _ _⟩⟩ : Below _ _ _ ∧ _)⟩
              case measure => simp [intOf]; omega
            · obtain rfl : j = n8 := by omega
              have HB9 := Lib.hid HR.out.1
              clear HR HO
              rcases part_cases p with h | ⟨m, N, xs, h⟩
              · have H := Lib.hid h
                clear h
                go_wp2_with fail
                refine (table_no p H.out _).mono ?_
                rintro e w10 ⟨rfl, hb⟩
                have HB10 := Lib.hid (HB9.out.trans (hb.mono HB9.out.size))
                have hs10 := HB10.out.size
                clear hb HB9
                go_wp2_with fail
                refine (cells_no p H.out _).mono ?_
                rintro e w11 ⟨rfl, hb⟩
                have HB11 := Lib.hid ((HB10.out.alloc hs10 _).trans (hb.mono (by simp; omega)) : Below w.heap.size w w11)
                clear hb HB10
                rcases H.out with h | h
                · go_wp2_with fail
                  refine (known_any _).mono ?_
                  rintro e w12 ⟨rfl, hb⟩
                  have HB12 := Lib.hid (HB11.out.trans (hb.mono HB11.out.size))
                  clear hb
                  go_wp2
                  go_ret
                  exact ⟨rfl, HB12.out⟩
                · have h0 : ¬ p < 0 := by omega
                  have h2 : 2 < p := by omega
                  go_wp2_with fail
                  refine (known_any _).mono ?_
                  rintro e w12 ⟨rfl, hb⟩
                  have HB12 := Lib.hid (HB11.out.trans (hb.mono HB11.out.size))
                  clear hb
                  go_wp2
                  go_ret
                  exact ⟨rfl, HB12.out⟩
              · have H := Lib.hid h
                obtain ⟨pt0, pt2⟩ := h.range
                have pn : ¬ p < 0 := by omega
                have pn2 : ¬ 2 < p := by omega
                clear h
                go_wp2_with fail
                refine (H.out.tab _).mono ?_
                rintro e w10 ⟨v10, rfl, hv10, hb⟩
                have HV10 := Lib.hid hv10
                obtain ⟨g10, t10, rfl, -, -⟩ := hv10
                obtain ⟨n10, hn10⟩ : ∃ n10, xs.length = n10 := ⟨_, rfl⟩
                rw [hn10] at HV10 ⊢
                have HB10 := Lib.hid (HB9.out.trans (hb.mono HB9.out.size))
                have hs10 := HB10.out.size
                have HN10 := Lib.hid hn10
                clear hb HB9 hn10
                obtain ⟨wA, hwA⟩ : ∃ wA, w10.alloc (.cells #[.int .i64 (m : Int), .slice (some ⟨g10, 0, none⟩) n10 n10] 25) = wA := ⟨_, rfl⟩
                have hba : Below w10.heap.size w10 wA := by rw [← hwA]; exact (Below.refl _ _).alloc (Nat.le_refl _) _
                have HTA : Hid (Blk wA w10.heap.size 25 #[.int .i64 (m : Int), .slice (some ⟨g10, 0, none⟩) n10 n10]) := (by rw [← hwA]; exact Blk.new _ _ _ : Blk _ _ _ _)
                have HUA := Lib.hid ((HV10.out.ints (by have := H.out.len; simp only [maxLen]; omega)).below hba (Nat.le_refl _))
                have HBA := Lib.hid (HB10.out.trans (hba.mono hs10))
                have HWA := Lib.hid hwA
                clear hwA hba HB10
                go_wp2_with fail
                rw [HWA.out]
                refine (cells_ok H.out _).mono ?_
                rintro e w11 ⟨cv, l, g11, c11, rfl, hs, hrd, -, hb⟩
                have HS11 := Lib.hid hs
                have HD11 := Lib.hid hrd
                obtain rfl := hrd.val
                have HT11 := Lib.hid (HTA.out.below hb HTA.out.lt)
                have HU11 := Lib.hid (HUA.out.below hb (Nat.le_refl _))
                have HB11 := Lib.hid (HBA.out.trans (hb.mono HBA.out.size))
                clear hs hrd hb HTA HUA HBA
                go_wp2_with fail
                refine (H.out.ref _).mono ?_
                rintro e w12 ⟨v12, rfl, hv12, hb⟩
                have HV12 := Lib.hid hv12
                have HT12 := Lib.hid (HT11.out.below hb HT11.out.lt)
                have HU12 := Lib.hid (HU11.out.below hb (Nat.le_refl _))
                have HD12 := Lib.hid (HD11.out.below hb (Nat.le_refl _))
                have HB12 := Lib.hid (HB11.out.trans (hb.mono HB11.out.size))
                clear hv12 hb HT11 HU11 HD11 HB11
                go_wp2_with fail
                refine (refCells_at H.out v12 _ (HV12.out.ints (by have := H.out.len; simp only [maxLen]; omega))).mono ?_
                rintro e w13 ⟨cv13, l13, g13, c13, rfl, hs, hrd, -, hb⟩
                have HS13 := Lib.hid hs
                have HE13 := Lib.hid hrd
                obtain rfl := hrd.val
                have HT13 := Lib.hid (HT12.out.below hb HT12.out.lt)
                have HU13 := Lib.hid (HU12.out.below hb (Nat.le_refl _))
                have HD13 := Lib.hid (HD12.out.below hb (Nat.le_refl _))
                have HB13 := Lib.hid (HB12.out.trans (hb.mono HB12.out.size))
                clear hs hrd hb HT12 HU12 HD12 HB12 HV12
                go_wp2
                refine wp_region_held_drew (S := (fun w' => w'.cell? ⟨w10.heap.size, 0, none⟩ = some (.int .i64 (m : Int)) ∧ w'.cell? ⟨w10.heap.size, 1, none⟩ = some (.slice (some ⟨g10, 0, none⟩) n10 n10))) (by kernel_rfl) ?_ (fun hHeld => ?_)
                · (try dsimp only); exact (HT13.out.two |> fun t => ⟨t.1, t.2.1⟩)
                refine wpAnyH_take2 (i := 0) (oi := _) (d := some 105) (v := ?_) rfl rfl (by kernel_rfl) (by kernel_rfl) (by kernel_rfl) (fun _ _ _ h => h) (Or.inl ⟨by rfl, ?_⟩) (by assumption) ?_
                rotate_left 1
                · (intro w' hSw; (try dsimp only at hSw); go_simp; try with_reducible rfl)
                try simp only [Act.put, List.setIfInBounds_toArray, List.set_cons_zero, List.set_cons_succ]
                refine wpAnyH_take2 (i := 1) (oi := _) (d := some 106) (v := ?_) rfl rfl (by kernel_rfl) (by kernel_rfl) (by kernel_rfl) (fun _ _ _ h => h) (Or.inl ⟨by rfl, ?_⟩) (by assumption) ?_
                rotate_left 1
                · (intro w' hSw; (try dsimp only at hSw); go_simp; try with_reducible rfl)
                try simp only [Act.put, List.setIfInBounds_toArray, List.set_cons_zero, List.set_cons_succ]
                refine wpAnyH_take2 (i := 2) (oi := _) (d := some 107) (v := ?_) rfl rfl (by kernel_rfl) (by kernel_rfl) (by kernel_rfl) (fun _ _ _ h => h) (Or.inl ⟨by rfl, ?_⟩) (by assumption) ?_
                rotate_left 1
                · (intro w' hSw; (try dsimp only at hSw); go_simp; try with_reducible rfl)
                try simp only [Act.put, List.setIfInBounds_toArray, List.set_cons_zero, List.set_cons_succ]
                refine wpAnyH_take2 (i := 3) (oi := _) (d := some 108) (v := ?_) rfl rfl (by kernel_rfl) (by kernel_rfl) (by kernel_rfl) (fun _ _ _ h => h) (Or.inl ⟨by rfl, ?_⟩) (by assumption) ?_
                rotate_left 1
                · (intro w' hSw; (try dsimp only at hSw); go_simp; try with_reducible rfl)
                try simp only [Act.put, List.setIfInBounds_toArray, List.set_cons_zero, List.set_cons_succ]
                refine wpAnyH_take2 (i := 4) (oi := _) (d := some 109) (v := ?_) rfl rfl (by kernel_rfl) (by kernel_rfl) (by kernel_rfl) (fun _ _ _ h => h) (Or.inl ⟨by rfl, ?_⟩) (by assumption) ?_
                rotate_left 1
                · (intro w' hSw; (try dsimp only at hSw); go_simp; try with_reducible rfl)
                try simp only [Act.put, List.setIfInBounds_toArray, List.set_cons_zero, List.set_cons_succ]
                refine wpAnyH_take2 (i := 5) (oi := _) (d := some 110) (v := ?_) rfl rfl (by kernel_rfl) (by kernel_rfl) (by kernel_rfl) (fun _ _ _ h => h) (Or.inl ⟨by rfl, ?_⟩) (by assumption) ?_
                rotate_left 1
                · (intro w' hSw; (try dsimp only at hSw); go_simp; try with_reducible rfl)
                try simp only [Act.put, List.setIfInBounds_toArray, List.set_cons_zero, List.set_cons_succ]
                refine wpAnyH_take2 (i := 6) (oi := _) (d := some 111) (v := ?_) rfl rfl (by kernel_rfl) (by kernel_rfl) (by kernel_rfl) (fun _ _ _ h => h) (Or.inl ⟨by rfl, ?_⟩) (by assumption) ?_
                rotate_left 1
                · (intro w' hSw; (try dsimp only at hSw); go_simp; try with_reducible rfl)
                try simp only [Act.put, List.setIfInBounds_toArray, List.set_cons_zero, List.set_cons_succ]
                refine wpAnyH_take2 (i := 7) (oi := _) (d := some 112) (v := ?_) rfl rfl (by kernel_rfl) (by kernel_rfl) (by kernel_rfl) (fun _ _ _ h => h) (Or.inl ⟨by rfl, ?_⟩) (by assumption) ?_
                rotate_left 1
                · (intro w' hSw; (try dsimp only at hSw); go_simp; try with_reducible rfl)
                try simp only [Act.put, List.setIfInBounds_toArray, List.set_cons_zero, List.set_cons_succ]
                refine wpAnyH_take2 (i := 8) (oi := _) (d := some 113) (v := ?_) rfl rfl (by kernel_rfl) (by kernel_rfl) (by kernel_rfl) (fun _ _ _ h => h) (Or.inl ⟨by rfl, ?_⟩) (by assumption) ?_
                rotate_left 1
                · (intro w' hSw; (try dsimp only at hSw); go_simp; try with_reducible rfl)
                try simp only [Act.put, List.setIfInBounds_toArray, List.set_cons_zero, List.set_cons_succ]
                refine wpAnyH_ready (rs := [9]) (by kernel_rfl) (by simp) ?_
                refine AllReadyH.cons (o := _) rfl (fun K hK => ?_) ?_
                rotate_left
                · exact AllReadyH.nil
                go_simp
                refine (H.out.ref _).mono ?_; rintro e14 w14 ⟨v14, rfl, hv14, hb⟩; replace hb : Below w13.heap.size w13 w14 := (Below.refl _ w13).drew.trans hb; have HV14 := Lib.hid hv14; have HU14 := Lib.hid (HU13.out.below hb (Nat.le_refl _)); have HT14 := Lib.hid (HT13.out.below hb HT13.out.lt); have HD14 := Lib.hid (HD13.out.below hb (Nat.le_refl _)); have HE14 := Lib.hid (HE13.out.below hb (Nat.le_refl _)); have HB14 := Lib.hid (HB13.out.trans (hb.mono HB13.out.size)); clear hv14 hb
                refine hK.out _ _ ?_ (fun hHeld => ?_)
                · (try dsimp only); exact (HT14.out.two |> fun t => ⟨t.1, t.2.1⟩)
                clear hK K
                try simp only [Act.put, List.setIfInBounds_toArray, List.set_cons_zero, List.set_cons_succ]
                refine wpAnyH_ready (rs := [10]) (by kernel_rfl) (by simp) ?_
                refine AllReadyH.cons (o := _) rfl (fun K hK => ?_) ?_
                rotate_left
                · exact AllReadyH.nil
                go_simp
                refine (same_true _ _ _ xs _ HU14.out (HV14.out.ints (by have := H.out.len; simp only [maxLen]; omega))).mono ?_; rintro e15 w15 ⟨rfl, hb⟩; have HT15 := Lib.hid (HT14.out.below hb HT14.out.lt); have HD15 := Lib.hid (HD14.out.below hb (Nat.le_refl _)); have HE15 := Lib.hid (HE14.out.below hb (Nat.le_refl _)); have HB15 := Lib.hid (HB14.out.trans (hb.mono HB14.out.size)); clear hb
                refine hK.out _ _ ?_ (fun hHeld => ?_)
                · (try dsimp only); exact (HT15.out.two |> fun t => ⟨t.1, t.2.1⟩)
                clear hK K
                try simp only [Act.put, List.setIfInBounds_toArray, List.set_cons_zero, List.set_cons_succ]
                refine wpAnyH_take2 (i := 11) (oi := _) (d := some 116) (v := ?_) rfl rfl (by kernel_rfl) (by kernel_rfl) (by kernel_rfl) (fun _ _ _ h => h) (Or.inl ⟨by rfl, ?_⟩) (by assumption) ?_
                rotate_left 1
                · (intro w' hSw; (try dsimp only at hSw); go_simp; try with_reducible rfl)
                try simp only [Act.put, List.setIfInBounds_toArray, List.set_cons_zero, List.set_cons_succ]
                refine wpAnyH_take2 (i := 12) (oi := _) (d := some 117) (v := ?_) rfl rfl (by kernel_rfl) (by kernel_rfl) (by kernel_rfl) (fun _ _ _ h => h) (Or.inl ⟨by rfl, ?_⟩) (by assumption) ?_
                rotate_left 1
                · (intro w' hSw; (try dsimp only at hSw); go_simp; try with_reducible rfl)
                try simp only [Act.put, List.setIfInBounds_toArray, List.set_cons_zero, List.set_cons_succ]
                refine wpAnyH_take2 (i := 13) (oi := _) (d := some 118) (v := ?_) rfl rfl (by kernel_rfl) (by kernel_rfl) (by kernel_rfl) (fun _ _ _ h => h) (Or.inl ⟨by rfl, ?_⟩) (by assumption) ?_
                rotate_left 1
                · (intro w' hSw; (try dsimp only at hSw); go_simp; try with_reducible rfl)
                try simp only [Act.put, List.setIfInBounds_toArray, List.set_cons_zero, List.set_cons_succ]
                refine wpAnyH_take2 (i := 14) (oi := _) (d := some 119) (v := ?_) rfl rfl (by kernel_rfl) (by kernel_rfl) (by kernel_rfl) (fun _ _ _ h => h) (Or.inl ⟨by rfl, ?_⟩) (by assumption) ?_
                rotate_left 1
                · (intro w' hSw; (try dsimp only at hSw); go_simp; try with_reducible rfl)
                try simp only [Act.put, List.setIfInBounds_toArray, List.set_cons_zero, List.set_cons_succ]
                refine wpAnyH_ready (rs := [15]) (by kernel_rfl) (by simp) ?_
                refine AllReadyH.cons (o := _) rfl (fun K hK => ?_) ?_
                rotate_left
                · exact AllReadyH.nil
                go_simp
                refine (sameCells_at H.out HD15.out HE15.out HS11.out HS13.out).mono ?_; rintro e16 w16 ⟨rfl, hb⟩; have HT16 := Lib.hid (HT15.out.below hb HT15.out.lt); have HB16 := Lib.hid (HB15.out.trans (hb.mono HB15.out.size)); clear hb
                refine hK.out _ _ ?_ (fun hHeld => ?_)
                · (try dsimp only); exact (HT16.out.two |> fun t => ⟨t.1, t.2.1⟩)
                clear hK K
                try simp only [Act.put, List.setIfInBounds_toArray, List.set_cons_zero, List.set_cons_succ]
                refine wpAnyH_take2 (i := 16) (oi := _) (d := some 121) (v := ?_) rfl rfl (by kernel_rfl) (by kernel_rfl) (by kernel_rfl) (fun _ _ _ h => h) (Or.inl ⟨by rfl, ?_⟩) (by assumption) ?_
                rotate_left 1
                · (intro w' hSw; (try dsimp only at hSw); go_simp; try with_reducible rfl)
                try simp only [Act.put, List.setIfInBounds_toArray, List.set_cons_zero, List.set_cons_succ]
                refine wpAnyH_take2 (i := 17) (oi := _) (d := some 122) (v := ?_) rfl rfl (by kernel_rfl) (by kernel_rfl) (by kernel_rfl) (fun _ _ _ h => h) (Or.inl ⟨by rfl, ?_⟩) (by assumption) ?_
                rotate_left 1
                · (intro w' hSw; (try dsimp only at hSw); go_simp; try with_reducible rfl)
                try simp only [Act.put, List.setIfInBounds_toArray, List.set_cons_zero, List.set_cons_succ]
                refine wpAnyH_ready (rs := [18]) (by kernel_rfl) (by simp) ?_
                refine AllReadyH.cons (o := _) rfl (fun K hK => ?_) ?_
                rotate_left
                · exact AllReadyH.nil
                go_simp
                refine (known_any _).mono ?_; rintro e17 w17 ⟨rfl, hb⟩; have HT17 := Lib.hid (HT16.out.below hb HT16.out.lt); have HB17 := Lib.hid (HB16.out.trans (hb.mono HB16.out.size)); clear hb
                refine hK.out _ _ ?_ (fun hHeld => ?_)
                · (try dsimp only); exact (HT17.out.two |> fun t => ⟨t.1, t.2.1⟩)
                clear hK K
                try simp only [Act.put, List.setIfInBounds_toArray, List.set_cons_zero, List.set_cons_succ]
                refine wpAnyH_take2 (i := 19) (oi := _) (d := some 124) (v := ?_) rfl rfl (by kernel_rfl) (by kernel_rfl) (by kernel_rfl) (fun _ _ _ h => h) (Or.inl ⟨by rfl, ?_⟩) (by assumption) ?_
                rotate_left 1
                · (intro w' hSw; (try dsimp only at hSw); go_simp; try with_reducible rfl)
                try simp only [Act.put, List.setIfInBounds_toArray, List.set_cons_zero, List.set_cons_succ]
                refine wpAnyH_take2 (i := 20) (oi := _) (d := some 2) (v := ?_) rfl rfl (by kernel_rfl) (by kernel_rfl) (by kernel_rfl) (fun _ _ _ h => h) (Or.inl ⟨by rfl, ?_⟩) (by assumption) ?_
                rotate_left 1
                · (intro w' hSw; (try dsimp only at hSw); go_simp; try with_reducible rfl)
                try simp only [Act.put, List.setIfInBounds_toArray, List.set_cons_zero, List.set_cons_succ]
                refine wpAnyH_done (by kernel_rfl) ?_ _
                go_wp2
                go_ret
                exact ⟨rfl, HB17.out⟩

theorem presetOwn_walk (p : Int) (_ : (Lit.int .i64 p).wf = true) (w : World) : Calls Try.prog 10 #[.int .i64 p] w fun e w' => e = .returned (.bool true) ∧ Below w.heap.size w w' := presetOwn_any p w
end Go.Proofs.Ytkffhfdmdcecaaa
