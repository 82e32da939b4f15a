/-
  preset.Cells of a part.
-/
import Derived.Test.YtkffhfdmdcecaaaCeSame
namespace Go.Proofs.Ytkffhfdmdcecaaa
set_option linter.all false
set_option maxRecDepth 100000
open Go.RowKit Go.Shelf

/-- Part p has the table (m, xs). -/
structure PTab (p : Int) (m N : Nat) (xs : List Int) : Prop where
  tab : ∀ w, Calls Try.prog 17 #[.int .i64 p] w fun e w' => TabRes2 w w' e m xs
  ref : ∀ w, Calls Try.prog 13 #[.int .i64 p] w fun e w' => TabRes w w' e m xs
  range : 0 ≤ p ∧ p ≤ 2
  lt : m < 10
  pow : 2 ^ m = N
  valid : Valid m xs 256 9
  all : (rares xs).length + (others xs).length = 2 ^ m
  top : ∀ x ∈ xs, x ≤ 9223372036854775807
  len : xs.length ≤ 256
theorem ptab_0 : PTab 0 6 64 llN := ⟨table_0, refOf_0, by decide, by decide, by decide, by decide, by decide +kernel, by decide, by decide⟩
theorem ptab_1 : PTab 1 5 32 ofN := ⟨table_1, refOf_1, by decide, by decide, by decide, by decide, by decide +kernel, by decide, by decide⟩
theorem ptab_2 : PTab 2 6 64 mlN := ⟨table_2, refOf_2, by decide, by decide, by decide, by decide, by decide +kernel, by decide, by decide⟩
theorem part_cases (p : Int) : (p < 0 ∨ 3 ≤ p) ∨ ∃ m N xs, PTab p m N xs := by
  rcases (show p = 0 ∨ p = 1 ∨ p = 2 ∨ (p < 0 ∨ 3 ≤ p) by omega) with rfl | rfl | rfl | h
  · exact .inr ⟨_, _, _, ptab_0⟩
  · exact .inr ⟨_, _, _, ptab_1⟩
  · exact .inr ⟨_, _, _, ptab_2⟩
  · exact .inl h

/-- Two results: the cells of the table (m, xs), and OK. -/
def CellRes (w w' : World) (e : Ending) (m N : Nat) (xs : List Int) : Prop :=
  ∃ cv l g c, e = .returned (.tuple #[cv, .int .i64 0]) ∧ IsSpread m xs l ∧ CellsRd w' cv m N xs l g c ∧ w.heap.size ≤ g ∧ Below w.heap.size w w'

theorem PTab.N0 {p : Int} {m N : Nat} {xs : List Int} (h : PTab p m N xs) : 0 < N := by rw [← h.pow]; exact pow_pos2 m
theorem cellRes_of {w w' : World} {e : Ending} {p : Int} {m N : Nat} {xs : List Int} (h : PTab p m N xs)
    (hr : ∃ cv l, e = .returned (.tuple #[cv, .int .i64 0]) ∧ IsSpread m xs l ∧ SRow w' 49 3 cv (cellsTo m xs l (2 ^ m)) ∧ (∀ j, cv.ownBlock = some j → w.heap.size ≤ j) ∧ Below w.heap.size w w') : CellRes w w' e m N xs := by
  obtain ⟨cv, l, rfl, hs, hR, ho, hb⟩ := hr
  rw [h.pow] at hR
  obtain ⟨g, c, hrd⟩ := hR.rd h.N0
  exact ⟨cv, l, g, c, rfl, hs, hrd, ho g hrd.own, hb⟩

set_option maxHeartbeats 800000 in
theorem cells_ok {p : Int} {m N : Nat} {xs : List Int} (h : PTab p m N xs) (w : World) : Calls Try.prog 26 #[.int .i64 p] w fun e w' => CellRes w w' e m N xs := by
  have H := Lib.hid h
  clear h
  go_enter Try.func26, Try.ntmps26
  go_wp2_with fail
  refine (H.out.tab _).mono ?_
  rintro e w1 ⟨v, rfl, hv, hb⟩
  have HB := Lib.hid hb
  have HV := Lib.hid hv
  obtain ⟨g, t, rfl, -, -⟩ := hv
  clear hb
  have hsz := HB.out.size
  go_wp2_with fail
  refine (build_ok m _ xs _ (((HV.out.ints (by have := H.out.len; simp only [maxLen]; omega))).alloc _) H.out.top H.out.lt H.out.valid H.out.all H.out.len).mono ?_
  intro e w2 hr
  obtain ⟨cv, l, g2, c2, rfl, hs, hrd, hg, hb2⟩ := cellRes_of H.out hr
  obtain rfl := hrd.val
  simp at hg
  have HRD := Lib.hid hrd
  have HS := Lib.hid hs
  have HB2 := Lib.hid ((HB.out.alloc hsz _).trans (hb2.mono (by simp; omega)) : Below w.heap.size w w2)
  clear hrd hs hb2 hr
  go_wp2
  go_ret2
  exact ⟨_, _, _, _, rfl, HS.out, HRD.out, by omega, HB2.out⟩
set_option maxHeartbeats 800000 in
theorem cells_no (p : Int) (h : p < 0 ∨ 3 ≤ p) (w : World) : Calls Try.prog 26 #[.int .i64 p] w fun e w' => e = .returned (.tuple #[.slice none 0 0, .int .i64 2]) ∧ Below w.heap.size w w' := by
  have H := Lib.hid h
  clear h
  go_enter Try.func26, Try.ntmps26
  go_wp2_with fail
  refine (table_no p H.out _).mono ?_
  rintro e w1 ⟨rfl, hb⟩
  have HB := Lib.hid hb
  have hsz := hb.size
  clear hb
  go_wp2
  go_ret2
  exact ⟨rfl, HB.out.alloc hsz _⟩

theorem refCells_at {p : Int} {m N : Nat} {xs : List Int} (h : PTab p m N xs) (v : Value) (w : World) (hx : Ints w .i64 v xs) : Calls Try.prog 27 #[.agg #[.int .i64 m, v]] w fun e w' => CellRes w w' e m N xs :=
  (refCells_ok m v xs w hx h.top h.lt h.valid h.all h.len).mono fun _ _ hr => cellRes_of h hr

/-- The cells' Same, at two readings. -/
theorem sameCells_at {p : Int} {m N : Nat} {xs l l2 : List Int} {va vb : Value} {w : World} {g c g2 c2 : Nat} (h : PTab p m N xs) (h1 : CellsRd w va m N xs l g c) (h2 : CellsRd w vb m N xs l2 g2 c2) (hs : IsSpread m xs l) (hs2 : IsSpread m xs l2) :
    Calls Try.prog 28 #[va, vb] w fun e w' => e = .returned (.bool true) ∧ Below w.heap.size w w' := by
  obtain rfl : l = l2 := hs.unique h.lt hs2 (by have := h.all; omega)
  exact sameCells_ok w va vb m N xs l g c g2 c2 h1 h2
theorem CellsRd.below {w w' : World} {v : Value} {m N : Nat} {xs l : List Int} {g c B : Nat} (h : CellsRd w v m N xs l g c) (hb : Below B w w') (hB : w.heap.size ≤ B) : CellsRd w' v m N xs l g c :=
  have hg : g < B := Nat.lt_of_lt_of_le h.lt hB
  ⟨h.val, h.cap, fun i hi => (hb.cell (p := ⟨g, i * 3, none⟩) hg).trans (h.s i hi), fun i hi => (hb.cell (p := ⟨g, i * 3 + 1, none⟩) hg).trans (h.b i hi), fun i hi => (hb.cell (p := ⟨g, i * 3 + 2, none⟩) hg).trans (h.z i hi),
    fun j hj => by have := h.fz j hj; unfold World.frozen? at this ⊢; rw [hb.block g hg]; exact this, h.own, Nat.lt_of_lt_of_le h.lt hb.size⟩
end Go.Proofs.Ytkffhfdmdcecaaa
