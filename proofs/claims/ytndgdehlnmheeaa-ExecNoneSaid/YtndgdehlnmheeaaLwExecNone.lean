/-
  ExecNone: the law's walk.
-/
import Derived.Test.YtndgdehlnmheeaaExNone
import Derived.Test.YtndgdehlnmheeaaArgSeqs
namespace Go.Proofs.Ytndgdehlnmheeaa
set_option linter.all false
set_option maxRecDepth 100000
open Go.RowKit Go.Shelf

attribute [local go_sem] Oper.semAt_some eql_func_nil

set_option maxHeartbeats 3200000 in
theorem execNone_walk {w : World} (va : Value) (aa : List Int) (ha : Ints w .u8 va aa ∧ ∀ z ∈ aa, (Lit.int .u8 z).wf = true) (v : Value) (ss : List SeqD) (h : Seqs w v ss) (most : Int) (_hm : (Lit.int .i64 most).wf = true) (zero : Bool) :
    Calls Try.prog 9 #[va, v, .int .i64 most, .bool zero] w fun e w' => e = .returned (.bool true) ∧ Below w.heap.size w w' := by
  obtain ⟨A1, na, c1, rfl, a1, a2, -⟩ := ha.1.get
  obtain ⟨⟨A, c, rfl, hlc, hcm, -⟩, -⟩ := h
  obtain ⟨n, hn⟩ : ∃ n, ss.length = n := ⟨_, rfl⟩
  rw [hn] at hlc ⊢
  have hni : (n : Int) ≤ 9223372036854775807 := by simp only [maxLen] at hcm; omega
  have hnai : (na : Int) ≤ 9223372036854775807 := by omega
  clear ha hn hcm
  obtain ⟨i0, hi, hz0, hz1, hz2⟩ := info_parts infoBool
  refine (callsIn_wide (n := 8)).1 ?_
  refine callsIn_of_wp_marks Try.func9 rfl trivial ?_ rfl
  simp only [Try.ntmps9, List.size_toArray, List.length_cons, List.length_nil, Nat.reduceAdd, Nat.reduceSub, Array.replicate_succ, Array.replicate_zero, List.push_toArray, List.append_toArray, List.nil_append, List.cons_append]
  gi_wp2
  · refine ⟨trivial, ?_⟩
    refine (callsIn_wide.2 (works_at (Below.refl _ _))).mono ?_
    rintro e w9 ⟨rfl, hb⟩
    have hk := (Blk.new w 4 #[.bool false]).below hb (by simp)
    have hc9 : w9.cell? ⟨w.heap.size, 0, none⟩ = some (.bool false) := by rw [hk.cell]; rfl
    have hf9 := hk.frozen 0
    have hb9 := ((Below.refl w.heap.size w).alloc (Nat.le_refl _) (.cells #[.bool false] 4)).trans (hb.mono (by simp))
    clear hb
    gi_wp2
    refine ⟨.bool true, ?_, rfl, hb9.setCell (p := ⟨w.heap.size, 0, none⟩) (Nat.le_refl _) _⟩
    have hc5 := World.cell?_setCell_same' w9 ⟨w.heap.size, 0, none⟩ (.bool true) (by rw [hc9]; rfl)
    simp [results, Try.f9, go_sem, hc5]
  · have HN : Hid (NoRing ((w.alloc (.cells #[.bool false] 4)).alloc (.cells #[.slice none 0 0, .int .i64 0, .int .i64 0] 64)) (rp (w.heap.size + 1))) := (by
      have := Blk.new (w.alloc (.cells #[.bool false] 4)) 64 #[.slice none 0 0, .int .i64 0, .int .i64 0]
      rw [World.size_alloc] at this
      exact .inr ⟨_, rfl, this⟩ : NoRing _ _)
    have HB1 : Hid (Below w.heap.size w ((w.alloc (.cells #[.bool false] 4)).alloc (.cells #[.slice none 0 0, .int .i64 0, .int .i64 0] 64))) := (((Below.refl _ w).alloc (Nat.le_refl _) _).alloc (by simp) _ : Below _ _ _)
    have HK1 : Hid (Blk ((w.alloc (.cells #[.bool false] 4)).alloc (.cells #[.slice none 0 0, .int .i64 0, .int .i64 0] 64)) w.heap.size 4 #[.bool false]) := ((Blk.new w 4 #[.bool false]).below ((Below.refl _ _).alloc (Nat.le_refl _) _) (by simp) : Blk _ _ _ _)
    refine ⟨trivial, ?_⟩
    refine (callsIn_wide.2 (run_no _ HN.out _ _ _)).mono ?_
    rintro e w2 ⟨A2, c2, rfl, hb⟩
    have HN2 := Lib.hid (HN.out.below hb (Nat.le_refl _))
    have HB2 := Lib.hid (HB1.out.trans (hb.mono HB1.out.size))
    have HK2 := Lib.hid (HK1.out.below hb HK1.out.lt)
    clear hb
    gi_wp2
    refine ⟨trivial, ?_⟩
    refine (callsIn_wide.2 (pieces_no _ HN2.out _ _ _)).mono ?_
    rintro e w3 ⟨rfl, hw3⟩
    have hcp : w3.cell? ⟨w2.heap.size, 0, none⟩ = some (.slice none 0 0) := by rw [hw3]; exact (Boxed.new w2 48 (.slice none 0 0)).cell
    have HB3 : Hid (Below w.heap.size w w3) := (by rw [hw3]; exact HB2.out.alloc HB2.out.size _ : Below _ _ _)
    have HK3 : Hid (Blk w3 w.heap.size 4 #[.bool false]) := (by rw [hw3]; exact HK2.out.below ((Below.refl _ w2).alloc (Nat.le_refl _) _) HK2.out.lt : Blk _ _ _ _)
    clear hw3
    gi_wp2
    refine ⟨trivial, ?_⟩
    refine (callsIn_wide.2 (num_any _ _)).mono ?_
    rintro e wn ⟨rfl, hw⟩
    obtain rfl : w3 = wn := hw.symm
    gi_wp2
    refine rangeFunc_idle rfl (by decide) (gf := 51) (lb := #[.pointer (some ⟨w2.heap.size, 0, none⟩)]) rfl trivial (enters_of Try.func51 (by kernel_rfl) rfl) ?call ?done
    case call =>
      intro l' W' hW'
      exact pieces1_none _ l' _ none 0 W' (by decide) ((hW'.cell (World.block_lt_of_cell? _ _ hcp)).trans hcp)
    case done =>
      intro D W' hD hW' hK
      have HK4 := Lib.hid (HK3.out.below hW' HK3.out.lt)
      have HB4 := Lib.hid (HB3.out.trans (hW'.mono HB3.out.size))
      gi_wp2
      refine ⟨trivial, ?_⟩
      refine (callsIn_wide.2 (works_at (Below.refl _ _))).mono ?_
      rintro e w9 ⟨rfl, hb⟩
      have hDlt : D < W'.heap.size := (Array.getElem?_eq_some_iff.1 hK).1
      have hk9 : w9.heap[D]? = some (.deferred (some [])) := (hb.block _ hDlt).trans hK
      have hk := HK4.out.below hb HK4.out.lt
      have hc9 : w9.cell? ⟨w.heap.size, 0, none⟩ = some (.bool false) := by rw [hk.cell]; rfl
      have hf9 := hk.frozen 0
      have hb9 := HB4.out.trans (hb.mono HB4.out.size)
      clear hb hk
      gi_wp2
      have hK' := (KeepsOthers.setCell w9 ⟨w.heap.size, 0, none⟩ (.bool true)).same D _ hk9 rfl
      refine ⟨by simp, .inl ⟨_, _, rfl, run_takeDeferred hK', ?_⟩⟩
      have hc5 := cell_kept (World.cell?_setCell_same' w9 ⟨w.heap.size, 0, none⟩ (.bool true) (by rw [hc9]; rfl)) (grownBy_putObj' _ D (.deferred none)) (fun r e => by cases e; exact ⟨_, hK', rfl⟩)
      refine ⟨.bool true, ?_, rfl, (hb9.setCell (p := ⟨w.heap.size, 0, none⟩) (Nat.le_refl _) _).trans (belowK_b (w := w) (Nat.le_refl _) _ D _ _ (Nat.le_trans HB3.out.size hD) hK' rfl rfl)⟩
      simp [results, Try.f9, go_sem, hc5]
  · have HN : Hid (NoRing (w.alloc (.cells #[.bool false] 4)) (.pointer none)) := (.inl rfl : NoRing _ _)
    have HB1 : Hid (Below w.heap.size w (w.alloc (.cells #[.bool false] 4))) := ((Below.refl _ w).alloc (Nat.le_refl _) _ : Below _ _ _)
    have HK1 : Hid (Blk (w.alloc (.cells #[.bool false] 4)) w.heap.size 4 #[.bool false]) := (Blk.new w 4 #[.bool false] : Blk _ _ _ _)
    refine ⟨trivial, ?_⟩
    refine (callsIn_wide.2 (run_no _ HN.out _ _ _)).mono ?_
    rintro e w2 ⟨A2, c2, rfl, hb⟩
    have HN2 := Lib.hid (HN.out.below hb (Nat.le_refl _))
    have HB2 := Lib.hid (HB1.out.trans (hb.mono HB1.out.size))
    have HK2 := Lib.hid (HK1.out.below hb HK1.out.lt)
    clear hb
    gi_wp2
    refine ⟨trivial, ?_⟩
    refine (callsIn_wide.2 (pieces_no _ HN2.out _ _ _)).mono ?_
    rintro e w3 ⟨rfl, hw3⟩
    have hcp : w3.cell? ⟨w2.heap.size, 0, none⟩ = some (.slice none 0 0) := by rw [hw3]; exact (Boxed.new w2 48 (.slice none 0 0)).cell
    have HB3 : Hid (Below w.heap.size w w3) := (by rw [hw3]; exact HB2.out.alloc HB2.out.size _ : Below _ _ _)
    have HK3 : Hid (Blk w3 w.heap.size 4 #[.bool false]) := (by rw [hw3]; exact HK2.out.below ((Below.refl _ w2).alloc (Nat.le_refl _) _) HK2.out.lt : Blk _ _ _ _)
    clear hw3
    gi_wp2
    refine ⟨trivial, ?_⟩
    refine (callsIn_wide.2 (num_any _ _)).mono ?_
    rintro e wn ⟨rfl, hw⟩
    obtain rfl : w3 = wn := hw.symm
    gi_wp2
    refine rangeFunc_idle rfl (by decide) (gf := 51) (lb := #[.pointer (some ⟨w2.heap.size, 0, none⟩)]) rfl trivial (enters_of Try.func51 (by kernel_rfl) rfl) ?call ?done
    case call =>
      intro l' W' hW'
      exact pieces1_none _ l' _ none 0 W' (by decide) ((hW'.cell (World.block_lt_of_cell? _ _ hcp)).trans hcp)
    case done =>
      intro D W' hD hW' hK
      have HK4 := Lib.hid (HK3.out.below hW' HK3.out.lt)
      have HB4 := Lib.hid (HB3.out.trans (hW'.mono HB3.out.size))
      gi_wp2
      refine ⟨trivial, ?_⟩
      refine (callsIn_wide.2 (works_at (Below.refl _ _))).mono ?_
      rintro e w9 ⟨rfl, hb⟩
      have hDlt : D < W'.heap.size := (Array.getElem?_eq_some_iff.1 hK).1
      have hk9 : w9.heap[D]? = some (.deferred (some [])) := (hb.block _ hDlt).trans hK
      have hk := HK4.out.below hb HK4.out.lt
      have hc9 : w9.cell? ⟨w.heap.size, 0, none⟩ = some (.bool false) := by rw [hk.cell]; rfl
      have hf9 := hk.frozen 0
      have hb9 := HB4.out.trans (hb.mono HB4.out.size)
      clear hb hk
      gi_wp2
      have hK' := (KeepsOthers.setCell w9 ⟨w.heap.size, 0, none⟩ (.bool true)).same D _ hk9 rfl
      refine ⟨by simp, .inl ⟨_, _, rfl, run_takeDeferred hK', ?_⟩⟩
      have hc5 := cell_kept (World.cell?_setCell_same' w9 ⟨w.heap.size, 0, none⟩ (.bool true) (by rw [hc9]; rfl)) (grownBy_putObj' _ D (.deferred none)) (fun r e => by cases e; exact ⟨_, hK', rfl⟩)
      refine ⟨.bool true, ?_, rfl, (hb9.setCell (p := ⟨w.heap.size, 0, none⟩) (Nat.le_refl _) _).trans (belowK_b (w := w) (Nat.le_refl _) _ D _ _ (Nat.le_trans HB3.out.size hD) hK' rfl rfl)⟩
      simp [results, Try.f9, go_sem, hc5]
  · refine ⟨trivial, ?_⟩
    refine (callsIn_wide.2 (works_at (Below.refl _ _))).mono ?_
    rintro e w9 ⟨rfl, hb⟩
    have hk := (Blk.new w 4 #[.bool false]).below hb (by simp)
    have hc9 : w9.cell? ⟨w.heap.size, 0, none⟩ = some (.bool false) := by rw [hk.cell]; rfl
    have hf9 := hk.frozen 0
    have hb9 := ((Below.refl w.heap.size w).alloc (Nat.le_refl _) (.cells #[.bool false] 4)).trans (hb.mono (by simp))
    clear hb
    gi_wp2
    refine ⟨.bool true, ?_, rfl, hb9.setCell (p := ⟨w.heap.size, 0, none⟩) (Nat.le_refl _) _⟩
    have hc5 := World.cell?_setCell_same' w9 ⟨w.heap.size, 0, none⟩ (.bool true) (by rw [hc9]; rfl)
    simp [results, Try.f9, go_sem, hc5]
end Go.Proofs.Ytndgdehlnmheeaa
