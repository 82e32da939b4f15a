/-
  PlanCounts: the law's walk where there are no literals, or the arguments are too great.
-/
import Derived.Test.YtamhkfnghgbenaaPcBase
namespace Go.Proofs.Ytamhkfnghgbenaa
set_option linter.all false
set_option maxRecDepth 100000
open Go.RowKit Go.Shelf

attribute [local go_sem] Oper.semAt_some eql_func_nil

set_option maxHeartbeats 3200000 in
theorem pc_err {w : World} (v vd : Value) (ss : List SeqD) (dd : List Int) (h : Seqs w v ss) (hd : Ints w .u8 vd dd) (hl : ss.length ≤ 100) (hl2 : dd.length ≤ 400) (hg : (sizeR ss).2 = 15 ∧ (sizeR ss).1 = 0 ∨ ((sizeR ss).2 = 0 ∧ 0 ≤ (sizeR ss).1 ∧ (dd.length : Int) < (sizeR ss).1)) :
    Calls Try.prog 10 #[v, vd] w fun e w' => e = .returned (.bool true) ∧ Below w.heap.size w w' := by
  have HS := Lib.hid h
  have HD := Lib.hid hd
  have HLR : Hid (litsR ss dd = ([], 15)) := (by unfold litsR; rw [if_neg (by rcases hg with hg | hg <;> omega)] : _ = _)
  obtain ⟨Ad, nd, cd, rfl, d1, d2, hatd⟩ := hd.get
  obtain ⟨⟨A, c, rfl, hlc, hcm, -⟩, -⟩ := h
  obtain ⟨n, hn⟩ : ∃ n, ss.length = n := ⟨_, rfl⟩
  have HN := Lib.hid hn
  have HND : Hid (dd.length = nd) := (hatd.1 : _ = _)
  rw [hn] at hl hlc HS ⊢
  have hl2' : nd ≤ 400 := by have := HND.out; omega
  obtain ⟨⟨z, q⟩, hzq⟩ : ∃ p, sizeR ss = p := ⟨_, rfl⟩
  rw [hzq, HND.out] at hg
  simp only at hg
  have HSZ := Lib.hid hzq
  have hni : (n : Int) ≤ 9223372036854775807 := by omega
  have hdi : (nd : Int) ≤ 9223372036854775807 := by omega
  have e3 : ¬ (100 < (n : Int)) := by omega
  have e4 : ¬ (400 < (nd : Int)) := by omega
  have HL : Hid (n ≤ 100 ∧ nd ≤ 400) := (⟨hl, hl2'⟩ : _ ∧ _)
  clear hn hl hl2 hl2' hatd hzq
  obtain ⟨w0, hw0⟩ : ∃ w0, (w.alloc (.cells #[.slice Ad nd cd] 34)).alloc (.cells #[.bool false] 4) = w0 := ⟨_, rfl⟩
  have hb0 : Below w.heap.size w w0 := by rw [← hw0]; exact ((Below.refl _ w).alloc (Nat.le_refl _) _).alloc (by simp) _
  have hs0 : w0.heap.size = w.heap.size + 1 + 1 := by rw [← hw0]; simp
  have hC0 : Blk w0 w.heap.size 34 #[.slice Ad nd cd] := by
    rw [← hw0]
    exact (Blk.new w 34 #[.slice Ad nd cd]).below ((Below.refl _ _).alloc (Nat.le_refl _) _) (by simp)
  have hC2 : Blk w0 (w.heap.size + 1) 4 #[.bool false] := by
    rw [← hw0]
    have := Blk.new (w.alloc (.cells #[.slice Ad nd cd] 34)) 4 #[.bool false]
    rwa [World.size_alloc] at this
  have HC0 := Lib.hid hC0
  have HC2 := Lib.hid hC2
  have HB0 := Lib.hid hb0
  have q0 : w0.cell? ⟨w.heap.size, 0, none⟩ = some (.slice Ad nd cd) := by rw [hC0.cell]; rfl
  clear hC0 hC2 hb0 hs0
  refine (callsIn_wide (n := 20)).1 ?_
  refine callsIn_of_wp_marks Try.func10 rfl trivial ?_ rfl
  simp only [Try.ntmps10, List.size_toArray, List.length_cons, List.length_nil, Nat.reduceAdd, Nat.reduceSub, Array.replicate_succ, Array.replicate_zero, List.push_toArray, List.append_toArray, List.nil_append, List.cons_append]
  refine wpIn_wide.2 ?_
  go_wp2_with fail
  refine (lits_any w0 (.slice A n c) (.slice Ad nd cd) ss dd (HS.out.below HB0.out (Nat.le_refl _)) (HD.out.below HB0.out (Nat.le_refl _)) (by rw [HN.out]; exact HL.out.1) (by rw [HND.out]; have := HL.out; omega)).mono ?_
  rw [HLR.out]
  rintro e w1 ⟨Aa, ca, rfl, hga, hb1⟩
  have HB1 := Lib.hid hb1
  clear hga hb1 q0
  go_wp2_with fail
  obtain ⟨w2, hw2⟩ : ∃ w2, w1.alloc (.cells #[.slice Aa 0 ca] 34) = w2 := ⟨_, rfl⟩
  have hb12 : Below w1.heap.size w1 w2 := by rw [← hw2]; exact (Below.refl _ _).alloc (Nat.le_refl _) _
  have HQ2 : Hid (Blk w2 w1.heap.size 34 #[.slice Aa 0 ca]) := (by rw [← hw2]; exact Blk.new w1 _ _ : Blk _ _ _ _)
  have HB02 := Lib.hid (HB1.out.trans (hb12.mono HB1.out.size))
  rw [hw2]
  clear hw2 hb12
  refine (size_any w2 (.slice A n c) ss (HS.out.below (HB0.out.trans (HB02.out.mono HB0.out.size)) (Nat.le_refl _)) (by rw [HN.out]; have := HL.out; omega)).mono ?_
  rw [HSZ.out]
  rintro e w3 ⟨rfl, hb3⟩
  have HB03 := Lib.hid (HB02.out.trans (hb3.mono HB02.out.size))
  have c1 : w3.cell? ⟨w1.heap.size, 0, none⟩ = some (.slice Aa 0 ca) := by rw [(HQ2.out.below hb3 HQ2.out.lt).cell]; rfl
  have c2 : w3.cell? ⟨w.heap.size, 0, none⟩ = some (.slice Ad nd cd) := by rw [(HC0.out.below HB03.out HC0.out.lt).cell]; rfl
  have HR3 := Lib.hid (HC2.out.below HB03.out HC2.out.lt)
  clear hb3
  go_wp2_with fail
  refine (num_any _ _).mono ?_
  rintro e wn ⟨rfl, hw⟩
  obtain rfl : w3 = wn := hw.symm
  rcases hg with ⟨rfl, rfl⟩ | ⟨rfl, hz0, hz1⟩
  all_goals
    go_wp2_with fail
    refine (num_any _ _).mono ?_
    rintro e wn ⟨rfl, hw⟩
    obtain rfl : w3 = wn := hw.symm
    go_wp2_with fail
    refine (works_any _).mono ?_
    rintro e w9 ⟨rfl, hb9⟩
    have hk := HR3.out.below hb9 HR3.out.lt
    have hc9 : w9.cell? ⟨w.heap.size + 1, 0, none⟩ = some (.bool false) := by rw [hk.cell]; rfl
    have hf9 := hk.frozen 0
    have h09 := HB03.out.trans (hb9.mono HB03.out.size)
    have HB9 := Lib.hid (HB0.out.trans (h09.mono HB0.out.size))
    clear hb9 hk h09
    go_wp2
    refine ⟨.bool true, ?_, rfl, HB9.out.setCell (p := ⟨w.heap.size + 1, 0, none⟩) (Nat.le_succ _) _⟩
    have hc5 := World.cell?_setCell_same' w9 ⟨w.heap.size + 1, 0, none⟩ (.bool true) (by rw [hc9]; rfl)
    simp [results, Try.f10, go_sem, hc5]

set_option maxHeartbeats 3200000 in
theorem pc_else {w : World} (v vd : Value) (ss : List SeqD) (dd : List Int) (h : Seqs w v ss) (hd : Ints w .u8 vd dd) (hl : 100 < ss.length ∨ (ss.length ≤ 100 ∧ 400 < dd.length)) :
    Calls Try.prog 10 #[v, vd] w fun e w' => e = .returned (.bool true) ∧ Below w.heap.size w w' := by
  obtain ⟨Ad, nd, cd, rfl, d1, d2, hatd⟩ := hd.get
  obtain ⟨⟨A, c, rfl, hlc, hcm, -⟩, -⟩ := h
  obtain ⟨n, hn⟩ : ∃ n, ss.length = n := ⟨_, rfl⟩
  obtain rfl : dd.length = nd := hatd.1
  obtain ⟨nd, hnd⟩ : ∃ n, dd.length = n := ⟨_, rfl⟩
  rw [hn, hnd] at hl
  rw [hn] at hlc ⊢
  rw [hnd] at d1 ⊢
  have hni : (n : Int) ≤ 9223372036854775807 := by simp only [maxLen] at hcm; omega
  have hdi : (nd : Int) ≤ 9223372036854775807 := by omega
  clear hn hnd hatd hd
  obtain ⟨w0, hw0⟩ : ∃ w0, (w.alloc (.cells #[.slice Ad nd cd] 34)).alloc (.cells #[.bool false] 4) = w0 := ⟨_, rfl⟩
  have hb0 : Below w.heap.size w w0 := by rw [← hw0]; exact ((Below.refl _ w).alloc (Nat.le_refl _) _).alloc (by simp) _
  have hC0 : Blk w0 w.heap.size 34 #[.slice Ad nd cd] := by
    rw [← hw0]
    exact (Blk.new w 34 #[.slice Ad nd cd]).below ((Below.refl _ _).alloc (Nat.le_refl _) _) (by simp)
  have hC2 : Blk w0 (w.heap.size + 1) 4 #[.bool false] := by
    rw [← hw0]
    have := Blk.new (w.alloc (.cells #[.slice Ad nd cd] 34)) 4 #[.bool false]
    rwa [World.size_alloc] at this
  have HC2 := Lib.hid hC2
  have HB0 := Lib.hid hb0
  have q0 : w0.cell? ⟨w.heap.size, 0, none⟩ = some (.slice Ad nd cd) := by rw [hC0.cell]; rfl
  clear hC0 hC2 hb0
  rcases hl with hl | ⟨hl, hl2⟩
  all_goals
    refine (callsIn_wide (n := 20)).1 ?_
    refine callsIn_of_wp_marks Try.func10 rfl trivial ?_ rfl
    simp only [Try.ntmps10, List.size_toArray, List.length_cons, List.length_nil, Nat.reduceAdd, Nat.reduceSub, Array.replicate_succ, Array.replicate_zero, List.push_toArray, List.append_toArray, List.nil_append, List.cons_append]
    refine wpIn_wide.2 ?_
    go_wp2_with fail
    refine (works_any _).mono ?_
    rintro e w9 ⟨rfl, hb⟩
    have hk := HC2.out.below hb HC2.out.lt
    have hc9 : w9.cell? ⟨w.heap.size + 1, 0, none⟩ = some (.bool false) := by rw [hk.cell]; rfl
    have hf9 := hk.frozen 0
    have hb9 := HB0.out.trans (hb.mono HB0.out.size)
    clear hb
    go_wp2
    refine ⟨.bool true, ?_, rfl, hb9.setCell (p := ⟨w.heap.size + 1, 0, none⟩) (Nat.le_succ _) _⟩
    have hc5 := World.cell?_setCell_same' w9 ⟨w.heap.size + 1, 0, none⟩ (.bool true) (by rw [hc9]; rfl)
    simp [results, Try.f10, go_sem, hc5]
end Go.Proofs.Ytamhkfnghgbenaa
