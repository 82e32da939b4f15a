/-
  ExecPieces: the law's walk.
-/
import Derived.Test.YtndgdehlnmheeaaExPieM
namespace Go.Proofs.Ytndgdehlnmheeaa
set_option linter.all false
set_option maxRecDepth 100000
open Go.RowKit Go.Shelf

attribute [local go_sem] Oper.semAt_some eql_func_nil

set_option maxHeartbeats 3200000 in
theorem pie_else {w : World} (sz : Int) (va : Value) (aa : List Int) (ha : Ints w .u8 va aa) (vl : Value) (ls : List Int) (hl : Ints w .u8 vl ls) (v : Value) (ss : List SeqD) (h : Seqs w v ss) (most many : Int)
    (vm : Value) (mr : List Int) (hm : Ints w .u8 vm mr) (hor : 100 < mr.length ∨ (mr.length ≤ 100 ∧ (sz < 1 ∨ 134217728 < sz))) :
    Calls Try.prog 8 #[.int .i64 sz, va, vl, v, .int .i64 most, .int .i64 many, vm] w fun e w' => e = .returned (.bool true) ∧ Below w.heap.size w w' := by
  have HS := Lib.hid h
  obtain ⟨A1, c1, rfl, a1, a2, -⟩ := ints_form0 ha
  obtain ⟨A2, c2, rfl, d1, d2, -⟩ := ints_form0 hl
  obtain ⟨A0, c0, rfl, m1, m2, -⟩ := ints_form0 hm
  obtain ⟨⟨A, c, rfl, hlc, hcm, -⟩, -⟩ := h
  obtain ⟨n, hn⟩ : ∃ n, ss.length = n := ⟨_, rfl⟩
  obtain ⟨na, hna⟩ : ∃ n, aa.length = n := ⟨_, rfl⟩
  obtain ⟨nl, hnl⟩ : ∃ n, ls.length = n := ⟨_, rfl⟩
  obtain ⟨nm, hnm⟩ : ∃ n, mr.length = n := ⟨_, rfl⟩
  rw [hn] at hlc HS ⊢
  rw [hna] at a1 ⊢
  rw [hnl] at d1 ⊢
  rw [hnm] at m1 hor ⊢
  have hnmi : (nm : Int) ≤ 9223372036854775807 := by omega
  obtain ⟨w0, hw0⟩ : ∃ w0, (w.alloc (.cells #[.int .i64 many] 3)).alloc (.cells #[.bool false] 4) = w0 := ⟨_, rfl⟩
  have hb0 : Below w.heap.size w w0 := by rw [← hw0]; exact ((Below.refl _ w).alloc (Nat.le_refl _) _).alloc (by simp) _
  have hC1 : Blk w0 (w.heap.size + 1) 4 #[.bool false] := by
    rw [← hw0]
    have := Blk.new (w.alloc (.cells #[.int .i64 many] 3)) 4 #[.bool false]
    rwa [World.size_alloc] at this
  have HC1 := Lib.hid hC1
  have HB0 := Lib.hid hb0
  have hF := few_any w0 _ ss (HS.out.below hb0 (Nat.le_refl _)) A1 A2 na nl c1 c2 (by omega) (by omega)
  have HF := Lib.hid hF
  have HEND : Hid (∀ W w9 : World, Below w0.heap.size w0 W → Below W.heap.size W w9 → Below w.heap.size w w9 ∧ Blk w9 (w.heap.size + 1) 4 #[.bool false]) := (fun W w9 h1 h2 => by
    have h3 := h1.trans (h2.mono h1.size)
    exact ⟨HB0.out.trans (h3.mono HB0.out.size), HC1.out.below h3 HC1.out.lt⟩ : ∀ W w9 : World, _)
  clear ha hl hm hn hna hnl hnm hF hC1 hb0
  refine (callsIn_wide (n := 20)).1 ?_
  refine callsIn_of_wp_marks Try.func8 rfl trivial ?_ rfl
  simp only [Try.ntmps8, List.size_toArray, List.length_cons, List.length_nil, Nat.reduceAdd, Nat.reduceSub, Array.replicate_succ, Array.replicate_zero, List.push_toArray, List.append_toArray, List.nil_append, List.cons_append]
  refine wpIn_wide.2 ?_
  go_wp2_with fail
  refine HF.out.mono ?_
  rintro e w1 ⟨bo, rfl, hw, hbo⟩
  obtain rfl : w0 = w1 := hw.symm
  cases bo
  · clear hbo hor
    go_wp2_with fail
    refine (works_any _).mono ?_
    rintro e w9 ⟨rfl, hb⟩
    obtain ⟨hb9, hk⟩ := HEND.out _ _ (Below.refl _ _) hb
    have hc9 : w9.cell? ⟨w.heap.size + 1, 0, none⟩ = some (.bool false) := by rw [hk.cell]; rfl
    have hf9 := hk.frozen 0
    clear hb
    go_wp2
    refine ⟨.bool true, ?_, rfl, hb9.setCell (p := ⟨w.heap.size + 1, 0, none⟩) (by show _ ≤ w.heap.size + 1; omega) _⟩
    have hc5 := World.cell?_setCell_same' w9 ⟨w.heap.size + 1, 0, none⟩ (.bool true) (by rw [hc9]; rfl)
    simp [results, Try.f8, go_sem, hc5]
  clear hbo HF
  rcases hor with hor | ⟨hor, hsz⟩
  · have hnm100 : 100 < (nm : Int) := by omega
    go_wp2_with fail
    refine (works_any _).mono ?_
    rintro e w9 ⟨rfl, hb⟩
    obtain ⟨hb9, hk⟩ := HEND.out _ _ (Below.refl _ _) hb
    have hc9 : w9.cell? ⟨w.heap.size + 1, 0, none⟩ = some (.bool false) := by rw [hk.cell]; rfl
    have hf9 := hk.frozen 0
    clear hb
    go_wp2
    refine ⟨.bool true, ?_, rfl, hb9.setCell (p := ⟨w.heap.size + 1, 0, none⟩) (by show _ ≤ w.heap.size + 1; omega) _⟩
    have hc5 := World.cell?_setCell_same' w9 ⟨w.heap.size + 1, 0, none⟩ (.bool true) (by rw [hc9]; rfl)
    simp [results, Try.f8, go_sem, hc5]
  · have hnm100 : ¬ 100 < (nm : Int) := by omega
    have HSZ := Lib.hid hsz
    clear hsz
    go_wp2_with fail
    refine (rings_bad w0 sz _ HSZ.out).mono ?_
    rintro e w1 ⟨rfl, hb1⟩
    have HB1 := Lib.hid hb1
    clear hb1
    go_wp2_with fail
    refine (works_any _).mono ?_
    rintro e w9 ⟨rfl, hb⟩
    obtain ⟨hb9, hk⟩ := HEND.out _ _ (HB1.out.alloc HB1.out.size _) hb
    have hc9 : w9.cell? ⟨w.heap.size + 1, 0, none⟩ = some (.bool false) := by rw [hk.cell]; rfl
    have hf9 := hk.frozen 0
    clear hb
    go_wp2
    refine ⟨.bool true, ?_, rfl, hb9.setCell (p := ⟨w.heap.size + 1, 0, none⟩) (by show _ ≤ w.heap.size + 1; omega) _⟩
    have hc5 := World.cell?_setCell_same' w9 ⟨w.heap.size + 1, 0, none⟩ (.bool true) (by rw [hc9]; rfl)
    simp [results, Try.f8, go_sem, hc5]

theorem execPieces_walk {w : World} (sz : Int) (_hsz : (Lit.int .i64 sz).wf = true) (va : Value) (aa : List Int) (ha : Ints w .u8 va aa ∧ ∀ z ∈ aa, (Lit.int .u8 z).wf = true) (vl : Value) (ls : List Int) (hl : Ints w .u8 vl ls ∧ ∀ z ∈ ls, (Lit.int .u8 z).wf = true) (v : Value) (ss : List SeqD) (h : Seqs w v ss) (most : Int) (_hm : (Lit.int .i64 most).wf = true) (many : Int) (hmany : (Lit.int .i64 many).wf = true)
    (vm : Value) (mr : List Int) (hm : Ints w .u8 vm mr ∧ ∀ z ∈ mr, (Lit.int .u8 z).wf = true) :
    Calls Try.prog 8 #[.int .i64 sz, va, vl, v, .int .i64 most, .int .i64 many, vm] w fun e w' => e = .returned (.bool true) ∧ Below w.heap.size w w' := by
  have hua : U8s aa := fun z hz => u8_wf (ha.2 z hz)
  have hul : U8s ls := fun z hz => u8_wf (hl.2 z hz)
  have hum : U8s mr := fun z hz => u8_wf (hm.2 z hz)
  by_cases h1 : 1 ≤ sz ∧ sz ≤ 134217728
  · by_cases h2 : mr.length ≤ 100
    · obtain ⟨S, rfl⟩ := Int.eq_ofNat_of_zero_le (show 0 ≤ sz by omega)
      obtain ⟨⟨ra, rt, re⟩, hr⟩ : ∃ p, chkOf S aa ls most ss = p := ⟨_, rfl⟩
      exact pie_main S (by omega) (by omega) va aa ha.1 hua vl ls hl.1 hul v ss h most many (wf_i64 hmany) vm mr hm.1 hum h2 ra rt re hr
    · exact pie_else sz va aa ha.1 vl ls hl.1 v ss h most many vm mr hm.1 (.inl (by omega))
  · exact pie_else sz va aa ha.1 vl ls hl.1 v ss h most many vm mr hm.1 (by omega)
end Go.Proofs.Ytndgdehlnmheeaa
