/-
  PlanSteps: the law's walk.
-/
import Derived.Test.YtamhkfnghgbenaaPsMain
import Derived.Test.YtamhkfnghgbenaaArgs
namespace Go.Proofs.Ytamhkfnghgbenaa
set_option linter.all false
set_option maxRecDepth 100000
open Go.RowKit Go.Shelf

attribute [local go_sem] Oper.semAt_some eql_func_nil

set_option maxHeartbeats 1600000 in
theorem ps_else {w : World} (v : Value) (ss : List SeqD) (h : Seqs w v ss) (hl : 100 < ss.length) (many : Int) :
    Calls Try.prog 9 #[v, .int .i64 many] w fun e w' => e = .returned (.bool true) ∧ Below w.heap.size w w' := by
  obtain ⟨⟨A, c, rfl, hlc, hcm, -⟩, -⟩ := h
  obtain ⟨n, hn⟩ : ∃ n, ss.length = n := ⟨_, rfl⟩
  rw [hn] at hl hlc ⊢
  have hni : (n : Int) ≤ 9223372036854775807 := by simp only [maxLen] at hcm; omega
  have hn100 : (100 < (n : Int)) := by omega
  clear hn
  obtain ⟨w0, hw0⟩ : ∃ w0, ((w.alloc (.cells #[.slice A n c] 22)).alloc (.cells #[.int .i64 many] 3)).alloc (.cells #[.bool false] 4) = w0 := ⟨_, rfl⟩
  have hb0 : Below w.heap.size w w0 := by rw [← hw0]; exact (((Below.refl _ w).alloc (Nat.le_refl _) _).alloc (by simp) _).alloc (by simp; omega) _
  have hC0 : Blk w0 w.heap.size 22 #[.slice A n c] := by
    rw [← hw0]
    exact (Blk.new w 22 #[.slice A n c]).below (((Below.refl _ _).alloc (Nat.le_refl _) _).alloc (by simp) _) (by simp)
  have hC2 : Blk w0 (w.heap.size + 1 + 1) 4 #[.bool false] := by
    rw [← hw0]
    have := Blk.new ((w.alloc (.cells #[.slice A n c] 22)).alloc (.cells #[.int .i64 many] 3)) 4 #[.bool false]
    rwa [World.size_alloc, World.size_alloc] at this
  have HC2 := Lib.hid hC2
  have HB0 := Lib.hid hb0
  have q0 : w0.cell? ⟨w.heap.size, 0, none⟩ = some (.slice A n c) := by rw [hC0.cell]; rfl
  clear hC0 hC2 hb0
  refine (callsIn_wide (n := 20)).1 ?_
  refine callsIn_of_wp_marks Try.func9 rfl trivial ?_ rfl
  simp only [Try.ntmps9, List.size_toArray, List.length_cons, List.length_nil, Nat.reduceAdd, Nat.reduceSub, Array.replicate_succ, Array.replicate_zero, List.push_toArray, List.append_toArray, List.nil_append, List.cons_append]
  refine wpIn_wide.2 ?_
  go_wp2_with fail
  refine (works_any _).mono ?_
  rintro e w9 ⟨rfl, hb⟩
  have hk := HC2.out.below hb HC2.out.lt
  have hc9 : w9.cell? ⟨w.heap.size + 1 + 1, 0, none⟩ = some (.bool false) := by rw [hk.cell]; rfl
  have hf9 := hk.frozen 0
  have hb9 := HB0.out.trans (hb.mono HB0.out.size)
  clear hb
  go_wp2
  refine ⟨.bool true, ?_, rfl, hb9.setCell (p := ⟨w.heap.size + 1 + 1, 0, none⟩) (by show _ ≤ w.heap.size + 1 + 1; omega) _⟩
  have hc5 := World.cell?_setCell_same' w9 ⟨w.heap.size + 1 + 1, 0, none⟩ (.bool true) (by rw [hc9]; rfl)
  simp [results, Try.f9, go_sem, hc5]

theorem planSteps_walk {w : World} (v : Value) (ss : List SeqD) (h : Seqs w v ss) (many : Int) (hm : (Lit.int .i64 many).wf = true) :
    Calls Try.prog 9 #[v, .int .i64 many] w fun e w' => e = .returned (.bool true) ∧ Below w.heap.size w w' := by
  by_cases hl : ss.length ≤ 100
  · exact ps_main v ss h hl many (wf_i64 hm)
  · exact ps_else v ss h (by omega) many
end Go.Proofs.Ytamhkfnghgbenaa
