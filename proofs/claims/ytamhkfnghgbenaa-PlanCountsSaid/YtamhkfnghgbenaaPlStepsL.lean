/-
  plan: Steps; cells that stay cells; the law's state in a loop over Steps.
-/
import Derived.Test.YtamhkfnghgbenaaPlYield
import Derived.Test.YtamhkfnghgbenaaPlBad
import Derived.Test.YtamhkfnghgbenaaBut
namespace Go.Proofs.Ytamhkfnghgbenaa
set_option linter.all false
set_option maxRecDepth 100000
open Go.RowKit Go.Shelf

theorem nGood_some {ss : List SeqD} {k : Nat} {s : SeqD} (hs : ss[k]? = some s) (hg : Good 1 131072 0 0 ss k) (hn : ¬ okAt 1 131072 0 0 ss k s) : nGood ss = k := by
  have hb : bad 1 131072 0 0 ss = some k := bad_some.2 ⟨s, hs, hg, hn⟩
  unfold nGood; rw [hb]
theorem Steps_any (w : World) (v : Value) (ss : List SeqD) (h : Seqs w v ss) (hl : ss.length ≤ 100000) :
    Calls Try.prog 26 #[v] w fun e w' => ∃ B ov, e = .returned (.func (.func 39) #[] #[.pointer (some ⟨B, 0, none⟩)]) ∧ w'.cell? ⟨B, 0, none⟩ = some ov ∧
      StRow w' ov (stepsOf 131072 0 0 ss (nGood ss)) ∧ Below w.heap.size w w' ∧ w.heap.size ≤ B ∧ ∀ k, ov.ownBlock = some k → w.heap.size ≤ k := by
  have HC := Lib.hid (steps_any w v ss h hl)
  obtain ⟨⟨A, c, rfl, -, -, -⟩, -⟩ := h
  clear hl
  obtain ⟨n, hn⟩ : ∃ n, ss.length = n := ⟨_, rfl⟩
  have HN := Lib.hid hn
  rw [hn] at HC ⊢
  clear hn
  go_enter Try.func26, Try.ntmps26
  go_wp2_with fail
  refine HC.out.mono ?_
  rintro e w1 ⟨ov, hb, ho, hcase⟩
  have hall : StRow w1 ov (stepsOf 131072 0 0 ss (nGood ss)) ∧ ∃ z q : Int, e = .returned (.tuple #[ov, .int .i64 z, .int .i64 q]) := by
    rcases hcase with ⟨hg, he, hr⟩ | ⟨k, s, hs, hg, hn, he, hr⟩
    · rw [nGood_all hg]; exact ⟨hr, _, _, he⟩
    · rw [nGood_some hs hg hn]; exact ⟨hr, _, _, he⟩
  obtain ⟨hr, z, q, rfl⟩ := hall
  clear hcase
  obtain ⟨A1, c1, hv, -, -⟩ := SRow.form hr
  rw [List.length_map] at hv
  subst hv
  have HR := Lib.hid hr
  have HB := Lib.hid hb
  have HO := Lib.hid ho
  clear hr hb ho
  go_wp2
  go_ret
  have hsz := HB.out.size
  exact ⟨w1.heap.size, _, rfl, (Boxed.new w1 63 _).cell, SRow.same HR.out (fun k hk => Below.heap_alloc w1 _ k (SRow.lt HR.out k hk)), HB.out.alloc hsz _, hsz, HO.out⟩

/-- The first m cells of a block are there, and may be stored to. -/
def Cells (w : World) (g m : Nat) : Prop := ∀ j, j < m → (∃ u, w.cell? ⟨g, j, none⟩ = some u) ∧ w.frozen? ⟨g, j, none⟩ = false
theorem Cells.set_ {w : World} {g m : Nat} (h : Cells w g m) (i : Nat) (u : Value) : Cells (w.setCell ⟨g, i, none⟩ u) g m := fun j hj => by
  obtain ⟨⟨x, hx⟩, hf⟩ := h j hj
  refine ⟨?_, by rw [World.frozen?_setCell]; exact hf⟩
  by_cases e : j = i
  · subst e; exact ⟨u, World.cell?_setCell_same' w _ u (by rw [hx]; rfl)⟩
  · exact ⟨x, by rw [World.cell?_setCell_other _ _ _ _ (by simp [e])]; exact hx⟩
end Go.Proofs.Ytamhkfnghgbenaa
