/-
  plan: the cells of a step in an own row; the steps of a plan whose sequences keep the rules.
-/
import Derived.Test.YtamhkfnghgbenaaSlEq
import Derived.Test.YtamhkfnghgbenaaSRowC
import Derived.Test.YtamhkfnghgbenaaPlConcat
namespace Go.Proofs.Ytamhkfnghgbenaa
set_option linter.all false
open Go.RowKit

theorem stepsOf_get {size hv wd : Int} {ss : List SeqD} {k m : Nat} {s : SeqD} (hk : k < m) (hs : ss[k]? = some s) : (stepsOf size hv wd ss m)[k]? = some (stepAt size hv wd ss k s) := by
  unfold stepsOf
  rw [List.getElem?_map, List.getElem?_zipIdx, List.getElem?_take, if_pos hk, hs]
  simp

/-- The cells of the k-th step in a row of steps. -/
theorem StRow.at_ {w : World} {A : Option Addr} {n c m : Nat} {ss : List SeqD} {size hv wd : Int} (h : StRow w (.slice A n c) (stepsOf size hv wd ss m)) (hm : m ≤ ss.length) {k : Nat} (hk : k < m) {s : SeqD} (hs : ss[k]? = some s) :
    ∃ g, A = some ⟨g, 0, none⟩ ∧ n = m ∧ g < w.heap.size ∧ w.cell? ⟨g, k * 8, none⟩ = some (.int .i64 s.lit) ∧ w.cell? ⟨g, k * 8 + 1, none⟩ = some (.int .i64 s.len) ∧ w.cell? ⟨g, k * 8 + 2, none⟩ = some (.int .i64 s.off) ∧
      w.cell? ⟨g, k * 8 + 3, none⟩ = some (.int .i64 k) ∧ w.cell? ⟨g, k * 8 + 4, none⟩ = some (.int .i64 (posL (ss.take k))) ∧ w.cell? ⟨g, k * 8 + 5, none⟩ = some (.int .i64 size) ∧ w.cell? ⟨g, k * 8 + 6, none⟩ = some (.int .i64 hv) ∧ w.cell? ⟨g, k * 8 + 7, none⟩ = some (.int .i64 wd) := by
  have hl := stepsOf_length (size := size) (hv := hv) (wd := wd) hm
  obtain ⟨g, hA, hn, hc⟩ := SRow.cell h (fun c hc => by obtain ⟨x, -, rfl⟩ := List.mem_map.1 hc; rfl) (i := k) (by rw [List.length_map, hl]; exact hk)
  have hx : ((stepsOf size hv wd ss m).map fun x => x.cells.toList)[k]? = some (stepAt size hv wd ss k s).cells.toList := by rw [List.getElem?_map, stepsOf_get hk hs]; rfl
  have hcell := hc k _ hx
  refine ⟨g, hA, by rw [hn, List.length_map, hl], World.block_lt_of_cell? w _ (hcell 0 _ (by omega) rfl), hcell 0 _ (by omega) rfl, hcell 1 _ (by omega) rfl, hcell 2 _ (by omega) rfl, hcell 3 _ (by omega) rfl, hcell 4 _ (by omega) rfl, hcell 5 _ (by omega) rfl, hcell 6 _ (by omega) rfl, hcell 7 _ (by omega) rfl⟩

/-- A plan whose sequences keep both rules within a size keeps the lengths' rule within the greatest size. -/
theorem good_one {size hv wd : Int} {ss : List SeqD} {m : Nat} (hs : 0 ≤ size ∧ size ≤ 131072) (hm : m ≤ ss.length) (h : Good 2 size hv wd ss m) : Good 1 131072 0 0 ss m := fun i s hi hx => by
  have hp := Good.pos hs.1 (k := i) (by omega) (fun j x hj => h j x (by omega))
  have ho := (h i s hi hx).1
  refine ⟨?_, fun h2 => by omega⟩
  obtain ⟨o1, o2, o3, o4⟩ := ho
  simp only [stepAt] at o1 o2 o3 o4
  exact ⟨o1, o2, by simp only [stepAt]; omega, by simp only [stepAt]; omega⟩
theorem whereR_good {ss : List SeqD} {size hv wd : Int} (h : (whereR ss size hv wd).2 = 0) : argsOk size hv wd ∧ Good 2 size hv wd ss ss.length := by
  unfold whereR at h
  split at h
  · next ha =>
    cases hb : bad 2 size hv wd ss with
    | none => exact ⟨ha, bad_none.1 hb⟩
    | some k => rw [hb] at h; simp at h
  · simp at h
theorem nGood_all {ss : List SeqD} (h : Good 1 131072 0 0 ss ss.length) : nGood ss = ss.length := by
  unfold nGood; rw [bad_none.2 h]
end Go.Proofs.Ytamhkfnghgbenaa
