/-
  Bytes as strings.
-/
import Derived.Test.YtamhkfnghgbenaaSlEq
import Derived.Laws.BytesArg
namespace Go.Proofs.Ytamhkfnghgbenaa
set_option linter.all false
set_option maxRecDepth 100000
open Go.RowKit

/-- A list of bytes. -/
def U8s (l : List Int) : Prop := ∀ x ∈ l, 0 ≤ x ∧ x < 256
instance (l : List Int) : Decidable (U8s l) := by unfold U8s; infer_instance
theorem U8s.append {l b : List Int} (h : U8s l) (h' : U8s b) : U8s (l ++ b) := fun x hx => by
  rcases List.mem_append.1 hx with h1 | h1
  · exact h x h1
  · exact h' x h1

set_option maxRecDepth 100000 in
theorem conv_str {w : World} {A : Option Addr} {n c : Nat} {xs : List Int} (h : Ints w .u8 (.slice A n c) xs) : (convert 34 9 (.slice A n c)).run Try.prog w = .ok (.string (strOfNums xs)) w := by
  obtain ⟨A', c', hv, hl, -, -, hr⟩ := h
  injection hv with h1 h2 h3
  subst h1 h2 h3
  rcases Nat.eq_zero_or_pos xs.length with h0 | h0
  · obtain rfl := List.eq_nil_of_length_eq_zero h0
    rcases A with _ | ⟨b, off, sp⟩
    · exact run_convert_bytes_nil w _ _ Try.underlying34 Try.underlying5 _ _ _ Try.underlying9
    · have hl0 : (loadCells ⟨b, off, sp⟩ 0).run Try.prog w = .ok (([] : List Int).map (Value.int .u8)).toArray w := by simp [loadCells, loadCellsFrom]
      have := run_bytesToString w _ 0 c [] hl0
      simp only [List.length_nil]
      rw [run_convert_bytes_string w _ _ _ _ 0 c Try.underlying34 Try.underlying5 Try.underlying9, this]
      rfl
  · obtain ⟨b, off, rfl, hcell⟩ := hr h0
    refine run_convert_bytes_arg w _ _ Try.underlying34 Try.underlying5 b off xs.length c xs rfl (fun i hi => ?_) _ Try.underlying9
    rw [hcell i (.int .u8 (xs.getD i 0)) (by simp [List.getD_eq_getElem?_getD, List.getElem?_eq_getElem hi])]

theorem str_inj {xs ys : List Int} (hx : U8s xs) (hy : U8s ys) : strOfNums xs = strOfNums ys ↔ xs = ys := by
  refine ⟨fun h => ?_, fun h => by rw [h]⟩
  have h1 : xs.map (fun n => UInt8.ofNat n.toNat) = ys.map (fun n => UInt8.ofNat n.toNat) := by rw [← strOfNums_data, ← strOfNums_data, h]
  clear h
  induction xs generalizing ys with
  | nil =>
    cases ys with
    | nil => rfl
    | cons y ys => simp at h1
  | cons x xs ih =>
    cases ys with
    | nil => simp at h1
    | cons y ys =>
      simp only [List.map_cons, List.cons.injEq] at h1
      have hx0 := hx x (by simp)
      have hy0 := hy y (by simp)
      have h2 : x.toNat = y.toNat := by
        have := congrArg UInt8.toNat h1.1
        simp only [UInt8.toNat_ofNat'] at this
        omega
      rw [show x = y by omega, ih (fun z hz => hx z (by simp [hz])) (fun z hz => hy z (by simp [hz])) h1.2]

/-- Strings compared, as the walk spells it. -/
theorem str_beq {xs ys : List Int} (hx : U8s xs) (hy : U8s ys) : ((strOfNums xs).toList == (strOfNums ys).toList) = listEq xs ys := by
  have h := str_inj hx hy
  unfold listEq
  by_cases e : xs = ys
  · subst e; simp
  · rw [decide_eq_false e, beq_eq_false_iff_ne]
    intro e2
    rw [ByteArray.toList_eq, ByteArray.toList_eq] at e2
    exact e (h.1 (by
      have : (strOfNums xs).data = (strOfNums ys).data := Array.toList_inj.1 e2
      cases hA : strOfNums xs; cases hB : strOfNums ys
      rw [hA, hB] at this
      simp at this
      rw [this]))

theorem lit_ints {W : World} (C : List Int) (fr : Nat × Nat) (n : Nat) (hn : n = C.length) (hm : n ≤ maxLen) : Ints (W.alloc (.cells (C.map (Value.int .u8)).toArray 5 fr)) .u8 (.slice (some ⟨W.heap.size, 0, none⟩) n n) C := by
  subst hn
  refine ⟨_, _, rfl, by simp, Nat.le_refl _, hm, fun _ => ⟨_, _, rfl, fun j u hu => ?_⟩⟩
  rw [World.cell?_alloc_mark]
  simpa using hu
end Go.Proofs.Ytamhkfnghgbenaa
