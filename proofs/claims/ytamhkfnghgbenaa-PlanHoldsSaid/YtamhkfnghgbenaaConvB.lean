/-
  []byte of a string.
-/
import Derived.Lib.ConvBytes
import Derived.Test.YtamhkfnghgbenaaBytes
namespace Go.Proofs.Ytamhkfnghgbenaa
set_option linter.all false
open Go.RowKit

/-- The bytes of a string. -/
theorem conv_bytes (W : World) {xs : List Int} (hx : U8s xs) (hl : xs.length ≤ 1000000) : ∃ c W', (convert 9 34 (.string (strOfNums xs))).run Try.prog W = .ok (.slice (some ⟨W.heap.size, 0, none⟩) xs.length c) W' ∧ Ints W' .u8 (.slice (some ⟨W.heap.size, 0, none⟩) xs.length c) xs ∧ Below W.heap.size W W' := by
  have h := Lib.run_convert_string_bytes (P := Try.prog) W 9 34 5 (strOfNums xs) Try.underlying9 Try.underlying34 Try.underlying5
  rw [strOfNums_size] at h
  refine ⟨_, _, h, ⟨_, _, rfl, by rw [List.length_map, Nat.mul_one], grownCap_ge _ _ _ _, grownCap_le_maxLen _ _ _ _ (by simp only [maxLen]; omega), fun h0 => ⟨_, _, rfl, fun j u hu => ?_⟩⟩, ?_⟩
  · rw [List.getElem?_map] at hu
    obtain ⟨x, hx1, rfl⟩ := Option.map_eq_some_iff.1 hu
    have hj := (List.getElem?_eq_some_iff.1 hx1).1
    rw [Nat.zero_add, Lib.bytesWorld_cell _ _ _ _ (by rw [strOfNums_size]; exact hj), strOfNums_data]
    have h2 := hx x (List.mem_of_getElem? hx1)
    rw [List.getD_eq_getElem?_getD, List.getElem?_map, hx1]
    simp
    omega
  · exact ⟨rfl, rfl, rfl, by rw [Lib.bytesWorld_size]; omega, fun j hj => Lib.bytesWorld_at_old _ _ _ _ hj⟩
end Go.Proofs.Ytamhkfnghgbenaa
