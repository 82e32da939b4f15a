/-
  Bytes as strings; the reference's Same.
-/
import Derived.Test.YtohmkcoodaidcaaRfCopy
import Derived.Laws.BytesArg
namespace Go.Proofs.Ytohmkcoodaidcaa
open Go.RowKit

theorem conv_str {w : World} {A : Option Addr} {n c : Nat} {xs : List Int} (h : Ints w .u8 (.slice A n c) xs) : (convert 27 9 (.slice A n c)).run Try.prog w = .ok (.string (strOfNums xs)) w := by
  obtain ⟨A', c', hv, hl, -, -, hr⟩ := h
  injection hv with h1 h2 h3
  subst h1 h2 h3
  rcases Nat.eq_zero_or_pos xs.length with h0 | h0
  · obtain rfl := List.eq_nil_of_length_eq_zero h0
    rcases A with _ | ⟨b, off, sp⟩
    · exact run_convert_bytes_nil w _ _ Try.underlying27 Try.underlying5 _ _ _ Try.underlying9
    · have hl0 : (loadCells ⟨b, off, sp⟩ 0).run Try.prog w = .ok (([] : List Int).map (Value.int .u8)).toArray w := by simp [loadCells, loadCellsFrom]
      have := run_bytesToString w _ 0 c [] hl0
      simp only [List.length_nil]
      rw [run_convert_bytes_string w _ _ _ _ 0 c Try.underlying27 Try.underlying5 Try.underlying9, this]
      rfl
  · obtain ⟨b, off, rfl, hcell⟩ := hr h0
    refine run_convert_bytes_arg w _ _ Try.underlying27 Try.underlying5 b off xs.length c xs rfl (fun i hi => ?_) _ Try.underlying9
    rw [hcell i (.int .u8 (xs.getD i 0)) (by simp [List.getD_eq_getElem?_getD, List.getElem?_eq_getElem hi])]

theorem str_inj {xs ys : List Int} (hx : U8s xs) (hy : U8s ys) : strOfNums xs = strOfNums ys ↔ xs = ys := by
  refine ⟨fun h => ?_, fun h => by rw [h]⟩
  have h1 : xs.map (fun n => UInt8.ofNat n.toNat) = ys.map (fun n => UInt8.ofNat n.toNat) := by rw [← strOfNums_data, ← strOfNums_data, h]
  clear h
  induction xs generalizing ys with
  | nil =>
    cases ys with
    | nil => rfl
    | cons y ys => simp at h1
  | cons x xs ih =>
    cases ys with
    | nil => simp at h1
    | cons y ys =>
      simp only [List.map_cons, List.cons.injEq] at h1
      have hx0 := hx x (by simp)
      have hy0 := hy y (by simp)
      have h2 : x.toNat = y.toNat := by
        have := congrArg UInt8.toNat h1.1
        simp only [UInt8.toNat_ofNat'] at this
        omega
      rw [show x = y by omega, ih (fun z hz => hx z (by simp [hz])) (fun z hz => hy z (by simp [hz])) h1.2]

/-- Strings compared, as the walk spells it. -/
theorem str_beq {xs ys : List Int} (hx : U8s xs) (hy : U8s ys) : ((strOfNums xs).toList == (strOfNums ys).toList) = listEq xs ys := by
  have h := str_inj hx hy
  unfold listEq
  by_cases e : xs = ys
  · subst e; simp
  · rw [decide_eq_false e, beq_eq_false_iff_ne]
    intro e2
    rw [ByteArray.toList_eq, ByteArray.toList_eq] at e2
    exact e (h.1 (by
      have : (strOfNums xs).data = (strOfNums ys).data := Array.toList_inj.1 e2
      cases hA : strOfNums xs; cases hB : strOfNums ys
      rw [hA, hB] at this
      simp at this
      rw [this]))

theorem refSame_any (w : World) (S S' : Nat) (cv cv' : Value) (T T' : Nat) (C C' : List Int) (hC : Ints w .u8 cv C) (hC' : Ints w .u8 cv' C') (hu : U8s C) (hu' : U8s C') :
    Calls Try.prog 25 #[rv S cv T, rv S' cv' T'] w fun e w' => e = .returned (.bool (decide (S = S') && listEq C C')) ∧ Below w.heap.size w w' := by
  obtain ⟨A, n, c, rfl, -⟩ := hC.get
  obtain ⟨A', n', c', rfl, -⟩ := hC'.get
  have HB := Lib.hid (((Below.refl w.heap.size w).alloc (Nat.le_refl _) (.cells #[.int .i64 S, .slice A n c, .int .i64 T] 36)).alloc (by simp) (.cells #[.int .i64 S', .slice A' n' c', .int .i64 T'] 36))
  have q1 := conv_str (hC.alloc2 (.cells #[.int .i64 S, .slice A n c, .int .i64 T] 36) (.cells #[.int .i64 S', .slice A' n' c', .int .i64 T'] 36))
  have q2 := conv_str (hC'.alloc2 (.cells #[.int .i64 S, .slice A n c, .int .i64 T] 36) (.cells #[.int .i64 S', .slice A' n' c', .int .i64 T'] 36))
  have HEQ := Lib.hid (str_beq hu hu')
  clear hC hC' hu hu'
  unfold rv
  by_cases hS : S = S'
  · subst hS
    go_enter Try.func25, Try.ntmps25
    go_wp2
    go_ret
    exact ⟨ret_bool (by rw [← HEQ.out]; simp), HB.out⟩
  · have h1 : ((S : Int) == (S' : Int)) = false := by simp; omega
    have hd : decide (S = S') = false := decide_eq_false hS
    have HD := Lib.hid hd
    clear hd hS
    go_enter Try.func25, Try.ntmps25
    go_wp2
    go_ret
    exact ⟨ret_bool (by rw [HD.out]; rfl), HB.out⟩
end Go.Proofs.Ytohmkcoodaidcaa
