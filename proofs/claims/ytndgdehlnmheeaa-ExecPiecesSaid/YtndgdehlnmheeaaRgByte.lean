/-
  Ring: Byte, Last, Clone.
-/
import Derived.Test.YtndgdehlnmheeaaRgNew
import Derived.Deep.RegionHeld3
namespace Go.Proofs.Ytndgdehlnmheeaa
set_option maxRecDepth 100000
open Go.RowKit

theorem drewN_add (w : World) (m n : Nat) : (w.drewN m).drewN n = w.drewN (m + n) := by simp [World.drewN, Nat.add_assoc]

theorem Ring.next2 {w w2 : World} {g : Nat} {v : Value} {S T : Nat} {st : List Int} (h : Ring w g v S st T) (hm : ∃ m, w2 = w.drew.drewN m) : Ring w2 g v S st T := by
  obtain ⟨m, rfl⟩ := hm; exact (h.drewN 1).drewN m
theorem Ring.next3 {w w2 : World} {g : Nat} {v : Value} {S T : Nat} {st : List Int} (h : Ring w g v S st T) (hm : ∃ m, w2 = w.drewN m) : Ring w2 g v S st T := by
  obtain ⟨m, rfl⟩ := hm; exact h.drewN m
theorem below_draws {w w2 : World} (hm : ∃ m, w2 = w.drew.drewN m) : Below w.heap.size w w2 := by
  obtain ⟨m, rfl⟩ := hm; exact below_drewN (Below.refl _ w).drew m
theorem below_next3 {B : Nat} {w w2 w3 : World} (h : Below B w w2) (hm : ∃ m, w3 = w2.drewN m) : Below B w w3 := by
  obtain ⟨m, rfl⟩ := hm; exact below_drewN h m
theorem AtInts.next3 {w w2 : World} {k : IntKind} {A : Option Addr} {n : Nat} {xs : List Int} (h : AtInts w k A n xs) (hm : ∃ m, w2 = w.drewN m) : AtInts w2 k A n xs := by
  obtain ⟨m, rfl⟩ := hm; exact h

/-- A slice of the call's own: what Last gives. -/
structure Cloned (w w' : World) (v : Value) (xs : List Int) : Prop where
  row : Row w' v xs
  own : ∀ k, v.ownBlock = some k → w.heap.size ≤ k
  below : Below w.heap.size w w'

theorem last_none (w : World) {g : Nat} {v : Value} {S T : Nat} {st : List Int} (h : Ring w g v S st T) (n : Int) (hn : n < 1) :
    Calls Try.prog 15 #[rp g, .int .i64 n] w fun e w' => ∃ v', e = .returned v' ∧ Cloned w w' v' [] := by
  have HB := Lib.hid h.blk
  have HP := Lib.hid h.pos
  clear h
  unfold rp
  go_enter Try.func15, Try.ntmps15
  go_wp2_with (go_at_call 33; refine (none_ring _ HB.out HP.out).mono ?_; rintro e w1 ⟨rfl, rfl⟩)
  go_ret
  exact ⟨_, rfl, Row.nil _, (fun k hk => by cases hk), Below.refl _ _⟩

theorem last_some (w : World) {g : Nat} {v : Value} {S T : Nat} {st : List Int} (h : Ring w g v S st T) (n : Nat) (hn : 1 ≤ n) :
    Calls Try.prog 15 #[rp g, .int .i64 n] w fun e w' => ∃ v', e = .returned v' ∧ Cloned w w' v' (lastN n (lastN S st)) := by
  have HR := Lib.hid h
  have HB := Lib.hid h.blk
  have HP := Lib.hid h.pos
  obtain ⟨c0, c1, c2, -⟩ := ring_cells h.blk
  obtain ⟨L, hL⟩ : ∃ L, min S st.length = L := ⟨_, rfl⟩
  have hLL : (lastN n (lastN S st)) = lastN (min n L) st := by
    rw [← hL]
    unfold lastN
    rw [List.drop_drop]
    congr 1
    simp
    omega
  have hle : min n L ≤ st.length := by omega
  rw [hLL]
  obtain ⟨M, hM⟩ : ∃ M, min n L = M := ⟨_, rfl⟩
  have hMi : min (n : Int) (L : Int) = (M : Int) := by omega
  rw [hM] at hle ⊢
  have hM2 : M ≤ 268435456 := by have := h.max; have := h.len; omega
  have HL := Lib.hid hL
  have HM := Lib.hid hle
  have HML := Lib.hid (show (lastN M st).length = M by rw [lastN_length]; omega)
  have HMB := Lib.hid hM2
  have e1 : ¬ (n : Int) < 1 := by omega
  clear h hL hLL
  by_cases hlt : L < n
  · obtain rfl : L = M := by omega
    have hlt' : (L : Int) < (n : Int) := by omega
    clear hle hM hM2 hMi
    unfold rp
    go_enter Try.func15, Try.ntmps15
    go_wp2_with (go_at_call 33; refine (none_ring _ HB.out HP.out).mono ?_; rintro e w1 ⟨rfl, rfl⟩)
    go_region_held3 (fun w' => Hid (Below w1.heap.size w1 w'))
      (first | exact (Below.refl _ w1).drew | exact HB1 | exact HB2 | exact HB3)
      (first
        | (go_at_call 36; refine (len_ring w1.drew (HR.out.drewN 1)).mono ?_; rw [HL.out]; rintro e w2 ⟨rfl, hm2⟩; have HR2 := Lib.hid (HR.out.next2 hm2); have HB1 := Lib.hid (below_draws hm2); clear hm2)
        | (go_at_call 35; refine (end_ring w2 HR2.out L HM.out).mono ?_; rintro e w3 ⟨⟨A, rfl, hat⟩, hm3⟩; have HAT := Lib.hid (hat.next3 hm3); have HB2 := Lib.hid (below_next3 HB1.out hm3); clear hat hm3)
        | (go_at_call 34; refine (clone_any w3 _ (lastN L st) (HAT.out.ints (Nat.le_refl _) (by simp only [maxLen]; have := HMB.out; omega)) (by rw [HML.out]; have := HMB.out; omega)).mono ?_; rw [HML.out]; rintro e w4 ⟨A1, c1, rfl, h1, h2, h3⟩; have HW := Lib.hid h1; have HO := Lib.hid (fun k hk => Nat.le_trans HB2.out.size (h2 k hk)); have HB3 := Lib.hid (HB2.out.trans (h3.mono HB2.out.size)); clear h1 h2 h3))
    all_goals
      go_wp2
      go_ret
      exact ⟨_, rfl, HW.out, HO.out, HB3.out⟩
  · obtain rfl : n = M := by omega
    have hlt' : ¬ (L : Int) < (n : Int) := by omega
    clear hle hM hM2 hMi
    unfold rp
    go_enter Try.func15, Try.ntmps15
    go_wp2_with (go_at_call 33; refine (none_ring _ HB.out HP.out).mono ?_; rintro e w1 ⟨rfl, rfl⟩)
    go_region_held3 (fun w' => Hid (Below w1.heap.size w1 w'))
      (first | exact (Below.refl _ w1).drew | exact HB1 | exact HB2 | exact HB3)
      (first
        | (go_at_call 36; refine (len_ring w1.drew (HR.out.drewN 1)).mono ?_; rw [HL.out]; rintro e w2 ⟨rfl, hm2⟩; have HR2 := Lib.hid (HR.out.next2 hm2); have HB1 := Lib.hid (below_draws hm2); clear hm2)
        | (go_at_call 35; refine (end_ring w2 HR2.out n HM.out).mono ?_; rintro e w3 ⟨⟨A, rfl, hat⟩, hm3⟩; have HAT := Lib.hid (hat.next3 hm3); have HB2 := Lib.hid (below_next3 HB1.out hm3); clear hat hm3)
        | (go_at_call 34; refine (clone_any w3 _ (lastN n st) (HAT.out.ints (Nat.le_refl _) (by simp only [maxLen]; have := HMB.out; omega)) (by rw [HML.out]; have := HMB.out; omega)).mono ?_; rw [HML.out]; rintro e w4 ⟨A1, c1, rfl, h1, h2, h3⟩; have HW := Lib.hid h1; have HO := Lib.hid (fun k hk => Nat.le_trans HB2.out.size (h2 k hk)); have HB3 := Lib.hid (HB2.out.trans (h3.mono HB2.out.size)); clear h1 h2 h3))
    all_goals
      go_wp2
      go_ret
      exact ⟨_, rfl, HW.out, HO.out, HB3.out⟩
end Go.Proofs.Ytndgdehlnmheeaa
