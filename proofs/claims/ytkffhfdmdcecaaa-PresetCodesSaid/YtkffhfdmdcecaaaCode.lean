/-
  code: the two kinds of codes; what each function computes.
-/
import Derived.Test.YtkffhfdmdcecaaaRows
import Derived.Test.YtkffhfdmdcecaaaBase
import Derived.Test.YtkffhfdmdcecaaaBits
import Derived.Test.YtkffhfdmdcecaaaCodeNum
namespace Go.Proofs.Ytkffhfdmdcecaaa
open Go.RowKit

theorem below_alloc2 (w : World) (o o' : Obj) : Below w.heap.size w ((w.alloc o).alloc o') := ((Below.refl _ _).alloc (Nat.le_refl _) _).alloc (by simp) _
theorem below_alloc (w : World) (o : Obj) : Below w.heap.size w (w.alloc o) := (Below.refl _ _).alloc (Nat.le_refl _) _

/-- The kind of length values: its closures have captured the cell at b. -/
def numV (b : Nat) : Value := .agg #[.int .i64 0, .int .i64 262144, .int .i64 44, .func (.func 40) #[] #[], .func (.func 42) #[] #[.pointer (some ⟨b, 0, none⟩)], .func (.func 43) #[] #[.pointer (some ⟨b, 0, none⟩)]]
def offV : Value := .agg #[.int .i64 1, .int .i64 268435456, .int .i64 28, .func (.func 45) #[] #[], .func (.func 46) #[] #[], .func (.func 47) #[] #[]]

set_option maxHeartbeats 400000 in
theorem numbers_any (w : World) : Calls Try.prog 34 #[] w fun e w' =>
    e = .returned (numV (w.heap.size + 1)) ∧ w'.cell? ⟨w.heap.size + 1, 0, none⟩ = some (.func (.func 39) #[] #[]) ∧ Below w.heap.size w w' ∧ w.heap.size + 1 < w'.heap.size := by
  go_enter Try.func34, Try.ntmps34
  go_wp2
  refine bodyPost_ret (v := numV (w.heap.size + 1)) (by simp [results, Try.results34, go_sem, numV]) rfl ⟨rfl, by go_simp, below_alloc2 _ _ _, by simp⟩
set_option maxHeartbeats 400000 in
theorem offsets_any (w : World) : Calls Try.prog 36 #[] w fun e w' => e = .returned offV ∧ Below w.heap.size w w' := by
  go_enter Try.func36, Try.ntmps36
  go_wp2
  refine bodyPost_ret (v := offV) (by simp [results, Try.results36, go_sem, offV]) rfl ⟨rfl, below_alloc _ _⟩

set_option maxHeartbeats 400000 in
theorem lcode_any (v : Int) (h0 : 0 ≤ v) (h1 : v < 262144) (w : World) : Calls Try.prog 40 #[.int .i64 v] w fun e w' => e = .returned (.int .i64 (lcode v)) ∧ w = w' := by
  by_cases h : v < 16
  · have e : lcode v = v := if_pos h
    rw [e]
    clear e
    go_enter Try.func40, Try.ntmps40
    go_wp2
    go_ret
    exact ⟨rfl, rfl⟩
  · have h16 : 16 ≤ v := by omega
    have hw : ∀ L : Int, L = ((Lib.bitLen v.toNat : Nat) : Int) → wrap64 (8 + 2 * (L - 1) + bits .and .i64 (v / 2 ^ (L.toNat - 1 - 1)) 1) = lcode v := fun L hL => by rw [← wrapEq]; exact lcode_walk h16 h1 hL
    have hbnd : 5 ≤ ((Lib.bitLen v.toNat : Nat) : Int) ∧ ((Lib.bitLen v.toNat : Nat) : Int) ≤ 18 := by
      obtain ⟨k, k0, k1, kb, -, -⟩ := oct_l h16 h1
      omega
    have HW := Lib.hid hw
    have HB := Lib.hid hbnd
    clear hw hbnd
    go_enter Try.func40, Try.ntmps40
    go_wp2_with fail
    refine (Try.bits_Len _ _ (by omega) (by omega)).mono ?_
    rintro e w' ⟨rfl, rfl⟩
    obtain ⟨L, hL⟩ : ∃ L : Int, L = ((Lib.bitLen v.toNat : Nat) : Int) := ⟨_, rfl⟩
    rw [← hL]
    have hb := HB.out
    rw [← hL] at hb
    obtain ⟨hb1, hb2⟩ := hb
    have HL := Lib.hid (HW.out L hL)
    clear hL
    go_wp2
    go_ret
    exact ⟨ret_int HL.out, rfl⟩
set_option maxHeartbeats 400000 in
theorem ocode_any (v : Int) (h0 : 1 ≤ v) (h1 : v < 268435456) (w : World) : Calls Try.prog 45 #[.int .i64 v] w fun e w' => e = .returned (.int .i64 (ocode v)) ∧ w = w' := by
  have hbnd : 1 ≤ ((Lib.bitLen v.toNat : Nat) : Int) ∧ ((Lib.bitLen v.toNat : Nat) : Int) ≤ 28 := by
    obtain ⟨k, k1, kb, -, -⟩ := oct_o h0 h1
    omega
  have HB := Lib.hid hbnd
  clear hbnd
  go_enter Try.func45, Try.ntmps45
  go_wp2_with fail
  refine (Try.bits_Len _ _ (by omega) (by omega)).mono ?_
  rintro e w' ⟨rfl, rfl⟩
  obtain ⟨L, hL⟩ : ∃ L : Int, L = ((Lib.bitLen v.toNat : Nat) : Int) := ⟨_, rfl⟩
  rw [← hL]
  have hb := HB.out
  rw [← hL] at hb
  obtain ⟨hb1, hb2⟩ := hb
  have HL := Lib.hid hL
  clear hL
  go_wp2
  go_ret
  exact ⟨ret_int (by rw [HL.out]; rfl), rfl⟩
set_option maxHeartbeats 400000 in
theorem lbits_any (c : Int) (h0 : 0 ≤ c) (h1 : c < 44) (b : Nat) (w : World) (hb : w.cell? ⟨b, 0, none⟩ = some (.func (.func 39) #[] #[])) :
    Calls Try.prog 42 #[.int .i64 c, .pointer (some ⟨b, 0, none⟩)] w fun e w' => e = .returned (.int .i64 (lbits c)) ∧ w = w' := by
  by_cases h : c < 16
  · have e : lbits c = 0 := if_pos h
    rw [e]
    clear e
    go_enter Try.func42, Try.ntmps42
    go_wp2
    go_ret
    exact ⟨rfl, rfl⟩
  · have h16 : 16 ≤ c := by omega
    go_enter Try.func42, Try.ntmps42
    go_wp2
    go_ret
    exact ⟨ret_int (by unfold lbits; rw [if_neg (by omega)]; omega), rfl⟩
set_option maxHeartbeats 400000 in
theorem lfirst_any (c : Int) (h0 : 0 ≤ c) (h1 : c < 44) (b : Nat) (w : World) (hb : w.cell? ⟨b, 0, none⟩ = some (.func (.func 39) #[] #[])) :
    Calls Try.prog 43 #[.int .i64 c, .pointer (some ⟨b, 0, none⟩)] w fun e w' => e = .returned (.int .i64 (lfirst c)) ∧ w = w' := by
  by_cases h : c < 16
  · have e : lfirst c = c := if_pos h
    rw [e]
    clear e
    go_enter Try.func43, Try.ntmps43
    go_wp2
    go_ret
    exact ⟨rfl, rfl⟩
  · have h16 : 16 ≤ c := by omega
    have hw : wrap64 (wrap64 (2 + bits .and .i64 c 1) * 2 ^ (max (c / 2 - 5) 0).toNat) = lfirst c := by rw [← wrapEq, ← wrapEq]; exact lfirst_walk h16 h1
    have HW := Lib.hid hw
    clear hw
    go_enter Try.func43, Try.ntmps43
    go_wp2
    go_ret
    exact ⟨ret_int HW.out, rfl⟩
set_option maxHeartbeats 400000 in
theorem ofirst_any (c : Int) (h0 : 0 ≤ c) (h1 : c < 28) (w : World) : Calls Try.prog 47 #[.int .i64 c] w fun e w' => e = .returned (.int .i64 (ofirst c)) ∧ w = w' := by
  have hw : wrap64 (2 ^ c.toNat) = ofirst c := by
    rw [← wrapEq]
    have := ofirst_top h0 h1
    have h2 : (0 : Int) < 2 ^ c.toNat := Int.pow_pos (by decide)
    rw [IntKind.wrap_i64]; unfold ofirst at *; omega
  have HW := Lib.hid hw
  clear hw
  go_enter Try.func47, Try.ntmps47
  go_wp2
  go_ret
  exact ⟨ret_int HW.out, rfl⟩

theorem numV_unfold (b : Nat) : numV b = .agg #[.int .i64 0, .int .i64 262144, .int .i64 44, .func (.func 40) #[] #[], .func (.func 42) #[] #[.pointer (some ⟨b, 0, none⟩)], .func (.func 43) #[] #[.pointer (some ⟨b, 0, none⟩)]] := rfl
theorem offV_unfold : offV = .agg #[.int .i64 1, .int .i64 268435456, .int .i64 28, .func (.func 45) #[] #[], .func (.func 46) #[] #[], .func (.func 47) #[] #[]] := rfl

end Go.Proofs.Ytkffhfdmdcecaaa
