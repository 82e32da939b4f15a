/-
  code: both kinds of codes under one name each. No program in sight.
-/
import Derived.Test.YtkffhfdmdcecaaaCodeNum
namespace Go.Proofs.Ytkffhfdmdcecaaa
open Go.RowKit

/-- The number of codes of a kind; the bits and the first value of a code. -/
def kN (off : Bool) : Int := if off then 28 else 44
def kBits (off : Bool) (c : Int) : Int := if off then c else lbits c
def kFirst (off : Bool) (c : Int) : Int := if off then ofirst c else lfirst c

/-- The range of a kind's values; a value's code. -/
def kLeast (off : Bool) : Int := if off then 1 else 0
def kTop (off : Bool) : Int := if off then 268435456 else 262144
def kCode (off : Bool) (v : Int) : Int := if off then ocode v else lcode v
def kIn (off : Bool) (v : Int) : Prop := kLeast off ≤ v ∧ v < kTop off
instance (off : Bool) (v : Int) : Decidable (kIn off v) := by unfold kIn; infer_instance
/-- Split's three answers. -/
def kc (off : Bool) (v : Int) : Int := if kIn off v then kCode off v else 0
def kr (off : Bool) (v : Int) : Int := if kIn off v then v - kFirst off (kCode off v) else 0
def ke (off : Bool) (v : Int) : Int := if kIn off v then 0 else 2
/-- Join's two answers. -/
def jOk (off : Bool) (c r : Int) : Prop := 0 ≤ c ∧ c < kN off ∧ r < 2 ^ (kBits off c).toNat
instance (off : Bool) (c r : Int) : Decidable (jOk off c r) := by unfold jOk; infer_instance
def jv (off : Bool) (c r : Int) : Int := if jOk off c r then kFirst off c + r else 0
def je (off : Bool) (c r : Int) : Int := if jOk off c r then 0 else 2

theorem two_pow27 {n : Nat} (h : n ≤ 27) : (2 : Int) ^ n ≤ 134217728 := by
  have h1 : ((2 ^ n : Nat) : Int) ≤ ((2 ^ 27 : Nat) : Int) := Int.ofNat_le.2 (Nat.pow_le_pow_right (by decide) h)
  rw [Int.natCast_pow, Int.natCast_pow] at h1
  exact Int.le_trans h1 (by decide)
theorem kFirst_next {off : Bool} {c : Int} (h0 : 0 ≤ c) (h1 : c < kN off) : kFirst off (c + 1) = kFirst off c + 2 ^ (kBits off c).toNat := by
  cases off with
  | true =>
    simp [kFirst, kBits, kN] at *
    rcases (show c < 27 ∨ c = 27 by omega) with h | rfl
    · exact ofirst_next h0 h
    · decide
  | false =>
    simp [kFirst, kBits, kN] at *
    rcases (show c < 43 ∨ c = 43 by omega) with h | rfl
    · exact lfirst_next h0 h
    · decide
theorem kFirst_zero (off : Bool) : kFirst off 0 = kLeast off := by cases off <;> decide
theorem kFirst_top (off : Bool) : kFirst off (kN off) = kTop off := by cases off <;> decide
theorem kBits_bd {off : Bool} {c : Int} (h0 : 0 ≤ c) (h1 : c < kN off) : 0 ≤ kBits off c ∧ kBits off c ≤ 27 := by
  cases off with
  | true => simp [kBits, kN] at *; omega
  | false => simp [kBits, kN] at *; have := lfirst_top h0 h1; omega
theorem kFirst_bd {off : Bool} {c : Int} (h0 : 0 ≤ c) (h1 : c < kN off) : 0 ≤ kFirst off c ∧ kFirst off c + 2 ^ (kBits off c).toNat ≤ 268435456 := by
  cases off with
  | true => simp [kFirst, kBits, kN] at *; have := ofirst_top h0 h1; omega
  | false => simp [kFirst, kBits, kN] at *; have := lfirst_top h0 h1; omega
theorem kCode_unique {off : Bool} {c v : Int} (h0 : 0 ≤ c) (h1 : c < kN off) (hl : kFirst off c ≤ v) (hh : v < kFirst off c + 2 ^ (kBits off c).toNat) : kIn off v ∧ kCode off v = c := by
  cases off with
  | true =>
    simp [kFirst, kBits, kN] at *
    have := ocode_unique h0 h1 hl hh
    exact ⟨⟨by simp [kLeast]; omega, by simp [kTop]; omega⟩, by simp [kCode]; exact this.2.2⟩
  | false =>
    simp [kFirst, kBits, kN] at *
    have := lcode_unique h0 h1 hl hh
    exact ⟨⟨by simp [kLeast]; omega, by simp [kTop]; omega⟩, by simp [kCode]; exact this.2.2⟩
theorem kCode_spec {off : Bool} {v : Int} (h : kIn off v) : 0 ≤ kCode off v ∧ kCode off v < kN off ∧ kFirst off (kCode off v) ≤ v ∧ v < kFirst off (kCode off v) + 2 ^ (kBits off (kCode off v)).toNat := by
  cases off with
  | true => simp [kFirst, kBits, kN, kCode, kIn, kLeast, kTop] at *; exact ocode_spec h.1 h.2
  | false => simp [kFirst, kBits, kN, kCode, kIn, kLeast, kTop] at *; exact lcode_spec h.1 h.2
end Go.Proofs.Ytkffhfdmdcecaaa
