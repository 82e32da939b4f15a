/-
  code: the plain law of the two kinds of codes. No program in sight.
-/
import Derived.Test.YtkffhfdmdcecaaaBase
import Derived.Lib.BitFns
import Derived.Lib.ItoaNum
import Derived.Laws.BitsAllLaws
import Derived.Laws.BitsLemmas
namespace Go.Proofs.Ytkffhfdmdcecaaa
open Go.RowKit

theorem wrapEq (x : Int) : IntKind.i64.wrap x = wrap64 x := Go.IntWalk.i64_left x
theorem ofInt_i64 (a : Nat) (ha : a < 9223372036854775808) : (BitVec.ofInt 64 (a : Int)).toNat = a := by
  rw [BitVec.ofInt_natCast, BitVec.toNat_ofNat]; exact Nat.mod_eq_of_lt (by omega)
theorem i64_and_nat (a b : Nat) (ha : a < 9223372036854775808) (hb : b < 9223372036854775808) : bits .and .i64 (a : Int) (b : Int) = ((a &&& b : Nat) : Int) := by
  have hx : a &&& b < 2 ^ 63 := Nat.and_lt_two_pow _ (by omega)
  show IntKind.i64.wrap ((BitVec.ofInt 64 (a : Int) &&& BitVec.ofInt 64 (b : Int)).toNat : Int) = _
  rw [BitVec.toNat_and, ofInt_i64 a ha, ofInt_i64 b hb, IntKind.wrap_i64]
  omega
theorem i64_and_one (x : Int) (h0 : 0 ≤ x) (h1 : x < 9223372036854775808) : bits .and .i64 x 1 = x % 2 := by
  obtain ⟨a, rfl⟩ := Int.eq_ofNat_of_zero_le h0
  have := i64_and_nat a 1 (by omega) (by omega)
  rw [Nat.and_one_is_mod] at this
  simpa using this

/-- The bit length of a value in its octave. -/
theorem bitLen_oct (v : Nat) (h0 : v ≠ 0) (h : v < 18446744073709551616) : 1 ≤ Lib.bitLen v ∧ 2 ^ (Lib.bitLen v - 1) ≤ v ∧ v < 2 ^ Lib.bitLen v :=
  Lib.bitLenAux_bounds 64 v (by simpa using h) h0
theorem bitLen_eq (v k : Nat) (h0 : 2 ^ k ≤ v) (h1 : v < 2 ^ (k + 1)) (h : v < 18446744073709551616) : Lib.bitLen v = k + 1 := by
  have hv : v ≠ 0 := by have := Nat.two_pow_pos k; omega
  obtain ⟨a, b, c⟩ := bitLen_oct v hv h
  have h2 : ¬ Lib.bitLen v < k + 1 := fun hlt => by
    have := Nat.pow_le_pow_right (show 0 < 2 by decide) (show Lib.bitLen v ≤ k by omega)
    omega
  have h3 : ¬ k + 1 < Lib.bitLen v := fun hlt => by
    have := Nat.pow_le_pow_right (show 0 < 2 by decide) (show k + 1 ≤ Lib.bitLen v - 1 by omega)
    omega
  omega

/-- Length values. -/
def lcode (v : Int) : Int := if v < 16 then v else 8 + 2 * ((Lib.bitLen v.toNat : Int) - 1) + v / 2 ^ (Lib.bitLen v.toNat - 2) % 2
def lbits (c : Int) : Int := if c < 16 then 0 else c / 2 - 5
def lfirst (c : Int) : Int := if c < 16 then c else (2 + c % 2) * 2 ^ (c / 2 - 5).toNat
/-- Offset values. -/
def ocode (v : Int) : Int := (Lib.bitLen v.toNat : Int) - 1
def ofirst (c : Int) : Int := 2 ^ c.toNat

/-- The octave of a length value. -/
theorem oct_l {v : Int} (h0 : 16 ≤ v) (h1 : v < 262144) :
    ∃ k : Nat, 4 ≤ k ∧ k ≤ 17 ∧ Lib.bitLen v.toNat = k + 1 ∧ (2 : Int) ^ k ≤ v ∧ v < 2 ^ (k + 1) := by
  obtain ⟨n, rfl⟩ := Int.eq_ofNat_of_zero_le (show 0 ≤ v by omega)
  have hn : n ≠ 0 := by omega
  obtain ⟨a, b, c⟩ := bitLen_oct n hn (by omega)
  have h5 : 5 ≤ Lib.bitLen n := Decidable.byContradiction fun h => by
    have := Nat.pow_le_pow_right (show 0 < 2 by decide) (show Lib.bitLen n ≤ 4 by omega)
    omega
  have h18 : Lib.bitLen n ≤ 18 := Decidable.byContradiction fun h => by
    have := Nat.pow_le_pow_right (show 0 < 2 by decide) (show 18 ≤ Lib.bitLen n - 1 by omega)
    omega
  refine ⟨Lib.bitLen n - 1, by omega, by omega, by simp; omega, ?_, ?_⟩
  · exact_mod_cast b
  · have e : Lib.bitLen n - 1 + 1 = Lib.bitLen n := by omega
    rw [e]; exact_mod_cast c
theorem oct_o {v : Int} (h0 : 1 ≤ v) (h1 : v < 268435456) :
    ∃ k : Nat, k ≤ 27 ∧ Lib.bitLen v.toNat = k + 1 ∧ (2 : Int) ^ k ≤ v ∧ v < 2 ^ (k + 1) := by
  obtain ⟨n, rfl⟩ := Int.eq_ofNat_of_zero_le (show 0 ≤ v by omega)
  have hn : n ≠ 0 := by omega
  obtain ⟨a, b, c⟩ := bitLen_oct n hn (by omega)
  have h18 : Lib.bitLen n ≤ 28 := Decidable.byContradiction fun h => by
    have := Nat.pow_le_pow_right (show 0 < 2 by decide) (show 28 ≤ Lib.bitLen n - 1 by omega)
    omega
  refine ⟨Lib.bitLen n - 1, by omega, by simp; omega, ?_, ?_⟩
  · exact_mod_cast b
  · have e : Lib.bitLen n - 1 + 1 = Lib.bitLen n := by omega
    rw [e]; exact_mod_cast c

/-- Every length value lies among its code's values. -/
theorem lcode_spec {v : Int} (h0 : 0 ≤ v) (h1 : v < 262144) : 0 ≤ lcode v ∧ lcode v < 44 ∧ lfirst (lcode v) ≤ v ∧ v < lfirst (lcode v) + 2 ^ (lbits (lcode v)).toNat := by
  by_cases h : v < 16
  · have e : lcode v = v := if_pos h
    rw [e]
    refine ⟨h0, by omega, ?_, ?_⟩
    · simp [lfirst, h]
    · simp [lfirst, lbits, h]; omega
  · obtain ⟨k, k0, k1, kb, kl, kh⟩ := oct_l (by omega) h1
    have e : lcode v = 8 + 2 * (k : Int) + v / 2 ^ (k - 1) % 2 := by
      unfold lcode
      rw [if_neg h, kb]
      have : k + 1 - 2 = k - 1 := by omega
      rw [this]
      omega
    have h2 := Int.emod_two_eq (v / 2 ^ (k - 1))
    rcases (show k = 4 ∨ k = 5 ∨ k = 6 ∨ k = 7 ∨ k = 8 ∨ k = 9 ∨ k = 10 ∨ k = 11 ∨ k = 12 ∨ k = 13 ∨ k = 14 ∨ k = 15 ∨ k = 16 ∨ k = 17 by omega) with rfl | rfl | rfl | rfl | rfl | rfl | rfl | rfl | rfl | rfl | rfl | rfl | rfl | rfl
    all_goals
      rcases h2 with hb | hb
      all_goals
        rw [hb] at e
        simp at e kl kh hb
        rw [e]
        refine ⟨by decide, by decide, ?_, ?_⟩
        · simp [lfirst]; omega
        · simp [lfirst, lbits]; omega
theorem ocode_spec {v : Int} (h0 : 1 ≤ v) (h1 : v < 268435456) : 0 ≤ ocode v ∧ ocode v < 28 ∧ ofirst (ocode v) ≤ v ∧ v < ofirst (ocode v) + 2 ^ (ocode v).toNat := by
  obtain ⟨k, k1, kb, kl, kh⟩ := oct_o h0 h1
  have e : ocode v = k := by unfold ocode; rw [kb]; omega
  rw [e]
  refine ⟨by omega, by omega, ?_, ?_⟩
  · simpa [ofirst] using kl
  · rw [Int.pow_succ] at kh; simp [ofirst]; omega

theorem lgap : ∀ c d : Fin 44, c.1 < d.1 → lfirst (c.1 : Int) + 2 ^ (lbits (c.1 : Int)).toNat ≤ lfirst (d.1 : Int) := by decide +kernel
theorem lgap_top : ∀ c : Fin 44, 0 ≤ lfirst (c.1 : Int) ∧ 0 ≤ lbits (c.1 : Int) ∧ lbits (c.1 : Int) ≤ 16 ∧ lfirst (c.1 : Int) + 2 ^ (lbits (c.1 : Int)).toNat ≤ 262144 := by decide +kernel
theorem lnext : ∀ c : Fin 43, lfirst ((c.1 : Int) + 1) = lfirst (c.1 : Int) + 2 ^ (lbits (c.1 : Int)).toNat := by decide +kernel
theorem ogap : ∀ c d : Fin 28, c.1 < d.1 → ofirst (c.1 : Int) + 2 ^ (c.1 : Int).toNat ≤ ofirst (d.1 : Int) := by decide +kernel
theorem ogap_top : ∀ c : Fin 28, 1 ≤ ofirst (c.1 : Int) ∧ ofirst (c.1 : Int) + 2 ^ (c.1 : Int).toNat ≤ 268435456 := by decide +kernel
theorem onext : ∀ c : Fin 27, ofirst ((c.1 : Int) + 1) = ofirst (c.1 : Int) + 2 ^ (c.1 : Int).toNat := by decide +kernel

theorem lfirst_lt {c d : Int} (h0 : 0 ≤ c) (h1 : d < 44) (h : c < d) : lfirst c + 2 ^ (lbits c).toNat ≤ lfirst d := by
  obtain ⟨c, rfl⟩ := Int.eq_ofNat_of_zero_le h0
  obtain ⟨d, rfl⟩ := Int.eq_ofNat_of_zero_le (show 0 ≤ d by omega)
  exact lgap ⟨c, by omega⟩ ⟨d, by omega⟩ (by simpa using h)
theorem lfirst_top {c : Int} (h0 : 0 ≤ c) (h1 : c < 44) : 0 ≤ lfirst c ∧ 0 ≤ lbits c ∧ lbits c ≤ 16 ∧ lfirst c + 2 ^ (lbits c).toNat ≤ 262144 := by
  obtain ⟨c, rfl⟩ := Int.eq_ofNat_of_zero_le h0
  exact lgap_top ⟨c, by omega⟩
theorem lfirst_next {c : Int} (h0 : 0 ≤ c) (h1 : c < 43) : lfirst (c + 1) = lfirst c + 2 ^ (lbits c).toNat := by
  obtain ⟨c, rfl⟩ := Int.eq_ofNat_of_zero_le h0
  exact lnext ⟨c, by omega⟩
theorem ofirst_lt {c d : Int} (h0 : 0 ≤ c) (h1 : d < 28) (h : c < d) : ofirst c + 2 ^ c.toNat ≤ ofirst d := by
  obtain ⟨c, rfl⟩ := Int.eq_ofNat_of_zero_le h0
  obtain ⟨d, rfl⟩ := Int.eq_ofNat_of_zero_le (show 0 ≤ d by omega)
  exact ogap ⟨c, by omega⟩ ⟨d, by omega⟩ (by simpa using h)
theorem ofirst_top {c : Int} (h0 : 0 ≤ c) (h1 : c < 28) : 1 ≤ ofirst c ∧ ofirst c + 2 ^ c.toNat ≤ 268435456 := by
  obtain ⟨c, rfl⟩ := Int.eq_ofNat_of_zero_le h0
  exact ogap_top ⟨c, by omega⟩
theorem ofirst_next {c : Int} (h0 : 0 ≤ c) (h1 : c < 27) : ofirst (c + 1) = ofirst c + 2 ^ c.toNat := by
  obtain ⟨c, rfl⟩ := Int.eq_ofNat_of_zero_le h0
  exact onext ⟨c, by omega⟩

/-- The code is the one among whose values the value lies. -/
theorem lcode_unique {c v : Int} (h0 : 0 ≤ c) (h1 : c < 44) (hl : lfirst c ≤ v) (hh : v < lfirst c + 2 ^ (lbits c).toNat) : 0 ≤ v ∧ v < 262144 ∧ lcode v = c := by
  obtain ⟨a, _, _, d⟩ := lfirst_top h0 h1
  have hv0 : 0 ≤ v := by omega
  have hv1 : v < 262144 := by omega
  refine ⟨hv0, hv1, ?_⟩
  obtain ⟨e0, e1, e2, e3⟩ := lcode_spec hv0 hv1
  rcases Int.lt_trichotomy (lcode v) c with h | h | h
  · have := lfirst_lt e0 h1 h; omega
  · exact h
  · have := lfirst_lt h0 e1 h; omega
theorem ocode_unique {c v : Int} (h0 : 0 ≤ c) (h1 : c < 28) (hl : ofirst c ≤ v) (hh : v < ofirst c + 2 ^ c.toNat) : 1 ≤ v ∧ v < 268435456 ∧ ocode v = c := by
  obtain ⟨a, d⟩ := ofirst_top h0 h1
  have hv0 : 1 ≤ v := by omega
  have hv1 : v < 268435456 := by omega
  refine ⟨hv0, hv1, ?_⟩
  obtain ⟨e0, e1, e2, e3⟩ := ocode_spec hv0 hv1
  rcases Int.lt_trichotomy (ocode v) c with h | h | h
  · have := ofirst_lt e0 h1 h; omega
  · exact h
  · have := ofirst_lt h0 e1 h; omega
/-- The walk's own spelling of the code. -/
theorem lcode_walk {v L : Int} (h0 : 16 ≤ v) (h1 : v < 262144) (hL : L = ((Lib.bitLen v.toNat : Nat) : Int)) :
    IntKind.i64.wrap (8 + 2 * (L - 1) + bits .and .i64 (v / 2 ^ (L.toNat - 1 - 1)) 1) = lcode v := by
  obtain ⟨k, k0, k1, kb, kl, kh⟩ := oct_l h0 h1
  have hq : 0 ≤ v / 2 ^ (L.toNat - 1 - 1) := Int.ediv_nonneg (by omega) (Int.le_of_lt (Int.pow_pos (by decide)))
  have hq2 : v / 2 ^ (L.toNat - 1 - 1) ≤ v := Int.ediv_le_self _ (by omega)
  rw [i64_and_one _ hq (by omega)]
  have e : lcode v = 8 + 2 * (L - 1) + v / 2 ^ (L.toNat - 1 - 1) % 2 := by
    unfold lcode
    rw [if_neg (by omega), ← hL]
    have : Lib.bitLen v.toNat - 2 = L.toNat - 1 - 1 := by omega
    rw [this]
  rw [← e, IntKind.wrap_i64]
  have := lcode_spec (v := v) (by omega) h1
  omega
theorem lfirst_walk {c : Int} (h0 : 16 ≤ c) (h1 : c < 44) :
    IntKind.i64.wrap (IntKind.i64.wrap (2 + bits .and .i64 c 1) * 2 ^ (max (c / 2 - 5) 0).toNat) = lfirst c := by
  rw [i64_and_one c (by omega) (by omega)]
  have e1 : IntKind.i64.wrap (2 + c % 2) = 2 + c % 2 := by rw [IntKind.wrap_i64]; omega
  have e2 : max (c / 2 - 5) 0 = c / 2 - 5 := by omega
  rw [e1, e2]
  have e : lfirst c = (2 + c % 2) * 2 ^ (c / 2 - 5).toNat := if_neg (by omega)
  rw [← e, IntKind.wrap_i64]
  have := lfirst_top (c := c) (by omega) h1
  have h2 : (0 : Int) < 2 ^ (lbits c).toNat := Int.pow_pos (by decide)
  omega
end Go.Proofs.Ytkffhfdmdcecaaa
