/-
  CodeWide: the law's walk.
-/
import Derived.Test.YtdmnbmldhhgniaaCodeKnown
namespace Go.Proofs.Ytdmnbmldhhgniaa
open Go.RowKit
/-- The bounds of a length value by its code's bits. -/
theorem lwide {v : Int} (h0 : 16 ≤ v) (h1 : v < 262144) : 3 ≤ lbits (lcode v) ∧ lbits (lcode v) ≤ 16 ∧ 2 ^ (lbits (lcode v)).toNat < v ∧ v < 4 * 2 ^ (lbits (lcode v)).toNat := by
  obtain ⟨k, k0, k1, kb, kl, kh⟩ := oct_l h0 h1
  have e : lcode v = 8 + 2 * (k : Int) + v / 2 ^ (k - 1) % 2 := by
    unfold lcode
    rw [if_neg (by omega), kb]
    have : k + 1 - 2 = k - 1 := by omega
    rw [this]
    omega
  have h2 := Int.emod_two_eq (v / 2 ^ (k - 1))
  have e2 : lbits (lcode v) = (k : Int) - 1 := by
    unfold lbits
    rw [if_neg (by omega)]
    omega
  rw [e2]
  have e3 : ((k : Int) - 1).toNat = k - 1 := by omega
  rw [e3]
  obtain ⟨j, rfl⟩ : ∃ j, k = j + 1 := ⟨k - 1, by omega⟩
  have e4 : j + 1 - 1 = j := by omega
  rw [e4]
  rw [Int.pow_succ] at kl
  rw [Int.pow_succ, Int.pow_succ] at kh
  have hp : (0 : Int) < 2 ^ j := Int.pow_pos (by decide)
  refine ⟨by omega, by omega, by omega, by omega⟩
set_option maxHeartbeats 1600000 in
theorem codeWide_in (v : Int) (h0 : 16 ≤ v) (h1 : v < 262144) (w : World) : Calls Try.prog 5 #[.int .i64 v] w fun e w' => e = .returned (.bool true) ∧ Below w.heap.size w w' := by
  have hs := lcode_spec (v := v) (by omega) h1
  have hw := lwide h0 h1
  obtain ⟨c, hc⟩ : ∃ c, c = lcode v := ⟨_, rfl⟩
  rw [← hc] at hs hw
  obtain ⟨n, hn⟩ : ∃ n, n = lbits c := ⟨_, rfl⟩
  rw [← hn] at hw
  obtain ⟨S, hS⟩ : ∃ S : Int, (2 : Int) ^ n.toNat = S := ⟨_, rfl⟩
  rw [hS] at hw
  obtain ⟨r, hr⟩ : ∃ r, r = v - lfirst c := ⟨_, rfl⟩
  have hr0 : 0 ≤ r := by omega
  have hr1 : r ≤ 18446744073709551615 := by have := lfirst_top hs.1 hs.2.1; omega
  have H : Hid (lcode v = c ∧ v - lfirst c = r ∧ lbits c = n) := ⟨hc.symm, hr.symm, hn.symm⟩
  have HC := Lib.hid (And.intro hs.1 hs.2.1)
  obtain ⟨hw1, hw2, hw3, hw4⟩ := hw
  clear hs hc hn hr
  go_enter Try.func5, Try.ntmps5
  go_wp2_with fail
  refine (split_in v (by omega) h1 _).mono ?_
  rw [H.out.1, H.out.2.1]
  rintro e w1 ⟨rfl, hb⟩
  have HB1 := Lib.hid hb
  clear hb
  go_wp2_with fail
  refine (extra_in c HC.out.1 HC.out.2 _).mono ?_
  rw [H.out.2.2]
  rintro e w2 ⟨rfl, hb⟩
  have HB2 := Lib.hid (HB1.out.trans (hb.mono HB1.out.size))
  clear hb HB1
  go_wp2_with fail
  refine (known_any _).mono ?_
  rintro e w3 ⟨rfl, hb⟩
  have HB3 := Lib.hid (HB2.out.trans (hb.mono HB2.out.size))
  clear hb HB2
  go_wp2
  go_ret
  exact ⟨rfl, HB3.out⟩
set_option maxHeartbeats 1600000 in
theorem codeWide_lo (v : Int) (h : v < 16) (w : World) : Calls Try.prog 5 #[.int .i64 v] w fun e w' => e = .returned (.bool true) ∧ Below w.heap.size w w' := by
  go_enter Try.func5, Try.ntmps5
  go_wp2_with fail
  refine (known_any _).mono ?_
  rintro e w1 ⟨rfl, hb⟩
  have HB1 := Lib.hid hb
  clear hb
  go_wp2
  go_ret
  exact ⟨rfl, HB1.out⟩
set_option maxHeartbeats 1600000 in
theorem codeWide_hi (v : Int) (h : 262144 ≤ v) (w : World) : Calls Try.prog 5 #[.int .i64 v] w fun e w' => e = .returned (.bool true) ∧ Below w.heap.size w w' := by
  have h' : ¬ v < 16 := by omega
  go_enter Try.func5, Try.ntmps5
  go_wp2_with fail
  refine (known_any _).mono ?_
  rintro e w1 ⟨rfl, hb⟩
  have HB1 := Lib.hid hb
  clear hb
  go_wp2
  go_ret
  exact ⟨rfl, HB1.out⟩
theorem codeWide_walk (v : Int) (_ : (Lit.int .i64 v).wf = true) (w : World) : Calls Try.prog 5 #[.int .i64 v] w fun e w' => e = .returned (.bool true) ∧ Below w.heap.size w w' := by
  by_cases h1 : v < 16
  · exact codeWide_lo v h1 w
  · by_cases h2 : v < 262144
    · exact codeWide_in v (by omega) h2 w
    · exact codeWide_hi v (by omega) w
end Go.Proofs.Ytdmnbmldhhgniaa
