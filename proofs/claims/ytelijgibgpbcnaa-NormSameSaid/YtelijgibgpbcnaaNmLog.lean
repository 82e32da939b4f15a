/-
  RecommendLog; the reference's Log.
-/
import Derived.Test.YtelijgibgpbcnaaNmPlain
import Derived.Test.YtelijgibgpbcnaaNormRef
import Derived.Test.YtelijgibgpbcnaaBits
import Derived.Lib.BitFns
import Derived.Lib.ItoaNum
import Derived.Laws.BitsAllLaws
import Derived.Laws.BitsLemmas
namespace Go.Proofs.Ytelijgibgpbcnaa
open Go.RowKit

theorem bitLen_oct (v : Nat) (h0 : v ≠ 0) (h : v < 18446744073709551616) : 1 ≤ Lib.bitLen v ∧ 2 ^ (Lib.bitLen v - 1) ≤ v ∧ v < 2 ^ Lib.bitLen v :=
  Lib.bitLenAux_bounds 64 v (by simpa using h) h0
theorem bitLen_le {v m : Nat} (h0 : v ≠ 0) (h : v < 18446744073709551616) (hm : v < 2 ^ m) : Lib.bitLen v ≤ m := by
  obtain ⟨a, b, c⟩ := bitLen_oct v h0 h
  refine Classical.byContradiction fun hn => ?_
  have := Nat.pow_le_pow_right (show 0 < 2 by decide) (show m ≤ Lib.bitLen v - 1 by omega)
  omega

/-- The bit lengths that the recommendation weighs: of one less than the number of symbols, and two less than that of the total. -/
def logU (cs : List Int) : Nat := Lib.bitLen (usedOf cs - 1)
def logT (cs : List Int) : Nat := Lib.bitLen cs.sum.toNat
/-- The recommended Log within b. -/
def logIn (cs : List Int) (b : Int) : Int := min b (max (logU cs : Int) ((logT cs : Int) - 2))
/-- The recommendation. -/
def logOf (cs : List Int) (most : Int) : Int :=
  if CValid cs ∧ 0 < usedOf cs ∧ 0 ≤ min most 9 ∧ (usedOf cs : Int) ≤ 2 ^ (min most 9).toNat then (if usedOf cs = 1 then 0 else logIn cs (min most 9)) else -1

theorem logOf_no {cs : List Int} {most : Int} (h : ¬ (CValid cs ∧ 0 < usedOf cs ∧ 0 ≤ min most 9 ∧ (usedOf cs : Int) ≤ 2 ^ (min most 9).toNat)) : logOf cs most = -1 := if_neg h
theorem cres_some (cs : List Int) : ∃ (T U : Int) (b : Bool), CRes cs = .returned (.tuple #[.int .i64 T, .int .i64 U, .bool b]) ∧ (b = true → CValid cs ∧ 0 < usedOf cs ∧ U = usedOf cs ∧ T = cs.sum) ∧ (b = false → ¬ (CValid cs ∧ 0 < usedOf cs)) := by
  refine ⟨_, _, _, rfl, fun h => ?_, fun h => ?_⟩
  · have h1 : CValid cs ∧ 0 < usedOf cs := by simpa [cM] using h
    exact ⟨h1.1, h1.2, by rw [cU, if_pos h1.1], by rw [cT, if_pos h1.1]⟩
  · intro h1
    simp [cM, h1] at h

set_option maxHeartbeats 1600000 in
theorem recLog_any (v : Value) (cs : List Int) (most : Int) (w : World) (hx : Ints w .i64 v cs) :
    Calls Try.prog 16 #[v, .int .i64 most] w fun e w' => e = .returned (.int .i64 (logOf cs most)) ∧ w = w' := by
  have HI := Lib.hid hx
  obtain ⟨A, n, c, rfl, hc, hmx, hx⟩ := hx.get
  clear hx
  obtain ⟨T, U, b, hres, hb, hb'⟩ := cres_some cs
  have HRES := Lib.hid hres
  obtain ⟨M, hM⟩ : ∃ M, min most 9 = M := ⟨_, rfl⟩
  have HMM := Lib.hid hM
  clear hres
  cases b with
  | false =>
    have HB := Lib.hid (hb' rfl)
    clear hb hb'
    go_enter Try.func16, Try.ntmps16
    go_wp2_with (go_at_call 25; refine (all_any _ cs _ HI.out).mono ?_; rw [HRES.out]; rintro e w' ⟨rfl, rfl⟩)
    go_ret
    exact ⟨ret_int (logOf_no fun h => HB.out ⟨h.1, h.2.1⟩).symm, rfl⟩
  | true =>
    obtain ⟨h1, h2, hUe, hTe⟩ := hb rfl
    have HV := Lib.hid h1
    have HU := Lib.hid hUe
    have HT := Lib.hid hTe
    have hU1 : 1 ≤ U := by omega
    have hT0 := total_pos h1 h2
    have hT4 := h1.2
    rw [← hTe] at hT0 hT4
    have H2 := Lib.hid h2
    clear hb hb' h1 h2 hUe hTe
    by_cases l0 : M < 0
    · go_enter Try.func16, Try.ntmps16
      go_wp2_with (go_at_call 25; refine (all_any _ cs _ HI.out).mono ?_; rw [HRES.out]; rintro e w' ⟨rfl, rfl⟩)
      go_ret
      exact ⟨ret_int (logOf_no fun h => by have := h.2.2.1; rw [HMM.out] at this; omega).symm, rfl⟩
    · have hM9 : M ≤ 9 := by have := HMM.out; omega
      have hS := two_pow_le (log := M) (by omega) hM9
      obtain ⟨S, hSe⟩ : ∃ S, (2 : Int) ^ M.toNat = S := ⟨_, rfl⟩
      rw [hSe] at hS
      obtain ⟨hS1, hS5⟩ := hS
      have HS := Lib.hid hSe
      by_cases hus : S < U
      · go_enter Try.func16, Try.ntmps16
        go_wp2_with (go_at_call 25; refine (all_any _ cs _ HI.out).mono ?_; rw [HRES.out]; rintro e w' ⟨rfl, rfl⟩)
        go_ret
        exact ⟨ret_int (logOf_no fun h => by have := h.2.2.2; rw [HMM.out, HS.out, ← HU.out] at this; omega).symm, rfl⟩
      · have hyes : logOf cs most = if usedOf cs = 1 then 0 else logIn cs M := by
          rw [logOf, HMM.out, if_pos ⟨HV.out, H2.out, by omega, by rw [HS.out, ← HU.out]; omega⟩]
        have HY := Lib.hid hyes
        clear hyes
        by_cases hu1 : U = 1
        · subst hu1
          go_enter Try.func16, Try.ntmps16
          go_wp2_with (go_at_call 25; refine (all_any _ cs _ HI.out).mono ?_; rw [HRES.out]; rintro e w' ⟨rfl, rfl⟩)
          go_ret
          exact ⟨ret_int (by rw [HY.out, if_pos (by have := HU.out; omega)]), rfl⟩
        · have hub : (U == 1) = false := by simpa using hu1
          obtain ⟨K, hK⟩ : ∃ K : Nat, Lib.bitLen (U - 1).toNat = K := ⟨_, rfl⟩
          obtain ⟨L, hL⟩ : ∃ L : Nat, Lib.bitLen T.toNat = L := ⟨_, rfl⟩
          have hK1 : K ≤ 64 := by rw [← hK]; exact bitLen_le (by omega) (by omega) (by omega)
          have hL1 : L ≤ 64 := by rw [← hL]; exact bitLen_le (by omega) (by omega) (by omega)
          have HK := Lib.hid hK
          have HL := Lib.hid hL
          have u0 : 0 ≤ U - 1 := by omega
          have u1 : U - 1 ≤ 18446744073709551615 := by omega
          have t0 : 0 ≤ T := by omega
          have t1 : T ≤ 18446744073709551615 := by omega
          have HLI : Hid (logIn cs M = min M (max (K : Int) ((L : Int) - 2))) := (by
            have e1 : logU cs = K := by rw [logU, ← hK, show (U - 1).toNat = usedOf cs - 1 by have := HU.out; omega]
            have e2 : logT cs = L := by rw [logT, ← HT.out, hL]
            rw [logIn, e1, e2] : _ = _)
          clear hK hL hu1
          go_enter Try.func16, Try.ntmps16
          go_wp2_with (go_at_call 25; refine (all_any _ cs _ HI.out).mono ?_; rw [HRES.out]; rintro e w' ⟨rfl, rfl⟩)
          refine (Try.bits_Len _ _ u0 u1).mono ?_
          rw [HK.out]
          rintro e w' ⟨rfl, rfl⟩
          go_wp2_with fail
          refine (Try.bits_Len _ _ t0 t1).mono ?_
          rw [HL.out]
          rintro e w' ⟨rfl, rfl⟩
          go_wp2
          go_ret
          refine ⟨ret_int ?_, rfl⟩
          rw [HY.out, if_neg (by have := HU.out; have := hub; simp at this; omega), HLI.out]
          repeat (first | omega | split)
end Go.Proofs.Ytelijgibgpbcnaa
