/-
  norm.Normalize: its contract in full.
-/
import Derived.Test.YtelijgibgpbcnaaNmUp
import Derived.Test.YtelijgibgpbcnaaNmDn
namespace Go.Proofs.Ytelijgibgpbcnaa
open Go.RowKit
set_option linter.unusedSimpArgs false

theorem normalize_ok (v : Value) (cs : List Int) (log : Int) (w : World) (hx : Ints w .i64 v cs) (hok : NOk cs log) (hlen : cs.length ≤ 1000) :
    Calls Try.prog 13 #[v, .int .i64 log] w fun e w' => NmPost w cs log e w' := by
  by_cases h : (firstOf cs (2 ^ log.toNat) cs.sum).sum ≤ 2 ^ log.toNat
  · exact normalize_up v cs log w hx hok hlen h
  · exact normalize_dn v cs log w hx hok hlen (by omega)

/-- What Normalize leaves if it finds no table. -/
def NmBad (w : World) (e : Ending) (w' : World) : Prop := e = .returned (.tuple #[.agg #[.int .i64 0, .slice none 0 0], .int .i64 2]) ∧ Below w.heap.size w w'

set_option maxHeartbeats 1600000 in
theorem normalize_bad (v : Value) (cs : List Int) (log : Int) (w : World) (hx : Ints w .i64 v cs) (hbad : ¬ NOk cs log) :
    Calls Try.prog 13 #[v, .int .i64 log] w fun e w' => NmBad w e w' := by
  have HI := Lib.hid hx
  obtain ⟨A, n, c, rfl, hc, hmx, hx⟩ := hx.get
  clear hx
  obtain ⟨T, U, b, hres, hb⟩ : ∃ (T U : Int) (b : Bool), CRes cs = .returned (.tuple #[.int .i64 T, .int .i64 U, .bool b]) ∧ (b = true → CValid cs ∧ 0 < usedOf cs ∧ U = usedOf cs) := by
    refine ⟨_, _, _, rfl, fun h => ?_⟩
    have h1 : CValid cs ∧ 0 < usedOf cs := by simpa [cM] using h
    exact ⟨h1.1, h1.2, by rw [cU, if_pos h1.1]⟩
  have HRES := Lib.hid hres
  clear hres
  have HBEL : Hid (∀ o1 o2 o3, Below w.heap.size w (((w.alloc o1).alloc o2).alloc o3)) := (fun o1 o2 o3 => (((Below.refl _ w).alloc (Nat.le_refl _) _).alloc (by simp) _).alloc (by simp; omega) _ : ∀ o1 o2 o3, _)
  cases b with
  | false =>
    clear hb hbad
    go_enter Try.func13, Try.ntmps13
    go_wp2_with (go_at_call 25; refine (all_any _ cs _ (by first | exact HI.out.alloc2 _ _ | exact HI.out.alloc _)).mono ?_; rw [HRES.out]; rintro e w' ⟨rfl, rfl⟩)
    refine bodyPost_ret (v := .tuple #[.agg #[.int .i64 0, .slice none 0 0], .int .i64 2]) (by simp [results, Try.results13, go_sem]) rfl ?_
    exact ⟨rfl, HBEL.out _ _ _⟩
  | true =>
    obtain ⟨h1, h2, rfl⟩ := hb rfl
    clear hb
    obtain ⟨U, hU⟩ : ∃ U, usedOf cs = U := ⟨_, rfl⟩
    rw [hU] at HRES
    by_cases l0 : log < 0
    · clear h1 h2 hbad hU
      go_enter Try.func13, Try.ntmps13
      go_wp2_with (go_at_call 25; refine (all_any _ cs _ (by first | exact HI.out.alloc2 _ _ | exact HI.out.alloc _)).mono ?_; rw [HRES.out]; rintro e w' ⟨rfl, rfl⟩)
      refine bodyPost_ret (v := .tuple #[.agg #[.int .i64 0, .slice none 0 0], .int .i64 2]) (by simp [results, Try.results13, go_sem]) rfl ?_
      exact ⟨rfl, HBEL.out _ _ _⟩
    · by_cases l9 : 9 < log
      · clear h1 h2 hbad hU
        go_enter Try.func13, Try.ntmps13
        go_wp2_with (go_at_call 25; refine (all_any _ cs _ (by first | exact HI.out.alloc2 _ _ | exact HI.out.alloc _)).mono ?_; rw [HRES.out]; rintro e w' ⟨rfl, rfl⟩)
        refine bodyPost_ret (v := .tuple #[.agg #[.int .i64 0, .slice none 0 0], .int .i64 2]) (by simp [results, Try.results13, go_sem]) rfl ?_
        exact ⟨rfl, HBEL.out _ _ _⟩
      · have hS := two_pow_le (log := log) (by omega) (by omega)
        have hus : ¬ (U : Int) ≤ 2 ^ log.toNat := fun h => hbad ⟨h1, h2, by omega, by omega, by rw [hU]; exact h⟩
        obtain ⟨S, hSe⟩ : ∃ S, (2 : Int) ^ log.toNat = S := ⟨_, rfl⟩
        rw [hSe] at hS hus
        have hus' : S < (U : Int) := by omega
        clear h1 h2 hbad hU hus
        go_enter Try.func13, Try.ntmps13
        go_wp2_with (go_at_call 25; refine (all_any _ cs _ (by first | exact HI.out.alloc2 _ _ | exact HI.out.alloc _)).mono ?_; rw [HRES.out]; rintro e w' ⟨rfl, rfl⟩)
        refine bodyPost_ret (v := .tuple #[.agg #[.int .i64 0, .slice none 0 0], .int .i64 2]) (by simp [results, Try.results13, go_sem]) rfl ?_
        exact ⟨rfl, HBEL.out _ _ _⟩
end Go.Proofs.Ytelijgibgpbcnaa
