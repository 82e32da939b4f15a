/-
  Ring: bytes.end.
-/
import Derived.Test.YtndgdehlnmheeaaRgSmall
namespace Go.Proofs.Ytndgdehlnmheeaa
set_option maxRecDepth 100000
open Go.RowKit

/-- Where the last n of a slice of N begin. -/
def endA (v : Value) (N n : Nat) : Option Addr :=
  match v with
  | .slice A _ _ => if N = N - n then A else A.map (·.add (N - n))
  | _ => none

theorem Ring.endAt {w : World} {g : Nat} {v : Value} {S T : Nat} {st : List Int} (h : Ring w g v S st T) {n : Nat} (hn : n ≤ st.length) : AtInts w .u8 (endA v st.length n) n (lastN n st) := by
  obtain ⟨A, c, rfl, hlc, hc, hat⟩ := h.form
  refine ⟨by rw [lastN_length]; omega, fun h0 => ?_⟩
  obtain ⟨b, off, rfl, hcell⟩ := hat.2 (by omega)
  unfold endA
  simp only
  rw [if_neg (by omega)]
  refine ⟨b, off + (st.length - n), by simp [add_zero_off], fun i x hx => ?_⟩
  rw [lastN_get] at hx
  rw [Nat.add_assoc]
  exact hcell _ x hx

theorem end_q {w : World} {g : Nat} {v : Value} {S T : Nat} {st : List Int} (h : Ring w g v S st T) {n : Nat} (hn : n ≤ st.length) :
    Calls Try.prog 35 #[rp g, .int .i64 n] w fun e w' => e = .returned (.slice (endA v st.length n) n n) ∧ ∃ m, w' = w.drewN m := by
  obtain ⟨A, c, rfl, hlc, hc, -⟩ := h.form
  obtain ⟨c0, -⟩ := ring_cells h.blk
  obtain ⟨N, hN⟩ : ∃ N, st.length = N := ⟨_, rfl⟩
  rw [hN] at hn c0 hlc ⊢
  obtain ⟨D, hD⟩ : ∃ D, N - n = D := ⟨_, rfl⟩
  have h1 : (N : Int) - (n : Int) = (D : Int) := by omega
  have h4 : (D : Int) ≤ N := by omega
  have h5 : N - D = n := by omega
  have h2 : (N : Int) ≤ 9223372036854775807 := by omega
  have h3 : (n : Int) ≤ N := by omega
  have HD := Lib.hid hD
  clear h hN hD
  unfold rp
  go_enter Try.func35, Try.ntmps35
  go_wp2
  go_quiet (fail)
  go_wp2
  all_goals (go_ret; refine ⟨?_, _, rfl⟩; unfold endA; have hd := HD.out; simp only)
  · rw [if_pos (by omega)]; rfl
  · rw [if_neg (by omega), hd]; rfl

theorem end_ring (w : World) {g : Nat} {v : Value} {S T : Nat} {st : List Int} (h : Ring w g v S st T) (n : Nat) (hn : n ≤ st.length) :
    Calls Try.prog 35 #[rp g, .int .i64 n] w fun e w' => (∃ A, e = .returned (.slice A n n) ∧ AtInts w .u8 A n (lastN n st)) ∧ ∃ m, w' = w.drewN m :=
  (end_q h hn).mono fun _ _ ⟨he, hm⟩ => ⟨⟨_, he, h.endAt hn⟩, hm⟩
end Go.Proofs.Ytndgdehlnmheeaa
