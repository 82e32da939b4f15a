/-
  exec: what a plan yields, in plain lists.
-/
import Derived.Test.YtndgdehlnmheeaaExChk
import Derived.Test.YtndgdehlnmheeaaRgCopy
namespace Go.Proofs.Ytndgdehlnmheeaa
set_option linter.all false
open Go.RowKit

/-- A sequence's bytes, behind C, out of the literals ls. -/
def pieceL (C ls : List Int) (s : SeqD) : List Int := ls.take s.lit.toNat ++ copied (lastN s.off.toNat (C ++ ls.take s.lit.toNat)) s.off.toNat s.len.toNat
/-- The pieces of a plan. -/
def piecesL : List Int → List Int → List SeqD → List (List Int)
  | _, ls, [] => if ls = [] then [] else [ls]
  | C, ls, s :: r => pieceL C ls s :: piecesL (C ++ pieceL C ls s) (ls.drop s.lit.toNat) r
/-- The content of a plan. -/
def contentL (C ls : List Int) (ss : List SeqD) : List Int := (piecesL C ls ss).flatten

theorem pieceL_length {C ls : List Int} {s : SeqD} (h : s.lit.toNat ≤ ls.length) : (pieceL C ls s).length = s.lit.toNat + s.len.toNat := by
  unfold pieceL
  rw [List.length_append, List.length_take, copied_length]
  omega

theorem chk_inv {size hv most L P a t : Int} {s : SeqD} {r : List SeqD} {i : Nat} (h : chk size hv most (s :: r) i L P = (a, t, 0)) :
    LookD.ok1 ⟨s, i, size, hv, L, most, P⟩ ∧ LookD.ok2 ⟨s, i, size, hv, L, most, P⟩ ∧ chk size hv most r (i + 1) (L - s.lit) (P + (s.lit + s.len)) = (a, t, 0) := by
  rw [chk] at h
  split at h
  · next h1 =>
    split at h
    · next h2 => exact ⟨h1, h2, h⟩
    · simp at h
  · simp at h

/-- A plan that passes the check yields content of the length that the check tells. -/
theorem content_length {size hv most a t : Int} : ∀ {ss : List SeqD} {i : Nat} {C ls : List Int} {P : Int}, chk size hv most ss i ls.length P = (a, t, 0) → P + ((contentL C ls ss).length : Int) = t ∧ t ≤ most ∧ a = 0
  | [], i, C, ls, P, h => by
    rw [chk] at h
    split at h
    · simp at h
    · next h1 =>
      simp only [Prod.mk.injEq] at h
      unfold contentL piecesL
      by_cases h0 : ls = []
      · subst h0; simp at h h1 ⊢; omega
      · rw [if_neg h0]; simp; omega
  | s :: r, i, C, ls, P, h => by
    obtain ⟨h1, h2, h3⟩ := chk_inv h
    obtain ⟨x1, x2, x3, -⟩ := h1
    simp only at x1 x2 x3
    have e : ((ls.drop s.lit.toNat).length : Int) = ls.length - s.lit := by rw [List.length_drop]; omega
    rw [← e] at h3
    have ih := content_length (C := C ++ pieceL C ls s) h3
    have hl := pieceL_length (C := C) (ls := ls) (s := s) (by omega)
    unfold contentL at ih ⊢
    rw [piecesL, List.flatten_cons, List.length_append, hl]
    omega

theorem lastN_of_lastN {S off : Nat} {a b : List Int} (h : lastN S a = lastN S b) (ho : off ≤ S) : lastN off a = lastN off b := by
  rw [← lastN_lastN a ho, ← lastN_lastN b ho, h]
theorem lastN_app_eq {S : Nat} {a b c : List Int} (h : lastN S a = lastN S b) : lastN S (a ++ c) = lastN S (b ++ c) := by
  rw [← lastN_append, ← lastN_append S b, h]
theorem min_of_lastN {S : Nat} {a b : List Int} (h : lastN S a = lastN S b) : min S a.length = min S b.length := by
  have := congrArg List.length h
  rwa [lastN_length, lastN_length] at this
end Go.Proofs.Ytndgdehlnmheeaa
