/-
  ExecRuns: the state ahead of the law's last line.
-/
import Derived.Test.YtndgdehlnmheeaaExRefO
import Derived.Test.YtndgdehlnmheeaaExFew
import Derived.Test.YtndgdehlnmheeaaConvB
namespace Go.Proofs.Ytndgdehlnmheeaa
set_option linter.all false
set_option maxRecDepth 100000
open Go.RowKit

theorem ints_form0 {w : World} {k : IntKind} {v : Value} {xs : List Int} (h : Ints w k v xs) : ∃ A c, v = .slice A xs.length c ∧ xs.length ≤ c ∧ c ≤ 9223372036854775807 ∧ AtInts w k A xs.length xs := by
  obtain ⟨A, n, c, hv, h1, h2, h3⟩ := h.get
  obtain ⟨hl, h4⟩ := h3
  subst hl
  exact ⟨A, c, hv, h1, h2, rfl, h4⟩

/-- The condition that a region keeps may grow. -/
theorem wpAnyH_mono {P : Program} {md : Region.Mode} {ops : Array Oper} {Q : Exit → Act → World → Prop} {S S' : World → Prop} (h : ∀ w, S' w → S w) :
    ∀ (fuel : Nat) (listed : Array Bool) (a : Act) (w : World), wpAnyH P md ops Q S' fuel listed a w → wpAnyH P md ops Q S fuel listed a w
  | 0, _, _, _, h' => h'
  | fuel + 1, _, _, _, h' => ⟨h'.1, fun i hi => wpOp_mono (fun a' w' h2 => ⟨h w' h2.1, wpAnyH_mono h fuel _ a' w' h2.2⟩) (h'.2 i hi)⟩

/-- The ring, the reference's ring in its box q, the content, the pieces, the literals. -/
structure RsSt (w W : World) (g : Nat) (v : Value) (S : Nat) (st : List Int) (T : Nat) (q : Nat) (bq : Value) (X : List Int) (bv ov : Value) (ps : List (List Int)) (lv : Value) (ls : List Int) : Prop where
  below : Below w.heap.size w W
  ring : Ring W g v S st T
  kq : Blk W q 45 #[.int .i64 S, bq, .int .i64 T]
  iq : Ints W .u8 bq (lastN S st)
  ib : Ints W .u8 bv X
  pc : Pcs W ov ps
  flat : ps.flatten = X
  il : Ints W .u8 lv ls
section
variable {w W W2 : World} {g : Nat} {v : Value} {S : Nat} {st LS : List Int} {T q : Nat} {bq : Value} {X : List Int} {bv ov : Value} {ps : List (List Int)} {lv : Value} {ls : List Int}
theorem RsSt.next (h : RsSt w W g v S st T q bq X bv ov ps lv ls) (hb : Below W.heap.size W W2) : RsSt w W2 g v S st T q bq X bv ov ps lv ls :=
  ⟨h.below.trans (hb.mono h.below.size), h.ring.below hb (Nat.le_refl _), h.kq.below hb h.kq.lt, h.iq.below hb (Nat.le_refl _), h.ib.below hb (Nat.le_refl _), h.pc.below hb (Nat.le_refl _), h.flat, h.il.below hb (Nat.le_refl _)⟩
theorem RsSt.cond {Aq A5 A2 : Option Addr} {nq cq m c5 nl c2 : Nat} (h : RsSt w W g v S st T q (.slice Aq nq cq) X (.slice A5 m c5) ov ps (.slice A2 nl c2) ls) (hLS : lastN S st = LS) :
    W.cell? ⟨q, 1, none⟩ = some (.slice Aq nq cq) ∧ W.cell? ⟨q, 2, none⟩ = some (.int .i64 T) ∧ (convert 22 9 (.slice A5 m c5)).run Try.prog W = .ok (.string (strOfNums X)) W ∧
    (convert 22 9 (.slice A2 nl c2)).run Try.prog W = .ok (.string (strOfNums ls)) W ∧ (convert 22 9 (.slice Aq nq cq)).run Try.prog W = .ok (.string (strOfNums LS)) W :=
  ⟨h.kq.three.2.1, h.kq.three.2.2.1, conv_str h.ib, conv_str h.il, conv_str (hLS ▸ h.iq)⟩
end
end Go.Proofs.Ytndgdehlnmheeaa
