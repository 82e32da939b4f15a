/-
  RingNone: the law's walk: small laws.
-/
import Derived.Test.YtohmkcoodaidcaaRgAllN
import Derived.Test.YtohmkcoodaidcaaRgNoB
import Derived.Test.YtohmkcoodaidcaaRgFew
namespace Go.Proofs.Ytohmkcoodaidcaa
set_option linter.all false
set_option maxRecDepth 100000
open Go.RowKit

theorem one_act {W : World} {b : Nat} {t : TypeId} {x : ActD} (h : Blk W b t #[.int .i64 x.what, x.bv, .int .i64 x.off, .int .i64 x.n]) (hx : x.Ok W) : Acts W (.slice (some ⟨b, 0, none⟩) 1 1) [x] := by
  refine ⟨⟨_, 1, rfl, Nat.le_refl _, by simp [maxLen], fun _ => ⟨b, 0, rfl, fun i z hz => ?_⟩⟩, fun z hz => ?_⟩
  · match i, hz with
    | 0, hz => simp at hz; subst hz; exact ⟨by rw [h.cell]; rfl, by rw [h.cell]; rfl, by rw [h.cell]; rfl, by rw [h.cell]; rfl⟩
  · simp at hz
    exact hz ▸ hx
theorem blk4 {W : World} {b : Nat} {t : TypeId} {x y z u : Value} (h : Blk W b t #[x, y, z, u]) : W.cell? ⟨b, 0, none⟩ = some x ∧ W.cell? ⟨b, 1, none⟩ = some y ∧ W.cell? ⟨b, 2, none⟩ = some z ∧ W.cell? ⟨b, 3, none⟩ = some u :=
  ⟨by rw [h.cell]; rfl, by rw [h.cell]; rfl, by rw [h.cell]; rfl, by rw [h.cell]; rfl⟩
end Go.Proofs.Ytohmkcoodaidcaa
