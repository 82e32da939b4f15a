/-
  A ring of a call's own.
-/
import Derived.Test.YtndgdehlnmheeaaRgCopy
namespace Go.Proofs.Ytndgdehlnmheeaa
open Go.RowKit

/-- A ring of the call's own. -/
structure OwnRing (w W : World) (g : Nat) (v : Value) (S : Nat) (st : List Int) (T : Nat) : Prop where
  ring : Ring W g v S st T
  at_ : w.heap.size ≤ g
  own : ∀ k, v.ownBlock = some k → w.heap.size ≤ k
  below : Below w.heap.size w W
section
variable {w W W2 : World} {g : Nat} {v v' : Value} {S T T' : Nat} {st st' : List Int}
theorem OwnRing.made (h : Made W W2 g v S st T) (hb : Below w.heap.size w W) : OwnRing w W2 g v S st T :=
  ⟨h.ring, Nat.le_trans hb.size h.at_, fun k hk => Nat.le_trans hb.size (h.own k hk), hb.trans (h.below.mono hb.size)⟩
theorem OwnRing.put (h : OwnRing w W g v S st T) (hp : Put W W2 g v v' S st' T') : OwnRing w W2 g v' S st' T' :=
  ⟨hp.ring, h.at_, fun k hk => by
    rcases hp.own with e | e
    · exact h.own k (e ▸ hk)
    · exact Nat.le_trans h.below.size (e k hk), h.below.trans (hp.but.below h.below.size h.at_ h.own)⟩
theorem OwnRing.next (h : OwnRing w W g v S st T) (hb : Below W.heap.size W W2) : OwnRing w W2 g v S st T :=
  ⟨h.ring.below hb (Nat.le_refl _), h.at_, h.own, h.below.trans (hb.mono h.below.size)⟩
theorem OwnRing.draws (h : OwnRing w W g v S st T) (hm : ∃ m, W2 = W.drewN m) : OwnRing w W2 g v S st T := by
  obtain ⟨m, rfl⟩ := hm
  exact ⟨h.ring.drewN m, h.at_, h.own, below_drewN h.below m⟩
end

end Go.Proofs.Ytndgdehlnmheeaa
