/-
  PlanCounts: the law's walk.
-/
import Derived.Test.YtamhkfnghgbenaaPcMain
import Derived.Test.YtamhkfnghgbenaaPcErr
import Derived.Test.YtamhkfnghgbenaaArgs
namespace Go.Proofs.Ytamhkfnghgbenaa
set_option linter.all false
open Go.RowKit

theorem planCounts_walk {w : World} (v : Value) (ss : List SeqD) (h : Seqs w v ss) (vd : Value) (dd : List Int) (hd : Ints w .u8 vd dd ∧ ∀ z ∈ dd, (Lit.int .u8 z).wf = true) :
    Calls Try.prog 10 #[v, vd] w fun e w' => e = .returned (.bool true) ∧ Below w.heap.size w w' := by
  by_cases h1 : ss.length ≤ 100
  · by_cases h2 : dd.length ≤ 400
    · cases hb : bad 1 131072 0 0 ss with
      | none =>
        have hg := bad_none.1 hb
        have hs : sizeR ss = (posL ss, 0) := by unfold sizeR; rw [hb]
        have hp0 := (Good.pos (by decide) (Nat.le_refl _) hg).1
        rw [List.take_length] at hp0
        by_cases h3 : posL ss ≤ dd.length
        · exact pc_main v vd ss dd h hd.1 h1 h2 hg h3
        · exact pc_err v vd ss dd h hd.1 h1 h2 (.inr ⟨by rw [hs], by rw [hs]; exact hp0, by rw [hs]; omega⟩)
      | some k =>
        have hs : sizeR ss = (0, 15) := by unfold sizeR; rw [hb]
        exact pc_err v vd ss dd h hd.1 h1 h2 (.inl ⟨by rw [hs], by rw [hs]⟩)
    · exact pc_else v vd ss dd h hd.1 (.inr ⟨h1, by omega⟩)
  · exact pc_else v vd ss dd h hd.1 (.inl (by omega))
end Go.Proofs.Ytamhkfnghgbenaa
