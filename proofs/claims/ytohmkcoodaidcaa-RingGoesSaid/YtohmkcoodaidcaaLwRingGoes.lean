/-
  RingGoes: the law's walk.
-/
import Derived.Test.YtohmkcoodaidcaaRgGoesM
import Derived.Test.YtohmkcoodaidcaaArgActs
import Derived.Test.YtohmkcoodaidcaaArgs
namespace Go.Proofs.Ytohmkcoodaidcaa
set_option linter.all false
open Go.RowKit

theorem ringGoes_walk (size : Int) (_ : (Lit.int .i64 size).wf = true) (v1 : Value) (ah : List Int) {w : World} (w1 : Ints w .u8 v1 ah ∧ ∀ z ∈ ah, (Lit.int .u8 z).wf = true) (v2 : Value) (bs : List Int) (w2 : Ints w .u8 v2 bs ∧ ∀ z ∈ bs, (Lit.int .u8 z).wf = true)
    (many : Int) (hm : (Lit.int .i64 many).wf = true) (x : ActD) (hx : x.Ok w) :
    Calls Try.prog 9 #[.int .i64 size, v1, v2, .int .i64 many, .agg #[.int .i64 x.what, x.bv, .int .i64 x.off, .int .i64 x.n]] w fun e w' => e = .returned (.bool true) ∧ Below w.heap.size w w' := by
  by_cases h1 : size < 1
  · exact rgo_else size v1 v2 ah bs w1.1 w2.1 many x hx (.inl h1)
  by_cases h2 : 300 < size
  · exact rgo_else size v1 v2 ah bs w1.1 w2.1 many x hx (.inr ⟨by omega, .inl h2⟩)
  by_cases h3 : 100 < ah.length
  · exact rgo_else size v1 v2 ah bs w1.1 w2.1 many x hx (.inr ⟨by omega, .inr ⟨by omega, .inl h3⟩⟩)
  by_cases h4 : 300 < bs.length
  · exact rgo_else size v1 v2 ah bs w1.1 w2.1 many x hx (.inr ⟨by omega, .inr ⟨by omega, .inr ⟨by omega, .inl h4⟩⟩⟩)
  by_cases h5 : fewP [x] 1
  · obtain ⟨S, rfl⟩ : ∃ S : Nat, size = (S : Int) := ⟨size.toNat, by omega⟩
    exact rgo_main S v1 v2 ah bs w1.1 w2.1 (u8s_wf w1.2) (u8s_wf w2.2) many (wf_i64 hm) x hx (by omega) (by omega) (by omega) (by omega) h5
  · exact rgo_else size v1 v2 ah bs w1.1 w2.1 many x hx (.inr ⟨by omega, .inr ⟨by omega, .inr ⟨by omega, .inr ⟨by omega, h5⟩⟩⟩⟩)
end Go.Proofs.Ytohmkcoodaidcaa
