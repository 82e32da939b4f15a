/-
  Normalize and the reference's Normal at any counts, in one contract each.
-/
import Derived.Test.YtelijgibgpbcnaaNmKnown
import Derived.Test.YtelijgibgpbcnaaAppend
import Derived.Test.YtelijgibgpbcnaaNmLaw
namespace Go.Proofs.Ytelijgibgpbcnaa
open Go.RowKit

/-- The table's Log, its norms, and the error. -/
def nL (cs : List Int) (log : Int) : Int := if NOk cs log then log else 0
def nN (cs : List Int) (log : Int) : List Int := if NOk cs log then normsOf cs (2 ^ log.toNat) else []
def nE (cs : List Int) (log : Int) : Int := if NOk cs log then 0 else 2
theorem nL_ok {cs : List Int} {log : Int} (h : NOk cs log) : nL cs log = log := if_pos h
theorem nN_ok {cs : List Int} {log : Int} (h : NOk cs log) : nN cs log = normsOf cs (2 ^ log.toNat) := if_pos h
theorem nE_ok {cs : List Int} {log : Int} (h : NOk cs log) : nE cs log = 0 := if_pos h
theorem nE_no {cs : List Int} {log : Int} (h : ¬ NOk cs log) : nE cs log = 2 := if_neg h
theorem nN_len (cs : List Int) (log : Int) : (nN cs log).length ≤ cs.length := by
  unfold nN
  split
  · unfold normsOf
    rw [List.length_take, full_len]; omega
  · simp

/-- What both leave at any counts. -/
def NmAny (w : World) (cs : List Int) (log : Int) (e : Ending) (w' : World) : Prop :=
  ∃ (A : Option Addr) (l c : Nat), e = .returned (.tuple #[.agg #[.int .i64 (nL cs log), .slice A l c], .int .i64 (nE cs log)]) ∧ Hid (Ints w' .i64 (.slice A l c) (nN cs log)) ∧ Below w.heap.size w w'
theorem NmPost.any {w w' : World} {cs : List Int} {log : Int} {e : Ending} (hok : NOk cs log) (hlen : cs.length ≤ 1000) (h : NmPost w cs log e w') : NmAny w cs log e w' := by
  obtain ⟨g, l, c, rfl, -, hi, hb, -, -⟩ := h.get hlen
  exact ⟨_, l, c, by rw [nL_ok hok, nE_ok hok], by rw [nN_ok hok]; exact hi, hb⟩
theorem NmBad.any {w w' : World} {cs : List Int} {log : Int} {e : Ending} (hbad : ¬ NOk cs log) (h : NmBad w e w') : NmAny w cs log e w' := by
  obtain ⟨rfl, hb⟩ := h
  exact ⟨none, 0, 0, by rw [nL, nE, if_neg hbad, if_neg hbad], by rw [nN, if_neg hbad]; exact (Ints.nil _ _ : Ints _ _ _ _), hb⟩
theorem normalize_all (v : Value) (cs : List Int) (log : Int) (w : World) (hx : Ints w .i64 v cs) (hlen : cs.length ≤ 1000) :
    Calls Try.prog 13 #[v, .int .i64 log] w fun e w' => NmAny w cs log e w' := by
  by_cases hok : NOk cs log
  · exact (normalize_ok v cs log w hx hok hlen).mono fun _ _ h => h.any hok hlen
  · exact (normalize_bad v cs log w hx hok).mono fun _ _ h => h.any hok
theorem refNormal_all (v : Value) (cs : List Int) (log : Int) (w : World) (hx : Ints w .i64 v cs) (hlen : cs.length ≤ 1000) :
    Calls Try.prog 14 #[v, .int .i64 log] w fun e w' => NmAny w cs log e w' := by
  by_cases hok : NOk cs log
  · exact (refNormal_ok v cs log w hx hok hlen).mono fun _ _ h => h.any hok hlen
  · exact (refNormal_bad v cs log w hx hok).mono fun _ _ h => h.any hok
end Go.Proofs.Ytelijgibgpbcnaa
