/-
  plan: caught, the deferred function that recovers.
-/
import Derived.Test.YtamhkfnghgbenaaPlCl
import Derived.Defers
import Derived.Recover
import Derived.Laws.Pointers
namespace Go.Proofs.Ytamhkfnghgbenaa
set_option linter.all false
open Go.RowKit

theorem caught_idle (p q : Addr) (w : World) :
    CallsD Try.prog 30 #[.pointer (some p), .pointer (some q)] .returning w fun e u' w' => e = .returned (.tuple #[]) ∧ u' = .returning ∧ w' = w := by
  refine callsD_of_wpS Try.func30 rfl fun c₀ cs hu => ?_
  apply wpS_seq
  apply wpS_region
  simp [wpOpsS, go_sem, recoverD, hu, Try.ntmps30, Exit.thenS]
  apply wpS_seq
  apply wpS_seq
  apply wpS_region
  simp [wpOpsS, go_sem, Exit.thenS]
  refine wpS_cond (t := true) (by simp [Act.eval, Array.replicate]) ?_
  simp only [if_true]
  refine wpS_of_wp (wp_ret ?_)
  cases c₀
  simp_all [bodyPostS, results, Try.results30, Exit.thenS]

theorem wrong_assert (n : Int) (w : World) : (Instr.typeAssert (.iface 82 (.int .i64 n)) 20 82 true).run Try.prog w = .ok (.tuple #[.int .i64 n, .bool true]) w := by
  simp [Instr.typeAssert, run_underlying Try.underlying82]

set_option maxHeartbeats 800000 in
theorem caught_wrong (p q : Addr) (n x y : Int) (older : List PanicEntry) (w : World) (hp : w.cell? p = some (.int .i64 x)) (hq : w.cell? q = some (.int .i64 y)) (fp : w.frozen? p = false) (fq : w.frozen? q = false) (hpq : p ≠ q) :
    CallsD Try.prog 30 #[.pointer (some p), .pointer (some q)] (.panicking ({ v := .iface 82 (.int .i64 n), recovered := false } :: older)) w fun e u' w' =>
      e = .returned (.tuple #[]) ∧ u' = .panicking ({ v := .iface 82 (.int .i64 n), recovered := true } :: older) ∧ w' = (w.setCell p (.int .i64 n)).setCell q (.int .i64 15) := by
  refine callsD_of_wpS Try.func30 rfl fun c₀ cs hu => ?_
  apply wpS_seq
  apply wpS_region
  simp [wpOpsS, go_sem, recoverD, hu, Try.ntmps30, Exit.thenS]
  apply wpS_seq
  apply wpS_seq
  apply wpS_region
  simp [wpOpsS, go_sem, Exit.thenS]
  refine wpS_cond (t := false) (by simp [Act.eval, Array.replicate]) ?_
  simp only [Bool.false_eq_true, if_false]
  refine wpS_of_wp (wp_skip ?_)
  simp only [Exit.thenS]
  apply wpS_seq
  apply wpS_region
  simp [wpOpsS, go_sem, Exit.thenS, wrong_assert]
  apply wpS_seq
  apply wpS_seq
  apply wpS_region
  simp [wpOpsS, go_sem, Exit.thenS]
  refine wpS_cond (t := false) (by simp [Act.eval, Array.replicate]) ?_
  simp only [Bool.false_eq_true, if_false]
  refine wpS_of_wp (wp_skip ?_)
  simp only [Exit.thenS]
  have hq2 : (w.setCell p (.int .i64 n)).cell? q = some (.int .i64 y) := (World.cell?_setCell_other _ _ _ _ hpq).trans hq
  have fq2 : (w.setCell p (.int .i64 n)).frozen? q = false := (World.frozen?_setCell _ _ _ _).trans fq
  apply wpS_region
  simp [wpOpsS, go_sem, hp, fp, hq2, fq2, bodyPostS, results, Try.results30]
end Go.Proofs.Ytamhkfnghgbenaa
