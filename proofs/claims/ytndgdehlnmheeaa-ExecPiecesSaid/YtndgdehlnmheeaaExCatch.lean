/-
  exec: caught, the deferred function that recovers.
-/
import Derived.Test.YtndgdehlnmheeaaExRule
namespace Go.Proofs.Ytndgdehlnmheeaa
set_option linter.all false
open Go.RowKit

theorem excaught_idle (p q r : Addr) (w : World) :
    CallsD Try.prog 61 #[.pointer (some p), .pointer (some q), .pointer (some r)] .returning w fun e u' w' => e = .returned (.tuple #[]) ∧ u' = .returning ∧ w' = w := by
  refine callsD_of_wpS Try.func61 rfl fun c₀ cs hu => ?_
  apply wpS_seq
  apply wpS_region
  simp [wpOpsS, go_sem, recoverD, hu, Try.ntmps61, Exit.thenS]
  apply wpS_seq
  apply wpS_seq
  apply wpS_region
  simp [wpOpsS, go_sem, Exit.thenS]
  refine wpS_cond (t := true) (by simp [Act.eval, Array.replicate]) ?_
  simp only [if_true]
  refine wpS_of_wp (wp_ret ?_)
  cases c₀
  simp_all [bodyPostS, results, Try.results61, Exit.thenS]

theorem refused_assert (n e0 : Int) (w : World) : (Instr.typeAssert (.iface 125 (.agg #[.int .i64 n, .int .i64 e0])) 20 125 true).run Try.prog w = .ok (.tuple #[.agg #[.int .i64 n, .int .i64 e0], .bool true]) w := by
  simp [Instr.typeAssert, run_underlying Try.underlying125]

theorem cells2_far {W1 : World} {g : Nat} {a : Addr} {u b0 b1 : Value} (h1 : (⟨g, 0, none⟩ : Addr) ≠ a) (h2 : (⟨g, 1, none⟩ : Addr) ≠ a) (h3 : W1.cell? ⟨g, 0, none⟩ = some b0 ∧ W1.cell? ⟨g, 1, none⟩ = some b1) : (W1.setCell a u).cell? ⟨g, 0, none⟩ = some b0 ∧ (W1.setCell a u).cell? ⟨g, 1, none⟩ = some b1 :=
  ⟨(World.cell?_setCell_other _ _ _ _ (Ne.symm h1)).trans h3.1, (World.cell?_setCell_other _ _ _ _ (Ne.symm h2)).trans h3.2⟩

set_option maxHeartbeats 800000 in
theorem excaught_no (p q r : Addr) (n e0 x y z : Int) (older : List PanicEntry) (w : World) (hp : w.cell? p = some (.int .i64 x)) (hq : w.cell? q = some (.int .i64 y)) (hr : w.cell? r = some (.int .i64 z)) (fp : w.frozen? p = false) (fq : w.frozen? q = false) (fr : w.frozen? r = false) (hpq : p ≠ q) (hpr : p ≠ r) (hqr : q ≠ r) :
    CallsD Try.prog 61 #[.pointer (some p), .pointer (some q), .pointer (some r)] (.panicking ({ v := .iface 125 (.agg #[.int .i64 n, .int .i64 e0]), recovered := false } :: older)) w fun e u' w' =>
      e = .returned (.tuple #[]) ∧ u' = .panicking ({ v := .iface 125 (.agg #[.int .i64 n, .int .i64 e0]), recovered := true } :: older) ∧
      w'.cell? p = some (.int .i64 n) ∧ w'.cell? q = some (.int .i64 0) ∧ w'.cell? r = some (.int .i64 e0) ∧ ∀ (B : Nat) (w0 : World), B ≤ p.block → B ≤ q.block → B ≤ r.block → B ≤ w.heap.size → Below B w0 w → Below B w0 w' := by
  refine callsD_of_wpS Try.func61 rfl fun c₀ cs hu => ?_
  apply wpS_seq
  apply wpS_region
  simp [wpOpsS, go_sem, recoverD, hu, Try.ntmps61, Exit.thenS]
  apply wpS_seq
  apply wpS_seq
  apply wpS_region
  simp [wpOpsS, go_sem, Exit.thenS]
  refine wpS_cond (t := false) (by simp [Act.eval, Array.replicate]) ?_
  simp only [Bool.false_eq_true, if_false]
  refine wpS_of_wp (wp_skip ?_)
  simp only [Exit.thenS]
  apply wpS_seq
  apply wpS_region
  simp [wpOpsS, go_sem, Exit.thenS, refused_assert]
  apply wpS_seq
  apply wpS_seq
  apply wpS_region
  simp [wpOpsS, go_sem, Exit.thenS]
  refine wpS_cond (t := false) (by simp [Act.eval, Array.replicate]) ?_
  simp only [Bool.false_eq_true, if_false]
  refine wpS_of_wp (wp_skip ?_)
  simp only [Exit.thenS]
  have hlp := World.block_lt_of_cell? w _ hp
  have hlq := World.block_lt_of_cell? w _ hq
  have hlr := World.block_lt_of_cell? w _ hr
  have cp : (w.alloc (.cells #[.int .i64 n, .int .i64 e0] 125)).cell? p = some (.int .i64 x) := (World.cell?_alloc_lt w _ _ hlp).trans hp
  have cq : (w.alloc (.cells #[.int .i64 n, .int .i64 e0] 125)).cell? q = some (.int .i64 y) := (World.cell?_alloc_lt w _ _ hlq).trans hq
  have cr : (w.alloc (.cells #[.int .i64 n, .int .i64 e0] 125)).cell? r = some (.int .i64 z) := (World.cell?_alloc_lt w _ _ hlr).trans hr
  have gp : (w.alloc (.cells #[.int .i64 n, .int .i64 e0] 125)).frozen? p = false := (World.frozen?_alloc_old w _ _ (Nat.ne_of_lt hlp)).trans fp
  have gq : (w.alloc (.cells #[.int .i64 n, .int .i64 e0] 125)).frozen? q = false := (World.frozen?_alloc_old w _ _ (Nat.ne_of_lt hlq)).trans fq
  have gr : (w.alloc (.cells #[.int .i64 n, .int .i64 e0] 125)).frozen? r = false := (World.frozen?_alloc_old w _ _ (Nat.ne_of_lt hlr)).trans fr
  have hbk := Blk.two (Blk.new w 125 #[.int .i64 n, .int .i64 e0])
  obtain ⟨b0, b1, -, -⟩ := hbk
  have HB := Lib.hid ((Below.refl w.heap.size w).alloc (Nat.le_refl _) (.cells #[.int .i64 n, .int .i64 e0] 125))
  have n1 : (⟨w.heap.size, 0, none⟩ : Addr) ≠ p := fun e => by rw [← e] at hlp; exact absurd hlp (Nat.lt_irrefl _)
  have n2 : (⟨w.heap.size, 1, none⟩ : Addr) ≠ p := fun e => by rw [← e] at hlp; exact absurd hlp (Nat.lt_irrefl _)
  have n3 : (⟨w.heap.size, 0, none⟩ : Addr) ≠ q := fun e => by rw [← e] at hlq; exact absurd hlq (Nat.lt_irrefl _)
  have n4 : (⟨w.heap.size, 1, none⟩ : Addr) ≠ q := fun e => by rw [← e] at hlq; exact absurd hlq (Nat.lt_irrefl _)
  have n5 : (⟨w.heap.size, 0, none⟩ : Addr) ≠ r := fun e => by rw [← e] at hlr; exact absurd hlr (Nat.lt_irrefl _)
  have n6 : (⟨w.heap.size, 1, none⟩ : Addr) ≠ r := fun e => by rw [← e] at hlr; exact absurd hlr (Nat.lt_irrefl _)
  have N := Lib.hid (And.intro n1 (And.intro n2 (And.intro n3 (And.intro n4 (And.intro n5 n6)))))
  clear hp hq hr fp fq fr n1 n2 n3 n4 n5 n6 hlp hlq hlr
  have B := Lib.hid (And.intro b0 b1)
  generalize w.alloc (.cells #[.int .i64 n, .int .i64 e0] 125) = W at cp cq cr gp gq gr b0 b1 B HB ⊢
  refine wpS_of_wp ?_
  go_region_held3 (fun w' => w'.cell? ⟨w.heap.size, 0, none⟩ = some (.int .i64 n) ∧ w'.cell? ⟨w.heap.size, 1, none⟩ = some (.int .i64 e0))
    (first | exact B.out | exact cells2_far N.out.1 N.out.2.1 B.out | exact cells2_far N.out.2.2.1 N.out.2.2.2.1 (cells2_far N.out.1 N.out.2.1 B.out) | exact cells2_far N.out.2.2.2.2.1 N.out.2.2.2.2.2 (cells2_far N.out.2.2.1 N.out.2.2.2.1 (cells2_far N.out.1 N.out.2.1 B.out))) (fail)
  all_goals
    cases c₀
    simp_all [bodyPostS, results, Try.results61]
    refine ⟨?_, ?_, ?_, fun B w0 h1 h2 h3 h4 h5 => ((((h5.trans (HB.out.mono h4)).setCell h1 _).setCell h2 _).setCell h3 _).drew⟩
    · exact (World.cell?_setCell_other _ _ _ _ (Ne.symm hpr)).trans ((World.cell?_setCell_other _ _ _ _ (Ne.symm hpq)).trans (World.cell?_setCell_same _ _ _ cp))
    · exact (World.cell?_setCell_other _ _ _ _ (Ne.symm hqr)).trans (World.cell?_setCell_same _ _ _ ((World.cell?_setCell_other _ _ _ _ hpq).trans cq))
    · exact World.cell?_setCell_same _ _ _ ((World.cell?_setCell_other _ _ _ _ hqr).trans ((World.cell?_setCell_other _ _ _ _ hpr).trans cr))
end Go.Proofs.Ytndgdehlnmheeaa
