/-
  plan: the second rule, end, rules.
-/
import Derived.Test.YtamhkfnghgbenaaPlStep
namespace Go.Proofs.Ytamhkfnghgbenaa
set_option linter.all false
open Go.RowKit

set_option maxHeartbeats 1600000 in
theorem rule2_any (w : World) (x : StepD) (ho : -9223372036854775808 ≤ x.s.off ∧ x.s.off ≤ 9223372036854775807) (hp : 0 ≤ x.pos ∧ x.pos ≤ 131072) (hl : 0 ≤ x.s.lit ∧ x.s.lit ≤ 131072) :
    Calls Try.prog 47 #[x.val] w fun e w' => e = .returned (.bool (decide x.rule2)) ∧ Below w.heap.size w w' := by
  obtain ⟨⟨lit, len, off⟩, number, pos, size, have_, window⟩ := x
  simp only at hl ho hp
  have HBK : Hid (Blk (w.alloc (.cells #[.int .i64 lit, .int .i64 len, .int .i64 off, .int .i64 number, .int .i64 pos, .int .i64 size, .int .i64 have_, .int .i64 window] 71)) w.heap.size 71 (StepD.cells ⟨⟨lit, len, off⟩, number, pos, size, have_, window⟩)) := (Blk.new w _ _ : Blk _ _ _ _)
  have HB := Lib.hid ((Below.refl w.heap.size w).alloc (Nat.le_refl _) (.cells #[.int .i64 lit, .int .i64 len, .int .i64 off, .int .i64 number, .int .i64 pos, .int .i64 size, .int .i64 have_, .int .i64 window] 71))
  obtain ⟨l1, l2⟩ := hl
  obtain ⟨p1, p2⟩ := hp
  obtain ⟨o1, o2⟩ := ho
  unfold StepD.val StepD.cells
  by_cases h1 : 1 ≤ off
  · by_cases h2 : off ≤ window
    · have hm := fun W => match_any W ⟨⟨lit, len, off⟩, number, pos, size, have_, window⟩ ⟨p1, p2⟩ ⟨l1, l2⟩
      have HM := Lib.hid hm
      obtain ⟨m, hme⟩ : ∃ m, pos + lit = m := ⟨_, rfl⟩
      have HME := Lib.hid hme
      have ew2 : IntKind.i64.wrap (off - m) = off - m := wrap_in _ (by omega) (by omega)
      clear hm hme
      have hd : decide (off - m ≤ have_) = decide (StepD.rule2 ⟨⟨lit, len, off⟩, number, pos, size, have_, window⟩) := decide_eq_decide.2 ⟨fun h => ⟨h1, h2, by simp only; have := HME.out; omega⟩, fun hr => by have h5 := hr.2.2; simp only at h5; have := HME.out; omega⟩
      have HD := Lib.hid hd
      clear hd
      go_enter Try.func47, Try.ntmps47
      go_wp2
      generalize w.alloc (.cells #[.int .i64 lit, .int .i64 len, .int .i64 off, .int .i64 number, .int .i64 pos, .int .i64 size, .int .i64 have_, .int .i64 window] 71) = W0 at HB HBK ⊢
      go_region_held3 (fun w' => w'.cell? ⟨w.heap.size, 0, none⟩ = some (.int .i64 lit) ∧ w'.cell? ⟨w.heap.size, 1, none⟩ = some (.int .i64 len) ∧ w'.cell? ⟨w.heap.size, 2, none⟩ = some (.int .i64 off) ∧ w'.cell? ⟨w.heap.size, 3, none⟩ = some (.int .i64 number) ∧
          w'.cell? ⟨w.heap.size, 4, none⟩ = some (.int .i64 pos) ∧ w'.cell? ⟨w.heap.size, 5, none⟩ = some (.int .i64 size) ∧ w'.cell? ⟨w.heap.size, 6, none⟩ = some (.int .i64 have_) ∧ w'.cell? ⟨w.heap.size, 7, none⟩ = some (.int .i64 window))
        (first | exact HBK.out.step | exact HBK3.out.step)
        (first
          | (go_at_call 34; refine (HM.out _).mono ?_; rw [HME.out]; rintro e w3 ⟨rfl, hb⟩; have HBK3 := Lib.hid ((show Blk W0.drew _ _ _ from HBK.out).below hb HBK.out.lt); have HB3 := Lib.hid (HB.out.drew.trans (hb.mono HB.out.size)); clear hb))
      all_goals
        go_wp2
        go_ret
        exact ⟨ret_bool HD.out, HB3.out⟩
    · have hd : decide (StepD.rule2 ⟨⟨lit, len, off⟩, number, pos, size, have_, window⟩) = false := decide_eq_false fun hr => h2 hr.2.1
      have HD := Lib.hid hd
      have d2 : decide (off ≤ window) = false := decide_eq_false h2
      clear hd
      go_enter Try.func47, Try.ntmps47
      go_wp2
      go_quiet (fail)
      go_wp2
      go_ret
      exact ⟨ret_bool HD.out.symm, below_drewN HB.out _⟩
  · have hd : decide (StepD.rule2 ⟨⟨lit, len, off⟩, number, pos, size, have_, window⟩) = false := decide_eq_false fun hr => h1 hr.1
    have HD := Lib.hid hd
    have d1 : decide (1 ≤ off) = false := decide_eq_false h1
    clear hd
    go_enter Try.func47, Try.ntmps47
    go_wp2
    go_quiet (fail)
    go_wp2
    go_ret
    exact ⟨ret_bool HD.out.symm, below_drewN HB.out _⟩

theorem end_any (w : World) (x : StepD) (h1 : 0 ≤ x.pos ∧ x.pos ≤ 131072) (h2 : 0 ≤ x.s.lit ∧ x.s.lit ≤ 131072) (h3 : 0 ≤ x.s.len ∧ x.s.len ≤ 131072) :
    Calls Try.prog 38 #[x.val] w fun e w' => e = .returned (.int .i64 (x.pos + x.s.lit + x.s.len)) ∧ Below w.heap.size w w' := by
  obtain ⟨⟨lit, len, off⟩, number, pos, size, have_, window⟩ := x
  simp only at h1 h2 h3
  have HM := Lib.hid (fun W => match_any W ⟨⟨lit, len, off⟩, number, pos, size, have_, window⟩ h1 h2)
  have HBK : Hid (Blk (w.alloc (.cells #[.int .i64 lit, .int .i64 len, .int .i64 off, .int .i64 number, .int .i64 pos, .int .i64 size, .int .i64 have_, .int .i64 window] 71)) w.heap.size 71 (StepD.cells ⟨⟨lit, len, off⟩, number, pos, size, have_, window⟩)) := (Blk.new w _ _ : Blk _ _ _ _)
  have HB := Lib.hid ((Below.refl w.heap.size w).alloc (Nat.le_refl _) (.cells #[.int .i64 lit, .int .i64 len, .int .i64 off, .int .i64 number, .int .i64 pos, .int .i64 size, .int .i64 have_, .int .i64 window] 71))
  obtain ⟨p1, p2⟩ := h1
  obtain ⟨l1, l2⟩ := h2
  obtain ⟨n1, n2⟩ := h3
  obtain ⟨m, hme⟩ : ∃ m, pos + lit = m := ⟨_, rfl⟩
  have HME := Lib.hid hme
  have ew : IntKind.i64.wrap (m + len) = m + len := wrap_in _ (by omega) (by omega)
  clear hme
  unfold StepD.val StepD.cells
  go_enter Try.func38, Try.ntmps38
  go_wp2
  generalize w.alloc (.cells #[.int .i64 lit, .int .i64 len, .int .i64 off, .int .i64 number, .int .i64 pos, .int .i64 size, .int .i64 have_, .int .i64 window] 71) = W0 at HB HBK ⊢
  go_region_held3 (fun w' => w'.cell? ⟨w.heap.size, 0, none⟩ = some (.int .i64 lit) ∧ w'.cell? ⟨w.heap.size, 1, none⟩ = some (.int .i64 len) ∧ w'.cell? ⟨w.heap.size, 2, none⟩ = some (.int .i64 off) ∧ w'.cell? ⟨w.heap.size, 3, none⟩ = some (.int .i64 number) ∧
      w'.cell? ⟨w.heap.size, 4, none⟩ = some (.int .i64 pos) ∧ w'.cell? ⟨w.heap.size, 5, none⟩ = some (.int .i64 size) ∧ w'.cell? ⟨w.heap.size, 6, none⟩ = some (.int .i64 have_) ∧ w'.cell? ⟨w.heap.size, 7, none⟩ = some (.int .i64 window))
    (first | exact HBK.out.step | exact HBK3.out.step)
    (first
      | (go_at_call 34; refine (HM.out _).mono ?_; rw [HME.out]; rintro e w3 ⟨rfl, hb⟩; have HBK3 := Lib.hid ((show Blk W0.drew _ _ _ from HBK.out).below hb HBK.out.lt); have HB3 := Lib.hid (HB.out.drew.trans (hb.mono HB.out.size)); clear hb))
  all_goals
    go_wp2
    go_ret
    exact ⟨by simp only; rw [HME.out]; rfl, HB3.out⟩

/-- The rules as values. -/
abbrev ruleFn (k : Nat) : Value := .func (.func k) #[] #[]
theorem rules_any (w : World) : Calls Try.prog 42 #[] w fun e w' => e = .returned (.agg #[ruleFn 46, ruleFn 47]) ∧ Below w.heap.size w w' := by
  have HB := Lib.hid ((Below.refl w.heap.size w).alloc (Nat.le_refl _) (.cells #[ruleFn 46, ruleFn 47] 85))
  go_enter Try.func42, Try.ntmps42
  go_wp2
  refine bodyPost_ret (v := .agg #[ruleFn 46, ruleFn 47]) (by simp [results, Try.results42, go_sem]) rfl ?_
  exact ⟨rfl, HB.out⟩
end Go.Proofs.Ytamhkfnghgbenaa
