/-
  plan: a sequence, a step; match, end, must, the rules.
-/
import Derived.Test.YtamhkfnghgbenaaRows
import Derived.Test.YtamhkfnghgbenaaBase
import Derived.Deep.RegionHeld3
import Derived.BigQuiet
namespace Go.Proofs.Ytamhkfnghgbenaa
set_option linter.all false
open Go.RowKit

/-- A sequence. -/
structure SeqD where
  lit : Int
  len : Int
  off : Int
theorem SeqD.eq_iff (a b : SeqD) : (a.lit = b.lit ∧ a.len = b.len ∧ a.off = b.off) ↔ a = b :=
  ⟨fun ⟨h1, h2, h3⟩ => by cases a; cases b; simp only at h1 h2 h3; subst h1 h2 h3; rfl, fun h => by rw [h]; exact ⟨rfl, rfl, rfl⟩⟩
instance : DecidableEq SeqD := fun a b => decidable_of_decidable_of_iff (SeqD.eq_iff a b)

/-- A step: a sequence, its number and position, and the limits. -/
structure StepD where
  s : SeqD
  number : Int
  pos : Int
  size : Int
  have_ : Int
  window : Int

abbrev StepD.cells (x : StepD) : Array Value := #[.int .i64 x.s.lit, .int .i64 x.s.len, .int .i64 x.s.off, .int .i64 x.number, .int .i64 x.pos, .int .i64 x.size, .int .i64 x.have_, .int .i64 x.window]
abbrev StepD.val (x : StepD) : Value := .agg x.cells

/-- The first rule: the lengths. -/
def StepD.rule1 (x : StepD) : Prop := 0 ≤ x.s.lit ∧ 3 ≤ x.s.len ∧ x.s.lit ≤ x.size - x.pos ∧ x.s.len ≤ x.size - x.pos - x.s.lit
instance (x : StepD) : Decidable x.rule1 := by unfold StepD.rule1; infer_instance
/-- The second rule: the distance. -/
def StepD.rule2 (x : StepD) : Prop := 1 ≤ x.s.off ∧ x.s.off ≤ x.window ∧ x.s.off - (x.pos + x.s.lit) ≤ x.have_
instance (x : StepD) : Decidable x.rule2 := by unfold StepD.rule2; infer_instance
/-- Numbers in range. -/
structure StepD.Wf (x : StepD) : Prop where
  lit : -9223372036854775808 ≤ x.s.lit ∧ x.s.lit ≤ 9223372036854775807
  len : -9223372036854775808 ≤ x.s.len ∧ x.s.len ≤ 9223372036854775807
  off : -9223372036854775808 ≤ x.s.off ∧ x.s.off ≤ 9223372036854775807
  pos : 0 ≤ x.pos ∧ x.pos ≤ x.size
  size : 0 ≤ x.size ∧ x.size ≤ 131072

theorem ret_dec {p : Prop} [Decidable p] {b : Bool} (h : decide p = b) : Ending.returned (.bool b) = .returned (.bool (decide p)) := by rw [h]

/-- Take an operation first, its slot written out. -/
theorem wpAnyH_take2 {P : Program} {md : Region.Mode} {ops : Array Oper} {Q : Exit → Act → World → Prop} {S : World → Prop} {i : Nat} {oi : Oper} {d : Option Tmp} {v : Value} {fuel : Nat} {listed : Array Bool} {a : Act} {w : World} (hi : ops[i]? = some oi) (hd : oi.dst = d)
    (hs : Region.noSelect ops = true) (hf : Region.free md ops listed i = true) (hr : (Region.ready md ops listed).contains i = true)
    (hQ : ∀ c a w, Q (.panic c) (a.put d v) w → Q (.panic c) a w) (hy : YieldsIf P ops S oi v a) (hS : S w)
    (h : wpAnyH P md ops Q S fuel (listed.setIfInBounds i true) (a.put d v) w) : wpAnyH P md ops Q S (fuel + 1) listed a w := by
  subst hd
  exact wpAnyH_take hi hs hf hr hQ hy hS h

theorem wrap_in (n : Int) (h0 : -9223372036854775808 ≤ n) (h1 : n ≤ 9223372036854775807) : IntKind.i64.wrap n = n := by
  simp [IntKind.wrap, IntKind.bits, IntKind.signed]
  omega

theorem match_any (w : World) (x : StepD) (h1 : 0 ≤ x.pos ∧ x.pos ≤ 131072) (h2 : 0 ≤ x.s.lit ∧ x.s.lit ≤ 131072) :
    Calls Try.prog 34 #[x.val] w fun e w' => e = .returned (.int .i64 (x.pos + x.s.lit)) ∧ Below w.heap.size w w' := by
  obtain ⟨⟨lit, len, off⟩, number, pos, size, have_, window⟩ := x
  simp only at h1 h2
  obtain ⟨h1, h3⟩ := h1
  obtain ⟨h2, h4⟩ := h2
  have e1 : pos + lit ≤ 9223372036854775807 := by omega
  have e2 : -9223372036854775808 ≤ pos + lit := by omega
  have HB := Lib.hid ((Below.refl w.heap.size w).alloc (Nat.le_refl _) (.cells #[.int .i64 lit, .int .i64 len, .int .i64 off, .int .i64 number, .int .i64 pos, .int .i64 size, .int .i64 have_, .int .i64 window] 71))
  unfold StepD.val StepD.cells
  go_enter Try.func34, Try.ntmps34
  go_wp2
  go_ret
  exact ⟨rfl, HB.out⟩

theorem must_true (w : World) (x : StepD) : Calls Try.prog 43 #[x.val, .bool true] w fun e w' => e = .returned (.tuple #[]) ∧ Below w.heap.size w w' := by
  obtain ⟨⟨lit, len, off⟩, number, pos, size, have_, window⟩ := x
  have HB := Lib.hid ((Below.refl w.heap.size w).alloc (Nat.le_refl _) (.cells #[.int .i64 lit, .int .i64 len, .int .i64 off, .int .i64 number, .int .i64 pos, .int .i64 size, .int .i64 have_, .int .i64 window] 71))
  unfold StepD.val StepD.cells
  go_enter Try.func43, Try.ntmps43
  go_wp2
  go_end0
  exact ⟨rfl, HB.out⟩

/-- The panic that says which sequence is wrong. -/
abbrev wrongAt (n : Int) : Ending := .panicked [{ v := .iface 82 (.int .i64 n), recovered := false }]

theorem must_false (w : World) (x : StepD) : Calls Try.prog 43 #[x.val, .bool false] w fun e w' => e = wrongAt x.number ∧ Below w.heap.size w w' := by
  obtain ⟨⟨lit, len, off⟩, number, pos, size, have_, window⟩ := x
  have HB := Lib.hid ((Below.refl w.heap.size w).alloc (Nat.le_refl _) (.cells #[.int .i64 lit, .int .i64 len, .int .i64 off, .int .i64 number, .int .i64 pos, .int .i64 size, .int .i64 have_, .int .i64 window] 71))
  unfold StepD.val StepD.cells
  go_enter Try.func43, Try.ntmps43
  go_wp2
  exact ⟨rfl, rfl, HB.out⟩

/-- The eight cells of a step's box. -/
def StCells (W : World) (b : Nat) (x : StepD) : Prop :=
  W.cell? ⟨b, 0, none⟩ = some (.int .i64 x.s.lit) ∧ W.cell? ⟨b, 1, none⟩ = some (.int .i64 x.s.len) ∧ W.cell? ⟨b, 2, none⟩ = some (.int .i64 x.s.off) ∧ W.cell? ⟨b, 3, none⟩ = some (.int .i64 x.number) ∧
    W.cell? ⟨b, 4, none⟩ = some (.int .i64 x.pos) ∧ W.cell? ⟨b, 5, none⟩ = some (.int .i64 x.size) ∧ W.cell? ⟨b, 6, none⟩ = some (.int .i64 x.have_) ∧ W.cell? ⟨b, 7, none⟩ = some (.int .i64 x.window)
theorem Blk.step {W : World} {b : Nat} {t : TypeId} {x : StepD} (h : Blk W b t x.cells) : StCells W b x := by
  refine ⟨?_, ?_, ?_, ?_, ?_, ?_, ?_, ?_⟩ <;> (rw [h.cell]; rfl)

set_option maxHeartbeats 1600000 in
theorem rule1_any (w : World) (x : StepD) (h : x.Wf) : Calls Try.prog 46 #[x.val] w fun e w' => e = .returned (.bool (decide x.rule1)) ∧ Below w.heap.size w w' := by
  have hwf := h
  obtain ⟨hl, hn, ho, hp, hs⟩ := h
  obtain ⟨⟨lit, len, off⟩, number, pos, size, have_, window⟩ := x
  simp only at hl hn ho hp hs
  have HBK : Hid (Blk (w.alloc (.cells #[.int .i64 lit, .int .i64 len, .int .i64 off, .int .i64 number, .int .i64 pos, .int .i64 size, .int .i64 have_, .int .i64 window] 71)) w.heap.size 71 (StepD.cells ⟨⟨lit, len, off⟩, number, pos, size, have_, window⟩)) := (Blk.new w _ _ : Blk _ _ _ _)
  have HB := Lib.hid ((Below.refl w.heap.size w).alloc (Nat.le_refl _) (.cells #[.int .i64 lit, .int .i64 len, .int .i64 off, .int .i64 number, .int .i64 pos, .int .i64 size, .int .i64 have_, .int .i64 window] 71))
  obtain ⟨l1, l2⟩ := hl
  obtain ⟨n1, n2⟩ := hn
  obtain ⟨p1, p2⟩ := hp
  obtain ⟨s1, s2⟩ := hs
  unfold StepD.val StepD.cells
  by_cases h1 : 0 ≤ lit
  · by_cases h2 : 3 ≤ len
    · by_cases h3 : lit ≤ size - pos
      · have hm := fun W => match_any W ⟨⟨lit, len, off⟩, number, pos, size, have_, window⟩ ⟨p1, by simp only; omega⟩ ⟨h1, by simp only; omega⟩
        have HM := Lib.hid hm
        obtain ⟨m, hme⟩ : ∃ m, pos + lit = m := ⟨_, rfl⟩
        have HME := Lib.hid hme
        have m1 : 0 ≤ m := by omega
        have m2 : m ≤ size := by omega
        have ew1 : IntKind.i64.wrap (size - pos) = size - pos := wrap_in _ (by omega) (by omega)
        have ew2 : IntKind.i64.wrap (size - m) = size - m := wrap_in _ (by omega) (by omega)
        clear hm hme
        have hd : decide (len ≤ size - m) = decide (StepD.rule1 ⟨⟨lit, len, off⟩, number, pos, size, have_, window⟩) := decide_eq_decide.2 ⟨fun h => ⟨h1, h2, h3, by simp only; have := HME.out; omega⟩, fun hr => by have h5 := hr.2.2.2; simp only at h5; have := HME.out; omega⟩
        have HD := Lib.hid hd
        clear hd
        go_enter Try.func46, Try.ntmps46
        go_wp2
        generalize w.alloc (.cells #[.int .i64 lit, .int .i64 len, .int .i64 off, .int .i64 number, .int .i64 pos, .int .i64 size, .int .i64 have_, .int .i64 window] 71) = W0 at HB HBK ⊢
        go_region_held3 (fun w' => w'.cell? ⟨w.heap.size, 0, none⟩ = some (.int .i64 lit) ∧ w'.cell? ⟨w.heap.size, 1, none⟩ = some (.int .i64 len) ∧ w'.cell? ⟨w.heap.size, 2, none⟩ = some (.int .i64 off) ∧ w'.cell? ⟨w.heap.size, 3, none⟩ = some (.int .i64 number) ∧
            w'.cell? ⟨w.heap.size, 4, none⟩ = some (.int .i64 pos) ∧ w'.cell? ⟨w.heap.size, 5, none⟩ = some (.int .i64 size) ∧ w'.cell? ⟨w.heap.size, 6, none⟩ = some (.int .i64 have_) ∧ w'.cell? ⟨w.heap.size, 7, none⟩ = some (.int .i64 window))
          (first | exact HBK.out.step | exact HBK3.out.step)
          (first
            | (go_at_call 34; refine (HM.out _).mono ?_; rw [HME.out]; rintro e w3 ⟨rfl, hb⟩; have HBK3 := Lib.hid ((show Blk W0.drew _ _ _ from HBK.out).below hb HBK.out.lt); have HB3 := Lib.hid (HB.out.drew.trans (hb.mono HB.out.size)); clear hb))
        all_goals
          go_wp2
          go_ret
          exact ⟨ret_bool HD.out, HB3.out⟩
      · have hd : decide (StepD.rule1 ⟨⟨lit, len, off⟩, number, pos, size, have_, window⟩) = false := decide_eq_false fun hr => h3 hr.2.2.1
        have HD := Lib.hid hd
        have ew1 : IntKind.i64.wrap (size - pos) = size - pos := wrap_in _ (by omega) (by omega)
        have d3 : decide (lit ≤ size - pos) = false := decide_eq_false h3
        clear hd
        go_enter Try.func46, Try.ntmps46
        go_wp2
        go_quiet (fail)
        go_wp2
        go_ret
        exact ⟨ret_bool HD.out.symm, below_drewN HB.out _⟩
    · have hd : decide (StepD.rule1 ⟨⟨lit, len, off⟩, number, pos, size, have_, window⟩) = false := decide_eq_false fun hr => h2 hr.2.1
      have HD := Lib.hid hd
      have d2 : decide (3 ≤ len) = false := decide_eq_false h2
      clear hd
      go_enter Try.func46, Try.ntmps46
      go_wp2
      go_quiet (fail)
      go_wp2
      go_ret
      exact ⟨ret_bool HD.out.symm, below_drewN HB.out _⟩
  · have hd : decide (StepD.rule1 ⟨⟨lit, len, off⟩, number, pos, size, have_, window⟩) = false := decide_eq_false fun hr => h1 hr.1
    have HD := Lib.hid hd
    have d1 : decide (0 ≤ lit) = false := decide_eq_false h1
    clear hd
    go_enter Try.func46, Try.ntmps46
    go_wp2
    go_quiet (fail)
    go_wp2
    go_ret
    exact ⟨ret_bool HD.out.symm, below_drewN HB.out _⟩
end Go.Proofs.Ytamhkfnghgbenaa
