/-
  plan: the first wrong sequence as a function.
-/
import Derived.Test.YtamhkfnghgbenaaPlSteps
namespace Go.Proofs.Ytamhkfnghgbenaa
set_option linter.all false
open Go.RowKit

/-- Does the k-th sequence keep the rules. -/
def okK (many : Nat) (size hv wd : Int) (ss : List SeqD) (k : Nat) : Bool := match ss[k]? with
  | none => true
  | some s => decide (okAt many size hv wd ss k s)
/-- The first wrong sequence's number. -/
def bad (many : Nat) (size hv wd : Int) (ss : List SeqD) : Option Nat := (List.range ss.length).find? fun k => !okK many size hv wd ss k

theorem bad_none {many : Nat} {size hv wd : Int} {ss : List SeqD} : bad many size hv wd ss = none ↔ Good many size hv wd ss ss.length := by
  unfold bad
  rw [List.find?_eq_none]
  constructor
  · intro h i s hi hs
    have := h i (List.mem_range.2 hi)
    simp only [okK, hs, Bool.not_eq_true, Bool.not_eq_false', decide_eq_true_eq] at this
    exact this
  · intro h k hk
    have hk := List.mem_range.1 hk
    have hs := List.getElem?_eq_getElem hk
    simp only [okK, hs, Bool.not_eq_true, Bool.not_eq_false', decide_eq_true_eq]
    exact h k _ hk hs
theorem bad_some {many : Nat} {size hv wd : Int} {ss : List SeqD} {k : Nat} : bad many size hv wd ss = some k ↔ ∃ s, ss[k]? = some s ∧ Good many size hv wd ss k ∧ ¬ okAt many size hv wd ss k s := by
  unfold bad
  rw [List.find?_range_eq_some]
  constructor
  · rintro ⟨h1, h2, h3⟩
    have hk := List.mem_range.1 h2
    have hs := List.getElem?_eq_getElem hk
    refine ⟨_, hs, fun i s hi hx => ?_, ?_⟩
    · have := h3 i hi
      simp only [okK, hx, Bool.not_not, decide_eq_true_eq] at this
      exact this
    · simp only [okK, hs, Bool.not_eq_true', decide_eq_false_iff_not] at h1
      exact h1
  · rintro ⟨s, hs, hg, ho⟩
    have hk := (List.getElem?_eq_some_iff.1 hs).1
    refine ⟨by simp only [okK, hs, Bool.not_eq_true', decide_eq_false_iff_not]; exact ho, List.mem_range.2 hk, fun i hi => ?_⟩
    have hx := List.getElem?_eq_getElem (l := ss) (i := i) (by omega)
    simp only [okK, hx, Bool.not_not, decide_eq_true_eq]
    exact hg i _ hi hx

/-- What Size answers. -/
def sizeR (ss : List SeqD) : Int × Int := match bad 1 131072 0 0 ss with
  | none => (posL ss, 0)
  | some _ => (0, 15)
/-- How many sequences have valid lengths. -/
def nGood (ss : List SeqD) : Nat := match bad 1 131072 0 0 ss with
  | none => ss.length
  | some k => k
def argsOk (size hv wd : Int) : Prop := 0 ≤ size ∧ 0 ≤ hv ∧ size ≤ 131072 ∧ 1 ≤ wd ∧ wd ≤ 134217728
instance (size hv wd : Int) : Decidable (argsOk size hv wd) := by unfold argsOk; infer_instance
/-- What FirstError answers. -/
def whereR (ss : List SeqD) (size hv wd : Int) : Int × Int := if argsOk size hv wd then (match bad 2 size hv wd ss with
  | none => (0, 0)
  | some k => (k, 15)) else (0, 2)

theorem nGood_le (ss : List SeqD) : nGood ss ≤ ss.length := by
  unfold nGood
  cases h : bad 1 131072 0 0 ss with
  | none => exact Nat.le_refl _
  | some k =>
    obtain ⟨s, hs, -⟩ := bad_some.1 h
    exact Nat.le_of_lt (List.getElem?_eq_some_iff.1 hs).1
theorem nGood_good (ss : List SeqD) : Good 1 131072 0 0 ss (nGood ss) := by
  unfold nGood
  cases h : bad 1 131072 0 0 ss with
  | none => exact bad_none.1 h
  | some k => exact (bad_some.1 h).choose_spec.2.1
/-- The sizes are small. -/
theorem sizeR_le (ss : List SeqD) : 0 ≤ (sizeR ss).1 ∧ (sizeR ss).1 ≤ 131072 := by
  unfold sizeR
  cases h : bad 1 131072 0 0 ss with
  | none =>
    have := Good.pos (size := 131072) (by omega) (Nat.le_refl _) (bad_none.1 h)
    rwa [List.take_length] at this
  | some k => simp
theorem sizeR_ok {ss : List SeqD} (h : (sizeR ss).2 = 0) : nGood ss = ss.length ∧ (sizeR ss).1 = posL ss ∧ Good 1 131072 0 0 ss ss.length := by
  unfold sizeR at h ⊢
  unfold nGood
  cases hb : bad 1 131072 0 0 ss with
  | none => exact ⟨rfl, rfl, bad_none.1 hb⟩
  | some k => rw [hb] at h; simp at h
theorem sizeR_cases (ss : List SeqD) : (sizeR ss).2 = 0 ∨ (sizeR ss).2 = 15 ∧ (sizeR ss).1 = 0 := by
  unfold sizeR
  cases hb : bad 1 131072 0 0 ss with
  | none => exact .inl rfl
  | some k => exact .inr ⟨rfl, rfl⟩

theorem steps_all (w : World) (v : Value) (ss : List SeqD) (h : Seqs w v ss) (hl : ss.length ≤ 100000) : Calls Try.prog 29 #[v] w fun e w' =>
    ∃ A c, e = .returned (.tuple #[.slice A (nGood ss) c, .int .i64 (sizeR ss).1, .int .i64 (sizeR ss).2]) ∧ Below w.heap.size w w' ∧ StRow w' (.slice A (nGood ss) c) (stepsOf 131072 0 0 ss (nGood ss)) ∧
      (∀ k, (Value.slice A (nGood ss) c).ownBlock = some k → w.heap.size ≤ k) := by
  refine (steps_any w v ss h hl).mono ?_
  rintro e w' ⟨ov, hb, ho, ⟨hg, rfl, hr⟩ | ⟨k, s, hk, hg, hno, rfl, hr⟩⟩
  · have e1 := bad_none.2 hg
    have e2 : nGood ss = ss.length := by unfold nGood; rw [e1]
    have e3 : sizeR ss = (posL ss, 0) := by unfold sizeR; rw [e1]
    rw [e2, e3]
    obtain ⟨A, c, he⟩ := ownsRow_form hr
    rw [List.length_map, stepsOf_length (Nat.le_refl _)] at he
    subst he
    exact ⟨A, c, rfl, hb, hr, ho⟩
  · have e1 := bad_some.2 ⟨s, hk, hg, hno⟩
    have e2 : nGood ss = k := by unfold nGood; rw [e1]
    have e3 : sizeR ss = (0, 15) := by unfold sizeR; rw [e1]
    rw [e2, e3]
    obtain ⟨A, c, he⟩ := ownsRow_form hr
    rw [List.length_map, stepsOf_length (Nat.le_of_lt (List.getElem?_eq_some_iff.1 hk).1)] at he
    subst he
    exact ⟨A, c, rfl, hb, hr, ho⟩
end Go.Proofs.Ytamhkfnghgbenaa
