/-
  exec: a look at a sequence; its two rules.
-/
import Derived.Test.YtndgdehlnmheeaaPlSq
namespace Go.Proofs.Ytndgdehlnmheeaa
set_option linter.all false
open Go.RowKit

/-- A sequence with the limits that it must respect. -/
structure LookD where
  s : SeqD
  number : Int
  size : Int
  have_ : Int
  lits : Int
  most : Int
  total : Int

abbrev LookD.cells (x : LookD) : Array Value := #[.int .i64 x.s.lit, .int .i64 x.s.len, .int .i64 x.s.off, .int .i64 x.number, .int .i64 x.size, .int .i64 x.have_, .int .i64 x.lits, .int .i64 x.most, .int .i64 x.total]
abbrev LookD.val (x : LookD) : Value := .agg x.cells
/-- The first rule. -/
def LookD.ok1 (x : LookD) : Prop := 0 ≤ x.s.lit ∧ x.s.lit ≤ x.lits ∧ 3 ≤ x.s.len ∧ x.s.len ≤ 131072 ∧ 1 ≤ x.s.off ∧ x.s.off ≤ x.size ∧ x.s.off - x.have_ - x.total ≤ x.s.lit
instance (x : LookD) : Decidable x.ok1 := by unfold LookD.ok1; infer_instance
/-- The second rule. -/
def LookD.ok2 (x : LookD) : Prop := x.s.lit ≤ x.most - x.total ∧ x.s.len ≤ x.most - x.total - x.s.lit
instance (x : LookD) : Decidable x.ok2 := by unfold LookD.ok2; infer_instance
/-- The errors. -/
def LookD.err1 (x : LookD) : Int := if x.ok1 then 0 else 15
def LookD.err2 (x : LookD) : Int := if x.ok2 then 0 else 10
/-- Numbers in range. -/
structure LookD.Wf (x : LookD) : Prop where
  seq : x.s.Wf
  size : 1 ≤ x.size ∧ x.size ≤ 134217728
  have_ : 0 ≤ x.have_ ∧ x.have_ ≤ 134217728
  lits : 0 ≤ x.lits ∧ x.lits ≤ 9223372036854775807
  total : 0 ≤ x.total ∧ x.total ≤ x.most
  most : x.most ≤ 131072
theorem LookD.err1_ok {x : LookD} (h : x.ok1) : x.err1 = 0 := if_pos h
theorem LookD.err1_no {x : LookD} (h : ¬ x.ok1) : x.err1 = 15 := if_neg h
theorem LookD.err2_ok {x : LookD} (h : x.ok2) : x.err2 = 0 := if_pos h
theorem LookD.err2_no {x : LookD} (h : ¬ x.ok2) : x.err2 = 10 := if_neg h

set_option maxHeartbeats 1600000 in
theorem exrule1_any (w : World) (x : LookD) (h : x.Wf) : Calls Try.prog 72 #[x.val] w fun e w' => e = .returned (.int .i64 x.err1) ∧ Below w.heap.size w w' := by
  obtain ⟨⟨q1, q2, q3⟩, ⟨s1, s2⟩, ⟨v1, v2⟩, ⟨l1, l2⟩, ⟨t1, t2⟩, m1⟩ := h
  obtain ⟨⟨lit, len, off⟩, number, size, have_, lits, most, total⟩ := x
  simp only at q1 q2 q3 s1 s2 v1 v2 l1 l2 t1 t2 m1
  obtain ⟨q1, q4⟩ := q1
  obtain ⟨q2, q5⟩ := q2
  obtain ⟨q3, q6⟩ := q3
  have HB := Lib.hid ((Below.refl w.heap.size w).alloc (Nat.le_refl _) (.cells #[.int .i64 lit, .int .i64 len, .int .i64 off, .int .i64 number, .int .i64 size, .int .i64 have_, .int .i64 lits, .int .i64 most, .int .i64 total] 110))
  unfold LookD.val LookD.cells
  by_cases h1 : 0 ≤ lit
  · skip
    by_cases h2 : lit ≤ lits
    · skip
      by_cases h3 : 3 ≤ len
      · skip
        by_cases h4 : len ≤ 131072
        · skip
          by_cases h5 : 1 ≤ off
          · skip
            by_cases h6 : off ≤ size
            · skip
              have w1 : -9223372036854775808 ≤ off - have_ := by omega
              have w2 : off - have_ ≤ 9223372036854775807 := by omega
              have w3 : -9223372036854775808 ≤ off - have_ - total := by omega
              have w4 : off - have_ - total ≤ 9223372036854775807 := by omega
              by_cases h7 : off - have_ - total ≤ lit
              · skip
                have he : LookD.err1 ⟨⟨lit, len, off⟩, number, size, have_, lits, most, total⟩ = 0 := LookD.err1_ok ⟨h1, h2, h3, h4, h5, h6, h7⟩
                have HE := Lib.hid he
                clear he
                go_enter Try.func72, Try.ntmps72
                go_wp2
                go_ret
                exact ⟨ret_int HE.out.symm, HB.out⟩
              · have he : LookD.err1 ⟨⟨lit, len, off⟩, number, size, have_, lits, most, total⟩ = 15 := LookD.err1_no (fun hh => h7 hh.2.2.2.2.2.2)
                have g7 : lit < off - have_ - total := by omega
                clear h7
                have HE := Lib.hid he
                clear he
                go_enter Try.func72, Try.ntmps72
                go_wp2
                go_ret
                exact ⟨ret_int HE.out.symm, HB.out⟩
            · have he : LookD.err1 ⟨⟨lit, len, off⟩, number, size, have_, lits, most, total⟩ = 15 := LookD.err1_no (fun hh => h6 hh.2.2.2.2.2.1)
              have g6 : size < off := by omega
              clear h6
              have HE := Lib.hid he
              clear he
              go_enter Try.func72, Try.ntmps72
              go_wp2
              go_ret
              exact ⟨ret_int HE.out.symm, HB.out⟩
          · have he : LookD.err1 ⟨⟨lit, len, off⟩, number, size, have_, lits, most, total⟩ = 15 := LookD.err1_no (fun hh => h5 hh.2.2.2.2.1)
            have g5 : off < 1 := by omega
            clear h5
            have HE := Lib.hid he
            clear he
            go_enter Try.func72, Try.ntmps72
            go_wp2
            go_ret
            exact ⟨ret_int HE.out.symm, HB.out⟩
        · have he : LookD.err1 ⟨⟨lit, len, off⟩, number, size, have_, lits, most, total⟩ = 15 := LookD.err1_no (fun hh => h4 hh.2.2.2.1)
          have g4 : 131072 < len := by omega
          clear h4
          have HE := Lib.hid he
          clear he
          go_enter Try.func72, Try.ntmps72
          go_wp2
          go_ret
          exact ⟨ret_int HE.out.symm, HB.out⟩
      · have he : LookD.err1 ⟨⟨lit, len, off⟩, number, size, have_, lits, most, total⟩ = 15 := LookD.err1_no (fun hh => h3 hh.2.2.1)
        have g3 : len < 3 := by omega
        clear h3
        have HE := Lib.hid he
        clear he
        go_enter Try.func72, Try.ntmps72
        go_wp2
        go_ret
        exact ⟨ret_int HE.out.symm, HB.out⟩
    · have he : LookD.err1 ⟨⟨lit, len, off⟩, number, size, have_, lits, most, total⟩ = 15 := LookD.err1_no (fun hh => h2 hh.2.1)
      have g2 : lits < lit := by omega
      clear h2
      have HE := Lib.hid he
      clear he
      go_enter Try.func72, Try.ntmps72
      go_wp2
      go_ret
      exact ⟨ret_int HE.out.symm, HB.out⟩
  · have he : LookD.err1 ⟨⟨lit, len, off⟩, number, size, have_, lits, most, total⟩ = 15 := LookD.err1_no (fun hh => h1 hh.1)
    have g1 : lit < 0 := by omega
    clear h1
    have HE := Lib.hid he
    clear he
    go_enter Try.func72, Try.ntmps72
    go_wp2
    go_ret
    exact ⟨ret_int HE.out.symm, HB.out⟩

set_option maxHeartbeats 1600000 in
theorem exrule2_any (w : World) (x : LookD) (h : x.Wf) (hx : x.ok1) : Calls Try.prog 73 #[x.val] w fun e w' => e = .returned (.int .i64 x.err2) ∧ Below w.heap.size w w' := by
  obtain ⟨⟨q1, q2, q3⟩, ⟨s1, s2⟩, ⟨v1, v2⟩, ⟨l1, l2⟩, ⟨t1, t2⟩, m1⟩ := h
  obtain ⟨⟨lit, len, off⟩, number, size, have_, lits, most, total⟩ := x
  simp only at q1 q2 q3 s1 s2 v1 v2 l1 l2 t1 t2 m1
  obtain ⟨x1, x2, x3, x4, x5, x6, x7⟩ := hx
  simp only at x1 x2 x3 x4 x5 x6 x7
  obtain ⟨q1, q4⟩ := q1
  obtain ⟨q2, q5⟩ := q2
  obtain ⟨q3, q6⟩ := q3
  have HB := Lib.hid ((Below.refl w.heap.size w).alloc (Nat.le_refl _) (.cells #[.int .i64 lit, .int .i64 len, .int .i64 off, .int .i64 number, .int .i64 size, .int .i64 have_, .int .i64 lits, .int .i64 most, .int .i64 total] 110))
  unfold LookD.val LookD.cells
  by_cases h1 : lit ≤ most - total
  · skip
    have w1 : -9223372036854775808 ≤ most - total - lit := by omega
    have w2 : most - total - lit ≤ 9223372036854775807 := by omega
    by_cases h2 : len ≤ most - total - lit
    · skip
      have he : LookD.err2 ⟨⟨lit, len, off⟩, number, size, have_, lits, most, total⟩ = 0 := LookD.err2_ok ⟨h1, h2⟩
      have HE := Lib.hid he
      clear he
      go_enter Try.func73, Try.ntmps73
      go_wp2
      go_ret
      exact ⟨ret_int HE.out.symm, HB.out⟩
    · have he : LookD.err2 ⟨⟨lit, len, off⟩, number, size, have_, lits, most, total⟩ = 10 := LookD.err2_no (fun hh => h2 hh.2)
      have g2 : most - total - lit < len := by omega
      clear h2
      have HE := Lib.hid he
      clear he
      go_enter Try.func73, Try.ntmps73
      go_wp2
      go_ret
      exact ⟨ret_int HE.out.symm, HB.out⟩
  · have he : LookD.err2 ⟨⟨lit, len, off⟩, number, size, have_, lits, most, total⟩ = 10 := LookD.err2_no (fun hh => h1 hh.1)
    have g1 : most - total < lit := by omega
    clear h1
    have HE := Lib.hid he
    clear he
    go_enter Try.func73, Try.ntmps73
    go_wp2
    go_ret
    exact ⟨ret_int HE.out.symm, HB.out⟩

/-- The rules as values. -/
abbrev exFn (k : Nat) : Value := .func (.func k) #[] #[]
theorem exrules_any (w : World) : Calls Try.prog 62 #[] w fun e w' => e = .returned (.agg #[exFn 72, exFn 73]) ∧ Below w.heap.size w w' := by
  have HB := Lib.hid ((Below.refl w.heap.size w).alloc (Nat.le_refl _) (.cells #[exFn 72, exFn 73] 112))
  go_enter Try.func62, Try.ntmps62
  go_wp2
  refine bodyPost_ret (v := .agg #[exFn 72, exFn 73]) (by simp [results, Try.results62, go_sem]) rfl ?_
  exact ⟨rfl, HB.out⟩

/-- The panic that says which sequence is refused, and why. -/
abbrev refusedAt (n e : Int) : Ending := .panicked [{ v := .iface 125 (.agg #[.int .i64 n, .int .i64 e]), recovered := false }]
theorem exmust_ok (w : World) (n : Int) : Calls Try.prog 63 #[.int .i64 n, .int .i64 0] w fun e w' => e = .returned (.tuple #[]) ∧ w' = w := by
  go_enter Try.func63, Try.ntmps63
  go_wp2
  go_end0
  exact ⟨rfl, rfl⟩
theorem exmust_no (w : World) (n e0 : Int) (he : (e0 == 0) = false) : Calls Try.prog 63 #[.int .i64 n, .int .i64 e0] w fun e w' => e = refusedAt n e0 ∧ w' = w := by
  have he2 : (e0 != 0) = true := by simpa using he
  have he3 : ¬ e0 = 0 := by simpa using he
  go_enter Try.func63, Try.ntmps63
  go_wp2
  exact ⟨rfl, rfl, rfl⟩
end Go.Proofs.Ytndgdehlnmheeaa
