/-
  preset: the parts; the reference's tables.
-/
import Derived.Test.YtkffhfdmdcecaaaPreset
namespace Go.Proofs.Ytkffhfdmdcecaaa
open Go.RowKit

theorem below2 (w : World) (o o' : Obj) : Below w.heap.size w ((w.alloc o).alloc o') := ((Below.refl _ _).alloc (Nat.le_refl _) _).alloc (by simp) _
theorem below1 (w : World) (o : Obj) : Below w.heap.size w (w.alloc o) := (Below.refl _ _).alloc (Nat.le_refl _) _

/-- Two results: a fresh table, and OK. -/
def TabRes2 (w w' : World) (e : Ending) (log : Int) (xs : List Int) : Prop :=
  ∃ v, e = .returned (.tuple #[.agg #[.int .i64 log, v], .int .i64 0]) ∧ FreshInts w' w.heap.size v xs ∧ Below w.heap.size w w'


set_option maxHeartbeats 400000 in
theorem refOf_0 (w : World) : Calls Try.prog 13 #[.int .i64 0] w fun e w' => TabRes w w' e 6 llN := by
  go_enter Try.func13, Try.ntmps13
  go_wp2
  refine bodyPost_ret (v := .agg #[.int .i64 6, .slice (some ⟨w.heap.size + 1, 0, none⟩) 44 44]) (by simp [results, Try.results13, go_sem]) rfl ⟨_, rfl, ⟨w.heap.size + 1, _, rfl, by omega, (Blk.new1 w _ _ _).congr (by rfl)⟩, below2 _ _ _⟩
set_option maxHeartbeats 400000 in
theorem of_0 (w : World) : Calls Try.prog 32 #[.int .i64 0] w fun e w' =>
    e = .returned (.tuple #[.agg #[.func (.func 12) #[] #[], .int .i64 9], .int .i64 0]) ∧ Below w.heap.size w w' := by
  go_enter Try.func32, Try.ntmps32
  go_wp2
  exact bodyPost_ret (v := .tuple #[.agg #[.func (.func 12) #[] #[], .int .i64 9], .int .i64 0]) (by simp [results, Try.results32, go_sem]) rfl ⟨rfl, below2 _ _ _⟩
set_option maxHeartbeats 400000 in
theorem table_0 (w : World) : Calls Try.prog 17 #[.int .i64 0] w fun e w' => TabRes2 w w' e 6 llN := by
  go_enter Try.func17, Try.ntmps17
  go_wp2_with fail
  refine (of_0 _).mono ?_
  rintro e w1 ⟨rfl, hb⟩
  have HR := Lib.hid ((Blk.new w 25 #[.int .i64 0, .slice none 0 0]).below hb (by simp))
  obtain ⟨hx, hy, hf, hf'⟩ := HR.out.two
  have hb1 : Below w.heap.size w w1 := (below1 _ _).trans (hb.mono (by simp))
  have hs1 : w.heap.size < w1.heap.size := by have := hb.size; simp at this; omega
  have HB1 := Lib.hid hb1
  clear hb hb1
  go_wp2_with fail
  refine (ll_any _).mono ?_
  rintro e w2 ⟨v, rfl, ⟨g, t, rfl, hg, hk⟩, hb⟩
  simp at hg
  have HR2 := Lib.hid ((HR.out.alloc _).below hb (by simp; omega))
  obtain ⟨hx2, hy2, hf2, hf2'⟩ := HR2.out.two
  have hb2 : Below w.heap.size w w2 := (HB1.out.alloc (by omega) _).trans (hb.mono (by simp; omega))
  have HB2 := Lib.hid hb2
  have HK := Lib.hid hk
  clear hb hb2 hk HB1 hx hy hf hf'
  go_wp2
  refine bodyPost_ret (v := .tuple #[.agg #[.int .i64 6, .slice (some ⟨g, 0, none⟩) 44 44], .int .i64 0]) (by simp [results, Try.results17, go_sem, hx2, hy2]; rfl) rfl ⟨_, rfl, ⟨g, t, rfl, by omega, (HK.out.far (by simp; omega) _).far (by simp; omega) _⟩, ?_⟩
  exact (HB2.out.setCell (by simp) _).setCell (by simp) _
set_option maxHeartbeats 400000 in
theorem symbols_0 (w : World) : Calls Try.prog 18 #[.int .i64 0] w fun e w' => e = .returned (.tuple #[.int .i64 44, .int .i64 0]) ∧ Below w.heap.size w w' := by
  go_enter Try.func18, Try.ntmps18
  go_wp2_with fail
  refine (table_0 _).mono ?_
  rintro e w1 ⟨v, rfl, ⟨g, t, rfl, -, -⟩, hb⟩
  have HB := Lib.hid hb
  have hs := hb.size
  clear hb
  go_wp2
  go_ret2
  exact ⟨by simp [llN], HB.out.alloc hs _⟩
set_option maxHeartbeats 400000 in
theorem log_0 (w : World) : Calls Try.prog 19 #[.int .i64 0] w fun e w' => e = .returned (.tuple #[.int .i64 9, .int .i64 0]) ∧ Below w.heap.size w w' := by
  go_enter Try.func19, Try.ntmps19
  go_wp2_with fail
  refine (of_0 _).mono ?_
  rintro e w1 ⟨rfl, hb⟩
  have HB := Lib.hid hb
  have hs := hb.size
  clear hb
  go_wp2
  go_ret2
  exact ⟨rfl, HB.out.alloc hs _⟩
set_option maxHeartbeats 400000 in
theorem refSymbols_0 (w : World) : Calls Try.prog 20 #[.int .i64 0] w fun e w' => e = .returned (.int .i64 44) ∧ w = w' := by
  go_enter Try.func20, Try.ntmps20
  go_wp2
  go_ret
  exact ⟨rfl, rfl⟩
set_option maxHeartbeats 400000 in
theorem refLog_0 (w : World) : Calls Try.prog 21 #[.int .i64 0] w fun e w' => e = .returned (.int .i64 9) ∧ w = w' := by
  go_enter Try.func21, Try.ntmps21
  go_wp2
  go_ret
  exact ⟨rfl, rfl⟩


set_option maxHeartbeats 400000 in
theorem refOf_1 (w : World) : Calls Try.prog 13 #[.int .i64 1] w fun e w' => TabRes w w' e 5 ofN := by
  go_enter Try.func13, Try.ntmps13
  go_wp2
  refine bodyPost_ret (v := .agg #[.int .i64 5, .slice (some ⟨w.heap.size + 1, 0, none⟩) 28 28]) (by simp [results, Try.results13, go_sem]) rfl ⟨_, rfl, ⟨w.heap.size + 1, _, rfl, by omega, (Blk.new1 w _ _ _).congr (by rfl)⟩, below2 _ _ _⟩
set_option maxHeartbeats 400000 in
theorem of_1 (w : World) : Calls Try.prog 32 #[.int .i64 1] w fun e w' =>
    e = .returned (.tuple #[.agg #[.func (.func 14) #[] #[], .int .i64 8], .int .i64 0]) ∧ Below w.heap.size w w' := by
  go_enter Try.func32, Try.ntmps32
  go_wp2
  exact bodyPost_ret (v := .tuple #[.agg #[.func (.func 14) #[] #[], .int .i64 8], .int .i64 0]) (by simp [results, Try.results32, go_sem]) rfl ⟨rfl, below2 _ _ _⟩
set_option maxHeartbeats 400000 in
theorem table_1 (w : World) : Calls Try.prog 17 #[.int .i64 1] w fun e w' => TabRes2 w w' e 5 ofN := by
  go_enter Try.func17, Try.ntmps17
  go_wp2_with fail
  refine (of_1 _).mono ?_
  rintro e w1 ⟨rfl, hb⟩
  have HR := Lib.hid ((Blk.new w 25 #[.int .i64 0, .slice none 0 0]).below hb (by simp))
  obtain ⟨hx, hy, hf, hf'⟩ := HR.out.two
  have hb1 : Below w.heap.size w w1 := (below1 _ _).trans (hb.mono (by simp))
  have hs1 : w.heap.size < w1.heap.size := by have := hb.size; simp at this; omega
  have HB1 := Lib.hid hb1
  clear hb hb1
  go_wp2_with fail
  refine (of_any _).mono ?_
  rintro e w2 ⟨v, rfl, ⟨g, t, rfl, hg, hk⟩, hb⟩
  simp at hg
  have HR2 := Lib.hid ((HR.out.alloc _).below hb (by simp; omega))
  obtain ⟨hx2, hy2, hf2, hf2'⟩ := HR2.out.two
  have hb2 : Below w.heap.size w w2 := (HB1.out.alloc (by omega) _).trans (hb.mono (by simp; omega))
  have HB2 := Lib.hid hb2
  have HK := Lib.hid hk
  clear hb hb2 hk HB1 hx hy hf hf'
  go_wp2
  refine bodyPost_ret (v := .tuple #[.agg #[.int .i64 5, .slice (some ⟨g, 0, none⟩) 28 28], .int .i64 0]) (by simp [results, Try.results17, go_sem, hx2, hy2]; rfl) rfl ⟨_, rfl, ⟨g, t, rfl, by omega, (HK.out.far (by simp; omega) _).far (by simp; omega) _⟩, ?_⟩
  exact (HB2.out.setCell (by simp) _).setCell (by simp) _
set_option maxHeartbeats 400000 in
theorem symbols_1 (w : World) : Calls Try.prog 18 #[.int .i64 1] w fun e w' => e = .returned (.tuple #[.int .i64 28, .int .i64 0]) ∧ Below w.heap.size w w' := by
  go_enter Try.func18, Try.ntmps18
  go_wp2_with fail
  refine (table_1 _).mono ?_
  rintro e w1 ⟨v, rfl, ⟨g, t, rfl, -, -⟩, hb⟩
  have HB := Lib.hid hb
  have hs := hb.size
  clear hb
  go_wp2
  go_ret2
  exact ⟨by simp [ofN], HB.out.alloc hs _⟩
set_option maxHeartbeats 400000 in
theorem log_1 (w : World) : Calls Try.prog 19 #[.int .i64 1] w fun e w' => e = .returned (.tuple #[.int .i64 8, .int .i64 0]) ∧ Below w.heap.size w w' := by
  go_enter Try.func19, Try.ntmps19
  go_wp2_with fail
  refine (of_1 _).mono ?_
  rintro e w1 ⟨rfl, hb⟩
  have HB := Lib.hid hb
  have hs := hb.size
  clear hb
  go_wp2
  go_ret2
  exact ⟨rfl, HB.out.alloc hs _⟩
set_option maxHeartbeats 400000 in
theorem refSymbols_1 (w : World) : Calls Try.prog 20 #[.int .i64 1] w fun e w' => e = .returned (.int .i64 28) ∧ w = w' := by
  go_enter Try.func20, Try.ntmps20
  go_wp2
  go_ret
  exact ⟨rfl, rfl⟩
set_option maxHeartbeats 400000 in
theorem refLog_1 (w : World) : Calls Try.prog 21 #[.int .i64 1] w fun e w' => e = .returned (.int .i64 8) ∧ w = w' := by
  go_enter Try.func21, Try.ntmps21
  go_wp2
  go_ret
  exact ⟨rfl, rfl⟩


set_option maxHeartbeats 400000 in
theorem refOf_2 (w : World) : Calls Try.prog 13 #[.int .i64 2] w fun e w' => TabRes w w' e 6 mlN := by
  go_enter Try.func13, Try.ntmps13
  go_wp2
  refine bodyPost_ret (v := .agg #[.int .i64 6, .slice (some ⟨w.heap.size + 1, 0, none⟩) 44 44]) (by simp [results, Try.results13, go_sem]) rfl ⟨_, rfl, ⟨w.heap.size + 1, _, rfl, by omega, (Blk.new1 w _ _ _).congr (by rfl)⟩, below2 _ _ _⟩
set_option maxHeartbeats 400000 in
theorem of_2 (w : World) : Calls Try.prog 32 #[.int .i64 2] w fun e w' =>
    e = .returned (.tuple #[.agg #[.func (.func 15) #[] #[], .int .i64 9], .int .i64 0]) ∧ Below w.heap.size w w' := by
  go_enter Try.func32, Try.ntmps32
  go_wp2
  exact bodyPost_ret (v := .tuple #[.agg #[.func (.func 15) #[] #[], .int .i64 9], .int .i64 0]) (by simp [results, Try.results32, go_sem]) rfl ⟨rfl, below2 _ _ _⟩
set_option maxHeartbeats 400000 in
theorem table_2 (w : World) : Calls Try.prog 17 #[.int .i64 2] w fun e w' => TabRes2 w w' e 6 mlN := by
  go_enter Try.func17, Try.ntmps17
  go_wp2_with fail
  refine (of_2 _).mono ?_
  rintro e w1 ⟨rfl, hb⟩
  have HR := Lib.hid ((Blk.new w 25 #[.int .i64 0, .slice none 0 0]).below hb (by simp))
  obtain ⟨hx, hy, hf, hf'⟩ := HR.out.two
  have hb1 : Below w.heap.size w w1 := (below1 _ _).trans (hb.mono (by simp))
  have hs1 : w.heap.size < w1.heap.size := by have := hb.size; simp at this; omega
  have HB1 := Lib.hid hb1
  clear hb hb1
  go_wp2_with fail
  refine (ml_any _).mono ?_
  rintro e w2 ⟨v, rfl, ⟨g, t, rfl, hg, hk⟩, hb⟩
  simp at hg
  have HR2 := Lib.hid ((HR.out.alloc _).below hb (by simp; omega))
  obtain ⟨hx2, hy2, hf2, hf2'⟩ := HR2.out.two
  have hb2 : Below w.heap.size w w2 := (HB1.out.alloc (by omega) _).trans (hb.mono (by simp; omega))
  have HB2 := Lib.hid hb2
  have HK := Lib.hid hk
  clear hb hb2 hk HB1 hx hy hf hf'
  go_wp2
  refine bodyPost_ret (v := .tuple #[.agg #[.int .i64 6, .slice (some ⟨g, 0, none⟩) 44 44], .int .i64 0]) (by simp [results, Try.results17, go_sem, hx2, hy2]; rfl) rfl ⟨_, rfl, ⟨g, t, rfl, by omega, (HK.out.far (by simp; omega) _).far (by simp; omega) _⟩, ?_⟩
  exact (HB2.out.setCell (by simp) _).setCell (by simp) _
set_option maxHeartbeats 400000 in
theorem symbols_2 (w : World) : Calls Try.prog 18 #[.int .i64 2] w fun e w' => e = .returned (.tuple #[.int .i64 44, .int .i64 0]) ∧ Below w.heap.size w w' := by
  go_enter Try.func18, Try.ntmps18
  go_wp2_with fail
  refine (table_2 _).mono ?_
  rintro e w1 ⟨v, rfl, ⟨g, t, rfl, -, -⟩, hb⟩
  have HB := Lib.hid hb
  have hs := hb.size
  clear hb
  go_wp2
  go_ret2
  exact ⟨by simp [mlN], HB.out.alloc hs _⟩
set_option maxHeartbeats 400000 in
theorem log_2 (w : World) : Calls Try.prog 19 #[.int .i64 2] w fun e w' => e = .returned (.tuple #[.int .i64 9, .int .i64 0]) ∧ Below w.heap.size w w' := by
  go_enter Try.func19, Try.ntmps19
  go_wp2_with fail
  refine (of_2 _).mono ?_
  rintro e w1 ⟨rfl, hb⟩
  have HB := Lib.hid hb
  have hs := hb.size
  clear hb
  go_wp2
  go_ret2
  exact ⟨rfl, HB.out.alloc hs _⟩
set_option maxHeartbeats 400000 in
theorem refSymbols_2 (w : World) : Calls Try.prog 20 #[.int .i64 2] w fun e w' => e = .returned (.int .i64 44) ∧ w = w' := by
  go_enter Try.func20, Try.ntmps20
  go_wp2
  go_ret
  exact ⟨rfl, rfl⟩
set_option maxHeartbeats 400000 in
theorem refLog_2 (w : World) : Calls Try.prog 21 #[.int .i64 2] w fun e w' => e = .returned (.int .i64 9) ∧ w = w' := by
  go_enter Try.func21, Try.ntmps21
  go_wp2
  go_ret
  exact ⟨rfl, rfl⟩


/-! No such part. -/
set_option maxHeartbeats 400000 in
theorem of_no (p : Int) (h : p < 0 ∨ 3 ≤ p) (w : World) : Calls Try.prog 32 #[.int .i64 p] w fun e w' =>
    e = .returned (.tuple #[.agg #[.nilFunc, .int .i64 0], .int .i64 2]) ∧ Below w.heap.size w w' := by
  rcases h with h | h
  · go_enter Try.func32, Try.ntmps32
    go_wp2
    exact bodyPost_ret (v := .tuple #[.agg #[.nilFunc, .int .i64 0], .int .i64 2]) (by simp [results, Try.results32, go_sem]) rfl ⟨rfl, below2 _ _ _⟩
  · have h' : ¬ p < 0 := by omega
    go_enter Try.func32, Try.ntmps32
    go_wp2
    exact bodyPost_ret (v := .tuple #[.agg #[.nilFunc, .int .i64 0], .int .i64 2]) (by simp [results, Try.results32, go_sem]) rfl ⟨rfl, below2 _ _ _⟩
set_option maxHeartbeats 400000 in
theorem table_no (p : Int) (h : p < 0 ∨ 3 ≤ p) (w : World) : Calls Try.prog 17 #[.int .i64 p] w fun e w' =>
    e = .returned (.tuple #[.agg #[.int .i64 0, .slice none 0 0], .int .i64 2]) ∧ Below w.heap.size w w' := by
  go_enter Try.func17, Try.ntmps17
  go_wp2_with fail
  refine (of_no p h _).mono ?_
  rintro e w1 ⟨rfl, hb⟩
  have HR := Lib.hid ((Blk.new w 25 #[.int .i64 0, .slice none 0 0]).below hb (by simp))
  obtain ⟨hx, hy, hf, hf'⟩ := HR.out.two
  have hb1 : Below w.heap.size w w1 := (below1 _ _).trans (hb.mono (by simp))
  have hs1 : w.heap.size < w1.heap.size := by have := hb.size; simp at this; omega
  have HB1 := Lib.hid hb1
  clear hb hb1
  go_wp2
  refine bodyPost_ret (v := .tuple #[.agg #[.int .i64 0, .slice none 0 0], .int .i64 2]) (by simp [results, Try.results17, go_sem, hx, hy, hs1]) rfl ⟨rfl, ?_⟩
  exact ((HB1.out.setCell (by simp) _).setCell (by simp) _).alloc (by simp; omega) _
set_option maxHeartbeats 400000 in
theorem symbols_no (p : Int) (h : p < 0 ∨ 3 ≤ p) (w : World) : Calls Try.prog 18 #[.int .i64 p] w fun e w' => e = .returned (.tuple #[.int .i64 0, .int .i64 2]) ∧ Below w.heap.size w w' := by
  go_enter Try.func18, Try.ntmps18
  go_wp2_with fail
  refine (table_no p h _).mono ?_
  rintro e w1 ⟨rfl, hb⟩
  have HB := Lib.hid hb
  have hs := hb.size
  clear hb
  go_wp2
  go_ret2
  exact ⟨rfl, HB.out.alloc hs _⟩
set_option maxHeartbeats 400000 in
theorem log_no (p : Int) (h : p < 0 ∨ 3 ≤ p) (w : World) : Calls Try.prog 19 #[.int .i64 p] w fun e w' => e = .returned (.tuple #[.int .i64 0, .int .i64 2]) ∧ Below w.heap.size w w' := by
  go_enter Try.func19, Try.ntmps19
  go_wp2_with fail
  refine (of_no p h _).mono ?_
  rintro e w1 ⟨rfl, hb⟩
  have HB := Lib.hid hb
  have hs := hb.size
  clear hb
  go_wp2
  go_ret2
  exact ⟨rfl, HB.out.alloc hs _⟩

/-- The chapter's examples. -/
theorem known_any (w : World) : Calls Try.prog 16 #[] w fun e w' => e = .returned (.bool true) ∧ Below w.heap.size w w' := by
  go_enter Try.func16, Try.ntmps16
  go_wp2_with fail
  refine (symbols_1 _).mono ?_
  rintro e w1 ⟨rfl, hb1⟩
  have HB1 := Lib.hid hb1
  clear hb1
  go_wp2_with fail
  refine (log_1 _).mono ?_
  rintro e w2 ⟨rfl, hb2⟩
  have HB2 := Lib.hid (HB1.out.trans (hb2.mono HB1.out.size))
  clear hb2
  go_wp2_with fail
  refine (table_no 3 (by omega) _).mono ?_
  rintro e w3 ⟨rfl, hb3⟩
  have HB3 := Lib.hid (HB2.out.trans (hb3.mono HB2.out.size))
  have hs := HB3.out.size
  clear hb3
  go_wp2
  go_ret
  exact ⟨rfl, HB3.out.alloc hs _⟩

end Go.Proofs.Ytkffhfdmdcecaaa
