/-
  exec.Pieces where the ring is none: an iterator that never yields.
-/
import Derived.Test.YtndgdehlnmheeaaMgFn
import Derived.Test.YtndgdehlnmheeaaExWorks
namespace Go.Proofs.Ytndgdehlnmheeaa
set_option linter.all false
set_option maxRecDepth 100000
open Go.RowKit Go.Shelf

attribute [local go_sem] Oper.semAt_some

theorem infoInt : (Try.prog.info? 3).map (fun i => (i.zero, i.size, i.bytes)) = some (some (.int .i64 0), 1, 8) := by kernel_rfl
theorem infoBool : (Try.prog.info? 4).map (fun i => (i.zero, i.size, i.bytes)) = some (some (.bool false), 1, 1) := by kernel_rfl
theorem infoBss : (Try.prog.info? 48).map (fun i => (i.zero, i.size, i.bytes)) = some (some (.slice none 0 0), 1, 24) := by kernel_rfl

/-- slices.All's closure over an empty slice. -/
theorem all1_none (n l B : Nat) (A : Option Addr) (c : Nat) (W : World) (hB : W.cell? ⟨B, 0, none⟩ = some (.slice A 0 c)) :
    CallsIn Fence.wide n Try.prog 65 #[.func (.yield l) #[] #[], .pointer (some ⟨B, 0, none⟩)] W fun e W' => (∃ v, e = .returned v) ∧ Below W.heap.size W W' := by
  refine callsIn_of_wp Try.func65 rfl trivial ?_ rfl
  simp only [Try.ntmps65, List.size_toArray, List.length_cons, List.length_nil, Nat.reduceAdd, Nat.reduceSub, Array.replicate_succ, Array.replicate_zero, List.push_toArray, List.append_toArray, List.nil_append, List.cons_append]
  gi_wp2
  gi_loopw [7] (fun i wr => i = .int .i64 0 ∧ Below W.heap.size W wr) (fun _ _ => 0)
  case atStart => exact ⟨rfl, Below.refl _ _⟩
  case round =>
    obtain ⟨rfl, hJs⟩ := hrel
    gi_wp2
    go_end0
    exact ⟨⟨_, rfl⟩, hJs⟩

theorem all_none (n : Nat) (A : Option Addr) (len c : Nat) (w : World) :
    CallsIn Fence.wide n Try.prog 52 #[.slice A len c] w fun e w' => e = .returned (.func (.func 65) #[] #[.pointer (some ⟨w.heap.size, 0, none⟩)]) ∧ w' = w.alloc (.cells #[.slice A len c] 48) := by
  refine callsIn_of_wp Try.func52 rfl trivial ?_ rfl
  simp only [Try.ntmps52, List.size_toArray, List.length_cons, List.length_nil, Nat.reduceAdd, Nat.reduceSub, Array.replicate_succ, Array.replicate_zero, List.push_toArray, List.append_toArray, List.nil_append, List.cons_append]
  gi_wp2
  go_ret
  exact ⟨rfl, rfl⟩

/-- Pieces' closure over no pieces. -/
theorem pieces1_none (n l B : Nat) (A : Option Addr) (c : Nat) (W : World) (hn : 2 ≤ n) (hB : W.cell? ⟨B, 0, none⟩ = some (.slice A 0 c)) :
    CallsIn Fence.wide n Try.prog 51 #[.func (.yield l) #[] #[], .pointer (some ⟨B, 0, none⟩)] W fun e W' => (∃ v, e = .returned v) ∧ Below W.heap.size W W' := by
  have hlt := World.block_lt_of_cell? W _ hB
  refine callsIn_of_wp_marks Try.func51 rfl trivial ?_ rfl
  simp only [Try.ntmps51, List.size_toArray, List.length_cons, List.length_nil, Nat.reduceAdd, Nat.reduceSub, Array.replicate_succ, Array.replicate_zero, List.push_toArray, List.append_toArray, List.nil_append, List.cons_append]
  obtain ⟨i0, hi, hz0, hz1, hz2⟩ := info_parts infoInt
  gi_wp2
  refine wpIn_scope_straight ?_
  gi_wp2
  refine wpIn_label ?_
  gi_wp2
  refine ⟨trivial, fun _ => by omega, ?_⟩
  refine (all_none (n - 1) A 0 c _).mono ?_
  rintro e w1 ⟨rfl, rfl⟩
  obtain ⟨w1, hw1⟩ : ∃ w1, (W.alloc (Obj.cells #[Value.func (Fn.yield l) #[] #[]] 93)).alloc (Obj.cells #[Value.int IntKind.i64 0] 3) = w1 := ⟨_, rfl⟩
  have hbw : Below W.heap.size W w1 := by rw [← hw1]; exact ((Below.refl _ W).alloc (Nat.le_refl _) _).alloc (by simp) _
  rw [hw1]
  gi_wp2
  have hBN := (Boxed.new w1 48 (.slice A 0 c)).cell
  have hbw2 : Below W.heap.size W (w1.alloc (Obj.cells #[.slice A 0 c] 48)) := hbw.alloc hbw.size _
  refine rangeFunc_idle rfl (by omega) (gf := 65) (lb := #[.pointer (some ⟨w1.heap.size, 0, none⟩)]) rfl trivial (enters_of Try.func65 (by kernel_rfl) rfl) ?call ?done
  case call =>
    intro l' W' hW'
    exact all1_none (n - 1) l' _ A c W' ((hW'.cell (World.block_lt_of_cell? _ _ hBN)).trans hBN)
  case done =>
    intro D W' hD hW' hK
    refine ⟨by simp, .inl ⟨_, _, rfl, run_takeDeferred hK, ?_⟩⟩
    exact ⟨_, results_none rfl _ _ _, ⟨_, rfl⟩, (hbw2.trans (hW'.mono hbw2.size)).trans (belowK_b (w := W) (Nat.le_refl _) W' D _ _ (Nat.le_trans hbw2.size hD) hK rfl rfl)⟩

/-- Pieces where the ring is none. -/
theorem pieces_no (w : World) {p : Value} (h : NoRing w p) (lv sv : Value) (most : Int) :
    Calls Try.prog 26 #[p, lv, sv, .int .i64 most] w fun e w' => e = .returned (.func (.func 51) #[] #[.pointer (some ⟨w.heap.size, 0, none⟩)]) ∧ w' = w.alloc (.cells #[.slice none 0 0] 48) := by
  have HN := Lib.hid h
  have HN2 : Hid (NoRing w (.pointer none)) := (.inl rfl : NoRing _ _)
  clear h
  obtain ⟨i0, hi, hz0, hz1, hz2⟩ := info_parts infoBss
  go_enter Try.func26, Try.ntmps26
  go_wp2_with fail
  refine (cl_none _ HN.out).mono ?_
  rintro e w1 ⟨rfl, hw⟩
  obtain rfl : w = w1 := hw.symm
  go_wp2_with fail
  refine (done_no _ HN2.out lv sv most).mono ?_
  rintro e w1 ⟨rfl, hw⟩
  obtain rfl : w = w1 := hw.symm
  go_wp2
  go_ret
  exact ⟨rfl, rfl⟩

/-- A made function is not nil. -/
theorem eql_func_nil (w : World) (f : Fn) (ts vs : Array Value) : (binOp .eql 57 (.func f ts vs) .nilFunc).run Try.prog w = .ok (.bool false) w := by
  have hu := Try.underlying57
  have h1 : ∀ d, (Op.equalIn (d + 1) 57 (.func f ts vs) .nilFunc).run Try.prog w = .ok false w := fun d => by simp [Op.equalIn, run_underlying hu]
  have h2 : (Op.equal 57 (.func f ts vs) .nilFunc).run Try.prog w = .ok false w := h1 _
  simp only [binOp]
  simp [h2]
end Go.Proofs.Ytndgdehlnmheeaa
