/-
  All where the ring is none: an iterator that never yields; over at such a ring.
-/
import Derived.Test.YtohmkcoodaidcaaFnIdle
import Derived.Test.YtohmkcoodaidcaaRgNone
namespace Go.Proofs.Ytohmkcoodaidcaa
set_option linter.all false
set_option maxRecDepth 100000
open Go.RowKit Go.Shelf

attribute [local go_sem] Oper.semAt_some

theorem infoInt : (Try.prog.info? 3).map (fun i => (i.zero, i.size, i.bytes)) = some (some (.int .i64 0), 1, 8) := by kernel_rfl
theorem infoBool : (Try.prog.info? 4).map (fun i => (i.zero, i.size, i.bytes)) = some (some (.bool false), 1, 1) := by kernel_rfl
theorem infoBs : (Try.prog.info? 27).map (fun i => (i.zero, i.size, i.bytes)) = some (some (.slice none 0 0), 1, 24) := by kernel_rfl

/-- slices.All's closure over an empty slice. -/
theorem all1_none (n l B : Nat) (A : Option Addr) (c : Nat) (W : World) (hB : W.cell? ⟨B, 0, none⟩ = some (.slice A 0 c)) :
    CallsIn Fence.wide n Try.prog 46 #[.func (.yield l) #[] #[], .pointer (some ⟨B, 0, none⟩)] W fun e W' => (∃ v, e = .returned v) ∧ Below W.heap.size W W' := by
  refine callsIn_of_wp Try.func46 rfl trivial ?_ rfl
  simp only [Try.ntmps46, List.size_toArray, List.length_cons, List.length_nil, Nat.reduceAdd, Nat.reduceSub, Array.replicate_succ, Array.replicate_zero, List.push_toArray, List.append_toArray, List.nil_append, List.cons_append]
  gi_wp2
  gi_loopw [7] (fun i wr => i = .int .i64 0 ∧ Below W.heap.size W wr) (fun _ _ => 0)
  case atStart => exact ⟨rfl, Below.refl _ _⟩
  case round =>
    obtain ⟨rfl, hJs⟩ := hrel
    gi_wp2
    go_end0
    exact ⟨⟨_, rfl⟩, hJs⟩

theorem all_none (n : Nat) (A : Option Addr) (len c : Nat) (w : World) :
    CallsIn Fence.wide n Try.prog 44 #[.slice A len c] w fun e w' => e = .returned (.func (.func 46) #[] #[.pointer (some ⟨w.heap.size, 0, none⟩)]) ∧ w' = w.alloc (.cells #[.slice A len c] 27) := by
  refine callsIn_of_wp Try.func44 rfl trivial ?_ rfl
  simp only [Try.ntmps44, List.size_toArray, List.length_cons, List.length_nil, Nat.reduceAdd, Nat.reduceSub, Array.replicate_succ, Array.replicate_zero, List.push_toArray, List.append_toArray, List.nil_append, List.cons_append]
  gi_wp2
  go_ret
  exact ⟨rfl, rfl⟩

/-- All's closure over no bytes. -/
theorem ringAll1_none (n l B : Nat) (A : Option Addr) (c : Nat) (W : World) (hn : 2 ≤ n) (hB : W.cell? ⟨B, 0, none⟩ = some (.slice A 0 c)) :
    CallsIn Fence.wide n Try.prog 43 #[.func (.yield l) #[] #[], .pointer (some ⟨B, 0, none⟩)] W fun e W' => (∃ v, e = .returned v) ∧ Below W.heap.size W W' := by
  have hlt := World.block_lt_of_cell? W _ hB
  refine callsIn_of_wp_marks Try.func43 rfl trivial ?_ rfl
  simp only [Try.ntmps43, List.size_toArray, List.length_cons, List.length_nil, Nat.reduceAdd, Nat.reduceSub, Array.replicate_succ, Array.replicate_zero, List.push_toArray, List.append_toArray, List.nil_append, List.cons_append]
  gi_wp2
  refine wpIn_scope_straight ?_
  gi_wp2
  refine wpIn_label ?_
  gi_wp2
  refine ⟨trivial, fun _ => by omega, ?_⟩
  refine (all_none (n - 1) A 0 c _).mono ?_
  rintro e w1 ⟨rfl, rfl⟩
  obtain ⟨w1, hw1⟩ : ∃ w1, (W.alloc (Obj.cells #[Value.func (Fn.yield l) #[] #[]] 79)) = w1 := ⟨_, rfl⟩
  have hbw : Below W.heap.size W w1 := by rw [← hw1]; exact ((Below.refl _ W).alloc (Nat.le_refl _) _)
  rw [hw1]
  gi_wp2
  have hBN := (Boxed.new w1 27 (.slice A 0 c)).cell
  have hbw2 : Below W.heap.size W (w1.alloc (Obj.cells #[.slice A 0 c] 27)) := hbw.alloc hbw.size _
  refine rangeFunc_idle rfl (by omega) (gf := 46) (lb := #[.pointer (some ⟨w1.heap.size, 0, none⟩)]) rfl trivial (enters_of Try.func46 (by kernel_rfl) rfl) ?call ?done
  case call =>
    intro l' W' hW'
    exact all1_none (n - 1) l' _ A c W' ((hW'.cell (World.block_lt_of_cell? _ _ hBN)).trans hBN)
  case done =>
    intro D W' hD hW' hK
    refine ⟨by simp, .inl ⟨_, _, rfl, run_takeDeferred hK, ?_⟩⟩
    exact ⟨_, results_none rfl _ _ _, ⟨_, rfl⟩, (hbw2.trans (hW'.mono hbw2.size)).trans (belowK_b (w := W) (Nat.le_refl _) W' D _ _ (Nat.le_trans hbw2.size hD) hK rfl rfl)⟩

theorem all_no (w : World) {p : Value} (h : NoRing w p) :
    Calls Try.prog 27 #[p] w fun e w' => e = .returned (.func (.func 43) #[] #[.pointer (some ⟨w.heap.size, 0, none⟩)]) ∧ w' = w.alloc (.cells #[.slice none 0 0] 27) := by
  have HN := Lib.hid h
  clear h
  obtain ⟨i0, hi, hz0, hz1, hz2⟩ := info_parts infoBs
  go_enter Try.func27, Try.ntmps27
  go_wp2_with fail
  refine (size_no _ HN.out).mono ?_
  rintro e w1 ⟨rfl, hw⟩
  obtain rfl : w = w1 := hw.symm
  go_wp2_with fail
  refine (last_no _ HN.out _).mono ?_
  rintro e w1 ⟨rfl, hw⟩
  obtain rfl : w = w1 := hw.symm
  go_wp2
  go_ret
  exact ⟨rfl, rfl⟩

/-- A made function is not nil. -/
theorem eql_func_nil (w : World) (f : Fn) (ts vs : Array Value) : (binOp .eql 58 (.func f ts vs) .nilFunc).run Try.prog w = .ok (.bool false) w := by
  have hu := Try.underlying58
  have h1 : ∀ d, (Op.equalIn (d + 1) 58 (.func f ts vs) .nilFunc).run Try.prog w = .ok false w := fun d => by simp [Op.equalIn, run_underlying hu]
  have h2 : (Op.equal 58 (.func f ts vs) .nilFunc).run Try.prog w = .ok false w := h1 _
  simp only [binOp]
  simp [h2]

attribute [local go_sem] eql_func_nil
theorem over_no (w : World) {p : Value} (h : NoRing w p) :
    Calls Try.prog 28 #[p, .slice none 0 0, .int .i64 9] w fun e w' => e = .returned (.bool true) ∧ Below w.heap.size w w' := by
  obtain ⟨w0, hw0⟩ : ∃ w0, ((w.alloc (.cells #[.slice none 0 0] 27)).alloc (.cells #[.int .i64 9] 3)).alloc (.cells #[.bool false] 4) = w0 := ⟨_, rfl⟩
  have hb0 : Below w.heap.size w w0 := by rw [← hw0]; exact (((Below.refl _ w).alloc (Nat.le_refl _) _).alloc (by simp) _).alloc (by simp; omega) _
  have HN : Hid (NoRing w0 p) := (h.below hb0 (Nat.le_refl _) : NoRing _ _)
  obtain ⟨i0, hi, hz0, hz1, hz2⟩ := info_parts infoInt
  obtain ⟨i1, hi1, hz3, hz4, hz5⟩ := info_parts infoBool
  have hC0 : Blk w0 w.heap.size 27 #[.slice none 0 0] := by
    rw [← hw0]
    exact (Blk.new w 27 #[.slice none 0 0]).below (((Below.refl _ _).alloc (Nat.le_refl _) _).alloc (by simp) _) (by simp)
  have hC1 : Blk w0 (w.heap.size + 1) 3 #[.int .i64 9] := by
    rw [← hw0]
    have := (Blk.new (w.alloc (.cells #[.slice none 0 0] 27)) 3 #[.int .i64 9]).below ((Below.refl _ _).alloc (Nat.le_refl _) (.cells #[.bool false] 4)) (by simp)
    rwa [World.size_alloc] at this
  have hC2 : Blk w0 (w.heap.size + 1 + 1) 4 #[.bool false] := by
    rw [← hw0]
    have := Blk.new ((w.alloc (.cells #[.slice none 0 0] 27)).alloc (.cells #[.int .i64 9] 3)) 4 #[.bool false]
    rwa [World.size_alloc, World.size_alloc] at this
  have HC0 := Lib.hid hC0
  have HC1 := Lib.hid hC1
  have HC2 := Lib.hid hC2
  clear hC0 hC1 hC2 h
  refine (callsIn_wide (n := 8)).1 ?_
  refine callsIn_of_wp_marks Try.func28 rfl trivial ?_ rfl
  simp only [Try.ntmps28, List.size_toArray, List.length_cons, List.length_nil, Nat.reduceAdd, Nat.reduceSub, Array.replicate_succ, Array.replicate_zero, List.push_toArray, List.append_toArray, List.nil_append, List.cons_append]
  gi_wp2
  refine ⟨trivial, ?_⟩
  refine (callsIn_wide.2 (all_no _ HN.out)).mono ?_
  rintro e w1 ⟨rfl, hw1⟩
  have hcp : w1.cell? ⟨w0.heap.size, 0, none⟩ = some (.slice none 0 0) := by rw [hw1]; exact (Boxed.new w0 27 (.slice none 0 0)).cell
  have hb1 : Below w0.heap.size w0 w1 := by rw [hw1]; exact (Below.refl _ _).alloc (Nat.le_refl _) _
  have hlt1 := World.block_lt_of_cell? _ _ hcp
  clear hw1
  gi_wp2
  have hbn : Below w1.heap.size w1 (w1.alloc (.cells #[.int .i64 0] 3)) := (Below.refl _ _).alloc (Nat.le_refl _) _
  have HCn := Lib.hid (Blk.new w1 3 #[.int .i64 0])
  refine rangeFunc_idle rfl (by decide) (gf := 43) (lb := #[.pointer (some ⟨w0.heap.size, 0, none⟩)]) rfl trivial (enters_of Try.func43 (by kernel_rfl) rfl) ?call ?done
  case call =>
    intro l' W' hW'
    have h1 := (hbn.cell (p := ⟨w0.heap.size, 0, none⟩) hlt1).trans hcp
    exact ringAll1_none _ l' _ none 0 W' (by decide) ((hW'.cell (World.block_lt_of_cell? _ _ h1)).trans h1)
  case done =>
    intro D W' hD hW' hK
    have hb2 := hb1.trans (hbn.mono hb1.size)
    have hb3 := hb2.trans (hW'.mono hb2.size)
    have hkn := HCn.out.below hW' HCn.out.lt
    have hk0 := HC0.out.below hb3 HC0.out.lt
    have hk1 := HC1.out.below hb3 HC1.out.lt
    have hk2 := HC2.out.below hb3 HC2.out.lt
    have cn : W'.cell? ⟨w1.heap.size, 0, none⟩ = some (.int .i64 0) := by rw [hkn.cell]; rfl
    have c0 : W'.cell? ⟨w.heap.size, 0, none⟩ = some (.slice none 0 0) := by rw [hk0.cell]; rfl
    have c1 : W'.cell? ⟨w.heap.size + 1, 0, none⟩ = some (.int .i64 9) := by rw [hk1.cell]; rfl
    have c2 : W'.cell? ⟨w.heap.size + 1 + 1, 0, none⟩ = some (.bool false) := by rw [hk2.cell]; rfl
    have hf9 := hk2.frozen 0
    have hb9 := hb0.trans (hb3.mono hb0.size)
    gi_wp2
    have hK' := (KeepsOthers.setCell W' ⟨w.heap.size + 1 + 1, 0, none⟩ (.bool true)).same D _ hK rfl
    refine ⟨by simp, .inl ⟨_, _, rfl, run_takeDeferred hK', ?_⟩⟩
    have hc5 := cell_kept (World.cell?_setCell_same' W' ⟨w.heap.size + 1 + 1, 0, none⟩ (.bool true) (by rw [c2]; rfl)) (grownBy_putObj' _ D (.deferred none)) (fun r e => by cases e; exact ⟨_, hK', rfl⟩)
    refine ⟨.bool true, ?_, rfl, (hb9.setCell (p := ⟨w.heap.size + 1 + 1, 0, none⟩) (by show _ ≤ w.heap.size + 1 + 1; omega) _).trans (belowK_b (w := w) (Nat.le_refl _) _ D _ _ (Nat.le_trans (hb0.trans (hb2.mono hb0.size)).size hD) hK' rfl rfl)⟩
    simp [results, Try.f28, go_sem, hc5]
end Go.Proofs.Ytohmkcoodaidcaa
