/-
  plan: slices.Grow from nil, slices.Concat of two rows of bytes.
-/
import Derived.Test.YtamhkfnghgbenaaPlFirst
import Derived.Test.YtamhkfnghgbenaaAppend
import Derived.Lib.AppendZerosOnto
namespace Go.Proofs.Ytamhkfnghgbenaa
set_option linter.all false
set_option maxRecDepth 100000
open Go.RowKit

theorem infoB : (Try.prog.info? 5).map (fun i => (i.zero, i.size, i.bytes)) = some (some (.int .u8 0), 1, 1) := by kernel_rfl

theorem wpList_append_zeros {w : World} {ops : Array Oper} {rest : List Oper} {o : Oper} {a : Act} {Q : Exit → Act → World → Prop} (hgd : o.guard = none) (s x : Operand) (T TN : TypeId)
    (ho : o.op = .call { callee := .builtin .append, args := #[s, x], argTypes := #[T, TN] }) (n : Nat) (hs : a.eval s = .slice none 0 0) (hx : a.eval x = .int .i64 n)
    (R : World → Value → World) (B : Value) (hr : ∀ ty, (Builtin.append_ #[T, TN] ty #[.slice none 0 0, .int .i64 n]).run Try.prog w = .ok B (R w B))
    (h : wpList Try.prog ops Q rest (a.put o.dst B) (R w B)) : wpList Try.prog ops Q (o :: rest) a w := by
  refine wpList_plain hgd fun _ hK => ?_
  unfold Oper.wp execOp
  simp only [ho, resolve, invoke, builtin, Sem.run_bind, Sem.run_pure, Result.andThen_ok, List.map_toArray, List.map_cons, List.map_nil, hs, hx, hr]
  exact hK _ _ h

theorem growNil (w : World) (n : Nat) (hn : n ≤ 1000000) : Calls Try.prog 44 #[.slice none 0 0, .int .i64 n] w fun e w' => ∃ A c, e = .returned (.slice A 0 c) ∧ Below w.heap.size w w' ∧ Grow w' w.heap.size 5 .u8 (.slice A 0 c) [] := by
  obtain ⟨i0, hi, hz, hs, hb⟩ := info_parts infoB
  by_cases h0 : 0 < n
  · have h0i : (0 : Int) < (n : Int) := by omega
    have hni : (n : Int) ≤ 9223372036854775807 := by omega
    have happ : ∀ ty, (Builtin.append_ #[34, 3] ty #[.slice none 0 0, .int .i64 n]).run Try.prog w = _ := fun ty => Go.Lib.run_append_grow_zeros (P := Try.prog) w 34 3 ty 5 i0 (.int .u8 0) .i64 .i64 Try.underlying34 Try.underlying3 hi hz none 0 0 [] (run_firstCells_none w.drew i0.size 0 0 0) n h0 (by omega) (by omega) (by omega) (by rw [hb]; omega) (by rw [hb]; simp only [Builtin.nextslicecap]; rw [if_pos (by omega)]; omega)
    have hcb := grownCap_le_maxLen w (0 + n) 0 5 (by simp only [maxLen]; omega)
    have hg := grownCap_ge w (0 + n) 0 5
    generalize grownCap w (0 + n) 0 5 = q at happ hcb hg
    have hcs : (([] : List Value).toArray ++ Builtin.zeroCells (Value.int .u8 0).cells n ++ Builtin.zeroCells (Value.int .u8 0).cells (q - (0 + n))).size = q * 1 := by simp [Builtin.zeroCells, Value.cells]; omega
    generalize ([] : List Value).toArray ++ Builtin.zeroCells (Value.int .u8 0).cells n ++ Builtin.zeroCells (Value.int .u8 0).cells (q - (0 + n)) = cs at happ hcs
    have HC := Lib.hid hcs
    have HG := Lib.hid hg
    have HCB := Lib.hid hcb
    simp only [Nat.zero_add] at happ
    have HAPP := Lib.hid happ
    clear hcs hg hcb happ
    go_enter Try.func44, Try.ntmps44
    go_wp2_with (at_builtin; refine wpList_append_zeros rfl _ _ _ _ rfl n rfl (by simp [Act.eval]) (fun _ _ => _) _ HAPP.out ?_)
    go_ret
    refine ⟨_, _, rfl, ((Below.refl w.heap.size w).alloc (Nat.le_refl _) _).drew, by simp, .inr ⟨w.heap.size, q, cs, rfl, Nat.le_refl _, ?_, by simp, HCB.out, HC.out, by simp⟩⟩
    exact heap_alloc_new w _
  · obtain rfl : n = 0 := by omega
    go_enter Try.func44, Try.ntmps44
    go_wp2
    go_ret
    exact ⟨_, _, rfl, Below.refl _ _, Grow.nil _ _ _ _⟩

/-- How many bytes the first i parts have. -/
def szTo (i n m : Nat) : Nat := if i = 0 then 0 else if i = 1 then n else n + m

theorem wpList_append_ints_any {w : World} {ops : Array Oper} {rest : List Oper} {o : Oper} {a : Act} {Q : Exit → Act → World → Prop} (hgd : o.guard = none) (s x : Operand)
    (ho : o.op = .call { callee := .builtin .append, args := #[s, x], argTypes := #[34, 34] })
    (base : Nat) (v : Value) (xs ys : List Int) (hs : a.eval s = v) (hown : Grow w base 5 .u8 v xs)
    (A : Option Addr) (m c : Nat) (hx : a.eval x = .slice A m c) (hr : AtInts w .u8 A m ys) (h63 : xs.length + m ≤ 1000000000000) (hbase : base ≤ w.heap.size)
    (n : Nat) (hn : xs.length + m = n)
    (h : ∀ A' c' w', Grow w' base 5 .u8 (.slice A' n c') (xs ++ ys) → w.grownBy w' v.ownBlock → wpList Try.prog ops Q rest (a.put o.dst (.slice A' n c')) w') : wpList Try.prog ops Q (o :: rest) a w := by
  obtain ⟨i0, hi, hz0, hz1, hz2⟩ := info_parts infoB
  exact wpList_append_ints w hgd s x 34 ho base 5 i0 (.int .u8 0) 1 Try.underlying34 hi hz0 hz1 hz2 rfl .u8 v xs ys hs hown A m c hx hr (by simp only [maxLen]; omega) (by omega) hbase n hn h

/-- What the first i parts hold. -/
def partsTo (i : Nat) (xs ys : List Int) : List Int := if i = 0 then [] else if i = 1 then xs else xs ++ ys

set_option maxHeartbeats 1600000 in
theorem concat_any (w : World) (g : Nat) (c : Nat) (A1 A2 : Option Addr) (n1 c1 n2 c2 : Nat) (xs ys : List Int) (h1 : w.cell? ⟨g, 0, none⟩ = some (.slice A1 n1 c1)) (h2 : w.cell? ⟨g, 1, none⟩ = some (.slice A2 n2 c2))
    (hx : AtInts w .u8 A1 n1 xs) (hy : AtInts w .u8 A2 n2 ys) (l1 : n1 ≤ 300000) (l2 : n2 ≤ 300000) :
    Calls Try.prog 33 #[.slice (some ⟨g, 0, none⟩) 2 c] w fun e w' => ∃ A cc, e = .returned (.slice A (n1 + n2) cc) ∧ Below w.heap.size w w' ∧ Grow w' w.heap.size 5 .u8 (.slice A (n1 + n2) cc) (xs ++ ys) := by
  have HX := Lib.hid hx
  have HY := Lib.hid hy
  have HL1 := Lib.hid hx.1
  have HL2 := Lib.hid hy.1
  obtain ⟨N, hN⟩ : ∃ N, n1 + n2 = N := ⟨_, rfl⟩
  have HN := Lib.hid hN
  have HNB : Hid (N ≤ 1000000) := (by omega : N ≤ 1000000)
  have H1 := Lib.hid h1
  have H2 := Lib.hid h2
  have HG0 := Lib.hid (World.block_lt_of_cell? w _ h1)
  clear hx hy hN
  go_enter Try.func33, Try.ntmps33
  go_wp2
  go_loop [3, 11] (fun size i => ∃ k : Nat, k ≤ 2 ∧ i = .int .i64 k ∧ size = .int .i64 (szTo k n1 n2)) (fun _ i => 2 - (intOf i).toNat)
  case atStart => exact ⟨0, Nat.zero_le _, rfl, rfl⟩
  case round =>
    obtain ⟨k, hk, rfl, rfl⟩ := hrel
    have hk3 : k = 0 ∨ k = 1 ∨ k = 2 := by omega
    rcases hk3 with rfl | rfl | rfl
    · simp only [szTo]
      go_wp2
      go_round
      case rel => exact ⟨1, by omega, rfl, by simp⟩
      case measure => simp [intOf]
    · simp only [szTo]
      go_wp2
      go_round
      case rel => exact ⟨2, by omega, rfl, by simp⟩
      case measure => simp [intOf]
    · have e2 : szTo 2 n1 n2 = N := HN.out
      rw [e2]
      have hNi : (0 : Int) ≤ (N : Int) := by omega
      go_wp2_with (refine (growNil _ N HNB.out).mono ?_; rintro e w2 ⟨A3, c3, rfl, hb, hg⟩; have HB := Lib.hid hb; have HG := Lib.hid hg; clear hb hg)
      clear h1 h2
      go_loopw [6, 27] (fun v i wr => ∃ (k : Nat) (A : Option Addr) (cc m : Nat), k ≤ 2 ∧ i = .int .i64 k ∧ m = szTo k n1 n2 ∧ v = .slice A m cc ∧ Hid (Grow wr w.heap.size 5 .u8 (.slice A m cc) (partsTo k xs ys)) ∧ Hid (Below w.heap.size w wr)) (fun _ i _ => 2 - (intOf i).toNat)
      case atStart => exact ⟨0, A3, c3, 0, by omega, rfl, rfl, rfl, (HG.out : Grow _ _ _ _ _ _), (HB.out : Below _ _ _)⟩
      case round =>
        clear HB HG
        obtain ⟨k, A, cc, m, hk, rfl, hm, rfl, HG, HB⟩ := hrel
        have h1 : wr.cell? ⟨g, 0, none⟩ = some (.slice A1 n1 c1) := (HB.out.cell (p := ⟨g, 0, none⟩) HG0.out).trans H1.out
        have h2 : wr.cell? ⟨g, 1, none⟩ = some (.slice A2 n2 c2) := (HB.out.cell (p := ⟨g, 1, none⟩) HG0.out).trans H2.out
        have hk3 : k = 0 ∨ k = 1 ∨ k = 2 := by omega
        rcases hk3 with rfl | rfl | rfl
        · obtain rfl : m = 0 := hm
          go_wp2_with (at_builtin; refine wpList_append_ints_any rfl _ _ rfl w.heap.size _ [] xs rfl HG.out A1 n1 c1 rfl (HX.out.below HB.out (Nat.le_refl _)) (by simp; omega) HB.out.size n1 (by simp) ?_; intro A4 c4 w4 hg hgr; have HG4 := Lib.hid hg; have HB4 := Lib.hid (HB.out.grown hgr HB.out.size (fun r hr => (World.ownsRow.lt HG.out r hr).1)); clear hg hgr)
          go_roundw
          case rel => exact ⟨1, A4, c4, n1, by omega, rfl, rfl, rfl, (HG4.out : Grow _ _ _ _ _ _), (HB4.out : Below _ _ _)⟩
          case measure => simp [intOf]
        · obtain rfl : m = n1 := hm
          go_wp2_with (at_builtin; refine wpList_append_ints_any rfl _ _ rfl w.heap.size _ xs ys rfl HG.out A2 n2 c2 rfl (HY.out.below HB.out (Nat.le_refl _)) (by rw [HL1.out]; omega) HB.out.size N (by rw [HL1.out]; exact HN.out) ?_; intro A4 c4 w4 hg hgr; have HG4 := Lib.hid hg; have HB4 := Lib.hid (HB.out.grown hgr HB.out.size (fun r hr => (World.ownsRow.lt HG.out r hr).1)); clear hg hgr)
          go_roundw
          case rel => exact ⟨2, A4, c4, N, by omega, rfl, HN.out.symm, rfl, (HG4.out : Grow _ _ _ _ _ _), (HB4.out : Below _ _ _)⟩
          case measure => simp [intOf]
        · obtain rfl : m = n1 + n2 := hm
          go_wp2
          go_ret
          exact ⟨_, _, rfl, HB.out, HG.out⟩
end Go.Proofs.Ytamhkfnghgbenaa
