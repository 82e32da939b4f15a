/-
  The reference's Same on equal cells; preset.Cells.
-/
import Derived.Test.YtkffhfdmdcecaaaCeRef
import Derived.Test.YtkffhfdmdcecaaaSRowC
import Derived.Test.YtkffhfdmdcecaaaPresetB
import Derived.Laws.StructEq
namespace Go.Proofs.Ytkffhfdmdcecaaa
set_option linter.all false
set_option maxRecDepth 100000
open Go.RowKit Go.Shelf

/-- The slice v reads as the cells of the spread l. -/
structure CellsRd (w : World) (v : Value) (m N : Nat) (xs l : List Int) (g cap : Nat) : Prop where
  val : v = .slice (some ⟨g, 0, none⟩) N cap
  cap : N ≤ cap ∧ cap ≤ 9223372036854775807
  s : ∀ i < N, w.cell? ⟨g, i * 3, none⟩ = some (.int .i64 (l.getD i 0))
  b : ∀ i < N, w.cell? ⟨g, i * 3 + 1, none⟩ = some (.int .i64 (bAt m xs l i : Int))
  z : ∀ i < N, w.cell? ⟨g, i * 3 + 2, none⟩ = some (.int .i64 (baseAt m xs l i))
  fz : ∀ j < N * 3, w.frozen? ⟨g, j, none⟩ = false
  own : v.ownBlock = some g
  lt : g < w.heap.size

theorem SRow.rd {w : World} {v : Value} {m N : Nat} {xs l : List Int} (h : SRow w 49 3 v (cellsTo m xs l N)) (hN : 0 < N) : ∃ g cap, CellsRd w v m N xs l g cap := by
  have hlen := cellsTo_length m xs l N
  have h3 : ∀ c ∈ cellsTo m xs l N, c.length = 3 := fun c hc => by
    unfold cellsTo at hc
    obtain ⟨i, -, rfl⟩ := List.mem_map.1 hc
    rfl
  have h0 := h
  rcases h.2 with ⟨-, h0⟩ | ⟨g, cap, cur, he, h2, hb, h4, h5, h6, h7⟩
  · rw [hlen] at h0; omega
  · subst he
    obtain ⟨g', hg', -, hc⟩ := h0.cell h3 (i := 0) (by rw [hlen]; exact hN)
    obtain rfl : g = g' := by injection hg' with e; injection e
    rw [hlen] at h4
    have hblk : Blk w g 49 cur := hb
    refine ⟨g, cap, by rw [hlen], ⟨h4, by simpa [maxLen] using h5⟩, fun i hi => hc i _ (cellsTo_at hi) 0 _ (by omega) rfl, fun i hi => hc i _ (cellsTo_at hi) 1 _ (by omega) rfl, fun i hi => hc i _ (cellsTo_at hi) 2 _ (by omega) rfl, fun j hj => hblk.frozen j, rfl, hblk.lt⟩

theorem run_neq_cell (W : World) (a b c : Int) : (binOp .neq 49 (.agg #[.int .i64 a, .int .i64 b, .int .i64 c]) (.agg #[.int .i64 a, .int .i64 b, .int .i64 c])).run Try.prog W = .ok (.bool false) W := by
  rw [run_neq_struct, run_equalIn_struct W 9999 49 _ _ (by kernel_rfl) (by kernel_rfl)]
  have hf : ((Try.prog.fieldsOf 49).toList.map fun f => (f.name, f.type, f.offset)) = [("Symbol", 3, 0), ("Bits", 3, 1), ("Base", 3, 2)] := by kernel_rfl
  obtain ⟨fs, hfs⟩ : ∃ fs, (Try.prog.fieldsOf 49).toList = fs := ⟨_, rfl⟩
  rw [hfs] at hf ⊢
  have hi : Try.prog.underlying 3 = some (.int .i64) := Try.underlying3
  rcases fs with _ | ⟨f0, _ | ⟨f1, _ | ⟨f2, _ | ⟨f3, fs⟩⟩⟩⟩
  case cons.cons.cons.nil =>
    simp only [List.map_cons, List.map_nil, List.cons.injEq, Prod.mk.injEq, and_true] at hf
    obtain ⟨⟨n0, t0, o0⟩, ⟨n1, t1, o1⟩, ⟨n2, t2, o2⟩⟩ := hf
    simp [Op.eqFields, n0, t0, o0, n1, t1, o1, n2, t2, o2, part, go_sem, hi]
  all_goals simp at hf
theorem run_guard_cell (W : World) (x y : Operand) (a b c : Int) : (eqGuard .neq 49 x y (.agg #[.int .i64 a, .int .i64 b, .int .i64 c]) (.agg #[.int .i64 a, .int .i64 b, .int .i64 c])).run Try.prog W = .ok () W :=
  run_eqGuard_agg W _ _ _ _ _ _ (by kernel_rfl)

set_option maxHeartbeats 1600000 in
theorem sameCells_ok (w : World) (va vb : Value) (m N : Nat) (xs l : List Int) (g c g2 c2 : Nat) (h1 : CellsRd w va m N xs l g c) (h2 : CellsRd w vb m N xs l g2 c2) : Calls Try.prog 28 #[va, vb] w fun e w' =>
    e = .returned (.bool true) ∧ Below w.heap.size w w' := by
  obtain rfl := h1.val
  obtain rfl := h2.val
  have hc1 := h1.cap
  have hc2 := h2.cap
  have H1 := Lib.hid h1
  have H2 := Lib.hid h2
  have hN63 : (N : Int) ≤ 9223372036854775807 := by omega
  clear h1 h2
  go_enter Try.func28, Try.ntmps28
  go_wp2
  go_loopw [5] (fun u5 wr => ∃ k : Nat, k ≤ N ∧ u5 = .int .i64 k ∧ ∃ z, wr = w.drewN z) (fun u7 _ => N - (intOf u7).toNat)
  case atStart => exact ⟨0, Nat.zero_le _, rfl, 0, rfl⟩
  case round =>
    obtain ⟨k, hk, rfl, z, rfl⟩ := hrel
    have k0 : (0 : Int) ≤ (k : Int) := by omega
    by_cases hlt : k < N
    · have k1 : (k : Int) < (N : Int) := by omega
      have p0 := H1.out.s k hlt
      have p1 := H1.out.b k hlt
      have p2 := H1.out.z k hlt
      have q0 := H2.out.s k hlt
      have q1 := H2.out.b k hlt
      have q2 := H2.out.z k hlt
      generalize l.getD k 0 = s at p0 q0
      generalize (bAt m xs l k : Int) = b at p1 q1
      generalize baseAt m xs l k = y at p2 q2
      have hng := fun W x y' => run_guard_cell W x y' s b y
      have hne := fun W => run_neq_cell W s b y
      go_wp2_with fail
      go_quiet (fail)
      go_wp2
      go_roundw
      case rel => exact ⟨k + 1, by omega, by go_num, _, rfl⟩
      case measure => simp [intOf]; omega
    · obtain rfl : k = N := by omega
      go_wp2
      go_ret
      exact ⟨rfl, below_drewN (Below.refl _ _) _⟩
end Go.Proofs.Ytkffhfdmdcecaaa
