/-
  PlanSteps: the law's state; small laws.
-/
import Derived.Deep.LoopGhost
import Derived.LoopN
import Derived.Test.YtamhkfnghgbenaaFnRound
import Derived.Test.YtamhkfnghgbenaaPlStepsL
import Derived.Test.YtamhkfnghgbenaaPlRef
import Derived.Test.YtamhkfnghgbenaaPlSame
import Derived.Test.YtamhkfnghgbenaaPlApp
import Derived.Test.YtamhkfnghgbenaaArgSeqs
namespace Go.Proofs.Ytamhkfnghgbenaa
set_option linter.all false
set_option maxRecDepth 100000
open Go.RowKit Go.Shelf

theorem infoInt : (Try.prog.info? 3).map (fun i => (i.zero, i.size, i.bytes)) = some (some (.int .i64 0), 1, 8) := by kernel_rfl
theorem infoSq : (Try.prog.info? 60).map (fun i => (i.zero, i.size, i.bytes)) = some (some (.agg #[.int .i64 0, .int .i64 0, .int .i64 0]), 3, 24) := by kernel_rfl
/-- A made function is not nil. -/
theorem eql_func_nil (w : World) (f : Fn) (ts vs : Array Value) : (binOp .eql 57 (.func f ts vs) .nilFunc).run Try.prog w = .ok (.bool false) w := by
  have hu := Try.underlying57
  have h1 : ∀ d, (Op.equalIn (d + 1) 57 (.func f ts vs) .nilFunc).run Try.prog w = .ok false w := fun d => by simp [Op.equalIn, run_underlying hu]
  have h2 : (Op.equal 57 (.func f ts vs) .nilFunc).run Try.prog w = .ok false w := h1 _
  simp only [binOp]
  simp [h2]

/-- The block of a row. -/
theorem SRow.cells_ {w : World} {E : TypeId} {sz : Nat} {A : Option Addr} {n c : Nat} {cs : List (List Value)} (h : SRow w E sz (.slice A n c) cs) (d : Nat) : ∃ g, (0 < cs.length → A = some ⟨g, 0, none⟩) ∧ Cells w g (cs.length * sz) ∧ (g = d ∨ (Value.slice A n c).ownBlock = some g) := by
  rcases h.2 with ⟨hv, h0⟩ | ⟨g, cap, cur, he, h2, h3, h4, h5, h6, h7⟩
  · exact ⟨d, fun h1 => by omega, fun j hj => by rw [h0] at hj; omega, .inl rfl⟩
  · injection he with e1 e2 e3
    refine ⟨g, fun _ => e1, fun j hj => ?_, .inr (by rw [e1]; rfl)⟩
    have hb : Blk w g E cur := h3
    have hlt : j < cur.size := by
      have := Nat.mul_le_mul_right sz h4
      omega
    exact ⟨⟨cur[j]'hlt, by rw [hb.cell]; exact Array.getElem?_eq_getElem hlt⟩, hb.frozen j⟩

/-- The law's boxes, what is wanted, and the steps. -/
structure PsW (w W : World) (v : Value) (many : Int) (q : Nat) (wv : Value) (ss : List SeqD) (B : Nat) (ov : Value) : Prop where
  below : Below w.heap.size w W
  kl : Blk W w.heap.size 22 #[v]
  km : Blk W (w.heap.size + 1) 3 #[.int .i64 many]
  kr : Blk W (w.heap.size + 1 + 1) 4 #[.bool false]
  kq : Blk W q 53 #[wv]
  iw : Ints W .i64 wv (beginsOf ss (nGood ss))
  kb : W.cell? ⟨B, 0, none⟩ = some ov
  ro : StRow W ov (stepsOf 131072 0 0 ss (nGood ss))
theorem PsW.next {w W W' : World} {v : Value} {many : Int} {q : Nat} {wv : Value} {ss : List SeqD} {B : Nat} {ov : Value} (h : PsW w W v many q wv ss B ov) (hb : Below W.heap.size W W') : PsW w W' v many q wv ss B ov :=
  ⟨h.below.trans (hb.mono h.below.size), h.kl.below hb h.kl.lt, h.km.below hb h.km.lt, h.kr.below hb h.kr.lt, h.kq.below hb h.kq.lt, h.iw.below hb (Nat.le_refl _), (hb.cell (World.block_lt_of_cell? _ _ h.kb)).trans h.kb, SRow.same h.ro fun k hk => hb.block k (SRow.lt h.ro k hk)⟩

theorem PsW.but {w W W' : World} {v : Value} {many : Int} {q gb : Nat} {wv : Value} {ss : List SeqD} {B : Nat} {ov : Value} (h : PsW w W v many q wv ss B ov) (hb : But W W' gb none) (h0 : w.heap.size + 1 + 1 < gb) (hq : q ≠ gb) (hw : ∀ k, wv.ownBlock = some k → k ≠ gb) (hB : B ≠ gb) (ho : ∀ k, ov.ownBlock = some k → k ≠ gb) : PsW w W' v many q wv ss B ov :=
  ⟨h.below.trans ⟨hb.os, hb.tape, hb.output, hb.size, fun k hk => hb.block k (by have := h.below.size; omega) (by omega) (by simp)⟩, h.kl.but hb (by omega) (by simp), h.km.but hb (by omega) (by simp), h.kr.but hb (by omega) (by simp), h.kq.but hb hq (by simp),
    Ints.keep h.iw fun k _ hk hlt => hb.block k hlt (hw k hk) (by simp), by
      have h1 := h.kb
      have h2 := hb.block B (World.block_lt_of_cell? _ _ h1) hB (by simp)
      unfold World.cell? at h1 ⊢
      rw [h2]; exact h1, SRow.same h.ro fun k hk => hb.block k (SRow.lt h.ro k hk) (ho k hk) (by simp)⟩

theorem stepsOf_pre {ss : List SeqD} {m : Nat} {pre : List StepD} {x : StepD} (hm : m ≤ ss.length) (h : pre ++ [x] <+: stepsOf 131072 0 0 ss m) : pre.length < m ∧ ∃ s, ss[pre.length]? = some s ∧ x = ⟨s, pre.length, posL (ss.take pre.length), 131072, 0, 0⟩ := by
  obtain ⟨t, ht⟩ := h
  have h1 : (stepsOf 131072 0 0 ss m)[pre.length]? = some x := by rw [← ht]; simp
  have h2 := (List.getElem?_eq_some_iff.1 h1).1
  rw [stepsOf_length hm] at h2
  have hxk := List.getElem?_eq_getElem (l := ss) (i := pre.length) (by omega)
  have h3 := stepsOf_get (size := 131072) (hv := 0) (wd := 0) h2 hxk
  rw [h1] at h3
  exact ⟨h2, _, hxk, by rw [Option.some.inj h3]; rfl⟩

/-- A round of a turn counts. -/
theorem turn_tick {w X : World} {tb nb k : Nat} {t : Int} {ty : TypeId} (nq : Nat) (h1 : Below w.heap.size w X) (h2 : Blk X tb ty #[.int .i64 t]) (h3 : Blk X nb ty #[.int .i64 k]) (hne : tb ≠ nb) (hge : w.heap.size ≤ nb) :
    Below w.heap.size w ((X.drewN nq).setCell ⟨nb, 0, none⟩ (.int .i64 ((k : Int) + 1))) ∧ Blk ((X.drewN nq).setCell ⟨nb, 0, none⟩ (.int .i64 ((k : Int) + 1))) tb ty #[.int .i64 t] ∧
    Blk ((X.drewN nq).setCell ⟨nb, 0, none⟩ (.int .i64 ((k : Int) + 1))) nb ty #[.int .i64 (k + 1 : Nat)] ∧ ∀ K : Nat → Prop, ¬K nb → KeptL K X ((X.drewN nq).setCell ⟨nb, 0, none⟩ (.int .i64 ((k : Int) + 1))) := by
  have hd : Below X.heap.size X (X.drewN nq) := below_drewN (Below.refl _ _) nq
  refine ⟨(below_drewN h1 nq).setCell (p := ⟨nb, 0, none⟩) hge _, (h2.below hd h2.lt).far (p := ⟨nb, 0, none⟩) hne _, ((h3.below hd h3.lt).set_ 0 (.int .i64 ((k : Int) + 1))).congr (by simp), fun K hK => (KeptL.of_below hd).trans (KeptL.setCell _ _ _ hK)⟩
theorem Ints.cell_at {w : World} {k : IntKind} {A : Option Addr} {n c : Nat} {xs : List Int} (h : Ints w k (.slice A n c) xs) {i : Nat} {x : Int} (hx : xs[i]? = some x) : ∃ b off, A = some ⟨b, off, none⟩ ∧ w.cell? ⟨b, off + i, none⟩ = some (.int k x) := by
  obtain ⟨A', n', c', he, -, -, hat⟩ := h.get
  injection he with e1 e2 e3
  subst e1 e2 e3
  have hl := (List.getElem?_eq_some_iff.1 hx).1
  obtain ⟨b, off, y, hA, -, hc, hy⟩ := hat.at_ (i := i) (by have := hat.1; omega)
  have h9 := hy.out
  rw [hx] at h9
  obtain rfl := Option.some.inj h9
  exact ⟨b, off, hA, hc⟩
theorem Seqs.cell_at {w : World} {A : Option Addr} {n c : Nat} {ss : List SeqD} (h : Seqs w (.slice A n c) ss) {k : Nat} {s : SeqD} (hs : ss[k]? = some s) : ∃ b off, A = some ⟨b, off, none⟩ ∧ w.cell? ⟨b, off + k * 3, none⟩ = some (.int .i64 s.lit) ∧ w.cell? ⟨b, off + k * 3 + 1, none⟩ = some (.int .i64 s.len) ∧ w.cell? ⟨b, off + k * 3 + 2, none⟩ = some (.int .i64 s.off) := by
  obtain ⟨A', c', he, -, -, h4⟩ := h.at_
  injection he with e1 e2 e3
  subst e1
  have hl := (List.getElem?_eq_some_iff.1 hs).1
  obtain ⟨b, off, hA, hc⟩ := h4 (by omega)
  obtain ⟨q0, q1, q2⟩ := hc k s hs
  exact ⟨b, off, hA, q0, q1, q2⟩

/-- Two marks are taken away. -/
theorem mark_end2 {w W' : World} {D D2 r : Nat} {t : TypeId} {u : Value} (h : Blk W' r t #[u]) (hb : Below w.heap.size w W') (hr : w.heap.size ≤ r) (hK2 : W'.heap[D2]? = some (.deferred (some []))) (hK : W'.heap[D]? = some (.deferred (some []))) (hD2 : w.heap.size ≤ D2) (hD : w.heap.size ≤ D) (hne : D ≠ D2) (v : Value) :
    (W'.setCell ⟨r, 0, none⟩ v).heap[D2]? = some (.deferred (some [])) ∧ ((W'.setCell ⟨r, 0, none⟩ v).putObj D2 (.deferred none)).heap[D]? = some (.deferred (some [])) ∧
    (((W'.setCell ⟨r, 0, none⟩ v).putObj D2 (.deferred none)).putObj D (.deferred none)).cell? ⟨r, 0, none⟩ = some v ∧
    Below w.heap.size w (((W'.setCell ⟨r, 0, none⟩ v).putObj D2 (.deferred none)).putObj D (.deferred none)) := by
  obtain ⟨a1, a2, a3⟩ := mark_end h hb hr hK2 hD2 v
  have hK' := (KeepsOthers.setCell W' ⟨r, 0, none⟩ v).same D _ hK rfl
  have hK3 : ((W'.setCell ⟨r, 0, none⟩ v).putObj D2 (.deferred none)).heap[D]? = some (.deferred (some [])) := (World.putObj_heap_other hne).trans hK'
  exact ⟨a1, hK3, cell_kept a2 (grownBy_putObj' _ D (.deferred none)) (fun r e => by cases e; exact ⟨_, hK3, rfl⟩), a3.trans (belowK_put _ D _ hD)⟩
end Go.Proofs.Ytamhkfnghgbenaa
