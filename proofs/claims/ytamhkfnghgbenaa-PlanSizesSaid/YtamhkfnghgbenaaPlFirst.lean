/-
  plan: FirstError, Check.
-/
import Derived.Test.YtamhkfnghgbenaaPlBad
import Derived.Test.YtamhkfnghgbenaaPlGoneF
namespace Go.Proofs.Ytamhkfnghgbenaa
set_option linter.all false
open Go.RowKit

/-- What FirstError keeps while gone visits: its two boxes. -/
structure FeJ (w0 : World) (p : Nat) (N : Nat) (W : World) : Prop where
  bel : Below w0.heap.size w0 W
  hp : w0.heap.size ≤ p
  hN : w0.heap.size ≤ N
  idx : Blk W p 3 #[.int .i64 0]
  err : Blk W (p + 1) 24 #[.int .i64 0]

theorem FeJ.keeps {w0 w : World} {p : Nat} {v : Value} {ss : List SeqD} (hs : Seqs w0 v ss) (h0 : FeJ w0 p w.heap.size w) : Keeps w v ss (fun N _ W => FeJ w0 p N W) := by
  have hl := h0.err.lt
  refine ⟨fun W hb => ?_, fun N pre W W' h hb => ?_, fun N pre W i u h hN => ?_, fun N pre W h => hs.below h.bel (Nat.le_refl _)⟩
  · have hsz := hb.size
    have h1 := h0.bel.size
    exact ⟨h0.bel.trans (hb.mono h1), h0.hp, by omega, h0.idx.below hb h0.idx.lt, h0.err.below hb h0.err.lt⟩
  · have h1 := h.bel.size
    exact ⟨h.bel.trans (hb.mono h1), h.hp, h.hN, h.idx.below hb h.idx.lt, h.err.below hb h.err.lt⟩
  · have h1 := h0.bel.size
    exact ⟨h.bel.setCell (p := ⟨w.heap.size, i, none⟩) h1 u, h.hp, h.hN, h.idx.far (p := ⟨w.heap.size, i, none⟩) (by simp; omega) u, h.err.far (p := ⟨w.heap.size, i, none⟩) (by simp; omega) u⟩

theorem FeJ.of {w0 w : World} {p : Nat} {ss : List SeqD} :
    ∀ (N : Nat) (pre : List StepD) (x : StepD) (W : World), pre.length < ss.length → FeJ w0 p N W → N ≤ W.heap.size → Calls Try.prog 32 #[x.val] W fun e W' =>
      e = .returned (.tuple #[]) ∧ FeJ w0 p N W' ∧ W.heap.size ≤ W'.heap.size ∧ ∀ k, w.heap.size ≤ k → k < N → W'.heap[k]? = W.heap[k]? := by
  intro N pre x W hlen h hN
  refine (firstFn_any W x).mono fun e W' ⟨he, hb⟩ => ?_
  have h1 := h.bel.size
  exact ⟨he, ⟨h.bel.trans (hb.mono h1), h.hp, h.hN, h.idx.below hb h.idx.lt, h.err.below hb h.err.lt⟩, hb.size, fun k _ h2 => hb.block k (by omega)⟩

abbrev FirstPost (w w' : World) (ss : List SeqD) (size hv wd : Int) (e : Ending) : Prop := e = .returned (.tuple #[.int .i64 (whereR ss size hv wd).1, .int .i64 (whereR ss size hv wd).2]) ∧ Below w.heap.size w w'

set_option maxHeartbeats 1600000 in
theorem first_any (w : World) (v : Value) (ss : List SeqD) (size hv wd : Int) (h : Seqs w v ss) : Calls Try.prog 14 #[v, .int .i64 size, .int .i64 hv, .int .i64 wd] w fun e w' => FirstPost w w' ss size hv wd e := by
  have HS := Lib.hid h
  obtain ⟨⟨A, c, hv', -, -, -⟩, -⟩ := h
  obtain ⟨n, hn⟩ : ∃ n, ss.length = n := ⟨_, rfl⟩
  rw [hn] at hv'
  clear hn
  subst hv'
  by_cases hok : argsOk size hv wd
  · have HOK := Lib.hid hok
    unfold argsOk at hok
    obtain ⟨o1, o2, o3, o4, o5⟩ := hok
    have hE : ∃ W, W = ((w.alloc (.cells #[.int .i64 0] 3)).alloc (.cells #[.int .i64 0] 24)) := ⟨_, rfl⟩
    obtain ⟨W, hW⟩ := hE
    have hB : Below w.heap.size w W := by rw [hW]; exact ((Below.refl w.heap.size w).alloc (Nat.le_refl _) _).alloc (by simp) _
    have hSz : W.heap.size = w.heap.size + 2 := by rw [hW]; simp
    have hJ0 : FeJ w w.heap.size W.heap.size W := by
      refine ⟨hB, Nat.le_refl _, by omega, ?_, ?_⟩
      · rw [hW]; exact (Blk.new w _ _).alloc _
      · rw [hW]; exact Blk.new1 w _ _ _
    have HJ0 := Lib.hid hJ0
    have HW := Lib.hid hW
    have HSZ := Lib.hid hSz
    clear hJ0 hB hW hSz
    go_enter_defers Try.func14, Try.ntmps14
    go_wp2_with fail
    all_goals first
      | (exfalso; omega)
      | skip
    all_goals
      rw [← HW.out]
      refine (gone_first W (.slice A n c) ss size hv wd (fun N _ W => FeJ w w.heap.size N W) (FeJ.keeps HS.out HJ0.out) ⟨o1, o3⟩ FeJ.of).mono ?_
      rintro e w2 ⟨N, ⟨hg, rfl, hj⟩ | ⟨k, s, hk, hg, hno, rfl, hj⟩⟩
    all_goals
      have c1 := hj.err.one.1
      have f1 := hj.err.one.2
      have c2 := hj.idx.one.1
      have f2 := hj.idx.one.2
      have hlt1 := hj.idx.lt
      have hlt2 := hj.err.lt
      have HJ := Lib.hid hj
      have HG := Lib.hid hg
      clear hg hj
      go_wp2
    all_goals
      refine leaves_cons (f := 30) (args := #[.pointer (some ⟨w.heap.size, 0, none⟩), .pointer (some ⟨w.heap.size + 1, 0, none⟩)]) (by simp) (by simp [go_sem]) ?_
      first
        | (refine (caught_wrong _ _ k 0 0 [] w2 c2 c1 f2 f1 (by simp)).mono ?_
           rintro e u' w'' ⟨rfl, rfl, rfl⟩
           have e3 : whereR ss size hv wd = ((k : Int), 15) := by unfold whereR; rw [if_pos HOK.out, bad_some.2 ⟨s, hk, HG.out, hno⟩]
           simp [Leaves, settle, results, Try.results14, go_sem, c1, c2]
           exact ⟨by rw [e3], (HJ.out.bel.setCell (p := ⟨w.heap.size, 0, none⟩) (Nat.le_refl _) _).setCell (p := ⟨w.heap.size + 1, 0, none⟩) (Nat.le_succ _) _⟩)
        | (refine (caught_idle _ _ _).mono ?_
           rintro e u' w'' ⟨rfl, rfl, rfl⟩
           have e3 : whereR ss size hv wd = (0, 0) := by unfold whereR; rw [if_pos HOK.out, bad_none.2 HG.out]
           simp [Leaves, settle, results, Try.results14, go_sem, c1, c2]
           exact ⟨by rw [e3], (HJ.out.bel.setCell (p := ⟨w.heap.size, 0, none⟩) (Nat.le_refl _) _).setCell (p := ⟨w.heap.size + 1, 0, none⟩) (Nat.le_succ _) _⟩)
  · have HB2 := Lib.hid ((((Below.refl w.heap.size w).alloc (Nat.le_refl _) (.cells #[.int .i64 0] 3)).alloc (by simp) (.cells #[.int .i64 2] 24)))
    have hwb : whereR ss size hv wd = (0, 2) := by unfold whereR; rw [if_neg hok]
    have HWB := Lib.hid hwb
    clear hwb
    unfold argsOk at hok
    obtain ⟨m, hm⟩ : ∃ m, (if size < hv then size else hv) = m := ⟨_, rfl⟩
    have hor : m < 0 ∨ (0 ≤ m ∧ 131072 < size) ∨ (0 ≤ m ∧ size ≤ 131072 ∧ wd < 1) ∨ (0 ≤ m ∧ size ≤ 131072 ∧ 1 ≤ wd ∧ 134217728 < wd) := by split at hm <;> omega
    clear hok
    rcases hor with h | ⟨h, h1⟩ | ⟨h, h1, h2⟩ | ⟨h, h1, h2, h3⟩
    all_goals
      go_enter_defers Try.func14, Try.ntmps14
      go_wp2
    all_goals first
      | (simp [bodyPostD, Leaves, results, Try.results14, go_sem]; exact ⟨by rw [HWB.out], HB2.out⟩)
      | (exfalso; split at hm <;> omega)

theorem check_any (w : World) (v : Value) (ss : List SeqD) (size hv wd : Int) (h : Seqs w v ss) : Calls Try.prog 17 #[v, .int .i64 size, .int .i64 hv, .int .i64 wd] w fun e w' => e = .returned (.int .i64 (whereR ss size hv wd).2) ∧ Below w.heap.size w w' := by
  have HS := Lib.hid h
  obtain ⟨⟨A, c, hv', -, -, -⟩, -⟩ := h
  obtain ⟨n, hn⟩ : ∃ n, ss.length = n := ⟨_, rfl⟩
  rw [hn] at hv'
  clear hn
  subst hv'
  go_enter Try.func17, Try.ntmps17
  go_wp2_with (refine (first_any _ _ ss size hv wd HS.out).mono ?_; rintro e w2 ⟨rfl, hb⟩; have HB := Lib.hid hb; clear hb)
  go_ret
  exact ⟨rfl, HB.out⟩
end Go.Proofs.Ytamhkfnghgbenaa
