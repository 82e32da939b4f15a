/-
  plan: steps.
-/
import Derived.Test.YtamhkfnghgbenaaPlCatch
namespace Go.Proofs.Ytamhkfnghgbenaa
set_option linter.all false
open Go.RowKit

theorem Seqs.below {w w' : World} {B : Nat} {v : Value} {ss : List SeqD} (h : Seqs w v ss) (hb : Below B w w') (hB : w.heap.size ≤ B) : Seqs w' v ss := by
  obtain ⟨⟨A, c, h1, h2, h3, h4⟩, hw⟩ := h
  refine ⟨⟨A, c, h1, h2, h3, fun h0 => ?_⟩, hw⟩
  obtain ⟨b, off, hA, hx⟩ := h4 h0
  refine ⟨b, off, hA, fun i s hi => ?_⟩
  obtain ⟨c0, c1, c2⟩ := hx i s hi
  have hlt : b < B := Nat.lt_of_lt_of_le (World.block_lt_of_cell? w _ c0) hB
  exact ⟨(hb.cell (p := ⟨b, off + i * 3, none⟩) hlt).trans c0, (hb.cell (p := ⟨b, off + i * 3 + 1, none⟩) hlt).trans c1, (hb.cell (p := ⟨b, off + i * 3 + 2, none⟩) hlt).trans c2⟩

/-- What steps keeps while gone visits: the list so far in p, the error in p + 1, the index in p + 2. -/
structure StJ (w0 : World) (p : Nat) (ss : List SeqD) (N : Nat) (pre : List StepD) (W : World) : Prop where
  bel : Below w0.heap.size w0 W
  hp : w0.heap.size ≤ p
  hN : w0.heap.size ≤ N
  row : ∃ ov, Blk W p 63 #[ov] ∧ StRow W ov pre ∧ ov.ownBlock ≠ some p ∧ ov.ownBlock ≠ some (p + 1) ∧ ov.ownBlock ≠ some (p + 2) ∧ ∀ k, ov.ownBlock = some k → N ≤ k
  err : Blk W (p + 1) 24 #[.int .i64 0]
  idx : Blk W (p + 2) 3 #[.int .i64 0]

theorem StJ.keeps {w0 w : World} {p : Nat} {v : Value} {ss : List SeqD} (hs : Seqs w0 v ss) (h0 : StJ w0 p ss w.heap.size [] w) (hrow : Blk w p 63 #[.slice none 0 0]) : Keeps w v ss (StJ w0 p ss) := by
  have hl := h0.idx.lt
  refine ⟨fun W hb => ?_, fun N pre W W' h hb => ?_, fun N pre W i u h hN => ?_, fun N pre W h => hs.below h.bel (Nat.le_refl _)⟩
  · have hsz := hb.size
    have h1 := h0.bel.size
    exact ⟨h0.bel.trans (hb.mono h1), h0.hp, by omega, ⟨_, hrow.below hb hrow.lt, SRow.nil _ _ _, by simp [Value.ownBlock], by simp [Value.ownBlock], by simp [Value.ownBlock], fun k hk => by cases hk⟩, h0.err.below hb h0.err.lt, h0.idx.below hb h0.idx.lt⟩
  · obtain ⟨ov, r1, r2, r3⟩ := h.row
    have h1 := h.bel.size
    exact ⟨h.bel.trans (hb.mono h1), h.hp, h.hN, ⟨ov, r1.below hb r1.lt, r2.below hb (Nat.le_refl _), r3⟩, h.err.below hb h.err.lt, h.idx.below hb h.idx.lt⟩
  · obtain ⟨ov, r1, r2, r3, r4, r5, r6⟩ := h.row
    have h1 := h0.bel.size
    refine ⟨h.bel.setCell (p := ⟨w.heap.size, i, none⟩) h1 u, h.hp, h.hN, ⟨ov, r1.far (p := ⟨w.heap.size, i, none⟩) (by simp; omega) u, r2.far (p := ⟨w.heap.size, i, none⟩) (fun e => by have := r6 _ e; simp at this; omega) u, r3, r4, r5, r6⟩, h.err.far (p := ⟨w.heap.size, i, none⟩) (by simp; omega) u, h.idx.far (p := ⟨w.heap.size, i, none⟩) (by simp; omega) u⟩

theorem StJ.of {w0 w : World} {p : Nat} {ss : List SeqD} (hl : ss.length ≤ 100000) (hpw : p + 2 < w.heap.size) :
    ∀ N pre x W, pre.length < ss.length → StJ w0 p ss N pre W → N ≤ W.heap.size → Calls Try.prog 41 #[x.val, .pointer (some ⟨p, 0, none⟩)] W fun e W' =>
      e = .returned (.tuple #[]) ∧ StJ w0 p ss N (pre ++ [x]) W' ∧ W.heap.size ≤ W'.heap.size ∧ ∀ k, w.heap.size ≤ k → k < N → W'.heap[k]? = W.heap[k]? := by
  intro N pre x W hlen h hN
  obtain ⟨ov, r1, r2, r3, r4, r5, r6⟩ := h.row
  refine (stepsFn_any W p ov pre x r1 r2 r3 (by omega)).mono fun e W' ⟨he, ov', s1, s2, s3, hb⟩ => ?_
  have hbs := h.bel.size
  have hpl := r1.lt
  have hel := h.err.lt
  have hil := h.idx.lt
  have hge : ∀ k, ov'.ownBlock = some k → N ≤ k := fun k hk => by
    rcases s3 with e1 | e1
    · exact r6 k (e1 ▸ hk)
    · have := e1 k hk; omega
  have hne : ∀ q, q < W.heap.size → ov.ownBlock ≠ some q → ov'.ownBlock ≠ some q := fun q hq h1 e2 => by
    rcases s3 with e1 | e1
    · exact h1 (e1 ▸ e2)
    · have := e1 q e2; omega
  refine ⟨he, ⟨h.bel.trans (hb.below hbs h.hp (fun k hk => by have := r6 k hk; have := h.hN; omega)), h.hp, h.hN, ⟨ov', s1, s2, hne _ hpl r3, hne _ hel r4, hne _ hil r5, hge⟩, ?_, ?_⟩, hb.size, fun k h1 h2 => hb.block k (by omega) (by omega) (fun e2 => by have := r6 k e2.symm; omega)⟩
  · exact (hb.block _ hel (by omega) (fun e2 => r4 e2.symm)).trans h.err
  · exact (hb.block _ hil (by omega) (fun e2 => r5 e2.symm)).trans h.idx

/-- What steps hands back. -/
def StepsPost (w w' : World) (ss : List SeqD) (e : Ending) : Prop := ∃ ov, Below w.heap.size w w' ∧ (∀ k, ov.ownBlock = some k → w.heap.size ≤ k) ∧
  ((Good 1 131072 0 0 ss ss.length ∧ e = .returned (.tuple #[ov, .int .i64 (posL ss), .int .i64 0]) ∧ StRow w' ov (stepsOf 131072 0 0 ss ss.length)) ∨
   (∃ k s, ss[k]? = some s ∧ Good 1 131072 0 0 ss k ∧ ¬ okAt 1 131072 0 0 ss k s ∧ e = .returned (.tuple #[ov, .int .i64 0, .int .i64 15]) ∧ StRow w' ov (stepsOf 131072 0 0 ss k)))

set_option maxHeartbeats 1600000 in
theorem steps_any (w : World) (v : Value) (ss : List SeqD) (h : Seqs w v ss) (hl : ss.length ≤ 100000) : Calls Try.prog 29 #[v] w fun e w' => StepsPost w w' ss e := by
  have HS := Lib.hid h
  have HL := Lib.hid hl
  have hmf : ∀ (fn : Fn) (first cap : Array Value) (w : World), (Instr.makeFunc fn first cap).run Try.prog w = .ok (.func fn first cap) w := fun _ _ _ _ => rfl
  obtain ⟨⟨A, c, hv, -, -, -⟩, -⟩ := h
  obtain ⟨n, hn⟩ : ∃ n, ss.length = n := ⟨_, rfl⟩
  rw [hn] at hv
  subst hv
  have HN := Lib.hid hn
  clear hl hn
  go_enter_defers Try.func29, Try.ntmps29
  go_wp2_with fail
  have hE : ∃ W, W = ((w.alloc (.cells #[.slice none 0 0] 63)).alloc (.cells #[.int .i64 0] 24)).alloc (.cells #[.int .i64 0] 3) := ⟨_, rfl⟩
  obtain ⟨W, hW⟩ := hE
  have hB : Below w.heap.size w W := by rw [hW]; exact (((Below.refl w.heap.size w).alloc (Nat.le_refl _) _).alloc (by simp) _).alloc (by simp; omega) _
  have hR : Blk W w.heap.size 63 #[.slice none 0 0] := by rw [hW]; exact ((Blk.new w _ _).alloc _).alloc _
  have hSz : W.heap.size = w.heap.size + 3 := by rw [hW]; simp
  have hJ0 : StJ w w.heap.size ss W.heap.size [] W := by
    refine ⟨hB, Nat.le_refl _, by omega, ⟨_, hR, SRow.nil _ _ _, by simp [Value.ownBlock], by simp [Value.ownBlock], by simp [Value.ownBlock], fun k hk => by cases hk⟩, ?_, ?_⟩
    · rw [hW]; exact (Blk.new1 w _ _ _).alloc _
    · rw [hW]; have := Blk.new ((w.alloc (.cells #[.slice none 0 0] 63)).alloc (.cells #[.int .i64 0] 24)) 3 #[.int .i64 0]; simpa using this
  rw [← hW]
  refine (gone_steps W (.slice A n c) ss 131072 0 0 (.pointer (some ⟨w.heap.size, 0, none⟩)) (StJ w w.heap.size ss) (StJ.keeps HS.out hJ0 hR) (by omega) (StJ.of HL.out (by omega))).mono ?_
  rintro e w2 ⟨N, ⟨hg, rfl, hj⟩ | ⟨k, s, hk, hg, hno, rfl, hj⟩⟩
  · clear hW
    obtain ⟨ov, r1, r2, r3, r4, r5, r6⟩ := hj.row
    obtain ⟨A3, c3, he⟩ := ownsRow_form r2
    rw [List.length_map] at he
    subst he
    have c0 := r1.one.1
    have f0 := r1.one.2
    have c1 := hj.err.one.1
    have c2 := hj.idx.one.1
    have f1 := hj.err.one.2
    have hlt := r1.lt
    have hlt1 := hj.err.lt
    have HJ := Lib.hid hj
    have HG := Lib.hid hg
    have HR := Lib.hid r2
    clear r1 r2 hJ0 hR hB hSz hg
    go_wp2
    have hb3 : Below w.heap.size w ((w2.setCell ⟨w.heap.size, 0, none⟩ (.slice A3 (stepsOf 131072 0 0 ss ss.length).length c3)).setCell ⟨w.heap.size + 1, 0, none⟩ (.int .i64 0)) := (HJ.out.bel.setCell (p := ⟨w.heap.size, 0, none⟩) (Nat.le_refl _) _).setCell (p := ⟨w.heap.size + 1, 0, none⟩) (Nat.le_succ _) _
    have hr3 : StRow ((w2.setCell ⟨w.heap.size, 0, none⟩ (.slice A3 (stepsOf 131072 0 0 ss ss.length).length c3)).setCell ⟨w.heap.size + 1, 0, none⟩ (.int .i64 0)) (.slice A3 (stepsOf 131072 0 0 ss ss.length).length c3) (stepsOf 131072 0 0 ss ss.length) := (SRow.far (p := ⟨w.heap.size, 0, none⟩) HR.out r3 _).far (p := ⟨w.heap.size + 1, 0, none⟩) r4 _
    refine leaves_cons (f := 30) (args := #[.pointer (some ⟨w.heap.size + 1 + 1, 0, none⟩), .pointer (some ⟨w.heap.size + 1, 0, none⟩)]) (by simp) (by simp [go_sem]) ?_
    refine (caught_idle _ _ _).mono ?_
    rintro e u' w'' ⟨rfl, rfl, rfl⟩
    simp [Leaves, settle, results, Try.results29, go_sem, c0, c1]
    exact ⟨_, hb3, fun k hk => Nat.le_trans HJ.out.hN (r6 k hk), .inl ⟨HG.out, rfl, hr3⟩⟩
  · clear hW
    obtain ⟨ov, r1, r2, r3, r4, r5, r6⟩ := hj.row
    obtain ⟨A3, c3, he⟩ := ownsRow_form r2
    rw [List.length_map] at he
    subst he
    have c0 := r1.one.1
    have c1 := hj.err.one.1
    have f1 := hj.err.one.2
    have c2 := hj.idx.one.1
    have f2 := hj.idx.one.2
    go_wp2
    refine leaves_cons (f := 30) (args := #[.pointer (some ⟨w.heap.size + 1 + 1, 0, none⟩), .pointer (some ⟨w.heap.size + 1, 0, none⟩)]) (by simp) (by simp [go_sem]) ?_
    refine (caught_wrong _ _ k 0 0 [] w2 c2 c1 f2 f1 (by simp)).mono ?_
    rintro e u' w'' ⟨rfl, rfl, rfl⟩
    simp [Leaves, settle, results, Try.results29, go_sem, c0, c1]
    refine ⟨_, (hj.bel.setCell (p := ⟨w.heap.size + 1 + 1, 0, none⟩) (by simp; omega) _).setCell (p := ⟨w.heap.size + 1, 0, none⟩) (Nat.le_succ _) _, fun k hk => Nat.le_trans hj.hN (r6 k hk), .inr ⟨k, s, hk, hg, hno, rfl, (SRow.far (p := ⟨w.heap.size + 1 + 1, 0, none⟩) r2 r5 _).far (p := ⟨w.heap.size + 1, 0, none⟩) r4 _⟩⟩
end Go.Proofs.Ytamhkfnghgbenaa
