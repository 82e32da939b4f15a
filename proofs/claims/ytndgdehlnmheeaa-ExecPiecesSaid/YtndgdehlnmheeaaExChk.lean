/-
  exec: checked, Check, FirstError.
-/
import Derived.Test.YtndgdehlnmheeaaExCatch
namespace Go.Proofs.Ytndgdehlnmheeaa
set_option linter.all false
open Go.RowKit

/-- The check of the sequences from the i-th on. -/
def chk (size hv most : Int) : List SeqD → Nat → Int → Int → Int × Int × Int
  | [], i, lits, total => if most - total < lits then (i, 0, 10) else (0, total + lits, 0)
  | s :: r, i, lits, total => if LookD.ok1 ⟨s, i, size, hv, lits, most, total⟩ then (if LookD.ok2 ⟨s, i, size, hv, lits, most, total⟩ then chk size hv most r (i + 1) (lits - s.lit) (total + (s.lit + s.len)) else (i, 0, 10)) else (i, 0, 15)
/-- Are the arguments in order. -/
def exArgs (size hv lits most : Int) : Prop := 1 ≤ size ∧ size ≤ 134217728 ∧ 0 ≤ hv ∧ 0 ≤ lits ∧ 0 ≤ most ∧ most ≤ 131072
instance (size hv lits most : Int) : Decidable (exArgs size hv lits most) := by unfold exArgs; infer_instance
/-- What checked answers: the index, the length, the error. -/
def chkR (size hv lits most : Int) (ss : List SeqD) : Int × Int × Int := if exArgs size hv lits most then chk size (min hv size) most ss 0 lits 0 else (0, 0, 2)

theorem drop_cons {ss : List SeqD} {k : Nat} {s : SeqD} (h : ss[k]? = some s) : ss.drop k = s :: ss.drop (k + 1) := by
  obtain ⟨hk, rfl⟩ := List.getElem?_eq_some_iff.1 h
  exact List.drop_eq_getElem_cons hk
section
variable {size hv most lits total : Int} {ss : List SeqD} {k : Nat} {s : SeqD}
theorem chk_succ (h : ss[k]? = some s) (h1 : LookD.ok1 ⟨s, k, size, hv, lits, most, total⟩) (h2 : LookD.ok2 ⟨s, k, size, hv, lits, most, total⟩) :
    chk size hv most (ss.drop k) k lits total = chk size hv most (ss.drop (k + 1)) (k + 1) (lits - s.lit) (total + (s.lit + s.len)) := by
  rw [drop_cons h, chk, if_pos h1, if_pos h2]
theorem chk_bad1 (h : ss[k]? = some s) (h1 : ¬ LookD.ok1 ⟨s, k, size, hv, lits, most, total⟩) : chk size hv most (ss.drop k) k lits total = ((k : Int), 0, 15) := by
  rw [drop_cons h, chk, if_neg h1]
theorem chk_bad2 (h : ss[k]? = some s) (h1 : LookD.ok1 ⟨s, k, size, hv, lits, most, total⟩) (h2 : ¬ LookD.ok2 ⟨s, k, size, hv, lits, most, total⟩) : chk size hv most (ss.drop k) k lits total = ((k : Int), 0, 10) := by
  rw [drop_cons h, chk, if_pos h1, if_neg h2]
theorem chk_end_bad (h : most - total < lits) : chk size hv most (ss.drop ss.length) ss.length lits total = ((ss.length : Int), 0, 10) := by
  rw [List.drop_length, chk, if_pos h]
theorem chk_end_ok (h : ¬ most - total < lits) : chk size hv most (ss.drop ss.length) ss.length lits total = (0, total + lits, 0) := by
  rw [List.drop_length, chk, if_neg h]
end

/-- The cells of a look's box. -/
def LkCells (W : World) (b : Nat) (x : LookD) : Prop :=
  W.cell? ⟨b, 0, none⟩ = some (.int .i64 x.s.lit) ∧ W.cell? ⟨b, 1, none⟩ = some (.int .i64 x.s.len) ∧ W.cell? ⟨b, 2, none⟩ = some (.int .i64 x.s.off) ∧ W.cell? ⟨b, 3, none⟩ = some (.int .i64 x.number) ∧
    W.cell? ⟨b, 4, none⟩ = some (.int .i64 x.size) ∧ W.cell? ⟨b, 5, none⟩ = some (.int .i64 x.have_) ∧ W.cell? ⟨b, 6, none⟩ = some (.int .i64 x.lits) ∧ W.cell? ⟨b, 7, none⟩ = some (.int .i64 x.most) ∧ W.cell? ⟨b, 8, none⟩ = some (.int .i64 x.total)
theorem Blk.look {W : World} {b : Nat} {t : TypeId} {x : LookD} (h : Blk W b t x.cells) : LkCells W b x := by
  refine ⟨?_, ?_, ?_, ?_, ?_, ?_, ?_, ?_, ?_⟩ <;> (rw [h.cell]; rfl)

/-- checked's memory: the results' boxes and the look's. -/
structure ChkSt (w W : World) (x : LookD) : Prop where
  bel : Below w.heap.size w W
  p : Blk W w.heap.size 3 #[.int .i64 0]
  q : Blk W (w.heap.size + 1) 3 #[.int .i64 0]
  r : Blk W (w.heap.size + 1 + 1) 27 #[.int .i64 0]
  box : Blk W (w.heap.size + 1 + 1 + 1) 110 x.cells
section
variable {w W W2 : World} {x y : LookD}
theorem ChkSt.below (h : ChkSt w W x) (hb : Below W.heap.size W W2) : ChkSt w W2 x :=
  ⟨h.bel.trans (hb.mono h.bel.size), h.p.below hb h.p.lt, h.q.below hb h.q.lt, h.r.below hb h.r.lt, h.box.below hb h.box.lt⟩
theorem ChkSt.alloc (h : ChkSt w W x) (o : Obj) : ChkSt w (W.alloc o) x := h.below ((Below.refl _ _).alloc (Nat.le_refl _) o)
theorem ChkSt.set_ (h : ChkSt w W x) (i : Nat) (u : Value) (hy : y.cells = x.cells.setIfInBounds i u) : ChkSt w (W.setCell ⟨w.heap.size + 1 + 1 + 1, i, none⟩ u) y :=
  ⟨h.bel.setCell (p := ⟨w.heap.size + 1 + 1 + 1, i, none⟩) (by simp <;> omega) u, h.p.far (p := ⟨w.heap.size + 1 + 1 + 1, i, none⟩) (by simp <;> omega) u, h.q.far (p := ⟨w.heap.size + 1 + 1 + 1, i, none⟩) (by simp <;> omega) u, h.r.far (p := ⟨w.heap.size + 1 + 1 + 1, i, none⟩) (by simp <;> omega) u, (h.box.set_ i u).congr hy.symm⟩
end

theorem ix_exrules (W : World) (k : Nat) (hk : k < 2) : (Instr.index 112 (.agg #[exFn 72, exFn 73]) (.int .i64 k)).run Try.prog W = .ok (if k = 0 then exFn 72 else exFn 73) W := by
  have h := run_underlying (P := Try.prog) (w := W) Try.underlying112
  unfold Instr.index
  obtain rfl | rfl : k = 0 ∨ k = 1 := by omega
  · simp [h, go_sem, part, sizeOf]
  · simp [h, go_sem, part]

set_option maxRecDepth 100000 in
set_option maxHeartbeats 6400000 in
theorem checked_any (w : World) (size hv lits most : Int) (v : Value) (ss : List SeqD) (h : Seqs w v ss) (hb : (-9223372036854775808 ≤ hv ∧ hv ≤ 9223372036854775807) ∧ (-9223372036854775808 ≤ lits ∧ lits ≤ 9223372036854775807)) :
    Calls Try.prog 47 #[.int .i64 size, .int .i64 hv, .int .i64 lits, .int .i64 most, v] w fun e w' => e = .returned (.tuple #[.int .i64 (chkR size hv lits most ss).1, .int .i64 (chkR size hv lits most ss).2.1, .int .i64 (chkR size hv lits most ss).2.2]) ∧ Below w.heap.size w w' := by
  have HS := Lib.hid h
  have hix0 : ∀ W, (Instr.index 112 (.agg #[exFn 72, exFn 73]) (.int .i64 0)).run Try.prog W = .ok (exFn 72) W := fun W => by have h9 := ix_exrules W 0 (by decide); simpa using h9
  have hix1 : ∀ W, (Instr.index 112 (.agg #[exFn 72, exFn 73]) (.int .i64 1)).run Try.prog W = .ok (exFn 73) W := fun W => by have h9 := ix_exrules W 1 (by decide); simpa using h9
  obtain ⟨⟨A, c, hv', hlc, hcm, -⟩, -⟩ := h
  obtain ⟨n, hn⟩ : ∃ n, ss.length = n := ⟨_, rfl⟩
  rw [hn] at hv' hlc
  subst hv'
  have HN := Lib.hid hn
  have hni : (n : Int) ≤ 9223372036854775807 := by have := hcm; simp only [maxLen] at this; omega
  clear hn
  by_cases hok : exArgs size hv lits most
  · have hR : chkR size hv lits most ss = chk size (min hv size) most (ss.drop 0) 0 lits 0 := by unfold chkR; rw [if_pos hok]; rfl
    unfold exArgs at hok
    obtain ⟨o1, o2, o3, o4, o5, o6⟩ := hok
    obtain ⟨b2, b4⟩ := hb.2
    clear hb
    obtain ⟨m, hm⟩ : ∃ m, min hv size = m := ⟨_, rfl⟩
    rw [hm] at hR
    have hm2 : (if size < hv then size else hv) = m := by omega
    have hm0 : 0 ≤ m ∧ m ≤ 134217728 := by omega
    obtain ⟨m1, hm3⟩ : ∃ m1, (if lits < hv then lits else hv) = m1 := ⟨_, rfl⟩
    obtain ⟨m3, hm4⟩ : ∃ m3, (if most < m1 then most else m1) = m3 := ⟨_, rfl⟩
    have hm5 : 0 ≤ m3 := by split at hm4 <;> split at hm3 <;> omega
    obtain ⟨⟨ra, rt, re⟩, hr0⟩ : ∃ p, chkR size hv lits most ss = p := ⟨_, rfl⟩
    rw [hr0] at hR ⊢
    have HR := Lib.hid hR.symm
    have HM0 := Lib.hid hm0
    have hst : ChkSt w ((((w.alloc (.cells #[.int .i64 0] 3)).alloc (.cells #[.int .i64 0] 3)).alloc (.cells #[.int .i64 0] 27)).alloc (.cells #[.int .i64 0, .int .i64 0, .int .i64 0, .int .i64 0, .int .i64 size, .int .i64 m, .int .i64 lits, .int .i64 most, .int .i64 0] 110)) ⟨⟨0, 0, 0⟩, 0, size, m, lits, most, 0⟩ :=
      ⟨((((Below.refl w.heap.size w).alloc (Nat.le_refl _) _).alloc (by simp) _).alloc (by simp; omega) _).alloc (by simp; omega) _, (((Blk.new w _ _).alloc _).alloc _).alloc _, ((Blk.new1 w _ _ _).alloc _).alloc _, (Blk.new2 w _ _ _ _).alloc _, by have h9 := Blk.new (((w.alloc (.cells #[.int .i64 0] 3)).alloc (.cells #[.int .i64 0] 3)).alloc (.cells #[.int .i64 0] 27)) 110 #[.int .i64 0, .int .i64 0, .int .i64 0, .int .i64 0, .int .i64 size, .int .i64 m, .int .i64 lits, .int .i64 most, .int .i64 0]; simpa using h9⟩
    have HST := Lib.hid hst
    clear hR hm hm0 hr0 hst
    go_enter_defers Try.func47, Try.ntmps47
    go_wp2
    generalize (((w.alloc (.cells #[.int .i64 0] 3)).alloc (.cells #[.int .i64 0] 3)).alloc (.cells #[.int .i64 0] 27)).alloc (.cells #[.int .i64 0, .int .i64 0, .int .i64 0, .int .i64 0, .int .i64 size, .int .i64 m, .int .i64 lits, .int .i64 most, .int .i64 0] 110) = W4 at HST ⊢
    go_loopw [44] (fun i wr => ∃ (k : Nat) (sq : SeqD) (nu L P : Int), k ≤ n ∧ i = .int .i64 k ∧ Hid (ChkSt w wr ⟨sq, nu, size, m, L, most, P⟩) ∧ Hid (chk size m most (ss.drop k) k L P = (ra, rt, re)) ∧ Hid (0 ≤ L ∧ L ≤ lits ∧ 0 ≤ P ∧ P ≤ most)) (fun i _ => n - (intOf i).toNat)
    case atStart => exact ⟨0, ⟨0, 0, 0⟩, 0, lits, 0, Nat.zero_le _, rfl, (HST.out : ChkSt _ _ _), (HR.out : _ = _), (by omega : _ ∧ _)⟩
    case round =>
      clear HST HR
      obtain ⟨k, sq, nu, L, P, hk, rfl, HST, HC, HLP⟩ := hrel
      obtain ⟨p0, p1, p2, p3, p4, p5, p6, p7, p8⟩ := HST.out.box.look
      simp only at p0 p1 p2 p3 p4 p5 p6 p7 p8
      by_cases hlt : k < n
      · have hx := List.getElem?_eq_getElem (l := ss) (i := k) (by rw [HN.out]; omega)
        obtain ⟨⟨lit, len, offs⟩, hse⟩ : ∃ s, ss[k]'(by rw [HN.out]; omega) = s := ⟨_, rfl⟩
        rw [hse] at hx
        have hsq := HS.out.below HST.out.bel (Nat.le_refl _)
        have hwf := hsq.wf _ (List.mem_of_getElem? hx)
        obtain ⟨A2, c2, he, -, -, h4⟩ := hsq.at_
        injection he with e1 e2 e3
        subst e1 e3
        clear e2
        obtain ⟨b, off, rfl, hcell⟩ := h4 (by rw [HN.out]; omega)
        obtain ⟨c0, c1, c2⟩ := hcell k _ hx
        simp only at c0 c1 c2
        have hblt := World.block_lt_of_cell? wr _ c0
        have f0 := HST.out.box.frozen 0
        have f1 := HST.out.box.frozen 1
        have f2 := HST.out.box.frozen 2
        have f3 := HST.out.box.frozen 3
        have hblt2 := HST.out.box.lt
        have k0 : (0 : Int) ≤ (k : Int) := by omega
        have k1 : (k : Int) < (n : Int) := by omega
        have HX := Lib.hid hx
        have HWF := Lib.hid hwf
        clear hx hse hsq hwf hcell h4
        have HS1 : Hid (ChkSt w (((((wr.setCell ⟨w.heap.size + 1 + 1 + 1, 0, none⟩ (.int .i64 lit)).setCell ⟨w.heap.size + 1 + 1 + 1, 1, none⟩ (.int .i64 len)).setCell ⟨w.heap.size + 1 + 1 + 1, 2, none⟩ (.int .i64 offs)).setCell ⟨w.heap.size + 1 + 1 + 1, 3, none⟩ (.int .i64 k)).alloc (.cells #[.int .i64 lit, .int .i64 len, .int .i64 offs] 54)) ⟨⟨lit, len, offs⟩, k, size, m, L, most, P⟩) :=
          (((((HST.out.set_ (y := ⟨⟨lit, sq.len, sq.off⟩, nu, size, m, L, most, P⟩) 0 (.int .i64 lit) rfl).set_ (y := ⟨⟨lit, len, sq.off⟩, nu, size, m, L, most, P⟩) 1 (.int .i64 len) rfl).set_ (y := ⟨⟨lit, len, offs⟩, nu, size, m, L, most, P⟩) 2 (.int .i64 offs) rfl).set_ (y := ⟨⟨lit, len, offs⟩, k, size, m, L, most, P⟩) 3 (.int .i64 k) rfl).alloc _ : ChkSt _ _ _)
        have HQ1 : Hid (Blk (((((wr.setCell ⟨w.heap.size + 1 + 1 + 1, 0, none⟩ (.int .i64 lit)).setCell ⟨w.heap.size + 1 + 1 + 1, 1, none⟩ (.int .i64 len)).setCell ⟨w.heap.size + 1 + 1 + 1, 2, none⟩ (.int .i64 offs)).setCell ⟨w.heap.size + 1 + 1 + 1, 3, none⟩ (.int .i64 k)).alloc (.cells #[.int .i64 lit, .int .i64 len, .int .i64 offs] 54)) wr.heap.size 54 #[.int .i64 lit, .int .i64 len, .int .i64 offs]) := (by
          have h9 := Blk.new ((((wr.setCell ⟨w.heap.size + 1 + 1 + 1, 0, none⟩ (.int .i64 lit)).setCell ⟨w.heap.size + 1 + 1 + 1, 1, none⟩ (.int .i64 len)).setCell ⟨w.heap.size + 1 + 1 + 1, 2, none⟩ (.int .i64 offs)).setCell ⟨w.heap.size + 1 + 1 + 1, 3, none⟩ (.int .i64 k)) 54 #[.int .i64 lit, .int .i64 len, .int .i64 offs]
          simpa using h9 : Blk _ _ _ _)
        have hB5 : wr.heap.size > w.heap.size + 1 + 1 + 1 := hblt2
        have HW : Hid (LookD.Wf ⟨⟨lit, len, offs⟩, k, size, m, L, most, P⟩) := (⟨HWF.out, ⟨o1, o2⟩, HM0.out, by have := HLP.out; simp only; omega, by have := HLP.out; simp only; omega, o6⟩ : LookD.Wf _)
        go_wp2_with fail
        refine (exrules_any _).mono ?_
        rintro e w6 ⟨rfl, hb⟩
        have HS6 := Lib.hid (HS1.out.below hb)
        have HQ6 := Lib.hid (HQ1.out.below hb HQ1.out.lt)
        obtain ⟨B5, hB5e⟩ : ∃ B5, wr.heap.size = B5 := ⟨_, rfl⟩
        rw [hB5e] at HQ6 hB5
        clear hb HS1 HQ1 p0 p1 p2 p3 p4 p5 p6 p7 p8 c0 c1 c2 f0 f1 f2 f3 hblt hblt2
        go_wp2
        try rw [hB5e]
        clear hB5e HST
        go_loopw [54] (fun j wq => ∃ g : Nat, g ≤ 2 ∧ j = .int .i64 g ∧ Hid (ChkSt w wq ⟨⟨lit, len, offs⟩, k, size, m, L, most, P⟩) ∧ Hid (Blk wq B5 54 #[.int .i64 lit, .int .i64 len, .int .i64 offs]) ∧ Hid (1 ≤ g → LookD.ok1 ⟨⟨lit, len, offs⟩, k, size, m, L, most, P⟩) ∧ Hid (2 ≤ g → LookD.ok2 ⟨⟨lit, len, offs⟩, k, size, m, L, most, P⟩)) (fun j _ => 2 - (intOf j).toNat)
        case atStart => exact ⟨0, Nat.zero_le _, rfl, (HS6.out : ChkSt _ _ _), (HQ6.out : Blk _ _ _ _), (fun h => absurd h (by omega) : 1 ≤ 0 → _), (fun h => absurd h (by omega) : 2 ≤ 0 → _)⟩
        case round =>
          clear HS6 HQ6
          obtain ⟨g, hg, rfl, HSq, HQq, H1, H2⟩ := hrel
          obtain ⟨p0, p1, p2, p3, p4, p5, p6, p7, p8⟩ := HSq.out.box.look
          simp only at p0 p1 p2 p3 p4 p5 p6 p7 p8
          by_cases hg2 : g < 2
          · have hg3 : (g : Int) < 2 := by omega
            by_cases hg0 : g = 0
            · subst hg0
              go_wp2_with fail
              refine (exrule1_any _ ⟨⟨lit, len, offs⟩, k, size, m, L, most, P⟩ HW.out).mono ?_
              by_cases hr : LookD.ok1 ⟨⟨lit, len, offs⟩, k, size, m, L, most, P⟩
              · have HRR := Lib.hid hr
                rw [LookD.err1_ok hr]
                clear hr
                rintro e w7 ⟨rfl, hb⟩
                have HS7 := Lib.hid (HSq.out.below hb)
                have HQ7 := Lib.hid (HQq.out.below hb HQq.out.lt)
                clear hb p0 p1 p2 p3 p4 p5 p6 p7 p8 HSq HQq
                go_wp2_with fail
                refine (exmust_ok _ _).mono ?_
                rintro e w8 ⟨rfl, rfl⟩
                go_wp2
                go_roundw
                case rel => exact ⟨1, by omega, by go_num, (HS7.out : ChkSt _ _ _), (HQ7.out : Blk _ _ _ _), (fun _ => HRR.out : 1 ≤ 1 → _), (fun h => absurd h (by omega) : 2 ≤ 1 → _)⟩
                case measure => simp [intOf]
              · have hrr := chk_bad1 HX.out hr
                rw [LookD.err1_no hr]
                clear hr
                rw [HC.out] at hrr
                rintro e w7 ⟨rfl, hb⟩
                have HS7 := Lib.hid (HSq.out.below hb)
                have HRR := Lib.hid hrr
                clear hb p0 p1 p2 p3 p4 p5 p6 p7 p8 HSq HQq hrr
                go_wp2_with fail
                refine (exmust_no _ _ _ (by decide)).mono ?_
                rintro e w8 ⟨rfl, rfl⟩
                have d1 := HS7.out.p.one
                have d2 := HS7.out.q.one
                have d3 := HS7.out.r.one
                have d4 := HS7.out.bel.size
                go_wp2
                refine leaves_cons (f := 61) (args := #[.pointer (some ⟨w.heap.size, 0, none⟩), .pointer (some ⟨w.heap.size + 1, 0, none⟩), .pointer (some ⟨w.heap.size + 1 + 1, 0, none⟩)]) (by simp) (by simp [go_sem]) ?_
                refine (excaught_no _ _ _ k 15 0 0 0 [] w8 d1.1 d2.1 d3.1 d1.2 d2.2 d3.2 (by simp) (by simp <;> omega) (by simp)).mono ?_
                rintro e u' w'' ⟨rfl, rfl, d5, d6, d7, hbel⟩
                have hrr := HRR.out
                injection hrr with hr1 hr2
                injection hr2 with hr2 hr3
                simp [Leaves, settle, results, Try.results47, go_sem, d5, d6, d7]
                exact ⟨⟨hr1.symm, hr2.symm, hr3.symm⟩, hbel w.heap.size w (Nat.le_refl _) (Nat.le_succ _) (by simp <;> omega) d4 HS7.out.bel⟩
            · obtain rfl : g = 1 := by omega
              go_wp2_with fail
              refine (exrule2_any _ ⟨⟨lit, len, offs⟩, k, size, m, L, most, P⟩ HW.out (H1.out (by omega))).mono ?_
              by_cases hr : LookD.ok2 ⟨⟨lit, len, offs⟩, k, size, m, L, most, P⟩
              · have HRR := Lib.hid hr
                rw [LookD.err2_ok hr]
                clear hr
                rintro e w7 ⟨rfl, hb⟩
                have HS7 := Lib.hid (HSq.out.below hb)
                have HQ7 := Lib.hid (HQq.out.below hb HQq.out.lt)
                clear hb p0 p1 p2 p3 p4 p5 p6 p7 p8 HSq HQq
                go_wp2_with fail
                refine (exmust_ok _ _).mono ?_
                rintro e w8 ⟨rfl, rfl⟩
                go_wp2
                go_roundw
                case rel => exact ⟨2, by omega, by go_num, (HS7.out : ChkSt _ _ _), (HQ7.out : Blk _ _ _ _), (fun _ => H1.out (by omega) : 1 ≤ 2 → _), (fun _ => HRR.out : 2 ≤ 2 → _)⟩
                case measure => simp [intOf]
              · have hrr := chk_bad2 HX.out (H1.out (by omega)) hr
                rw [LookD.err2_no hr]
                clear hr
                rw [HC.out] at hrr
                rintro e w7 ⟨rfl, hb⟩
                have HS7 := Lib.hid (HSq.out.below hb)
                have HRR := Lib.hid hrr
                clear hb p0 p1 p2 p3 p4 p5 p6 p7 p8 HSq HQq hrr
                go_wp2_with fail
                refine (exmust_no _ _ _ (by decide)).mono ?_
                rintro e w8 ⟨rfl, rfl⟩
                have d1 := HS7.out.p.one
                have d2 := HS7.out.q.one
                have d3 := HS7.out.r.one
                have d4 := HS7.out.bel.size
                go_wp2
                refine leaves_cons (f := 61) (args := #[.pointer (some ⟨w.heap.size, 0, none⟩), .pointer (some ⟨w.heap.size + 1, 0, none⟩), .pointer (some ⟨w.heap.size + 1 + 1, 0, none⟩)]) (by simp) (by simp [go_sem]) ?_
                refine (excaught_no _ _ _ k 10 0 0 0 [] w8 d1.1 d2.1 d3.1 d1.2 d2.2 d3.2 (by simp) (by simp <;> omega) (by simp)).mono ?_
                rintro e u' w'' ⟨rfl, rfl, d5, d6, d7, hbel⟩
                have hrr := HRR.out
                injection hrr with hr1 hr2
                injection hr2 with hr2 hr3
                simp [Leaves, settle, results, Try.results47, go_sem, d5, d6, d7]
                exact ⟨⟨hr1.symm, hr2.symm, hr3.symm⟩, hbel w.heap.size w (Nat.le_refl _) (Nat.le_succ _) (by simp <;> omega) d4 HS7.out.bel⟩
          · obtain rfl : g = 2 := by omega
            have h1 := H1.out (by omega)
            have h2 := H2.out (by omega)
            have HCC := Lib.hid ((chk_succ HX.out h1 h2).symm.trans HC.out)
            obtain ⟨x1, x2, x3, x4, x5, x6, x7⟩ := h1
            obtain ⟨y1, y2⟩ := h2
            simp only at x1 x2 x3 x4 x5 x6 x7 y1 y2
            have hlp := HLP.out
            have HLP2 : Hid (0 ≤ L - lit ∧ L - lit ≤ lits ∧ 0 ≤ P + (lit + len) ∧ P + (lit + len) ≤ most) := (by omega : _ ∧ _)
            have z1 : -9223372036854775808 ≤ L - lit := by omega
            have z2 : L - lit ≤ 9223372036854775807 := by omega
            have z3 : -9223372036854775808 ≤ lit + len := by omega
            have z4 : lit + len ≤ 9223372036854775807 := by omega
            have z5 : -9223372036854775808 ≤ P + (lit + len) := by omega
            have z6 : P + (lit + len) ≤ 9223372036854775807 := by omega
            have q0 := HQq.out.cell 0
            have q1 := HQq.out.cell 1
            have q2 := HQq.out.cell 2
            simp at q0 q1 q2
            have f6 := HSq.out.box.frozen 6
            have f8 := HSq.out.box.frozen 8
            clear H1 H2 hlp x1 x2 x3 x4 x5 x6 x7 y1 y2 HLP hix0 hix1
            go_wp2
            go_roundw
            case rel => exact ⟨k + 1, ⟨lit, len, offs⟩, k, L - lit, P + (lit + len), by omega, by go_num, ((HSq.out.set_ (y := ⟨⟨lit, len, offs⟩, k, size, m, L - lit, most, P⟩) 6 (.int .i64 (L - lit)) rfl).set_ (y := ⟨⟨lit, len, offs⟩, k, size, m, L - lit, most, P + (lit + len)⟩) 8 (.int .i64 (P + (lit + len))) rfl : ChkSt _ _ _), (HCC.out : _ = _), (HLP2.out : _ ∧ _)⟩
            case measure => simp [intOf]; omega
      · obtain rfl : k = n := by omega
        have hcc := HC.out
        rw [← HN.out] at hcc
        have hlp := HLP.out
        have z1 : -9223372036854775808 ≤ most - P := by omega
        have z2 : most - P ≤ 9223372036854775807 := by omega
        clear hlp
        by_cases hend : most - P < L
        · rw [chk_end_bad hend, HN.out] at hcc
          have HRR := Lib.hid hcc.symm
          clear hcc
          go_wp2_with fail
          refine (exmust_no _ _ _ (by decide)).mono ?_
          rintro e w8 ⟨rfl, rfl⟩
          clear p0 p1 p2 p3 p4 p5 p6 p7 p8
          have d1 := HST.out.p.one
          have d2 := HST.out.q.one
          have d3 := HST.out.r.one
          have d4 := HST.out.bel.size
          go_wp2
          refine leaves_cons (f := 61) (args := #[.pointer (some ⟨w.heap.size, 0, none⟩), .pointer (some ⟨w.heap.size + 1, 0, none⟩), .pointer (some ⟨w.heap.size + 1 + 1, 0, none⟩)]) (by simp) (by simp [go_sem]) ?_
          refine (excaught_no _ _ _ k 10 0 0 0 [] w8 d1.1 d2.1 d3.1 d1.2 d2.2 d3.2 (by simp) (by simp <;> omega) (by simp)).mono ?_
          rintro e u' w'' ⟨rfl, rfl, d5, d6, d7, hbel⟩
          have hrr := HRR.out
          injection hrr with hr1 hr2
          injection hr2 with hr2 hr3
          simp [Leaves, settle, results, Try.results47, go_sem, d5, d6, d7]
          exact ⟨⟨hr1.symm, hr2.symm, hr3.symm⟩, hbel w.heap.size w (Nat.le_refl _) (Nat.le_succ _) (by simp <;> omega) d4 HST.out.bel⟩
        · rw [chk_end_ok hend] at hcc
          have HRR := Lib.hid hcc
          have hend2 : L ≤ most - P := by omega
          have hlp := HLP.out
          have z3 : -9223372036854775808 ≤ P + L := by omega
          have z4 : P + L ≤ 9223372036854775807 := by omega
          have d1 := HST.out.p.one
          have d2 := HST.out.q.one
          have d3 := HST.out.r.one
          have d4 := HST.out.bel.size
          obtain ⟨d1, e1⟩ := d1
          obtain ⟨d2, e2⟩ := d2
          obtain ⟨d3, e3⟩ := d3
          clear hcc hlp hend
          have HP := Lib.hid (And.intro p6 p8)
          have ew : IntKind.i64.wrap (P + L) = P + L := wrap_in _ z3 z4
          have HT : Hid (∀ (u1 u2 u3 : Value), ((wr.setCell ⟨w.heap.size, 0, none⟩ u1).cell? ⟨w.heap.size + 1 + 1 + 1, 6, none⟩ = some (.int .i64 L) ∧ (wr.setCell ⟨w.heap.size, 0, none⟩ u1).cell? ⟨w.heap.size + 1 + 1 + 1, 8, none⟩ = some (.int .i64 P)) ∧ (((wr.setCell ⟨w.heap.size, 0, none⟩ u1).setCell ⟨w.heap.size + 1, 0, none⟩ u2).cell? ⟨w.heap.size + 1 + 1 + 1, 6, none⟩ = some (.int .i64 L) ∧ ((wr.setCell ⟨w.heap.size, 0, none⟩ u1).setCell ⟨w.heap.size + 1, 0, none⟩ u2).cell? ⟨w.heap.size + 1 + 1 + 1, 8, none⟩ = some (.int .i64 P)) ∧
              ((((wr.setCell ⟨w.heap.size, 0, none⟩ u1).setCell ⟨w.heap.size + 1, 0, none⟩ u2).setCell ⟨w.heap.size + 1 + 1, 0, none⟩ u3).cell? ⟨w.heap.size + 1 + 1 + 1, 6, none⟩ = some (.int .i64 L) ∧ (((wr.setCell ⟨w.heap.size, 0, none⟩ u1).setCell ⟨w.heap.size + 1, 0, none⟩ u2).setCell ⟨w.heap.size + 1 + 1, 0, none⟩ u3).cell? ⟨w.heap.size + 1 + 1 + 1, 8, none⟩ = some (.int .i64 P))) := (fun u1 u2 u3 => by
            have s1 := And.intro ((World.cell?_setCell_other wr ⟨w.heap.size, 0, none⟩ ⟨w.heap.size + 1 + 1 + 1, 6, none⟩ u1 (by simp <;> omega)).trans p6) ((World.cell?_setCell_other wr ⟨w.heap.size, 0, none⟩ ⟨w.heap.size + 1 + 1 + 1, 8, none⟩ u1 (by simp <;> omega)).trans p8)
            have s2 := And.intro ((World.cell?_setCell_other (wr.setCell ⟨w.heap.size, 0, none⟩ u1) ⟨w.heap.size + 1, 0, none⟩ ⟨w.heap.size + 1 + 1 + 1, 6, none⟩ u2 (by simp <;> omega)).trans s1.1) ((World.cell?_setCell_other (wr.setCell ⟨w.heap.size, 0, none⟩ u1) ⟨w.heap.size + 1, 0, none⟩ ⟨w.heap.size + 1 + 1 + 1, 8, none⟩ u2 (by simp <;> omega)).trans s1.2)
            exact ⟨s1, s2, (World.cell?_setCell_other _ ⟨w.heap.size + 1 + 1, 0, none⟩ ⟨w.heap.size + 1 + 1 + 1, 6, none⟩ u3 (by simp <;> omega)).trans s2.1, (World.cell?_setCell_other _ ⟨w.heap.size + 1 + 1, 0, none⟩ ⟨w.heap.size + 1 + 1 + 1, 8, none⟩ u3 (by simp <;> omega)).trans s2.2⟩ : ∀ _ _ _, _)
          go_wp2
          go_region_held3 (fun w' => w'.cell? ⟨w.heap.size + 1 + 1 + 1, 6, none⟩ = some (.int .i64 L) ∧ w'.cell? ⟨w.heap.size + 1 + 1 + 1, 8, none⟩ = some (.int .i64 P))
            (first | exact HP.out | exact (HT.out _ (.int .i64 0) (.int .i64 0)).1 | exact (HT.out _ _ (.int .i64 0)).2.1 | exact (HT.out _ _ _).2.2) (fail)
          all_goals
            go_wp2
            refine leaves_cons (f := 61) (args := #[.pointer (some ⟨w.heap.size, 0, none⟩), .pointer (some ⟨w.heap.size + 1, 0, none⟩), .pointer (some ⟨w.heap.size + 1 + 1, 0, none⟩)]) (by simp) (by simp [go_sem]) ?_
            refine (excaught_idle _ _ _ _).mono ?_
            rintro e u' w'' ⟨rfl, rfl, rfl⟩
            have hrr := HRR.out
            injection hrr with hr1 hr2
            injection hr2 with hr2 hr3
            simp [Leaves, settle, results, Try.results47, go_sem, d1, d2, d3]
            exact ⟨⟨hr1, hr2, hr3⟩, (((HST.out.bel.setCell (p := ⟨w.heap.size, 0, none⟩) (Nat.le_refl _) _).setCell (p := ⟨w.heap.size + 1, 0, none⟩) (Nat.le_succ _) _).setCell (p := ⟨w.heap.size + 1 + 1, 0, none⟩) (by simp <;> omega) _).drew⟩
  · have hR : chkR size hv lits most ss = (0, 0, 2) := by unfold chkR; rw [if_neg hok]
    rw [hR]
    have HB3 := Lib.hid (((((Below.refl w.heap.size w).alloc (Nat.le_refl _) (.cells #[.int .i64 0] 3)).alloc (by simp) (.cells #[.int .i64 0] 3)).alloc (by simp; omega) (.cells #[.int .i64 2] 27)))
    unfold exArgs at hok
    obtain ⟨m1, hm3⟩ : ∃ m1, (if lits < hv then lits else hv) = m1 := ⟨_, rfl⟩
    obtain ⟨m3, hm4⟩ : ∃ m3, (if most < m1 then most else m1) = m3 := ⟨_, rfl⟩
    have hor : size < 1 ∨ (1 ≤ size ∧ 134217728 < size) ∨ (1 ≤ size ∧ size ≤ 134217728 ∧ m3 < 0) ∨ (1 ≤ size ∧ size ≤ 134217728 ∧ 0 ≤ m3 ∧ 131072 < most) := by split at hm4 <;> split at hm3 <;> omega
    clear hok hb hR
    rcases hor with h | ⟨h, h1⟩ | ⟨h, h1, h2⟩ | ⟨h, h1, h2, h3⟩
    all_goals
      go_enter_defers Try.func47, Try.ntmps47
      go_wp2
    all_goals first
      | (simp [bodyPostD, Leaves, results, Try.results47, go_sem]; exact HB3.out)
      | (exfalso; omega)

theorem excheck_any (w : World) (size hv lits most : Int) (v : Value) (ss : List SeqD) (h : Seqs w v ss) (hb : (-9223372036854775808 ≤ hv ∧ hv ≤ 9223372036854775807) ∧ (-9223372036854775808 ≤ lits ∧ lits ≤ 9223372036854775807)) :
    Calls Try.prog 19 #[.int .i64 size, .int .i64 hv, .int .i64 lits, .int .i64 most, v] w fun e w' => e = .returned (.tuple #[.int .i64 (chkR size hv lits most ss).2.1, .int .i64 (chkR size hv lits most ss).2.2]) ∧ Below w.heap.size w w' := by
  have HS := Lib.hid h
  have HB := Lib.hid hb
  obtain ⟨⟨A, c, hv', -, -, -⟩, -⟩ := h
  obtain ⟨n, hn⟩ : ∃ n, ss.length = n := ⟨_, rfl⟩
  rw [hn] at hv'
  clear hn hb
  subst hv'
  go_enter Try.func19, Try.ntmps19
  go_wp2_with fail
  refine (checked_any _ size hv lits most _ ss HS.out HB.out).mono ?_
  obtain ⟨⟨ra, rt, re⟩, hr0⟩ : ∃ p, chkR size hv lits most ss = p := ⟨_, rfl⟩
  rw [hr0]
  rintro e w2 ⟨rfl, hb⟩
  have HB2 := Lib.hid hb
  have HR0 := Lib.hid hr0
  clear hb hr0
  go_wp2
  go_ret2
  refine ⟨?_, HB2.out⟩
  rw [HR0.out]
  rfl

theorem exfirst_any (w : World) (size hv lits most : Int) (v : Value) (ss : List SeqD) (h : Seqs w v ss) (hb : (-9223372036854775808 ≤ hv ∧ hv ≤ 9223372036854775807) ∧ (-9223372036854775808 ≤ lits ∧ lits ≤ 9223372036854775807)) :
    Calls Try.prog 21 #[.int .i64 size, .int .i64 hv, .int .i64 lits, .int .i64 most, v] w fun e w' => e = .returned (.tuple #[.int .i64 (chkR size hv lits most ss).1, .int .i64 (chkR size hv lits most ss).2.2]) ∧ Below w.heap.size w w' := by
  have HS := Lib.hid h
  have HB := Lib.hid hb
  obtain ⟨⟨A, c, hv', -, -, -⟩, -⟩ := h
  obtain ⟨n, hn⟩ : ∃ n, ss.length = n := ⟨_, rfl⟩
  rw [hn] at hv'
  clear hn hb
  subst hv'
  go_enter Try.func21, Try.ntmps21
  go_wp2_with fail
  refine (checked_any _ size hv lits most _ ss HS.out HB.out).mono ?_
  obtain ⟨⟨ra, rt, re⟩, hr0⟩ : ∃ p, chkR size hv lits most ss = p := ⟨_, rfl⟩
  rw [hr0]
  rintro e w2 ⟨rfl, hb⟩
  have HB2 := Lib.hid hb
  have HR0 := Lib.hid hr0
  clear hb hr0
  go_wp2
  go_ret2
  refine ⟨?_, HB2.out⟩
  rw [HR0.out]
  rfl
end Go.Proofs.Ytndgdehlnmheeaa
