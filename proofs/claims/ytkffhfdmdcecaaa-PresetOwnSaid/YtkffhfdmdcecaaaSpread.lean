/-
  spread.Spread.
-/
import Derived.Test.YtkffhfdmdcecaaaSpTurn
import Derived.Test.YtkffhfdmdcecaaaMap
import Derived.Test.YtkffhfdmdcecaaaFresh
import Derived.Maps.AppendAt
import Derived.Deep.OwnRows
namespace Go.Proofs.Ytkffhfdmdcecaaa
open Go.RowKit Go.Shelf

theorem zeroInt (w : World) : (zeroValue 3).run Try.prog w = .ok (.int .i64 0) w := by kernel_rfl
theorem infoInt : (Try.prog.info? 3).map (fun i => (i.zero, i.size, i.bytes)) = some (some (.int .i64 0), 1, 8) := by kernel_rfl

attribute [local go_sem] Oper.semAt_some

/-- Between two norms: the map's box, the map, the box of the others, the others. -/
structure SpSt (n0 Bm Bh Bo N : Nat) (w0 wr : World) (rs os : List Int) (D : DataW Unit) (mf : Nat → Option Int) (vo : Value) : Prop where
  below : Below n0 w0 wr
  ge : n0 ≤ w0.heap.size ∧ n0 ≤ Bm ∧ n0 ≤ Bh ∧ n0 ≤ Bo
  ne : Bh ≠ Bo
  boxM : Boxed wr Bh 71 (.map (some Bm))
  own : wr.ownsMap Try.prog 3 (plainElem Try.prog 3) Bm rs.length D
  map : MapAs D mf rs.length
  rare : RareMap N rs mf
  boxO : Boxed wr Bo 23 vo
  row : wr.ownsRow n0 3 1 vo os.length (os.map (Value.int .i64))

section
variable {n0 Bm Bh Bo N : Nat} {w0 wr w' : World} {rs os : List Int} {D D' : DataW Unit} {mf : Nat → Option Int} {vo vo' : Value}
theorem own_not_cells {w : World} {Bm k : Nat} {D : DataW Unit} {B : Nat} {t : TypeId} {v : Value} (h : w.ownsMap Try.prog 3 (plainElem Try.prog 3) Bm k D) (hb : Boxed w B t v) : B ≠ Bm := by
  obtain ⟨es, ck, hh, _⟩ := h
  intro e
  subst e
  rw [show w.heap[B]? = _ from hb] at hh
  cases hh
theorem own_not_row {w : World} {Bm k : Nat} {D : DataW Unit} {n0 : Nat} {v : Value} {n : Nat} {xs : List Value} (h : w.ownsMap Try.prog 3 (plainElem Try.prog 3) Bm k D) (hr : w.ownsRow n0 3 1 v n xs) : some Bm ≠ v.ownBlock := by
  obtain ⟨es, ck, hh, _⟩ := h
  rcases hr.2 with ⟨rfl, _⟩ | ⟨g, cap, cur, rfl, _, hg, _⟩
  · simp [Value.ownBlock]
  · intro e
    simp [Value.ownBlock] at e
    subst e
    rw [hg] at hh
    cases hh
theorem SpSt.put (h : SpSt n0 Bm Bh Bo N w0 wr rs os D mf vo) (hl : rs.length < N) (hN : N ≤ 512) (s : Int)
    (hown : w'.ownsMap Try.prog 3 (plainElem Try.prog 3) Bm (rs.length + 1) (D.put (.int .i64 ((N - 1 - rs.length : Nat) : Int)) (.lit (.int .i64 s)))) (hg : wr.grownBy w' (some Bm)) :
    SpSt n0 Bm Bh Bo N w0 w' (rs ++ [s]) os (D.put (.int .i64 ((N - 1 - rs.length : Nat) : Int)) (.lit (.int .i64 s))) (upd mf (N - 1 - rs.length) s) vo where
  below := h.below.grown hg (Nat.le_trans h.ge.1 h.below.size) fun k e => by cases e; exact h.ge.2.1
  ge := h.ge
  ne := h.ne
  boxM := h.boxM.kept hg fun e => own_not_cells h.own h.boxM (by injection e)
  own := by simpa using hown
  map := by simpa using h.map.put (by omega) (h.rare.2 _ (by omega)) s
  rare := h.rare.snoc hl s
  boxO := h.boxO.kept hg fun e => own_not_cells h.own h.boxO (by injection e)
  row := h.row.kept hg (.inr (own_not_row h.own h.row).symm)
theorem SpSt.app (h : SpSt n0 Bm Bh Bo N w0 wr rs os D mf vo) {w1 : World} {tmp : Obj} (s : Int)
    (hown' : w1.ownsRow n0 3 1 vo' (os.length + 1) (os.map (Value.int .i64) ++ [.int .i64 s])) (hgrow : (wr.alloc tmp).grownBy w1 vo.ownBlock) :
    Boxed w1 Bo 23 vo ∧ SpSt n0 Bm Bh Bo N w0 (w1.setCell ⟨Bo, 0, none⟩ vo') rs (os ++ [s]) D mf vo' := by
  obtain ⟨hv1, hv2, hr2, hk2, hb2⟩ := h.boxO.appended (by decide) h.row (Nat.le_trans h.ge.1 h.below.size) h.ge.2.2.2 hown' hgrow
  have k1 : Boxed w1 Bh 71 (.map (some Bm)) := (h.boxM.alloc tmp).kept hgrow (h.boxM.not_row (by decide) h.row)
  have m1 := (h.own.alloc tmp).kept hgrow (own_not_row h.own h.row)
  exact ⟨hv1, {
    below := h.below.trans hb2
    ge := h.ge
    ne := h.ne
    boxM := k1.kept (grownBy_setCell' w1 Bo vo') fun e => h.ne (by injection e)
    own := m1.kept (grownBy_setCell' w1 Bo vo') fun e => own_not_cells h.own h.boxO (by injection e with e; exact e.symm)
    map := h.map
    rare := h.rare
    boxO := hv2
    row := by simpa using hr2 }⟩
end

/-- The first j results laid. -/
def mixOf (mf : Nat → Option Int) (N j : Nat) : List Int := (List.range N).map fun a => if a < j then (mf a).getD 0 else 0
theorem mixOf_zero (mf : Nat → Option Int) (N : Nat) : (madeCells #[Value.int .i64 0] N) = ((mixOf mf N 0).map (Value.int .i64)).toArray := by
  apply Array.ext
  · simp [size_madeCells, mixOf]
  · intro i h1 h2
    have e : i % 1 = 0 := Nat.mod_one i
    simp [madeCells, mixOf, e]
theorem mixOf_succ (mf : Nat → Option Int) (N j : Nat) : mixOf mf N (j + 1) = (mixOf mf N j).set j ((mf j).getD 0) := by
  apply List.ext_getElem
  · simp [mixOf]
  · intro i h1 h2
    simp [mixOf] at h1 ⊢
    rw [List.getElem_set]
    by_cases e : j = i
    · subst e; simp
    · simp only [e, if_false]
      simp
      by_cases hlt : i < j
      · rw [if_pos hlt, if_pos (by omega)]
      · rw [if_neg hlt, if_neg (by omega)]
theorem mixOf_top (mf : Nat → Option Int) (N : Nat) : mixOf mf N N = (List.range N).map fun a => (mf a).getD 0 := by
  unfold mixOf
  apply List.map_congr_left
  intro a ha
  rw [if_pos (List.mem_range.1 ha)]

/-- Between two visited indices. -/
structure SpLp (n0 Bm Bh Bo g N : Nat) (w0 : World) (xs : List Int) (pre : List Nat) (W : World) (D : DataW Unit) (mf : Nat → Option Int) (A : Option Addr) (n cap c : Nat) : Prop where
  below : Below n0 w0 W
  ge : n0 ≤ w0.heap.size ∧ n0 ≤ Bm ∧ n0 ≤ Bh ∧ n0 ≤ Bo
  ne : Bh ≠ Bo ∧ g ≠ Bo
  boxM : Boxed W Bh 71 (.map (some Bm))
  own : W.ownsMap Try.prog 3 (plainElem Try.prog 3) Bm ((rares xs).length + c) D
  map : MapAs D mf ((rares xs).length + c)
  sp : SpMap N xs pre mf
  boxO : Boxed W Bo 23 (.slice A n cap)
  cnt : c = (ks (N - (rares xs).length) pre).length
  left : n + c = (others xs).length
  cap_ : n ≤ cap ∧ cap ≤ 9223372036854775807
  at_ : 0 < n → A = some ⟨g, c, none⟩
  cells : ∀ (i : Nat) (x : Int), (others xs)[i]? = some x → W.cell? ⟨g, i, none⟩ = some (.int .i64 x)

section
variable {n0 Bm Bh Bo g N : Nat} {w0 W W' : World} {xs : List Int} {pre : List Nat} {D D' : DataW Unit} {mf : Nat → Option Int} {A : Option Addr} {n cap c : Nat}
theorem SpLp.kept (h : SpLp n0 Bm Bh Bo g N w0 xs pre W D mf A n cap c) {row : Option Nat} {B : Nat} (hm : Bm < B) (hn : n0 ≤ B) (hg : W.grownBy W' row) (hr : ∀ r, row = some r → B ≤ r ∧ ∃ o : Obj, W.heap[r]? = some o ∧ o.isCells = false) :
    SpLp n0 Bm Bh Bo g N w0 xs pre W' D mf A n cap c := by
  have hbox : ∀ {b : Nat} {t : TypeId} {v : Value}, Boxed W b t v → Boxed W' b t v := fun {b t v} hb => hb.kept hg fun e => by
    obtain ⟨_, o, ho, hc⟩ := hr b e.symm
    rw [show W.heap[b]? = _ from hb] at ho
    cases ho; cases hc
  exact { h with
    below := h.below.grown hg (Nat.le_trans h.ge.1 h.below.size) fun k e => Nat.le_trans hn (hr k e).1
    boxM := hbox h.boxM
    own := h.own.kept hg fun e => by have := (hr _ e.symm).1; omega
    boxO := hbox h.boxO
    cells := fun i x hx => cell_kept (h.cells i x hx) hg fun r e => (hr r e).2 }
theorem SpLp.skip (h : SpLp n0 Bm Bh Bo g N w0 xs pre W D mf A n cap c) {a : Nat} (hs : (mf a).isSome = true) : SpLp n0 Bm Bh Bo g N w0 xs (pre ++ [a]) W D mf A n cap c := by
  refine { h with sp := h.sp.skip hs, cnt := ?_ }
  rw [ks_snoc, if_neg]
  · exact h.cnt
  · rintro ⟨h1, h2⟩
    rw [h.sp.2.2 a h1 h2] at hs
    cases hs
theorem SpLp.free (h : SpLp n0 Bm Bh Bo g N w0 xs pre W D mf A n cap c) (hall : (rares xs).length + (others xs).length = N) {a : Nat} (ha : a < N) (hs : mf a = none) :
    0 < n ∧ ∃ s, (others xs)[c]? = some s ∧ W.cell? ⟨g, c, none⟩ = some (.int .i64 s) := by
  obtain ⟨h1, h2⟩ := h.sp.free hall ha hs
  have h3 := ks_lt h1 h2
  have h4 := h.cnt
  have h5 := h.left
  refine ⟨by omega, _, List.getElem?_eq_getElem (by omega), h.cells _ _ (List.getElem?_eq_getElem (by omega))⟩
theorem SpLp.put (h : SpLp n0 Bm Bh Bo g N w0 xs pre W D mf A n cap c) (hall : (rares xs).length + (others xs).length = N) (hN : N ≤ 512) {a : Nat} (ha : a < N) (hs : mf a = none) {s : Int} (hss : (others xs)[c]? = some s)
    (hown : W'.ownsMap Try.prog 3 (plainElem Try.prog 3) Bm ((rares xs).length + c + 1) (D.put (.int .i64 (a : Int)) (.lit (.int .i64 s)))) (hg : W.grownBy W' (some Bm)) {A' : Option Addr} {cap' : Nat}
    (hcap : n - 1 ≤ cap' ∧ cap' ≤ 9223372036854775807) (hat : 0 < n - 1 → A' = some ⟨g, c + 1, none⟩) :
    Boxed W' Bh 71 (.map (some Bm)) ∧ Boxed W' Bo 23 (.slice A n cap) ∧
    SpLp n0 Bm Bh Bo g N w0 xs (pre ++ [a]) (W'.setCell ⟨Bo, 0, none⟩ (.slice A' (n - 1) cap')) (D.put (.int .i64 (a : Int)) (.lit (.int .i64 s))) (upd mf a s) A' (n - 1) cap' (c + 1) := by
  obtain ⟨h1, h2⟩ := h.sp.free hall ha hs
  have h3 := ks_lt h1 h2
  have h4 := h.cnt
  have h5 := h.left
  have b1 : Boxed W' Bh 71 (.map (some Bm)) := h.boxM.kept hg fun e => own_not_cells h.own h.boxM (by injection e)
  have b2 : Boxed W' Bo 23 (.slice A n cap) := h.boxO.kept hg fun e => own_not_cells h.own h.boxO (by injection e)
  have gs := grownBy_setCell' W' Bo (.slice A' (n - 1) cap')
  obtain ⟨es, ck, hh, _⟩ := h.own
  refine ⟨b1, b2, {
    below := (h.below.grown hg (Nat.le_trans h.ge.1 h.below.size) fun k e => by cases e; exact h.ge.2.1).setCell (p := ⟨Bo, 0, none⟩) h.ge.2.2.2 _
    ge := h.ge
    ne := h.ne
    boxM := b1.kept gs fun e => h.ne.1 (by injection e)
    own := by
      have := hown.kept gs fun e => own_not_cells h.own h.boxO (by injection e with e; exact e.symm)
      simpa [Nat.add_assoc] using this
    map := by
      have := h.map.put (show a < 512 by omega) hs s
      simpa [Nat.add_assoc] using this
    sp := h.sp.put h1 h2 (by rw [← h4]; exact hss)
    boxO := b2.set _
    cnt := by rw [ks_snoc, if_pos ⟨h1, h2⟩, h4]; simp
    left := by omega
    cap_ := hcap
    at_ := hat
    cells := fun i x hx => ?_ }⟩
  have k1 := cell_kept (h.cells i x hx) hg fun r e => by cases e; exact ⟨_, hh, rfl⟩
  exact (World.cell?_of_block (a := ⟨g, i, none⟩) (gs.block g (World.block_lt_of_cell? _ _ k1) fun e => h.ne.2 (by injection e))).trans k1
end

set_option maxHeartbeats 1600000 in
theorem spread_bad (log : Int) (v : Value) (xs : List Int) (w : World) (hx : Ints w .i64 v xs) (hw : ∀ x ∈ xs, x ≤ 9223372036854775807) (hv : ¬ Valid log xs 256 9) :
    Calls Try.prog 48 #[.agg #[.int .i64 log, v]] w fun e w' => e = .returned (.tuple #[.slice none 0 0, .int .i64 13]) ∧ Below w.heap.size w w' := by
  refine (callsIn_wide (n := 5)).1 ?_
  refine callsIn_of_wp_marks Try.func48 rfl trivial ?_ rfl
  simp only [Try.ntmps48, List.size_toArray, List.length_cons, List.length_nil, Nat.reduceAdd, Nat.reduceSub, Array.replicate_succ, Array.replicate_zero, List.push_toArray, List.append_toArray, List.nil_append, List.cons_append]
  have hI := hx
  obtain ⟨A, n, c, rfl, hc, hm, hx⟩ := hx.get
  gi_wp2
  refine ⟨trivial, ?_⟩
  refine (callsIn_wide.2 (check_any log _ xs 256 9 _ (hI.alloc _) hw)).mono ?_
  rw [chk_13 hv]
  rintro e w1 ⟨rfl, hb⟩
  have HB1 := Lib.hid (((Below.refl _ w).alloc (Nat.le_refl _) _).trans (hb.mono (by simp)))
  clear hb
  gi_wp2
  refine ⟨_, results_tmp2 rfl _ _ _, ?_⟩
  exact ⟨rfl, HB1.out⟩

set_option maxHeartbeats 3200000 in
theorem spread_ok (m : Nat) (v : Value) (xs : List Int) (w : World) (hx : Ints w .i64 v xs) (hw : ∀ x ∈ xs, x ≤ 9223372036854775807) (hm : m < 10) (hv : Valid m xs 256 9) (hall : (rares xs).length + (others xs).length = 2 ^ m) :
    Calls Try.prog 48 #[.agg #[.int .i64 m, v]] w fun e w' => ∃ sv l, e = .returned (.tuple #[sv, .int .i64 0]) ∧ FreshInts w' w.heap.size sv l ∧ IsSpread m xs l ∧ Below w.heap.size w w' := by
  refine (callsIn_wide (n := 5)).1 ?_
  refine callsIn_of_wp_marks Try.func48 rfl trivial ?_ rfl
  simp only [Try.ntmps48, List.size_toArray, List.length_cons, List.length_nil, Nat.reduceAdd, Nat.reduceSub, Array.replicate_succ, Array.replicate_zero, List.push_toArray, List.append_toArray, List.nil_append, List.cons_append]
  have HI := Lib.hid hx
  have HV := Lib.hid hv
  have HW := Lib.hid hw
  have HALL := Lib.hid hall
  have hN := (step_le ⟨m, hm⟩).2.2
  simp only at hN
  obtain ⟨N, hNe⟩ : ∃ N, 2 ^ m = N := ⟨_, rfl⟩
  rw [hNe] at hN
  have hN0 : 0 < N := by rw [← hNe]; exact pow_pos2 m
  have hpow : (2 : Int) ^ m = (N : Int) := by rw [← hNe, Int.natCast_pow]; rfl
  have HNE := Lib.hid hNe
  clear hx hw hv hall hNe
  obtain ⟨A, n, c, rfl, hc, hmx, hx⟩ := HI.out.get
  have HX := Lib.hid hx
  clear hx
  have m0 : (0 : Int) ≤ (m : Int) := by omega
  have m9 : (m : Int) ≤ 9 := by omega
  gi_wp2
  refine ⟨trivial, ?_⟩
  refine (callsIn_wide.2 (check_any m _ xs 256 9 _ (HI.out.alloc _) HW.out)).mono ?_
  rw [chk_0 HV.out]
  rintro e w1 ⟨rfl, hb⟩
  have HB1 := Lib.hid (((Below.refl _ w).alloc (Nat.le_refl _) _).trans (hb.mono (by simp)))
  have HR1 := Lib.hid ((Blk.new w 25 #[.int .i64 m, .slice A n c]).below hb (by simp))
  have hsz : w.heap.size + 1 ≤ w1.heap.size := by have := hb.size; simpa using this
  clear hb
  obtain ⟨c0, c1, -, -⟩ := HR1.out.two
  have hmm := @run_makeMap Try.prog
  obtain ⟨i0, hi, hz0, hz1, hz2⟩ := info_parts infoInt
  have hlt1 : w.heap.size < w1.heap.size := by omega
  have hlt2 : w.heap.size < w1.heap.size + 1 := by omega
  have hlt3 : w.heap.size < w1.heap.size + 1 + 1 := by omega
  gi_wp2
  have hst : SpSt w.heap.size w1.heap.size (w1.heap.size + 1) (w1.heap.size + 1 + 1) N w (((w1.alloc (.map #[] 0)).alloc (.cells #[.map (some w1.heap.size)] 71)).alloc (.cells #[.slice none 0 0] 23)) (rares (xs.take 0)) (others (xs.take 0)) (.map []) (fun _ => none) (.slice none 0 0) := {
    below := ((HB1.out.alloc (by omega) _).alloc (by simp; omega) _).alloc (by simp; omega) _
    ge := by omega
    ne := by omega
    boxM := by have := (Boxed.new (w1.alloc (.map #[] 0)) 71 (.map (some w1.heap.size))).alloc (.cells #[.slice none 0 0] 23); simpa using this
    own := ((World.ownsMap_made w1 _ _ _).alloc _).alloc _
    map := MapAs.empty
    rare := RareMap.start N
    boxO := by have := Boxed.new ((w1.alloc (.map #[] 0)).alloc (.cells #[.map (some w1.heap.size)] 71)) 23 (.slice none 0 0); simpa using this
    row := World.ownsRow_nil _ _ _ _ }
  have HST := Lib.hid hst
  clear hst hlt1 hlt2 hlt3 c0 c1
  gi_loopw [27] (fun i wr => ∃ k : Nat, k ≤ n ∧ i = .int .i64 k ∧ ∃ D mf vo, Hid (SpSt w.heap.size w1.heap.size (w1.heap.size + 1) (w1.heap.size + 1 + 1) N w wr (rares (xs.take k)) (others (xs.take k)) D mf vo)) (fun i _ => n - (intOf i).toNat)
  case atStart => exact ⟨0, Nat.zero_le _, rfl, _, _, _, HST⟩
  case round =>
    clear HST
    obtain ⟨k, hk, rfl, D, mf, vo, HST⟩ := hrel
    by_cases hlt : k < n
    · obtain ⟨b, off, x, rfl, hb, cx, EX⟩ := HX.out.at_ hlt
      replace cx := (HST.out.below.cell hb).trans cx
      have h0 : (0 : Int) ≤ (k : Int) := by omega
      have h0' : (k : Int) < (n : Int) := by omega
      have hk64 : (Lit.int .i64 (k : Int)).wf = true := WalkArith.wf_i64 (by omega)
      have cM := HST.out.boxM.cell
      have hxm : x ∈ xs := List.mem_of_getElem? EX.out
      have hx1 : -1 ≤ x := HV.out.2.2.2.2.2.2.1 x hxm
      have hx2 : x ≤ 9223372036854775807 := HW.out x hxm
      clear hxm
      by_cases hx : x = -1
      · subst hx
        have e1 := rares_take EX.out
        have e2 := others_take EX.out
        rw [if_pos rfl] at e1
        rw [show (-1 : Int).toNat = 0 from rfl, List.replicate_zero, List.append_nil] at e2
        have e3 := rares_take_le xs (k + 1)
        have e4 := HALL.out
        rw [HNE.out] at e4
        rw [e1] at e3
        simp at e3
        obtain ⟨rs, hrs⟩ : ∃ rs, rares (xs.take k) = rs := ⟨_, rfl⟩
        rw [hrs] at e1 e3 HST
        obtain ⟨cc, hcc⟩ : ∃ cc, rs.length = cc := ⟨_, rfl⟩
        rw [hcc] at e3
        have hlen := HST.out.own.len Try.underlying71 3
        rw [HST.out.map.2.1, hcc] at hlen
        obtain ⟨kk, hkk⟩ : ∃ kk : Nat, (N : Int) - 1 - (cc : Int) = (kk : Int) ∧ kk = N - 1 - cc := ⟨N - 1 - cc, by omega, rfl⟩
        obtain ⟨hkk, hkk'⟩ := hkk
        have hkk5 : kk < 512 := by omega
        have c5 : cc < 512 := by omega
        have hkk64 : (Lit.int .i64 (kk : Int)).wf = true := WalkArith.wf_i64 (by omega)
        have hown := HST.out.own
        rw [hcc] at hown
        have E1 := Lib.hid e1
        have E2 := Lib.hid e2
        have HKK : Hid (kk = N - 1 - rs.length ∧ rs.length < N ∧ rs.length = cc) := ⟨by rw [hkk', hcc], by omega, hcc⟩
        clear e1 e2 e3 e4 hrs hcc hkk'
        gi_wp2_with (gi_at_mapUpdate; refine wpListIn_mapUpdate_own _ rfl _ _ _ 71 rfl 3 3 (Maps.int_keyed Try.underlying3) Try.underlying71 _ w1.heap.size cc D rfl hown (by unfold maxLen; omega) _ _ _ rfl rfl (Maps.keyOf_int_mk Try.underlying3 hkk64) _ [] (plainElem_int Try.underlying3 hk64) ?_; intro w2 hown2 hgrow2)
        gi_loopw [43] (fun i wr' => i = .int .i64 0 ∧ wr' = w2) (fun _ _ => 0)
        case atStart => exact ⟨rfl, rfl⟩
        case round =>
          obtain ⟨rfl, rfl⟩ := hrel
          gi_wp2
          go_roundw
          case rel => exact ⟨k + 1, by omega, by go_num, _, _, vo, (by
            have h1 := HST.out.put HKK.out.2.1 hN k (by rw [← HKK.out.1, HKK.out.2.2]; exact hown2) hgrow2
            rw [E1.out, E2.out]
            exact h1 : SpSt _ _ _ _ _ _ _ _ _ _ _ _)⟩
          case measure => simp [intOf] <;> omega
      · obtain ⟨X, rfl⟩ := Int.eq_ofNat_of_zero_le (show 0 ≤ x by omega)
        have hxb : ((X : Int) == -1) = false := by simp
        have e0 : max (X : Int) 0 = (X : Int) := by omega
        have e1 := rares_take EX.out
        have e2 := others_take EX.out
        rw [if_neg hx, List.append_nil] at e1
        rw [Int.toNat_natCast] at e2
        have e3 := others_take_le xs (k + 1)
        have e4 := HALL.out
        rw [HNE.out] at e4
        rw [e2] at e3
        simp at e3
        obtain ⟨os, hos⟩ : ∃ os, others (xs.take k) = os := ⟨_, rfl⟩
        rw [hos] at e2 e3 HST
        have hXl : os.length + X ≤ 512 := by omega
        have E1 := Lib.hid e1
        have E2 := Lib.hid e2
        clear e1 e2 e3 e4 hos hx
        gi_wp2
        gi_loopw [43] (fun i wr' => ∃ j : Nat, j ≤ X ∧ i = .int .i64 j ∧ ∃ vo', Hid (SpSt w.heap.size w1.heap.size (w1.heap.size + 1) (w1.heap.size + 1 + 1) N w wr' (rares (xs.take k)) (os ++ List.replicate j (k : Int)) D mf vo')) (fun i _ => X - (intOf i).toNat)
        case atStart => exact ⟨0, Nat.zero_le _, rfl, vo, (by simpa using HST.out : SpSt _ _ _ _ _ _ _ _ _ _ _ _)⟩
        case round =>
          clear HST cM
          obtain ⟨j, hj, rfl, vo', HST⟩ := hrel
          have hjl : (os ++ List.replicate j (k : Int)).length = os.length + j := by simp
          by_cases hjlt : j < X
          · have hj0 : (0 : Int) ≤ (j : Int) := by omega
            have hj0' : (j : Int) < (X : Int) := by omega
            have cO := HST.out.boxO.cell
            have hrow := HST.out.row
            have HJL := Lib.hid hjl
            have hjb : (os ++ List.replicate j (k : Int)).length + 1 ≤ 512 := by omega
            have hszw : w.heap.size ≤ wr.heap.size := HST.out.below.size
            clear hjl
            gi_wp2_with (gi_at_builtin; refine wpListIn_append_own _ rfl _ _ 23 rfl w.heap.size 3 i0 (.int .i64 0) 1 8 Try.underlying23 hi hz0 hz1 hz2 rfl (by decide) _ _ _ rfl (hrow.alloc _) ⟨wr.heap.size, 0, none⟩ 1 1 [.int .i64 (k : Int)] rfl rfl (cell_one_new _ _ _) (by simp [Value.oneCell']) (by unfold maxLen; omega) (by omega) (by simp; omega) ?_; intro v2 w2 hown2 hgrow2 _; obtain ⟨hv1, hst2⟩ := HST.out.app (k : Int) hown2 hgrow2; have HST2 := Lib.hid hst2; have hc1 := hv1.cell; have hf1 := hv1.frozen; obtain ⟨g2, cap2, rfl⟩ := ownsRow_succ hown2; clear hown2 hgrow2 hst2 hv1 cO)
            go_roundw
            case rel => exact ⟨j + 1, by omega, by go_num, _, (by
              have h1 := HST2.out
              rw [List.append_assoc, ← List.replicate_succ', HJL.out] at h1
              exact h1 : SpSt _ _ _ _ _ _ _ _ _ _ _ _)⟩
            case measure => simp [intOf]; omega
          · obtain rfl : j = X := by omega
            gi_wp2
            go_roundw
            case rel => exact ⟨k + 1, by omega, by go_num, D, mf, vo', (by rw [E1.out, E2.out]; exact HST.out : SpSt _ _ _ _ _ _ _ _ _ _ _ _)⟩
            case measure => simp [intOf]; omega
    · obtain rfl : k = n := by omega
      gi_wp2
      refine ⟨trivial, ?_⟩
      refine (callsIn_wide.2 (turn_any _ _)).mono ?_
      rintro e w2 ⟨rfl, rfl⟩
      gi_wp2
      have hk2 : xs.take k = xs := List.take_of_length_le (by rw [HX.out.1]; omega)
      rw [hk2] at HST
      have hall2 := HALL.out
      rw [HNE.out] at hall2
      have hle1 : w1.heap.size + 1 + 1 < wr.heap.size := HST.out.boxO.lt
      obtain ⟨g, A2, n2, cap2, rfl, hgne, hcap2, hat2, hcells2⟩ : ∃ (g : Nat) (A2 : Option Addr) (n2 cap2 : Nat), vo = .slice A2 n2 cap2 ∧ g ≠ w1.heap.size + 1 + 1 ∧ (n2 = (others xs).length ∧ n2 ≤ cap2 ∧ cap2 ≤ 9223372036854775807) ∧ (0 < n2 → A2 = some ⟨g, 0, none⟩) ∧
          ∀ (i : Nat) (x : Int), (others xs)[i]? = some x → wr.cell? ⟨g, i, none⟩ = some (.int .i64 x) := by
        have hrow := HST.out.row
        have hnr := HST.out.boxO.not_row (by decide) hrow
        rcases hrow.2 with ⟨hn, h0⟩ | ⟨g, cap, cur, hn, _, hgg, h1, h2, h3, h4⟩
        · have hnil := List.eq_nil_of_length_eq_zero h0
          exact ⟨w1.heap.size, none, 0, 0, hn, by omega, ⟨by rw [hnil]; rfl, by omega, by omega⟩, fun h => absurd h (by omega), fun i x hx => by rw [hnil] at hx; cases hx⟩
        · refine ⟨g, _, _, cap, hn, fun e => hnr (by rw [hn, e]; rfl), ⟨rfl, h1, by simpa [maxLen] using h2⟩, fun _ => rfl, fun i x hx => ?_⟩
          have hlen := (List.getElem?_eq_some_iff.1 hx).1
          have : cur[i]? = some (.int .i64 x) := by
            have h5 : (cur.toList.take ((others xs).length * 1))[i]? = some (.int .i64 x) := by rw [h4]; simp [hx]
            rw [List.getElem?_take, if_pos (by omega)] at h5
            simpa using h5
          simp [World.cell?, hgg, this]
      have hL0 : SpLp w.heap.size w1.heap.size (w1.heap.size + 1) (w1.heap.size + 1 + 1) g N w xs [] (wr.alloc (.cells #[.int .i64 (N : Int)] 3)) D mf A2 n2 cap2 0 := {
        below := HST.out.below.alloc HST.out.below.size _
        ge := HST.out.ge
        ne := ⟨HST.out.ne, hgne⟩
        boxM := HST.out.boxM.alloc _
        own := HST.out.own.alloc _
        map := HST.out.map
        sp := SpMap.start HST.out.rare
        boxO := HST.out.boxO.alloc _
        cnt := rfl
        left := hcap2.1
        cap_ := hcap2.2
        at_ := hat2
        cells := fun i x hx => by
          have h1 := hcells2 i x hx
          exact (World.cell?_alloc_lt wr _ _ (World.block_lt_of_cell? _ _ h1)).trans h1 }
      have HL0 := Lib.hid hL0
      have hcN : (wr.alloc (.cells #[.int .i64 (N : Int)] 3)).cell? ⟨wr.heap.size, 0, none⟩ = some (.int .i64 ((2 ^ m : Nat) : Int)) := by rw [HNE.out]; exact (Boxed.new wr 3 (.int .i64 (N : Int))).cell
      have HALL2 := Lib.hid hall2
      clear hL0 HST hk2 hall2 hat2 hcells2 hcap2
      refine wpIn_rangeFunc_ownG (α := Fin (2 ^ m)) rfl (by omega) (gf := 55) (lb := #[.pointer (some ⟨wr.heap.size, 0, none⟩)]) rfl trivial (enters_of Try.func55 (by kernel_rfl) rfl)
        (turn_stops 4 m hm (by omega) wr.heap.size _ hcN) (Kp := KeepBox wr.heap.size) (fun h k v hv => k v (h v hv)) (fun W l o o' hl ho _ _ => ?hKb) (Below.refl _ _) (fun _ => rfl)
        (fun pre W => ∃ D mf A n cap c, SpLp w.heap.size w1.heap.size (w1.heap.size + 1) (w1.heap.size + 1 + 1) g N w xs (pre.map fun x => x.1) W D mf A n cap c)
        (fun _ _ _ => False) ?hI (fun _ _ _ _ _ hs _ _ => hs) ⟨_, _, _, _, _, _, HL0.out⟩ ?a1 ?assign ?body ?done ?stop
      case hKb =>
        intro v hv
        rw [← hv]
        unfold World.cell?
        have hne : wr.heap.size ≠ l := by simp at hl; omega
        first | rw [World.putObj_heap_other hne] | rw [World.putObj_heap_other hne.symm]
      case hI =>
        rintro pre A B row ⟨D, mf, A', n', cap', c', hs⟩ hg hr
        exact ⟨_, _, _, _, _, _, hs.kept (by simp; omega) (by have := hs.ge; simp; omega) hg hr⟩
      case assign =>
        intro l x W K hK
        gi_wp2
        exact hK
      case body =>
        rintro l pre ⟨a, ha⟩ W ⟨D, mf, A', n', cap', c', hs⟩ _
        rw [HNE.out] at ha
        have hmap := hs.map.2.2 a (by omega)
        have hown := hs.own
        have cM := hs.boxM.cell
        have ha64 : (Lit.int .i64 (a : Int)).wf = true := WalkArith.wf_i64 (by omega)
        have hkey := Maps.keyOf_int_mk Try.underlying3 ha64
        cases hmf : mf a with
        | some s0 =>
          have hhas : Maps.has D (.int .i64 (a : Int)) = true := by rw [hmap.1, hmf]; rfl
          have HS := Lib.hid hs
          have HMF := Lib.hid hmf
          clear hs hmap hmf
          gi_wp2_with (gi_at_lookup; refine wpListIn_lookup_own_ok_int _ rfl _ _ 71 rfl 3 3 .i64 (Maps.int_keyed Try.underlying3) Try.underlying71 Try.underlying3 (zeroInt _) w1.heap.size _ D rfl hown _ _ rfl hkey ?_; intro c2 hat hwc; rw [hhas])
          exact ⟨KeepsFrom.refl _ _, fun v hv => hv, D, mf, A', n', cap', c', by
            rw [List.map_append]
            exact HS.out.skip (by rw [HMF.out]; rfl)⟩
        | none =>
          have hhas : Maps.has D (.int .i64 (a : Int)) = false := by rw [hmap.1, hmf]; rfl
          obtain ⟨hn', s, hss, cs⟩ := hs.free HALL2.out ha hmf
          have hA' := hs.at_ hn'
          subst hA'
          have cO := hs.boxO.cell
          have hcap := hs.cap_
          have hw64 : (Lit.int .i64 s).wf = true := by
            obtain ⟨i, x, rfl, hi', -⟩ := mem_others.1 (List.mem_of_getElem? hss)
            have := (List.getElem?_eq_some_iff.1 hi').1
            have := HX.out.1
            exact WalkArith.wf_i64 (by omega)
          have hleft := hs.left
          have hall3 := HALL2.out
          obtain ⟨W2, hrun, hown2, hgrow2⟩ := (show W.drew.ownsMap Try.prog 3 (plainElem Try.prog 3) w1.heap.size ((rares xs).length + c') D from hown).update (Maps.int_keyed Try.underlying3) Try.underlying71 (by unfold maxLen; omega) hkey (plainElem_int Try.underlying3 hw64)
          have hgW : W.grownBy W2 (some w1.heap.size) := ⟨hgrow2.os, hgrow2.tape, hgrow2.output, hgrow2.size, hgrow2.block⟩
          have hbox : KeepBox wr.heap.size W W2 := fun v hv => by
            obtain ⟨es, ck, hh, _⟩ := hs.own
            exact cell_kept hv hgW fun r e => by cases e; exact ⟨_, hh, rfl⟩
          have hfin : ∀ u, KeepsFrom (wr.alloc (.cells #[.int .i64 (N : Int)] 3)).heap.size W (W2.setCell ⟨w1.heap.size + 1 + 1, 0, none⟩ u) ∧ KeepBox wr.heap.size W (W2.setCell ⟨w1.heap.size + 1 + 1, 0, none⟩ u) := fun u =>
            ⟨(KeepsFrom.of_grownBy hgW fun j e => by cases e; simp; omega).trans ((KeepsOthers.setCell _ _ _).from _), fun v hv => by
              have k1 := hbox v hv
              exact (World.cell?_of_block (a := ⟨wr.heap.size, 0, none⟩) ((grownBy_setCell' W2 (w1.heap.size + 1 + 1) u).block wr.heap.size (World.block_lt_of_cell? _ _ k1) fun e => by injection e; omega)).trans k1⟩
          have HFIN := Lib.hid hfin
          by_cases hc1 : cap' = 1
          · subst hc1
            obtain rfl : n' = 1 := by omega
            obtain ⟨b1, b2, h3⟩ := hs.put (A' := some ⟨g, c', none⟩) (cap' := 0) HALL2.out hN ha hmf hss hown2 hgW ⟨by omega, by omega⟩ (fun h => absurd h (by omega))
            have hcO := b2.cell
            have hfO := b2.frozen
            have H3 := Lib.hid h3
            clear hs hmap hmf h3 b1 b2 hgW hbox hfin
            gi_wp2_with (gi_at_lookup; refine wpListIn_lookup_own_ok_int _ rfl _ _ 71 rfl 3 3 .i64 (Maps.int_keyed Try.underlying3) Try.underlying71 Try.underlying3 (zeroInt _) w1.heap.size _ D rfl hown _ _ rfl hkey ?_; intro c2 hat hwc; rw [hhas])
            gi_region
            all_goals gi_wp2
            all_goals exact ⟨(HFIN.out _).1, (HFIN.out _).2, _, _, _, _, _, _, by rw [List.map_append]; exact H3.out⟩
          · obtain ⟨b1, b2, h3⟩ := hs.put (A' := some ⟨g, c' + 1, none⟩) (cap' := cap' - 1) HALL2.out hN ha hmf hss hown2 hgW ⟨by omega, by omega⟩ (fun _ => rfl)
            have hcO := b2.cell
            have hfO := b2.frozen
            have H3 := Lib.hid h3
            have hc0 : 1 ≤ cap' := by omega
            have hc64 : cap' - 1 ≠ 0 := by omega
            clear hs hmap hmf h3 b1 b2 hgW hbox hfin
            gi_wp2_with (gi_at_lookup; refine wpListIn_lookup_own_ok_int _ rfl _ _ 71 rfl 3 3 .i64 (Maps.int_keyed Try.underlying3) Try.underlying71 Try.underlying3 (zeroInt _) w1.heap.size _ D rfl hown _ _ rfl hkey ?_; intro c2 hat hwc; rw [hhas])
            gi_region
            all_goals gi_wp2
            all_goals exact ⟨(HFIN.out _).1, (HFIN.out _).2, _, _, _, _, _, _, by rw [List.map_append]; exact H3.out⟩
      case done =>
        rintro Dd ys W hD rfl ⟨D, mf, A', n', cap', c', hs⟩ hK
        have hDD : Hid (w.heap.size ≤ Dd) := (by have := hs.ge; simp at hD; omega : w.heap.size ≤ Dd)
        have HDD := hDD
        clear hDD hD
        have hsp := hs.sp
        have hmy : ((List.range (2 ^ m)).map (vaF m)).map (fun x => x.1) = (List.range (2 ^ m)).map (va m) := by rw [List.map_map]; rfl
        rw [hmy, ← HNE.out] at hsp
        obtain ⟨hsome, hspread⟩ := SpMap.done hm HALL.out hsp
        rw [HNE.out] at hsome hspread
        have cM := hs.boxM.cell
        have hown := hs.own
        have hbel := hs.below
        have hmk : ∀ W : World, (Instr.makeSlice 23 (.int .i64 (N : Int)) (.int .i64 (N : Int))).run Try.prog W = .ok (.slice (some ⟨W.heap.size, 0, none⟩) N N) (W.alloc (.cells (madeCells #[.int .i64 0] N) 3)) :=
          fun W => run_make_row' 23 3 (.int .i64 0) 8 Try.underlying23 infoInt rfl .i64 .i64 N (by omega) (by omega) W
        have HS := Lib.hid hs
        have HSOME := Lib.hid hsome
        have HSPR := Lib.hid hspread
        have HK := Lib.hid hK
        clear hs hsp hsome hspread hK hmy
        gi_wp2
        have hlt1 : w1.heap.size + 1 < W.heap.size := HS.out.boxM.lt
        have hblk := Blk.new W 3 (madeCells #[.int .i64 0] N)
        rw [mixOf_zero mf N] at hblk ⊢
        have HBLK := Lib.hid hblk
        have HBEL := Lib.hid hbel
        have HOWN := Lib.hid hown
        clear hblk hmk hbel hown cM
        have hw0 : ∃ W0, W.alloc (.cells ((mixOf mf N 0).map (Value.int .i64)).toArray 3) = W0 := ⟨_, rfl⟩
        gi_loopw [73] (fun i wr => ∃ j : Nat, j ≤ N ∧ i = .int .i64 j ∧ Hid (Blk wr W.heap.size 3 ((mixOf mf N j).map (Value.int .i64)).toArray ∧ Below w.heap.size w wr ∧ Boxed wr (w1.heap.size + 1) 71 (.map (some w1.heap.size)) ∧
          wr.ownsMap Try.prog 3 (plainElem Try.prog 3) w1.heap.size ((rares xs).length + c') D ∧ wr.heap[Dd]? = some (.deferred (some [])))) (fun i _ => N - (intOf i).toNat)
        case atStart => exact ⟨0, Nat.zero_le _, rfl, HBLK.out, HBEL.out.alloc HBEL.out.size _, HS.out.boxM.alloc _, HOWN.out.alloc _, (Below.heap_alloc W _ Dd (Array.getElem?_eq_some_iff.1 HK.out).1).trans HK.out⟩
        case round =>
          obtain ⟨j, hj, rfl, H⟩ := hrel
          obtain ⟨hb, hbel, hboxM, hown, hK⟩ := H.out
          clear H
          have hlenj : (mixOf mf N j).length = N := by simp [mixOf]
          by_cases hlt : j < N
          · have hj0 : (0 : Int) ≤ (j : Int) := by omega
            have hj1 : (j : Int) < (N : Int) := by omega
            have cM := hboxM.cell
            have hmapj := (HS.out.map.2.2 j (by omega)).2
            have hj64 : (Lit.int .i64 (j : Int)).wf = true := WalkArith.wf_i64 (by omega)
            have hkey := Maps.keyOf_int_mk Try.underlying3 hj64
            have cb : wr.cell? ⟨W.heap.size, j, none⟩ = some (.int .i64 ((mixOf mf N j).getD j 0)) := hb.int_at (by rw [List.getD_eq_getElem?_getD, List.getElem?_eq_getElem (by omega)]; rfl)
            have fb : wr.frozen? ⟨W.heap.size, j, none⟩ = false := hb.frozen j
            have HB := Lib.hid hb
            have HBL := Lib.hid hbel
            have HBM := Lib.hid hboxM
            have HMJ := Lib.hid hmapj
            have HKK := Lib.hid hK
            clear hb hbel hboxM hmapj hK hlenj
            gi_wp2_with (gi_at_lookup; refine wpListIn_lookup_own_int _ rfl _ _ 71 rfl 3 3 .i64 (Maps.int_keyed Try.underlying3) Try.underlying71 Try.underlying3 (zeroInt _) w1.heap.size _ D rfl hown _ _ rfl hkey ?_; intro c2 hat hwc)
            rw [HMJ.out] at hat
            injection hat with hat
            injection hat with _ hat
            have gs : wr.grownBy (wr.setCell ⟨W.heap.size, j, none⟩ (.int .i64 c2)) (some W.heap.size) :=
              ⟨rfl, rfl, rfl, by simp, fun k _ hne => Below.heap_setCell wr ⟨W.heap.size, j, none⟩ _ k fun e => hne (by rw [e])⟩
            have hDlt : Dd < W.heap.size := (Array.getElem?_eq_some_iff.1 HK.out).1
            go_roundw
            case rel => exact ⟨j + 1, by omega, by go_num, (by
              refine ⟨?_, HBL.out.setCell (p := ⟨W.heap.size, j, none⟩) HBEL.out.size _, HBM.out.kept gs fun e => by injection e; omega, hown.kept gs fun e => by injection e; omega, (gs.block Dd (Nat.lt_of_lt_of_le hDlt (by
                have := HB.out.lt; omega)) fun e => by injection e; omega).trans HKK.out⟩
              rw [mixOf_succ, hat]
              exact HB.out.set_ints j c2 : Blk _ _ _ _ ∧ Below _ _ _ ∧ Boxed _ _ _ _ ∧ World.ownsMap _ _ _ _ _ _ _ ∧ _)⟩
            case measure => simp [intOf]; omega
          · obtain rfl : j = N := by omega
            gi_wp2
            refine ⟨by simp, .inl ⟨_, _, rfl, run_takeDeferred hK, ?_⟩⟩
            have hDlt : Dd < W.heap.size := (Array.getElem?_eq_some_iff.1 HK.out).1
            have hge : w.heap.size ≤ Dd := HDD.out
            refine ⟨_, results_tmp2 rfl _ _ _, _, _, rfl, ⟨W.heap.size, 3, ?_, HBEL.out.size, ?_⟩, HSPR.out, hbel.trans (belowK_b (w := w) (Nat.le_refl _) wr Dd _ _ hge hK rfl rfl)⟩
            · rw [← mixOf_top, hlenj]; rfl
            · rw [← mixOf_top]
              show (wr.putObj _ _).heap[_]? = _
              rw [World.putObj_heap_other (by omega)]
              exact hb
      case stop =>
        rintro D c pre W _ _ h _
        exact h.elim
end Go.Proofs.Ytkffhfdmdcecaaa
