/-
  cells.Build of a valid table.
-/
import Derived.Test.YtkffhfdmdcecaaaCeCell
namespace Go.Proofs.Ytkffhfdmdcecaaa
set_option linter.all false
open Go.RowKit Go.Shelf

theorem infoCell : (Try.prog.info? 49).map (fun i => (i.zero, i.size, i.bytes)) = some (some (.agg #[.int .i64 0, .int .i64 0, .int .i64 0]), 3, 24) := by kernel_rfl

/-- Between two cells. -/
structure BdSt (B0 B1 : Nat) (w0 wr : World) (bt bh bp Bm g : Nat) (t : TypeId) (m N : Nat) (tv : Value) (xs l : List Int) (k : Nat) (v : Value) (D : DataW Unit) : Prop where
  below : Below B0 w0 wr
  T : Blk wr bt 25 #[.int .i64 m, tv]
  P : Boxed wr bp 23 (.slice (some ⟨g, 0, none⟩) N N)
  L : Blk wr g t (l.map (Value.int .i64)).toArray
  H : Boxed wr bh 71 (.map (some Bm))
  O : wr.ownsMap Try.prog 3 (plainElem Try.prog 3) Bm k D
  had : Had D (l.take k)
  R : SRow wr 49 3 v (cellsTo m xs l k)
  own : ∀ j, v.ownBlock = some j → B1 ≤ j
  lt : B0 ≤ bt ∧ bt < B1 ∧ bh < B1 ∧ bp < B1 ∧ Bm < B1 ∧ g < B1 ∧ B0 ≤ Bm
  ne : bt ≠ Bm ∧ bh ≠ Bm ∧ bp ≠ Bm ∧ g ≠ Bm
  le : B1 ≤ wr.heap.size ∧ B0 ≤ w0.heap.size

theorem BdSt.next {B0 B1 : Nat} {w0 wr w1 w3 : World} {bt bh bp Bm g : Nat} {t : TypeId} {m N : Nat} {tv : Value} {xs l : List Int} {k : Nat} {v v' : Value} {D D' : DataW Unit} {o : Obj} (h : BdSt B0 B1 w0 wr bt bh bp Bm g t m N tv xs l k v D)
    (hO : w1.ownsMap Try.prog 3 (plainElem Try.prog 3) Bm (k + 1) D') (hD : Had D' (l.take (k + 1))) (hb : But wr w1 Bm none)
    (hR : SRow w3 49 3 v' (cellsTo m xs l (k + 1))) (hg : (w1.alloc o).grownBy w3 v.ownBlock) (hv : v'.ownBlock = v.ownBlock ∨ v'.ownBlock = some (w1.alloc o).heap.size) :
    BdSt B0 B1 w0 w3 bt bh bp Bm g t m N tv xs l (k + 1) v' D' := by
  have hl := h.lt
  have hne : ∀ b, b < B1 → some b ≠ v.ownBlock := fun b hb e => by have := h.own b e.symm; omega
  have hs1 := hb.size
  have hs2 := hg.size
  have hle := h.le
  exact {
    below := by
      have h1 : Below B0 wr w1 := hb.below (Nat.le_trans hle.2 h.below.size) hl.2.2.2.2.2.2 (fun k e => by cases e)
      refine ((h.below.trans h1).alloc (Nat.le_trans hle.2 (Nat.le_trans h.below.size hs1)) o).grown hg ?_ ?_
      · have := h.below.size; simp; omega
      · intro j hj; have := h.own j hj; omega
    T := ((h.T.but hb h.ne.1 (by simp)).alloc o).grown hg (hne _ hl.2.1)
    P := (((show Blk wr bp 23 _ from h.P).but hb h.ne.2.2.1 (by simp)).alloc o).grown hg (hne _ hl.2.2.2.1)
    L := ((h.L.but hb h.ne.2.2.2 (by simp)).alloc o).grown hg (hne _ hl.2.2.2.2.2.1)
    H := (((show Blk wr bh 71 _ from h.H).but hb h.ne.2.1 (by simp)).alloc o).grown hg (hne _ hl.2.2.1)
    O := (hO.alloc o).kept hg (hne _ hl.2.2.2.2.1)
    had := hD
    R := hR
    own := fun j hj => by
      rcases hv with e | e
      · rw [e] at hj; exact h.own j hj
      · rw [e] at hj; have := Option.some.inj hj; simp at this; omega
    lt := hl
    ne := h.ne
    le := ⟨by simp at hs2; omega, hle.2⟩ }

set_option maxHeartbeats 1600000 in
theorem build_ok (m : Nat) (v : Value) (xs : List Int) (w : World) (hx : Ints w .i64 v xs) (hw : ∀ x ∈ xs, x ≤ 9223372036854775807) (hm : m < 10) (hv : Valid m xs 256 9) (hall : (rares xs).length + (others xs).length = 2 ^ m) (hlen : xs.length ≤ 256) :
    Calls Try.prog 37 #[.agg #[.int .i64 m, v]] w fun e w' => ∃ cv l, e = .returned (.tuple #[cv, .int .i64 0]) ∧ IsSpread m xs l ∧ SRow w' 49 3 cv (cellsTo m xs l (2 ^ m)) ∧ (∀ j, cv.ownBlock = some j → w.heap.size ≤ j) ∧ Below w.heap.size w w' := by
  have HI := Lib.hid hx
  have HV := Lib.hid hv
  have HALL := Lib.hid hall
  have HX1 := Lib.hid hv.2.2.2.2.2.2.1
  have hN := (step_le ⟨m, hm⟩).2.2
  simp only at hN
  obtain ⟨N, hNe⟩ : ∃ N, 2 ^ m = N := ⟨_, rfl⟩
  rw [hNe] at hN
  have HNE := Lib.hid hNe
  have HW := Lib.hid hw
  have HLEN := Lib.hid hlen
  obtain ⟨A, n, c, rfl, -, -, -⟩ := hx.get
  rw [hNe]
  clear hx hw hv hall hNe hlen
  have hmm := @run_makeMap Try.prog
  obtain ⟨i0, hi, hz, hs, hby⟩ := info_parts infoCell
  have HIN : Hid (∃ i0, Try.prog.info? 49 = some i0 ∧ i0.zero = some (.agg #[.int .i64 0, .int .i64 0, .int .i64 0]) ∧ i0.size = 3 ∧ i0.bytes = 24) := ⟨i0, hi, hz, hs, hby⟩
  clear hi hz hs hby
  go_enter Try.func37, Try.ntmps37
  go_wp2_with fail
  refine (spread_ok m _ xs _ (HI.out.alloc _) HW.out hm HV.out HALL.out).mono ?_
  rintro e w1 ⟨sv, l, rfl, ⟨g, t, rfl, hgs, hgb⟩, hsp, hb⟩
  have hll : l.length = N := by rw [hsp.len, HNE.out]
  rw [hll]
  simp at hgs
  have hT := (Blk.new w 25 #[.int .i64 m, .slice A n c]).below hb (by simp)
  have HT := Lib.hid hT
  have HB1 := Lib.hid (((Below.refl _ w).alloc (Nat.le_refl _) _).trans (hb.mono (by simp)) : Below w.heap.size w w1)
  have HSP := Lib.hid hsp
  have HG := Lib.hid hgb
  have hsz : w.heap.size + 1 ≤ w1.heap.size := by have := hb.size; simpa using this
  have hglt := hgb.lt
  have HLL := Lib.hid hll
  have hlt1 : w.heap.size < w1.heap.size := by omega
  clear hT hgb hsp hb hll
  go_wp2
  have hst : BdSt w.heap.size (w1.heap.size + 3) w (((w1.alloc (.cells #[.slice (some ⟨g, 0, none⟩) N N] 23)).alloc (.map #[] 0)).alloc (.cells #[.map (some (w1.heap.size + 1))] 71)) w.heap.size (w1.heap.size + 1 + 1) w1.heap.size (w1.heap.size + 1) g t m N (.slice A n c) xs l 0 (.slice none 0 0) (.map []) := {
    below := ((HB1.out.alloc (by omega) _).alloc (by simp; omega) _).alloc (by simp; omega) _
    T := ((HT.out.alloc _).alloc _).alloc _
    P := ((Boxed.new w1 23 _).alloc _).alloc _
    L := ((HG.out.alloc _).alloc _).alloc _
    H := by have := Boxed.new ((w1.alloc (.cells #[.slice (some ⟨g, 0, none⟩) N N] 23)).alloc (.map #[] 0)) 71 (.map (some (w1.heap.size + 1))); simpa using this
    O := by have := (World.ownsMap_made (w1.alloc (.cells #[.slice (some ⟨g, 0, none⟩) N N] 23)) Try.prog 3 (plainElem (H := Unit) Try.prog 3)).alloc (.cells #[.map (some (w1.heap.size + 1))] 71); simpa using this
    had := Had.empty
    R := SRow.nil _ _ _
    own := fun j hj => by cases hj
    lt := by omega
    ne := by omega
    le := by simp }
  have HST := Lib.hid hst
  obtain ⟨W0, hW0⟩ : ∃ W0, (((w1.alloc (.cells #[.slice (some ⟨g, 0, none⟩) N N] 23)).alloc (.map #[] 0)).alloc (.cells #[.map (some (w1.heap.size + 1))] 71)) = W0 := ⟨_, rfl⟩
  rw [hW0] at HST ⊢
  clear hst hW0 hmm
  go_loopw [8, 23] (fun out i wr => ∃ k : Nat, k ≤ N ∧ i = .int .i64 k ∧ ∃ D A3 c3, out = .slice A3 k c3 ∧ Hid (BdSt w.heap.size (w1.heap.size + 3) w wr w.heap.size (w1.heap.size + 1 + 1) w1.heap.size (w1.heap.size + 1) g t m N (.slice A n c) xs l k (.slice A3 k c3) D)) (fun _ i _ => N - (intOf i).toNat)
  case atStart => exact ⟨0, Nat.zero_le _, rfl, _, _, _, rfl, HST⟩
  case round =>
    clear HST
    obtain ⟨k, hk, rfl, D, A3, c3, rfl, HST⟩ := hrel
    by_cases hlt : k < N
    · obtain ⟨p, Y, X, c0, e, F⟩ := cell_fact hm HSP.out HALL.out HX1.out (show k < 2 ^ m by rw [HNE.out]; exact hlt)
      have hpl : p < 512 := by
        have := (List.getElem?_eq_some_iff.1 F.norm).1
        have := HLEN.out
        omega
      have cg : wr.cell? ⟨g, k, none⟩ = some (.int .i64 (p : Int)) := HST.out.L.int_at F.sym
      have k0 : (0 : Int) ≤ (k : Int) := by omega
      have k1 : (k : Int) < (N : Int) := by omega
      have HF := Lib.hid F
      clear F
      obtain ⟨z1, z2, z3, hcell⟩ : ∃ z1 z2 z3 : Int, cellAt m xs l k = [.int .i64 z1, .int .i64 z2, .int .i64 z3] := ⟨_, _, _, rfl⟩
      have HCL : Hid (cellsTo m xs l k ++ [[.int .i64 z1, .int .i64 z2, .int .i64 z3]] = cellsTo m xs l (k + 1)) := (by rw [← hcell]; exact cellsTo_succ m xs l k : _ = _)
      have hfn := cellFn_any hm HNE.out HF.out hpl wr w.heap.size (w1.heap.size + 1 + 1) w1.heap.size (w1.heap.size + 1) k A (some ⟨g, 0, none⟩) n c N D HST.out.T (HI.out.below HST.out.below (Nat.le_refl _)) HST.out.H HST.out.P HST.out.O HST.out.had (by unfold maxLen; omega)
      rw [hcell] at hfn
      have HFN := Lib.hid hfn
      clear hfn hcell
      go_wp2_with fail
      refine HFN.out.mono ?_
      rintro e2 w2 ⟨rfl, D2, hO2, hD2, hb2⟩
      have HO2 := Lib.hid hO2
      have HD2 := Lib.hid hD2
      have HB2 := Lib.hid hb2
      obtain ⟨i1, hi, hz, hs, hby⟩ := HIN.out
      have HR2 := Lib.hid ((HST.out.R.but hb2 (fun e => by have := HST.out.own _ e; omega) (fun _ _ => by simp)).below (B := w2.heap.size) ((Below.refl _ _).alloc (Nat.le_refl _) (.cells #[.int .i64 z1, .int .i64 z2, .int .i64 z3] 49)) (Nat.le_refl _))
      have hkc : (cellsTo m xs l k).length = k := cellsTo_length m xs l k
      have h1 : ∀ u ∈ ([.int .i64 z1, .int .i64 z2, .int .i64 z3] : List Value), u.oneCell' = true := fun u hu => by
        simp only [List.mem_cons, List.not_mem_nil, or_false] at hu
        rcases hu with rfl | rfl | rfl <;> rfl
      have H1 := Lib.hid h1
      have HKC := Lib.hid hkc
      clear hO2 hD2 hb2 h1 hkc
      go_wp2_with (at_builtin; refine wpList_append_srow rfl _ _ rfl Try.underlying42 hi hz hs hby (by rfl) (by decide) rfl HR2.out w2.heap.size 49 [.int .i64 z1, .int .i64 z2, .int .i64 z3] rfl rfl (Blk.new w2 _ _) H1.out (by rw [HKC.out]; omega) (by decide) (k + 1) (by rw [HKC.out]) ?_; intro A4 c4 w4 hrow hgrow hown; rw [HCL.out] at hrow; have HST4 := Lib.hid (HST.out.next HO2.out HD2.out HB2.out hrow hgrow hown); clear hrow hgrow hown)
      go_roundw
      case rel => exact ⟨k + 1, by omega, by go_num, _, _, _, rfl, HST4⟩
      case measure => simp [intOf]; omega
    · obtain rfl : k = N := by omega
      go_wp2
      go_ret2
      have hB := HST.out.below
      exact ⟨_, _, rfl, HSP.out, HST.out.R, fun j hj => by have := HST.out.own j hj; omega, hB⟩
end Go.Proofs.Ytkffhfdmdcecaaa
