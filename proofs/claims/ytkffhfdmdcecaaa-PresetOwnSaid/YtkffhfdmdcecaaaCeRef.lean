/-
  The reference of cells: Of.
-/
import Derived.Test.YtkffhfdmdcecaaaCeBuild
import Derived.Test.YtkffhfdmdcecaaaSpOfX
import Derived.Deep.RegionHeld3
namespace Go.Proofs.Ytkffhfdmdcecaaa
set_option linter.all false
open Go.RowKit Go.Shelf

/-- Take an operation first, its slot written out. -/
theorem wpAnyH_take2 {P : Program} {md : Region.Mode} {ops : Array Oper} {Q : Exit → Act → World → Prop} {S : World → Prop} {i : Nat} {oi : Oper} {d : Option Tmp} {v : Value} {fuel : Nat} {listed : Array Bool} {a : Act} {w : World} (hi : ops[i]? = some oi) (hd : oi.dst = d)
    (hs : Region.noSelect ops = true) (hf : Region.free md ops listed i = true) (hr : (Region.ready md ops listed).contains i = true)
    (hQ : ∀ c a w, Q (.panic c) (a.put d v) w → Q (.panic c) a w) (hy : YieldsIf P ops S oi v a) (hS : S w)
    (h : wpAnyH P md ops Q S fuel (listed.setIfInBounds i true) (a.put d v) w) : wpAnyH P md ops Q S (fuel + 1) listed a w := by
  subst hd
  exact wpAnyH_take hi hs hf hr hQ hy hS h

theorem step_append_srow {P : Program} {w : World} {E : TypeId} {sz : Nat} {v : Value} {cs : List (List Value)} {o : Oper} {a : Act} {K : Act → World → Prop} {Q : Exit → Act → World → Prop} {b : Bool} {F : Prop} (hbb : b = true) (s x : Operand) {T : TypeId}
    (ho : o.op = .call { callee := .builtin .append, args := #[s, x], argTypes := #[T, T] }) {i : TypeInfo} {z : Value} {bytes : Nat}
    (ht : P.underlying T = some (.slice E)) (hi : P.info? E = some i) (hz : i.zero = some z) (hsize : i.size = sz) (hby : i.bytes = bytes) (hzs : z.cells.size = sz) (hsz : 0 < sz)
    (hs : a.eval s = v) (h : SRow w E sz v cs) (g : Nat) (t : TypeId) (c : List Value) (hx : a.eval x = .slice (some ⟨g, 0, none⟩) 1 1) (hc : c.length = sz) (hg : Blk w g t c.toArray) (h1 : ∀ u ∈ c, u.oneCell' = true)
    (hb : (cs.length + 1) * bytes ≤ 140737488355328) (hb0 : 0 < bytes) (n : Nat) (hn : cs.length + 1 = n)
    (hK : ∀ A' c' w', SRow w' E sz (.slice A' n c') (cs ++ [c]) → w.grownBy w' v.ownBlock → ((Value.slice A' n c').ownBlock = v.ownBlock ∨ (Value.slice A' n c').ownBlock = some w.heap.size) → K (a.put o.dst (.slice A' n c')) w') :
    if b = true then o.wp P a w K Q else F := by
  rw [if_pos hbb]
  obtain ⟨A', c', w', hrun, h2, h3, h4⟩ := run_append_srow (ty := o.type) ht hi hz hsize hby hzs hsz h g t c hc hg h1 hb hb0
  rw [hn] at hrun h2 h4
  unfold Oper.wp execOp
  simp only [ho, resolve, invoke, builtin, Sem.run_bind, Sem.run_pure, Result.andThen_ok, List.map_toArray, List.map_cons, List.map_nil, hs, hx, hrun]
  exact hK A' c' w' h2 h3 h4

/-- Between two cells. -/
structure RfSt (B0 B1 : Nat) (w0 wr : World) (bt g : Nat) (t : TypeId) (m : Nat) (tv : Value) (xs l : List Int) (k : Nat) (v : Value) : Prop where
  below : Below B0 w0 wr
  T : Blk wr bt 25 #[.int .i64 m, tv]
  L : Blk wr g t (l.map (Value.int .i64)).toArray
  R : SRow wr 49 3 v (cellsTo m xs l k)
  own : ∀ j, v.ownBlock = some j → B1 ≤ j
  lt : B0 ≤ bt ∧ bt < B1 ∧ g < B1
  le : B1 ≤ wr.heap.size ∧ B0 ≤ w0.heap.size

theorem RfSt.drewN {B0 B1 : Nat} {w0 wr : World} {bt g : Nat} {t : TypeId} {m : Nat} {tv : Value} {xs l : List Int} {k : Nat} {v : Value} (h : RfSt B0 B1 w0 wr bt g t m tv xs l k v) (q : Nat) : RfSt B0 B1 w0 (wr.drewN q) bt g t m tv xs l k v :=
  ⟨below_drewN h.below q, h.T, h.L, h.R, h.own, h.lt, h.le⟩
theorem RfSt.next {B0 B1 : Nat} {w0 w1 w3 : World} {bt g : Nat} {t : TypeId} {m : Nat} {tv : Value} {xs l : List Int} {k : Nat} {v v' : Value} {o : Obj} (h : RfSt B0 B1 w0 w1 bt g t m tv xs l k v)
    (hR : SRow w3 49 3 v' (cellsTo m xs l (k + 1))) (hg : (w1.alloc o).grownBy w3 v.ownBlock) (hv : v'.ownBlock = v.ownBlock ∨ v'.ownBlock = some (w1.alloc o).heap.size) :
    RfSt B0 B1 w0 w3 bt g t m tv xs l (k + 1) v' := by
  have hl := h.lt
  have hne : ∀ b, b < B1 → some b ≠ v.ownBlock := fun b hb e => by have := h.own b e.symm; omega
  have hs2 := hg.size
  have hle := h.le
  exact {
    below := by
      refine (h.below.alloc (Nat.le_trans hle.2 h.below.size) o).grown hg ?_ ?_
      · have := h.below.size; simp; omega
      · intro j hj; have := h.own j hj; omega
    T := (h.T.alloc o).grown hg (hne _ hl.2.1)
    L := (h.L.alloc o).grown hg (hne _ hl.2.2)
    R := hR
    own := fun j hj => by
      rcases hv with e | e
      · rw [e] at hj; exact h.own j hj
      · rw [e] at hj; have := Option.some.inj hj; simp at this; omega
    lt := hl
    le := ⟨by simp at hs2; omega, hle.2⟩ }

theorem drewN_add9 (w : World) (m n : Nat) : (w.drewN m).drewN n = w.drewN (m + n) := by simp [World.drewN, Nat.add_assoc]
theorem states_q9 (n : Int) (a : Nat) (w : World) (hn : -1 ≤ n) (ha : n.natAbs = a) : Calls Try.prog 30 #[.int .i64 n] w fun e w' => e = .returned (.int .i64 a) ∧ w' = w :=
  (states_any n w hn).mono fun _ _ h => ⟨by rw [h.1, ← ha], h.2.symm⟩
theorem half_step {x e j : Nat} (h1 : 2 ^ e ≤ x) (h2 : x < 2 ^ (e + 1)) (hj : j ≤ e) : (1 < x / 2 ^ j ↔ j < e) := by
  have hp : 0 < 2 ^ j := Nat.pow_pos (by decide)
  constructor
  · intro h
    refine Classical.byContradiction fun hn => ?_
    obtain rfl : j = e := by omega
    have : x / 2 ^ j < 2 := by rw [Nat.div_lt_iff_lt_mul hp, ← Nat.pow_succ']; exact h2
    omega
  · intro h
    have : 2 ≤ x / 2 ^ j := by
      rw [Nat.le_div_iff_mul_le hp, ← Nat.pow_succ']
      exact Nat.le_trans (Nat.pow_le_pow_right (by decide) h) h1
    omega
theorem half_next (x j : Nat) : x / 2 ^ j / 2 = x / 2 ^ (j + 1) := by rw [Nat.div_div_eq_div_mul, ← Nat.pow_succ]
theorem count_step {l : List Int} {j : Nat} {y : Int} (h : l[j]? = some y) (s : Int) : (l.take (j + 1)).count s = (l.take j).count s + if y = s then 1 else 0 := by
  rw [List.take_add_one, h, List.count_append]
  by_cases e : y = s
  · subst e; simp
  · simp [e]

set_option maxHeartbeats 3200000 in
theorem refCells_ok (m : Nat) (v : Value) (xs : List Int) (w : World) (hx : Ints w .i64 v xs) (hw : ∀ x ∈ xs, x ≤ 9223372036854775807) (hm : m < 10) (hv : Valid m xs 256 9) (hall : (rares xs).length + (others xs).length = 2 ^ m) (hlen : xs.length ≤ 256) :
    Calls Try.prog 27 #[.agg #[.int .i64 m, v]] w fun e w' => ∃ cv l, e = .returned (.tuple #[cv, .int .i64 0]) ∧ IsSpread m xs l ∧ SRow w' 49 3 cv (cellsTo m xs l (2 ^ m)) ∧ (∀ j, cv.ownBlock = some j → w.heap.size ≤ j) ∧ Below w.heap.size w w' := by
  have HI := Lib.hid hx
  have HV := Lib.hid hv
  have HALL := Lib.hid hall
  have HX1 := Lib.hid hv.2.2.2.2.2.2.1
  have hN := (step_le ⟨m, hm⟩).2.2
  simp only at hN
  obtain ⟨N, hNe⟩ : ∃ N, 2 ^ m = N := ⟨_, rfl⟩
  rw [hNe] at hN
  have HNE := Lib.hid hNe
  have HW := Lib.hid hw
  have HLEN := Lib.hid hlen
  obtain ⟨A, n, c, rfl, -, -, hat⟩ := hx.get
  have HAT := Lib.hid hat
  rw [hNe]
  clear hx hw hv hall hNe hlen hat
  obtain ⟨i0, hi, hz, hs, hby⟩ := info_parts infoCell
  have HIN : Hid (∃ i0, Try.prog.info? 49 = some i0 ∧ i0.zero = some (.agg #[.int .i64 0, .int .i64 0, .int .i64 0]) ∧ i0.size = 3 ∧ i0.bytes = 24) := ⟨i0, hi, hz, hs, hby⟩
  clear hi hz hs hby
  go_enter Try.func27, Try.ntmps27
  go_wp2_with fail
  refine (of_ok m _ xs _ (HI.out.alloc _) HW.out hm HV.out HALL.out).mono ?_
  rintro e w1 ⟨sv, l, rfl, ⟨g, t, rfl, hgs, hgb⟩, hsp, hb⟩
  have hll : l.length = N := by rw [hsp.len, HNE.out]
  rw [hll]
  simp at hgs
  have hsz : w.heap.size + 1 ≤ w1.heap.size := by have := hb.size; simpa using this
  have hst : RfSt w.heap.size w1.heap.size w w1 w.heap.size g t m (.slice A n c) xs l 0 (.slice none 0 0) := {
    below := ((Below.refl _ w).alloc (Nat.le_refl _) _).trans (hb.mono (by simp))
    T := (Blk.new w 25 #[.int .i64 m, .slice A n c]).below hb (by simp)
    L := hgb
    R := SRow.nil _ _ _
    own := fun j hj => by cases hj
    lt := ⟨Nat.le_refl _, by omega, hgb.lt⟩
    le := by omega }
  have HST := Lib.hid hst
  have HSP := Lib.hid hsp
  have HLL := Lib.hid hll
  clear hst hgb hsp hb hll
  go_wp2
  go_loopw [6, 7] (fun out i wr => ∃ k : Nat, k ≤ N ∧ i = .int .i64 k ∧ ∃ A3 c3, out = .slice A3 k c3 ∧ Hid (RfSt w.heap.size w1.heap.size w wr w.heap.size g t m (.slice A n c) xs l k (.slice A3 k c3))) (fun _ i _ => N - (intOf i).toNat)
  case atStart => exact ⟨0, Nat.zero_le _, rfl, _, _, rfl, HST⟩
  case round =>
    clear HST
    obtain ⟨k, hk, rfl, A3, c3, rfl, HST⟩ := hrel
    have k0 : (0 : Int) ≤ (k : Int) := by omega
    by_cases hlt : k < N
    · obtain ⟨p, Y, X, c0, e, F⟩ := cell_fact hm HSP.out HALL.out HX1.out (show k < 2 ^ m by rw [HNE.out]; exact hlt)
      have HF := Lib.hid F
      clear F
      have k1 : (k : Int) < (N : Int) := by omega
      have cg : wr.cell? ⟨g, k, none⟩ = some (.int .i64 (p : Int)) := HST.out.L.int_at HF.out.sym
      go_wp2
      go_loopw [8, 9] (fun cv j wr2 => ∃ q : Nat, q ≤ k ∧ j = .int .i64 q ∧ cv = .int .i64 ((l.take q).count (p : Int) : Nat) ∧ ∃ z, wr2 = wr.drewN z) (fun _ j _ => k - (intOf j).toNat)
      case atStart => exact ⟨0, Nat.zero_le _, rfl, rfl, 0, rfl⟩
      case round =>
        obtain ⟨q, hq, rfl, rfl, z, rfl⟩ := hrel
        have q0 : (0 : Int) ≤ (q : Int) := by omega
        by_cases hql : q < k
        · have q1 : (q : Int) < (k : Int) := by omega
          have q2 : (q : Int) < (N : Int) := by omega
          have hqy : ∃ y, l[q]? = some y := ⟨_, List.getElem?_eq_getElem (by rw [HLL.out]; omega)⟩
          obtain ⟨y, hy⟩ := hqy
          have cq : wr.cell? ⟨g, q, none⟩ = some (.int .i64 y) := HST.out.L.int_at hy
          have hct := count_step hy (p : Int)
          have hcl : (l.take q).count (p : Int) ≤ q := Nat.le_trans List.count_le_length (by rw [List.length_take]; omega)
          obtain ⟨ct, hcte⟩ : ∃ ct, (l.take q).count (p : Int) = ct := ⟨_, rfl⟩
          rw [hcte] at hct hcl ⊢
          by_cases hyp : y = (p : Int)
          · rw [if_pos hyp] at hct
            subst hyp
            have HCT := Lib.hid hct
            clear hct hy hcte
            go_wp2
            go_quiet (fail)
            go_wp2
            go_roundw
            case rel => exact ⟨q + 1, by omega, by go_num, by rw [HCT.out]; go_num, _, rfl⟩
            case measure => simp [intOf]; omega
          · rw [if_neg hyp] at hct
            have HCT := Lib.hid hct
            have hypb : (y == (p : Int)) = false := by simpa using hyp
            clear hct hy hcte
            go_wp2
            go_quiet (fail)
            go_wp2
            go_roundw
            case rel => exact ⟨q + 1, by omega, by go_num, by rw [HCT.out]; rfl, _, rfl⟩
            case measure => simp [intOf]; omega
        · obtain rfl : q = k := by omega
          rw [HF.out.cnt]
          have hpn : p < n := by
            have := (List.getElem?_eq_some_iff.1 HF.out.norm).1
            rw [HAT.out.1] at this; exact this
          obtain ⟨b, off, Y', rfl, hb, cY, EY⟩ := HAT.out.at_ hpn
          obtain rfl : Y = Y' := Option.some.inj (HF.out.norm.symm.trans EY.out)
          obtain ⟨W2, hW2⟩ : ∃ W2, wr.drewN z = W2 := ⟨_, rfl⟩
          replace HST : Hid (RfSt w.heap.size w1.heap.size w W2 w.heap.size g t m (.slice (some ⟨b, off, none⟩) n c) xs l q (.slice A3 q c3)) := (by rw [← hW2]; exact HST.out.drewN _ : RfSt _ _ _ _ _ _ _ _ _ _ _ _ _)
          rw [hW2]
          clear hW2
          replace cY := (HST.out.below.cell hb).trans cY
          replace cg : W2.cell? ⟨g, q, none⟩ = some (.int .i64 (p : Int)) := HST.out.L.int_at HF.out.sym
          obtain ⟨cT0, cT1, -, -⟩ := HST.out.T.two
          have p0 : (0 : Int) ≤ (p : Int) := by omega
          have p1 : (p : Int) < (n : Int) := by omega
          obtain ⟨x, hx⟩ : ∃ x, X + c0 = x := ⟨_, rfl⟩
          have hXN : X ≤ N := by rw [← HNE.out]; exact HF.out.le
          have hcX := HF.out.lt
          have hem := HF.out.e_le
          have hxw : IntKind.i64.wrap ((X : Int) + (c0 : Int)) = (x : Int) := by rw [wrap_in9 _ (by omega) (by omega)]; omega
          have hx1024 : x ≤ 1024 := by omega
          have HX := Lib.hid hx
          clear hx
          go_wp2
          go_quiet ((go_at_call 30; exact Calls.quiet_of_same (states_q9 _ X _ HF.out.low HF.out.abs)))
          have HXW := Lib.hid hxw
          clear hxw
          obtain ⟨W3, hW3⟩ : ∃ W3, W2.drewN nq = W3 := ⟨_, rfl⟩
          have HST3 : Hid (RfSt w.heap.size w1.heap.size w W3 w.heap.size g t m (.slice (some ⟨b, off, none⟩) n c) xs l q (.slice A3 q c3)) := (by rw [← hW3]; exact HST.out.drewN _ : RfSt _ _ _ _ _ _ _ _ _ _ _ _ _)
          rw [hW3]
          obtain ⟨d0, d1, -, -⟩ := HST3.out.T.two
          have cg3 : W3.cell? ⟨g, q, none⟩ = some (.int .i64 (p : Int)) := HST3.out.L.int_at HF.out.sym
          clear hW3 cT0 cT1 cY cg HST
          have m9 : (m : Int) ≤ 9 := by omega
          have m0 : (0 : Int) ≤ (m : Int) := by omega
          go_wp2
          go_loopw [11, 12] (fun bv yv wr3 => ∃ j y : Nat, j ≤ e ∧ yv = .int .i64 (y : Int) ∧ Hid (x / 2 ^ j = y) ∧ bv = .int .i64 ((m : Int) - (j : Int)) ∧ wr3 = W3) (fun _ y _ => (intOf y).toNat)
          case atStart => exact ⟨0, x, Nat.zero_le _, rfl, (by simp : _ = _), by simp, rfl⟩
          case round =>
            obtain ⟨j, y, hj, rfl, HYY, rfl, rfl⟩ := hrel
            have hy := half_step (x := x) (e := e) (j := j) (by have := HF.out.lo; rw [HX.out] at this; exact this) (by have := HF.out.hi; rw [HX.out] at this; exact this) hj
            rw [HYY.out] at hy
            have hyx : y ≤ 1024 := by rw [← HYY.out]; exact Nat.le_trans (Nat.div_le_self _ _) hx1024
            have y0 : (0 : Int) ≤ (y : Int) := by omega
            by_cases hj2 : j < e
            · have hy1 : (1 : Int) < (y : Int) := by have := hy.2 hj2; omega
              have hyn := half_next x j
              rw [HYY.out] at hyn
              have HYN := Lib.hid hyn
              clear hy hyn
              go_wp2
              go_roundw
              case rel => exact ⟨j + 1, y / 2, by omega, by go_num, (HYN.out.symm : x / 2 ^ (j + 1) = y / 2), by go_num, trivial⟩
              case measure => simp [intOf]; omega
            · obtain rfl : j = e := by omega
              have hy1 : ¬ (1 : Int) < (y : Int) := by have := hy.1; omega
              clear hy
              obtain ⟨B, hB⟩ : ∃ B, m - j = B := ⟨_, rfl⟩
              have hBe : (m : Int) - (j : Int) = (B : Int) := by omega
              rw [hBe]
              obtain ⟨S, hS⟩ : ∃ S, 2 ^ B = S := ⟨_, rfl⟩
              obtain ⟨q2, hq2⟩ : ∃ q2, x * S = q2 := ⟨_, rfl⟩
              have hbd := HF.out.bounds
              have hce := HF.out.cell
              have hN2 := HNE.out
              rw [HX.out, hB, hS, hN2, hq2] at hbd hce
              have hq2lo := hbd.1
              have hq2hi : q2 ≤ 1024 := Nat.le_trans (Nat.le_add_right _ _) (Nat.le_trans hbd.2 (by omega))
              have hmul : IntKind.i64.wrap ((x : Int) * (S : Int)) = (q2 : Int) := by rw [← Int.natCast_mul, hq2, wrap_in9 _ (by omega) (by omega)]
              have hmul' : wrap64 ((x : Int) * (S : Int)) = (q2 : Int) := by rw [← wrapEq]; exact hmul
              have hSl : S ≤ 1024 := Nat.le_trans (Nat.le_add_left _ _) (Nat.le_trans hbd.2 (by omega))
              have HSZ : Hid (∀ W : World, Calls Try.prog 29 #[.int .i64 (B : Int)] W fun e w' => e = .returned (.int .i64 (S : Int)) ∧ w' = W) := ((fun W => (size_in (B : Int) (by omega) (by omega) W).mono fun _ _ h => ⟨by rw [h.1, ← hS, Int.toNat_natCast, Int.natCast_pow]; rfl, h.2.symm⟩) : ∀ W : World, _)
              obtain ⟨i1, hi, hz, hs, hby⟩ := HIN.out
              have h1 : ∀ u ∈ ([.int .i64 (p : Int), .int .i64 (B : Int), .int .i64 ((q2 : Int) - (N : Int))] : List Value), u.oneCell' = true := fun u hu => by
                simp only [List.mem_cons, List.not_mem_nil, or_false] at hu
                rcases hu with rfl | rfl | rfl <;> rfl
              have HKC := Lib.hid (cellsTo_length m xs l q)
              have HCL : Hid (cellsTo m xs l q ++ [[.int .i64 (p : Int), .int .i64 (B : Int), .int .i64 ((q2 : Int) - (N : Int))]] = cellsTo m xs l (q + 1)) := (by rw [← hce]; exact cellsTo_succ m xs l q : _ = _)
              have H1 := Lib.hid h1
              have x0 : (0 : Int) ≤ (x : Int) := by omega
              have HS := Lib.hid hS
              have HQ2 := Lib.hid hq2
              have HBE := Lib.hid hBe
              have HB := Lib.hid hB
              have b0 : (0 : Int) ≤ (B : Int) := by omega
              have v0 : (0 : Int) ≤ (q2 : Int) - (N : Int) := Int.sub_nonneg.2 (Int.ofNat_le.2 hq2lo)
              have HWR : Hid (IntKind.i64.wrap ((q2 : Int) - (N : Int)) = (q2 : Int) - (N : Int)) := (wrap_in9 _ (Int.le_trans (by decide) v0) (Int.le_trans (Int.sub_le_self _ (Int.natCast_nonneg N)) (Int.le_trans (Int.ofNat_le.2 hq2hi) (by decide))) : _ = _)
              clear hbd hce hN2 h1 hS hq2 hBe hB
              go_wp2
              refine wp_region_held_drew (S := (fun w' => w'.cell? ⟨g, q, none⟩ = some (.int .i64 (p : Int)))) (by kernel_rfl) ?_ (fun hHeld => ?_)
              · (try dsimp only); exact cg3
              refine wpAnyH_take2 (i := 0) (oi := _) (d := some 63) (v := ?_) rfl rfl (by kernel_rfl) (by kernel_rfl) (by kernel_rfl) (fun _ _ _ h => h) (Or.inl ⟨by rfl, ?_⟩) (by assumption) ?_
              rotate_left 1
              · (intro w' hSw; (try dsimp only at hSw); go_simp; try with_reducible rfl)
              try simp only [Act.put, List.setIfInBounds_toArray, List.set_cons_zero, List.set_cons_succ]
              refine wpAnyH_take2 (i := 1) (oi := _) (d := some 64) (v := ?_) rfl rfl (by kernel_rfl) (by kernel_rfl) (by kernel_rfl) (fun _ _ _ h => h) (Or.inl ⟨by rfl, ?_⟩) (by assumption) ?_
              rotate_left 1
              · (intro w' hSw; (try dsimp only at hSw); go_simp; try with_reducible rfl)
              try simp only [Act.put, List.setIfInBounds_toArray, List.set_cons_zero, List.set_cons_succ]
              refine wpAnyH_take2 (i := 2) (oi := _) (d := some 65) (v := ?_) rfl rfl (by kernel_rfl) (by kernel_rfl) (by kernel_rfl) (fun _ _ _ h => h) (Or.inl ⟨by rfl, ?_⟩) (by assumption) ?_
              rotate_left 1
              · (intro w' hSw; (try dsimp only at hSw); go_simp; try with_reducible rfl)
              try simp only [Act.put, List.setIfInBounds_toArray, List.set_cons_zero, List.set_cons_succ]
              refine wpAnyH_take2 (i := 3) (oi := _) (d := some 66) (v := ?_) rfl rfl (by kernel_rfl) (by kernel_rfl) (by kernel_rfl) (fun _ _ _ h => h) (Or.inl ⟨by rfl, ?_⟩) (by assumption) ?_
              rotate_left 1
              · (intro w' hSw; (try dsimp only at hSw); go_simp; try with_reducible rfl)
              try simp only [Act.put, List.setIfInBounds_toArray, List.set_cons_zero, List.set_cons_succ]
              refine wpAnyH_take2 (i := 4) (oi := _) (d := some 67) (v := ?_) rfl rfl (by kernel_rfl) (by kernel_rfl) (by kernel_rfl) (fun _ _ _ h => h) (Or.inl ⟨by rfl, ?_⟩) (by assumption) ?_
              rotate_left 1
              · (intro w' hSw; (try dsimp only at hSw); go_simp; try with_reducible rfl)
              try simp only [Act.put, List.setIfInBounds_toArray, List.set_cons_zero, List.set_cons_succ]
              refine wpAnyH_take2 (i := 5) (oi := _) (d := some 68) (v := ?_) rfl rfl (by kernel_rfl) (by kernel_rfl) (by kernel_rfl) (fun _ _ _ h => h) (Or.inl ⟨by rfl, ?_⟩) (by assumption) ?_
              rotate_left 1
              · (intro w' hSw; (try dsimp only at hSw); go_simp; try with_reducible rfl)
              try simp only [Act.put, List.setIfInBounds_toArray, List.set_cons_zero, List.set_cons_succ]
              refine wpAnyH_take2 (i := 6) (oi := _) (d := some 69) (v := ?_) rfl rfl (by kernel_rfl) (by kernel_rfl) (by kernel_rfl) (fun _ _ _ h => h) (Or.inl ⟨by rfl, ?_⟩) (by assumption) ?_
              rotate_left 1
              · (intro w' hSw; (try dsimp only at hSw); go_simp; try with_reducible rfl)
              try simp only [Act.put, List.setIfInBounds_toArray, List.set_cons_zero, List.set_cons_succ]
              refine wpAnyH_take2 (i := 7) (oi := _) (d := some 70) (v := ?_) rfl rfl (by kernel_rfl) (by kernel_rfl) (by kernel_rfl) (fun _ _ _ h => h) (Or.inl ⟨by rfl, ?_⟩) (by assumption) ?_
              rotate_left 1
              · (intro w' hSw; (try dsimp only at hSw); go_simp; try with_reducible rfl)
              try simp only [Act.put, List.setIfInBounds_toArray, List.set_cons_zero, List.set_cons_succ]
              refine wpAnyH_take2 (i := 10) (oi := _) (d := some 73) (v := ?_) rfl rfl (by kernel_rfl) (by kernel_rfl) (by kernel_rfl) (fun _ _ _ h => h) (Or.inl ⟨by rfl, ?_⟩) (by assumption) ?_
              rotate_left 1
              · (intro w' hSw; (try dsimp only at hSw); go_simp; try with_reducible rfl)
              try simp only [Act.put, List.setIfInBounds_toArray, List.set_cons_zero, List.set_cons_succ]
              refine wpAnyH_take2 (i := 11) (oi := _) (d := some 74) (v := ?_) rfl rfl (by kernel_rfl) (by kernel_rfl) (by kernel_rfl) (fun _ _ _ h => h) (Or.inl ⟨by rfl, ?_⟩) (by assumption) ?_
              rotate_left 1
              · (intro w' hSw; (try dsimp only at hSw); go_simp; try with_reducible rfl)
              try simp only [Act.put, List.setIfInBounds_toArray, List.set_cons_zero, List.set_cons_succ]
              refine wpAnyH_ready (rs := [8]) (by kernel_rfl) (by simp) ?_
              refine AllReadyH.cons (o := _) rfl (fun K hK => ?_) ?_
              rotate_left
              · exact AllReadyH.nil
              go_simp
              refine (HSZ.out _).mono ?_; rintro e7 w7 ⟨rfl, hw7⟩; have HST7 : Hid (RfSt w.heap.size w1.heap.size w w7 w.heap.size g t m (.slice (some ⟨b, off, none⟩) n c) xs l q (.slice A3 q c3)) := (by rw [hw7]; exact HST3.out.drewN 1 : RfSt _ _ _ _ _ _ _ _ _ _ _ _ _); clear hw7
              refine hK.out _ _ ?_ (fun hHeld => ?_)
              · (try dsimp only); exact HST7.out.L.int_at HF.out.sym
              clear hK K
              try simp only [Act.put, List.setIfInBounds_toArray, List.set_cons_zero, List.set_cons_succ]
              refine wpAnyH_take2 (i := 9) (oi := _) (d := some 72) (v := ?_) rfl rfl (by kernel_rfl) (by kernel_rfl) (by kernel_rfl) (fun _ _ _ h => h) (Or.inl ⟨by rfl, ?_⟩) (by assumption) ?_
              rotate_left 1
              · (intro w' hSw; (try dsimp only at hSw); go_simp; try with_reducible rfl)
              try simp only [Act.put, List.setIfInBounds_toArray, List.set_cons_zero, List.set_cons_succ]
              refine wpAnyH_take2 (i := 12) (oi := _) (d := some 75) (v := ?_) rfl rfl (by kernel_rfl) (by kernel_rfl) (by kernel_rfl) (fun _ _ _ h => h) (Or.inl ⟨by rfl, ?_⟩) (by assumption) ?_
              rotate_left 1
              · (intro w' hSw; (try dsimp only at hSw); go_simp; try with_reducible rfl)
              try simp only [Act.put, List.setIfInBounds_toArray, List.set_cons_zero, List.set_cons_succ]
              refine wpAnyH_take2 (i := 13) (oi := _) (d := some 76) (v := ?_) rfl rfl (by kernel_rfl) (by kernel_rfl) (by kernel_rfl) (fun _ _ _ h => h) (Or.inl ⟨by rfl, ?_⟩) (by assumption) ?_
              rotate_left 1
              · (intro w' hSw; (try dsimp only at hSw); go_simp; try with_reducible rfl)
              try simp only [Act.put, List.setIfInBounds_toArray, List.set_cons_zero, List.set_cons_succ]
              refine wpAnyH_ready (rs := [14]) (by kernel_rfl) (by simp) ?_
              refine AllReadyH.cons (o := _) rfl (fun K hK => ?_) ?_
              rotate_left
              · exact AllReadyH.nil
              go_simp
              refine hK.out _ _ ?_ (fun hHeld => ?_)
              · (try dsimp only); exact (HST7.out.L.alloc _).int_at HF.out.sym
              clear hK K
              try simp only [Act.put, List.setIfInBounds_toArray, List.set_cons_zero, List.set_cons_succ]
              refine wpAnyH_ready (rs := [15]) (by kernel_rfl) (by simp) ?_
              refine AllReadyH.cons (o := _) rfl (fun K hK => ?_) ?_
              rotate_left
              · exact AllReadyH.nil
              refine step_append_srow (by kernel_rfl) _ _ rfl Try.underlying42 hi hz hs hby (by rfl) (by decide) rfl (HST7.out.R.below (B := w7.heap.size) ((Below.refl _ _).alloc (Nat.le_refl _) _) (Nat.le_refl _)) w7.heap.size 49 [.int .i64 (p : Int), .int .i64 (B : Int), .int .i64 ((q2 : Int) - (N : Int))] rfl rfl ((Blk.new w7 _ _).congr (by rw [HWR.out])) H1.out (by rw [HKC.out]; omega) (by decide) (q + 1) (by rw [HKC.out]) ?_; intro A4 c4 w4 hrow hgrow hown; rw [HCL.out] at hrow; have HST4 := Lib.hid (HST7.out.next hrow hgrow hown); clear hrow hgrow hown
              refine hK.out _ _ ?_ (fun hHeld => ?_)
              · (try dsimp only); exact HST4.out.L.int_at HF.out.sym
              clear hK K
              try simp only [Act.put, List.setIfInBounds_toArray, List.set_cons_zero, List.set_cons_succ]
              refine wpAnyH_take2 (i := 16) (oi := _) (d := some 6) (v := ?_) rfl rfl (by kernel_rfl) (by kernel_rfl) (by kernel_rfl) (fun _ _ _ h => h) (Or.inl ⟨by rfl, ?_⟩) (by assumption) ?_
              rotate_left 1
              · (intro w' hSw; (try dsimp only at hSw); go_simp; try with_reducible rfl)
              try simp only [Act.put, List.setIfInBounds_toArray, List.set_cons_zero, List.set_cons_succ]
              refine wpAnyH_done (by kernel_rfl) ?_ _
              go_wp2
              go_roundw
              case rel => exact ⟨q + 1, by omega, by go_num, _, _, rfl, HST4⟩
              case measure => simp [intOf]; omega
    · obtain rfl : k = N := by omega
      go_wp2
      go_ret2
      have hB := HST.out.below
      exact ⟨_, _, rfl, HSP.out, HST.out.R, fun j hj => by have := HST.out.own j hj; omega, hB⟩
end Go.Proofs.Ytkffhfdmdcecaaa
