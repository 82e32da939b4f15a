/-
  PresetStates: the law's walk.
-/
import Derived.Test.YtkffhfdmdcecaaaCeTab
namespace Go.Proofs.Ytkffhfdmdcecaaa
set_option linter.all false
open Go.RowKit Go.Shelf

theorem madeCells_zero9 (n : Nat) : madeCells #[Value.int .i64 0] n = ((List.replicate n (0 : Int)).map (Value.int .i64)).toArray := by
  apply Array.ext
  · simp [size_madeCells]
  · intro i h1 h2
    have e : i % 1 = 0 := Nat.mod_one i
    simp [madeCells, e]

set_option maxRecDepth 100000 in
set_option maxHeartbeats 3200000 in
theorem presetStates_ok {p : Int} {m N : Nat} {xs : List Int} (h : PTab p m N xs) (w : World) : Calls Try.prog 9 #[.int .i64 p] w fun e w' => e = .returned (.bool true) ∧ Below w.heap.size w w' := by
  have H := Lib.hid h
  obtain ⟨pt0, pt2⟩ := h.range
  have pn : ¬ p < 0 := by omega
  have pn2 : ¬ 2 < p := by omega
  have hN := (step_le ⟨m, h.lt⟩).2.2
  simp only [h.pow] at hN
  have hN0 := h.N0
  have hpow : (2 : Int) ^ m = (N : Int) := by rw [← h.pow, Int.natCast_pow]; rfl
  have HPOW := Lib.hid hpow
  have m0 : (0 : Int) ≤ (m : Int) := by omega
  have m9 : m < 10 := h.lt
  obtain ⟨n, hn⟩ : ∃ n, xs.length = n := ⟨_, rfl⟩
  have hn256 : n ≤ 256 := by rw [← hn]; exact h.len
  have HNL := Lib.hid hn
  have HGE := Lib.hid h.valid.2.2.2.2.2.2.1
  have hmk : ∀ W : World, (Instr.makeSlice 23 (.int .i64 (n : Int)) (.int .i64 (n : Int))).run Try.prog W = .ok (.slice (some ⟨W.heap.size, 0, none⟩) n n) (W.alloc (.cells (madeCells #[.int .i64 0] n) 3)) :=
    fun W => run_make_row' 23 3 (.int .i64 0) 8 Try.underlying23 infoInt rfl .i64 .i64 n (by omega) (by omega) W
  clear h hpow hn
  go_enter Try.func9, Try.ntmps9
  go_wp2_with fail
  refine (cells_ok H.out _).mono ?_
  rintro e w1 ⟨cv, l, g, c, rfl, hs, hrd, hg, hb⟩
  have HB1 := Lib.hid hb
  have HSP := Lib.hid hs
  have HRD1 := Lib.hid hrd
  obtain rfl := hrd.val
  have hcap := hrd.cap
  clear hs hrd hb
  go_wp2_with fail
  refine (H.out.tab _).mono ?_
  rintro e w2 ⟨v, rfl, ⟨gn, tn, rfl, hgn, hkn⟩, hb⟩
  have HK2 := Lib.hid hkn
  have HB2 := Lib.hid (HB1.out.trans (hb.mono HB1.out.size))
  have HRD2 := Lib.hid (HRD1.out.below hb (Nat.le_refl _))
  rw [HNL.out]
  have hsz2 := HB2.out.size
  clear hkn hb HB1 HRD1
  obtain ⟨w3, hw3⟩ : ∃ w3, w2.alloc (.cells #[.int .i64 (m : Int), .slice (some ⟨gn, 0, none⟩) n n] 25) = w3 := ⟨_, rfl⟩
  have hR3 : Blk w3 w2.heap.size 25 #[.int .i64 (m : Int), .slice (some ⟨gn, 0, none⟩) n n] := by rw [← hw3]; exact Blk.new _ _ _
  have hb23 : Below w2.heap.size w2 w3 := by rw [← hw3]; exact (Below.refl _ _).alloc (Nat.le_refl _) _
  have HR3 := Lib.hid hR3
  have HB3 := Lib.hid (HB2.out.trans (hb23.mono hsz2))
  have HRD3 := Lib.hid (HRD2.out.below hb23 (Nat.le_refl _))
  have HK3 := Lib.hid (HK2.out.below hb23 HK2.out.lt)
  have HW3 := Lib.hid hw3
  obtain ⟨c0, c1, -, -⟩ := hR3.two
  clear hR3 hb23 hw3 HRD2 HK2
  go_wp2_with fail
  rw [HW3.out]
  refine (size_in m m0 (by omega) _).mono ?_
  rw [Int.toNat_natCast, HPOW.out]
  rintro e w' ⟨rfl, rfl⟩
  go_wp2
  have hblk := Blk.new w3 3 (madeCells #[.int .i64 0] n)
  rw [madeCells_zero9, ← tally_nil] at hblk
  rw [madeCells_zero9, ← tally_nil]
  have HBLK := Lib.hid hblk
  clear hblk hmk
  go_loopw [8] (fun i wr => ∃ k : Nat, k ≤ N ∧ i = .int .i64 k ∧ Hid (Blk wr w3.heap.size 3 ((tally n (l.take k)).map (Value.int .i64)).toArray) ∧ Hid (Below w3.heap.size w3 wr)) (fun i _ => N - (intOf i).toNat)
  case atStart => exact ⟨0, Nat.zero_le _, rfl, HBLK, ((Below.refl _ w3).alloc (Nat.le_refl _) _ : Below _ _ _)⟩
  case round =>
    clear HBLK
    obtain ⟨k, hk, rfl, HB, HBL⟩ := hrel
    have k0 : (0 : Int) ≤ (k : Int) := by omega
    by_cases hlt : k < N
    · have k1 : (k : Int) < (N : Int) := by omega
      obtain ⟨q, Y, X, ct, e, F⟩ := cell_fact m9 HSP.out H.out.all HGE.out (show k < 2 ^ m by rw [H.out.pow]; exact hlt)
      have hq : q < n := by
        have := (List.getElem?_eq_some_iff.1 F.norm).1
        rw [HNL.out] at this; exact this
      have hbd := F.bounds
      have hba := F.base
      have hbb := F.b
      have hem := F.e_le
      have hct : ct ≤ k := by rw [← F.cnt]; exact Nat.le_trans List.count_le_length (by rw [List.length_take]; omega)
      rw [H.out.pow] at hbd hba
      obtain ⟨B, hB⟩ : ∃ B, m - e = B := ⟨_, rfl⟩
      rw [hB] at hbd hba hbb
      obtain ⟨S, hS⟩ : ∃ S, 2 ^ B = S := ⟨_, rfl⟩
      rw [hS] at hbd hba
      obtain ⟨q2, hq2⟩ : ∃ q2, (X + ct) * S = q2 := ⟨_, rfl⟩
      rw [hq2] at hbd hba
      obtain ⟨Z, hZ⟩ : ∃ Z, q2 - N = Z := ⟨_, rfl⟩
      have hz : baseAt m xs l k = (Z : Int) := by rw [hba]; omega
      have hzs : Z + S ≤ N := by omega
      have g0 : wr.cell? ⟨g, k * 3, none⟩ = some (.int .i64 (q : Int)) := by
        rw [(HBL.out.cell (p := ⟨g, k * 3, none⟩) HRD3.out.lt), HRD3.out.s k hlt, List.getD_eq_getElem?_getD, F.sym]; rfl
      have g1 : wr.cell? ⟨g, k * 3 + 1, none⟩ = some (.int .i64 (B : Int)) := by
        rw [(HBL.out.cell (p := ⟨g, k * 3 + 1, none⟩) HRD3.out.lt), HRD3.out.b k hlt, hbb]
      have g2 : wr.cell? ⟨g, k * 3 + 2, none⟩ = some (.int .i64 (Z : Int)) := by
        rw [(HBL.out.cell (p := ⟨g, k * 3 + 2, none⟩) HRD3.out.lt), HRD3.out.z k hlt, hz]
      have hts := tally_succ (n := n) F.sym
      rw [F.cnt] at hts
      have HTS := Lib.hid hts
      have HF := Lib.hid F
      have HSZ : Hid (∀ W : World, Calls Try.prog 29 #[.int .i64 (B : Int)] W fun e w' => e = .returned (.int .i64 (S : Int)) ∧ w' = W) := ((fun W => (size_in (B : Int) (by omega) (by omega) W).mono fun _ _ h => ⟨by rw [h.1, ← hS, Int.toNat_natCast, Int.natCast_pow]; rfl, h.2.symm⟩) : ∀ W : World, _)
      have hBm : B ≤ m := by omega
      clear hbd hba hbb hem hS hq2 hZ hz hB hts F
      have q0 : (0 : Int) ≤ (q : Int) := by omega
      have q1 : (q : Int) < (n : Int) := by omega
      have d1 : decide ((n : Int) ≤ (q : Int)) = false := by simp; omega
      have d1' : decide (n ≤ q) = false := by simp; omega
      have d2 : decide ((m : Int) < (B : Int)) = false := by simp; omega
      have d2' : decide (m < B) = false := by simp; omega
      have d3 : decide ((N : Int) < (Z : Int) + (S : Int)) = false := by simp; omega
      have d4 : IntKind.i64.wrap ((Z : Int) + (S : Int)) = (Z : Int) + (S : Int) := wrap_in9 _ (by omega) (by omega)
      obtain ⟨w4, hw4⟩ : ∃ w4, wr.alloc (.cells #[.int .i64 (q : Int), .int .i64 (B : Int), .int .i64 (Z : Int)] 49) = w4 := ⟨_, rfl⟩
      have hb4 : Below wr.heap.size wr w4 := by rw [← hw4]; exact (Below.refl _ _).alloc (Nat.le_refl _) _
      have hR4 : Blk w4 wr.heap.size 49 #[.int .i64 (q : Int), .int .i64 (B : Int), .int .i64 (Z : Int)] := by rw [← hw4]; exact Blk.new _ _ _
      have HW4 := Lib.hid hw4
      have r0 : w4.cell? ⟨wr.heap.size, 0, none⟩ = some (.int .i64 (q : Int)) := by rw [hR4.cell]; rfl
      have r1 : w4.cell? ⟨wr.heap.size, 1, none⟩ = some (.int .i64 (B : Int)) := by rw [hR4.cell]; rfl
      have r2 : w4.cell? ⟨wr.heap.size, 2, none⟩ = some (.int .i64 (Z : Int)) := by rw [hR4.cell]; rfl
      have HBK4 := Lib.hid (HB.out.below hb4 HB.out.lt)
      have HBL4 := Lib.hid (HBL.out.trans (hb4.mono HBL.out.size))
      have t0 : w4.cell? ⟨w2.heap.size, 0, none⟩ = some (.int .i64 (m : Int)) := (HBL4.out.cell (p := ⟨w2.heap.size, 0, none⟩) HR3.out.lt).trans c0
      have cb : w4.cell? ⟨w3.heap.size, q, none⟩ = some (.int .i64 (ct : Int)) := HBK4.out.int_at (by rw [tally_at _ hq, HF.out.cnt])
      have fb : w4.frozen? ⟨w3.heap.size, q, none⟩ = false := HBK4.out.frozen q
      clear hw4 hb4 hR4
      go_wp2
      rw [HW4.out]
      clear g0 g1 g2
      go_quiet ((go_at_call 29; exact Calls.quiet_of_same (HSZ.out _)))
      go_wp2
      go_roundw
      case rel => exact ⟨k + 1, by omega, by go_num, (by rw [HTS.out]; exact (HBK4.out.drewN _).set_ints q ((ct : Int) + 1) : Blk _ _ _ _), ((below_drewN HBL4.out _).setCell (p := ⟨w3.heap.size, q, none⟩) (Nat.le_refl _) _ : Below _ _ _)⟩
      case measure => simp [intOf]; omega
    · obtain rfl : k = N := by omega
      have hb0 := HB.out
      rw [List.take_of_length_le (by rw [HSP.out.len, H.out.pow]; exact Nat.le_refl _)] at hb0
      have HB0 := Lib.hid hb0
      clear hb0 HB
      go_wp2
      go_loopw [10] (fun i wr => ∃ j : Nat, j ≤ n ∧ i = .int .i64 j ∧ Hid (Blk wr w3.heap.size 3 ((tally n l).map (Value.int .i64)).toArray) ∧ Hid (Below w3.heap.size w3 wr)) (fun i _ => n - (intOf i).toNat)
      case atStart => exact ⟨0, Nat.zero_le _, rfl, HB0, HBL⟩
      case round =>
        clear HB0 HBL
        obtain ⟨j, hj, rfl, HB, HBL⟩ := hrel
        have j0 : (0 : Int) ≤ (j : Int) := by omega
        by_cases hjlt : j < n
        · have j1 : (j : Int) < (n : Int) := by omega
          obtain ⟨x, hx⟩ : ∃ x, xs[j]? = some x := ⟨_, List.getElem?_eq_getElem (by rw [HNL.out]; exact hjlt)⟩
          have hx1 := HGE.out x (List.mem_of_getElem? hx)
          obtain ⟨a, ha⟩ : ∃ a, x.natAbs = a := ⟨_, rfl⟩
          have hca : l.count (j : Int) = a := by
            rw [HSP.out.count m9 H.out.all HGE.out, List.getD, hx]; exact ha
          have cb : wr.cell? ⟨w3.heap.size, j, none⟩ = some (.int .i64 (a : Int)) := HB.out.int_at (by rw [tally_at _ hjlt, hca])
          have cx : wr.cell? ⟨gn, j, none⟩ = some (.int .i64 x) := (HBL.out.cell (p := ⟨gn, j, none⟩) HK3.out.lt).trans (HK3.out.int_at hx)
          have t1 : wr.cell? ⟨w2.heap.size, 1, none⟩ = some (.slice (some ⟨gn, 0, none⟩) n n) := (HBL.out.cell (p := ⟨w2.heap.size, 1, none⟩) HR3.out.lt).trans c1
          have hs := states_q9 x a
          have HSQ : Hid (∀ W, Calls Try.prog 30 #[.int .i64 x] W fun e w' => e = .returned (.int .i64 a) ∧ w' = W) := (fun W => hs W hx1 ha : ∀ W, _)
          clear hx hx1 ha hca hs
          go_wp2_with fail
          go_quiet ((go_at_call 30; exact Calls.quiet_of_same (HSQ.out _)))
          go_wp2
          go_roundw
          case rel => exact ⟨j + 1, by omega, by go_num, (HB.out.drewN _ : Blk _ _ _ _), (below_drewN HBL.out _ : Below _ _ _)⟩
          case measure => simp [intOf]; omega
        · have HBX := Lib.hid (HB3.out.trans (HBL.out.mono HB3.out.size))
          go_wp2_with (go_at_call 16; refine (known_any _).mono ?_; rintro e w9 ⟨rfl, hb⟩; have HB9 := Lib.hid (HBX.out.trans (hb.mono HBX.out.size)); clear hb)
          go_ret
          exact ⟨rfl, HB9.out⟩

set_option maxHeartbeats 800000 in
theorem presetStates_no (p : Int) (h : p < 0 ∨ 3 ≤ p) (w : World) : Calls Try.prog 9 #[.int .i64 p] w fun e w' => e = .returned (.bool true) ∧ Below w.heap.size w w' := by
  rcases h with h | h
  · go_enter Try.func9, Try.ntmps9
    go_wp2_with fail
    refine (known_any _).mono ?_
    rintro e w5 ⟨rfl, hb5⟩
    have HB5 := Lib.hid hb5
    clear hb5
    go_wp2
    go_ret
    exact ⟨rfl, HB5.out⟩
  · have h0 : ¬ p < 0 := by omega
    have h2 : 2 < p := by omega
    go_enter Try.func9, Try.ntmps9
    go_wp2_with fail
    refine (known_any _).mono ?_
    rintro e w5 ⟨rfl, hb5⟩
    have HB5 := Lib.hid hb5
    clear hb5
    go_wp2
    go_ret
    exact ⟨rfl, HB5.out⟩

theorem presetStates_walk (p : Int) (_ : (Lit.int .i64 p).wf = true) (w : World) : Calls Try.prog 9 #[.int .i64 p] w fun e w' => e = .returned (.bool true) ∧ Below w.heap.size w w' := by
  rcases part_cases p with h | ⟨m, N, xs, h⟩
  · exact presetStates_no p h w
  · exact presetStates_ok h w
end Go.Proofs.Ytkffhfdmdcecaaa
