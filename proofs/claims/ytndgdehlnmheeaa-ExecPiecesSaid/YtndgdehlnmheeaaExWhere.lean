/-
  exec: the reference's Where.
-/
import Derived.Test.YtndgdehlnmheeaaExChk
namespace Go.Proofs.Ytndgdehlnmheeaa
set_option linter.all false
set_option maxRecDepth 100000
open Go.RowKit

set_option maxHeartbeats 12800000 in
theorem refWhere_any (w : World) (size hv lits most : Int) (v : Value) (ss : List SeqD) (h : Seqs w v ss) (hb : (-9223372036854775808 ≤ hv ∧ hv ≤ 9223372036854775807) ∧ (-9223372036854775808 ≤ lits ∧ lits ≤ 9223372036854775807)) :
    Calls Try.prog 22 #[.int .i64 size, .int .i64 hv, .int .i64 lits, .int .i64 most, v] w fun e w' => e = .returned (.tuple #[.int .i64 (chkR size hv lits most ss).1, .int .i64 (chkR size hv lits most ss).2.1, .int .i64 (chkR size hv lits most ss).2.2]) ∧ Below w.heap.size w w' := by
  have HS := Lib.hid h
  obtain ⟨⟨A, c, hv', hlc, hcm, -⟩, -⟩ := h
  obtain ⟨n, hn⟩ : ∃ n, ss.length = n := ⟨_, rfl⟩
  rw [hn] at hv' hlc
  subst hv'
  have HN := Lib.hid hn
  have hni : (n : Int) ≤ 9223372036854775807 := by have := hcm; simp only [maxLen] at this; omega
  clear hn
  by_cases hok : exArgs size hv lits most
  · have hR : chkR size hv lits most ss = chk size (min hv size) most (ss.drop 0) 0 lits 0 := by unfold chkR; rw [if_pos hok]; rfl
    unfold exArgs at hok
    obtain ⟨o1, o2, o3, o4, o5, o6⟩ := hok
    obtain ⟨b2, b4⟩ := hb.2
    clear hb
    obtain ⟨m, hm⟩ : ∃ m, min hv size = m := ⟨_, rfl⟩
    rw [hm] at hR
    have hm2 : (if size < hv then size else hv) = m := by omega
    have hm0 : 0 ≤ m := by omega
    have hm1 : m ≤ 134217728 := by omega
    obtain ⟨⟨ra, rt, re⟩, hr0⟩ : ∃ p, chkR size hv lits most ss = p := ⟨_, rfl⟩
    rw [hr0] at hR ⊢
    have HR := Lib.hid hR.symm
    clear hR hm hr0
    go_enter Try.func22, Try.ntmps22
    go_wp2
    go_loopw [2, 13, 14] (fun l t i wr => ∃ (k : Nat) (L P : Int), k ≤ n ∧ i = .int .i64 k ∧ l = .int .i64 L ∧ t = .int .i64 P ∧ Hid (Below w.heap.size w wr) ∧ Hid (chk size m most (ss.drop k) k L P = (ra, rt, re)) ∧ Hid (0 ≤ L ∧ L ≤ lits ∧ 0 ≤ P ∧ P ≤ most)) (fun _ _ i _ => n - (intOf i).toNat)
    case atStart => exact ⟨0, lits, 0, Nat.zero_le _, rfl, rfl, rfl, (Below.refl _ _ : Below _ _ _), (HR.out : _ = _), (by omega : _ ∧ _)⟩
    case round =>
      clear HR
      obtain ⟨k, L, P, hk, rfl, rfl, rfl, HB, HC, HLP⟩ := hrel
      by_cases hlt : k < n
      · have hx := List.getElem?_eq_getElem (l := ss) (i := k) (by rw [HN.out]; omega)
        obtain ⟨⟨lit, len, offs⟩, hse⟩ : ∃ s, ss[k]'(by rw [HN.out]; omega) = s := ⟨_, rfl⟩
        rw [hse] at hx
        have hsq := HS.out.below HB.out (Nat.le_refl _)
        have hwf := hsq.wf _ (List.mem_of_getElem? hx)
        obtain ⟨A2, c2, he, -, -, h4⟩ := hsq.at_
        injection he with e1 e2 e3
        subst e1 e3
        clear e2
        obtain ⟨b, off, rfl, hcell⟩ := h4 (by rw [HN.out]; omega)
        obtain ⟨c0, c1, c2⟩ := hcell k _ hx
        simp only at c0 c1 c2 hwf
        obtain ⟨⟨wf1, wf2⟩, ⟨wf3, wf4⟩, ⟨wf5, wf6⟩⟩ := hwf
        have hblt := World.block_lt_of_cell? wr _ c0
        have k0 : (0 : Int) ≤ (k : Int) := by omega
        have k1 : (k : Int) < (n : Int) := by omega
        have hlp := HLP.out
        obtain ⟨lp1, lp2, lp3, lp4⟩ := hlp
        have HX := Lib.hid hx
        have HBA := Lib.hid (HB.out.alloc HB.out.size (.cells #[.int .i64 lit, .int .i64 len, .int .i64 offs] 54))
        clear hx hse hsq hcell h4
        by_cases h1 : 0 ≤ lit
        · skip
          by_cases h2 : lit ≤ L
          · skip
            by_cases h3 : 3 ≤ len
            · skip
              by_cases h4 : len ≤ 131072
              · skip
                by_cases h5 : 1 ≤ offs
                · skip
                  by_cases h6 : offs ≤ size
                  · skip
                    have w1 : -9223372036854775808 ≤ m + P := by omega
                    have w2 : m + P ≤ 9223372036854775807 := by omega
                    by_cases h7 : offs - m - P ≤ lit
                    · skip
                      have ok1 : LookD.ok1 ⟨⟨lit, len, offs⟩, k, size, m, L, most, P⟩ := ⟨h1, h2, h3, h4, h5, h6, h7⟩
                      have w3 : -9223372036854775808 ≤ offs - m := by omega
                      have w4 : offs - m ≤ 9223372036854775807 := by omega
                      have w5 : -9223372036854775808 ≤ offs - m - P := by omega
                      have w6 : offs - m - P ≤ 9223372036854775807 := by omega
                      have w7 : -9223372036854775808 ≤ most - P := by omega
                      have w8 : most - P ≤ 9223372036854775807 := by omega
                      have w9 : -9223372036854775808 ≤ most - P - lit := by omega
                      have w10 : most - P - lit ≤ 9223372036854775807 := by omega
                      have OK1 := Lib.hid ok1
                      clear ok1
                      by_cases h8 : lit ≤ most - P
                      · skip
                        by_cases h9 : len ≤ most - P - lit
                        · skip
                          have HCC : Hid (chk size m most (ss.drop (k + 1)) (k + 1) (L - lit) (P + (lit + len)) = (ra, rt, re)) := ((chk_succ HX.out OK1.out ⟨h8, h9⟩).symm.trans HC.out : _ = _)
                          have HLP2 : Hid (0 ≤ L - lit ∧ L - lit ≤ lits ∧ 0 ≤ P + (lit + len) ∧ P + (lit + len) ≤ most) := (by omega : _ ∧ _)
                          have z1 : -9223372036854775808 ≤ L - lit := by omega
                          have z2 : L - lit ≤ 9223372036854775807 := by omega
                          have z3 : -9223372036854775808 ≤ P + lit := by omega
                          have z4 : P + lit ≤ 9223372036854775807 := by omega
                          have z5 : -9223372036854775808 ≤ P + lit + len := by omega
                          have z6 : P + lit + len ≤ 9223372036854775807 := by omega
                          have eP : P + lit + len = P + (lit + len) := by omega
                          have HEP := Lib.hid eP
                          clear eP HC HLP
                          go_wp2
                          all_goals
                            go_roundw
                            case rel => exact ⟨k + 1, L - lit, P + (lit + len), by omega, by go_num, rfl, (by rw [HEP.out]), (HBA.out : Below _ _ _), (HCC.out : _ = _), (HLP2.out : _ ∧ _)⟩
                            case measure => simp [intOf]; omega
                        · have g9 : most - P - lit < len := by omega
                          have HRR : Hid ((ra, rt, re) = ((k : Int), (0 : Int), (10 : Int))) := (HC.out.symm.trans (chk_bad2 HX.out OK1.out (fun hh => h9 hh.2)) : _ = _)
                          clear HC HLP
                          go_wp2
                          all_goals
                            refine bodyPost_ret (v := .tuple #[.int .i64 k, .int .i64 0, .int .i64 10]) (by simp [results, Try.results22, go_sem]) rfl ⟨?_, HBA.out⟩
                            have hrr := HRR.out
                            injection hrr with r1 r2
                            injection r2 with r2 r3
                            subst r1 r2 r3
                            rfl
                      · have g8 : most - P < lit := by omega
                        have HRR : Hid ((ra, rt, re) = ((k : Int), (0 : Int), (10 : Int))) := (HC.out.symm.trans (chk_bad2 HX.out OK1.out (fun hh => h8 hh.1)) : _ = _)
                        clear HC HLP
                        go_wp2
                        all_goals
                          refine bodyPost_ret (v := .tuple #[.int .i64 k, .int .i64 0, .int .i64 10]) (by simp [results, Try.results22, go_sem]) rfl ⟨?_, HBA.out⟩
                          have hrr := HRR.out
                          injection hrr with r1 r2
                          injection r2 with r2 r3
                          subst r1 r2 r3
                          rfl
                    · have g7 : lit < offs - m - P := by omega
                      have g7b : m + P < offs := by omega
                      have w3 : -9223372036854775808 ≤ offs - m := by omega
                      have w4 : offs - m ≤ 9223372036854775807 := by omega
                      have w5 : -9223372036854775808 ≤ offs - m - P := by omega
                      have w6 : offs - m - P ≤ 9223372036854775807 := by omega
                      have HRR : Hid ((ra, rt, re) = ((k : Int), (0 : Int), (15 : Int))) := (HC.out.symm.trans (chk_bad1 HX.out (fun hh => h7 hh.2.2.2.2.2.2)) : _ = _)
                      clear HC HLP
                      go_wp2
                      all_goals
                        refine bodyPost_ret (v := .tuple #[.int .i64 k, .int .i64 0, .int .i64 15]) (by simp [results, Try.results22, go_sem]) rfl ⟨?_, HBA.out⟩
                        have hrr := HRR.out
                        injection hrr with r1 r2
                        injection r2 with r2 r3
                        subst r1 r2 r3
                        rfl
                  · have g6 : size < offs := by omega
                    have HRR : Hid ((ra, rt, re) = ((k : Int), (0 : Int), (15 : Int))) := (HC.out.symm.trans (chk_bad1 HX.out (fun hh => h6 hh.2.2.2.2.2.1)) : _ = _)
                    clear HC HLP
                    go_wp2
                    all_goals
                      refine bodyPost_ret (v := .tuple #[.int .i64 k, .int .i64 0, .int .i64 15]) (by simp [results, Try.results22, go_sem]) rfl ⟨?_, HBA.out⟩
                      have hrr := HRR.out
                      injection hrr with r1 r2
                      injection r2 with r2 r3
                      subst r1 r2 r3
                      rfl
                · have g5 : offs < 1 := by omega
                  have HRR : Hid ((ra, rt, re) = ((k : Int), (0 : Int), (15 : Int))) := (HC.out.symm.trans (chk_bad1 HX.out (fun hh => h5 hh.2.2.2.2.1)) : _ = _)
                  clear HC HLP
                  go_wp2
                  all_goals
                    refine bodyPost_ret (v := .tuple #[.int .i64 k, .int .i64 0, .int .i64 15]) (by simp [results, Try.results22, go_sem]) rfl ⟨?_, HBA.out⟩
                    have hrr := HRR.out
                    injection hrr with r1 r2
                    injection r2 with r2 r3
                    subst r1 r2 r3
                    rfl
              · have g4 : 131072 < len := by omega
                have HRR : Hid ((ra, rt, re) = ((k : Int), (0 : Int), (15 : Int))) := (HC.out.symm.trans (chk_bad1 HX.out (fun hh => h4 hh.2.2.2.1)) : _ = _)
                clear HC HLP
                go_wp2
                all_goals
                  refine bodyPost_ret (v := .tuple #[.int .i64 k, .int .i64 0, .int .i64 15]) (by simp [results, Try.results22, go_sem]) rfl ⟨?_, HBA.out⟩
                  have hrr := HRR.out
                  injection hrr with r1 r2
                  injection r2 with r2 r3
                  subst r1 r2 r3
                  rfl
            · have g3 : len < 3 := by omega
              have HRR : Hid ((ra, rt, re) = ((k : Int), (0 : Int), (15 : Int))) := (HC.out.symm.trans (chk_bad1 HX.out (fun hh => h3 hh.2.2.1)) : _ = _)
              clear HC HLP
              go_wp2
              all_goals
                refine bodyPost_ret (v := .tuple #[.int .i64 k, .int .i64 0, .int .i64 15]) (by simp [results, Try.results22, go_sem]) rfl ⟨?_, HBA.out⟩
                have hrr := HRR.out
                injection hrr with r1 r2
                injection r2 with r2 r3
                subst r1 r2 r3
                rfl
          · have g2 : L < lit := by omega
            have HRR : Hid ((ra, rt, re) = ((k : Int), (0 : Int), (15 : Int))) := (HC.out.symm.trans (chk_bad1 HX.out (fun hh => h2 hh.2.1)) : _ = _)
            clear HC HLP
            go_wp2
            all_goals
              refine bodyPost_ret (v := .tuple #[.int .i64 k, .int .i64 0, .int .i64 15]) (by simp [results, Try.results22, go_sem]) rfl ⟨?_, HBA.out⟩
              have hrr := HRR.out
              injection hrr with r1 r2
              injection r2 with r2 r3
              subst r1 r2 r3
              rfl
        · have g1 : lit < 0 := by omega
          have HRR : Hid ((ra, rt, re) = ((k : Int), (0 : Int), (15 : Int))) := (HC.out.symm.trans (chk_bad1 HX.out (fun hh => h1 hh.1)) : _ = _)
          clear HC HLP
          go_wp2
          all_goals
            refine bodyPost_ret (v := .tuple #[.int .i64 k, .int .i64 0, .int .i64 15]) (by simp [results, Try.results22, go_sem]) rfl ⟨?_, HBA.out⟩
            have hrr := HRR.out
            injection hrr with r1 r2
            injection r2 with r2 r3
            subst r1 r2 r3
            rfl
      · obtain rfl : k = n := by omega
        have hcc := HC.out
        rw [← HN.out] at hcc
        have hlp := HLP.out
        obtain ⟨lp1, lp2, lp3, lp4⟩ := hlp
        have z1 : -9223372036854775808 ≤ most - P := by omega
        have z2 : most - P ≤ 9223372036854775807 := by omega
        by_cases hend : most - P < L
        · rw [chk_end_bad hend, HN.out] at hcc
          have HRR := Lib.hid hcc.symm
          clear hcc HC HLP
          go_wp2
          refine bodyPost_ret (v := .tuple #[.int .i64 k, .int .i64 0, .int .i64 10]) (by simp [results, Try.results22, go_sem]) rfl ⟨?_, HB.out⟩
          have hrr := HRR.out
          injection hrr with r1 r2
          injection r2 with r2 r3
          subst r1 r2 r3
          rfl
        · rw [chk_end_ok hend] at hcc
          have HRR := Lib.hid hcc.symm
          have hend2 : L ≤ most - P := by omega
          have z3 : -9223372036854775808 ≤ P + L := by omega
          have z4 : P + L ≤ 9223372036854775807 := by omega
          clear hcc HC HLP hend
          go_wp2
          refine bodyPost_ret (v := .tuple #[.int .i64 0, .int .i64 (P + L), .int .i64 0]) (by simp [results, Try.results22, go_sem]) rfl ⟨?_, HB.out⟩
          have hrr := HRR.out
          injection hrr with r1 r2
          injection r2 with r2 r3
          subst r1 r2 r3
          rfl
  · have hR : chkR size hv lits most ss = (0, 0, 2) := by unfold chkR; rw [if_neg hok]
    rw [hR]
    unfold exArgs at hok
    have hor : size < 1 ∨ (1 ≤ size ∧ 134217728 < size) ∨ (1 ≤ size ∧ size ≤ 134217728 ∧ hv < 0) ∨ (1 ≤ size ∧ size ≤ 134217728 ∧ 0 ≤ hv ∧ lits < 0) ∨ (1 ≤ size ∧ size ≤ 134217728 ∧ 0 ≤ hv ∧ 0 ≤ lits ∧ most < 0) ∨ (1 ≤ size ∧ size ≤ 134217728 ∧ 0 ≤ hv ∧ 0 ≤ lits ∧ 0 ≤ most ∧ 131072 < most) := by omega
    clear hok hb hR
    rcases hor with h | ⟨h, h1⟩ | ⟨h, h1, h2⟩ | ⟨h, h1, h2, h3⟩ | ⟨h, h1, h2, h3, h4⟩ | ⟨h, h1, h2, h3, h4, h5⟩
    all_goals
      go_enter Try.func22, Try.ntmps22
      go_wp2
      exact bodyPost_ret (v := .tuple #[.int .i64 0, .int .i64 0, .int .i64 2]) (by simp [results, Try.results22, go_sem]) rfl ⟨rfl, Below.refl _ _⟩
end Go.Proofs.Ytndgdehlnmheeaa
