/-
  cells.Build's closure: one cell.
-/
import Derived.Test.YtkffhfdmdcecaaaCePlain
import Derived.Test.YtkffhfdmdcecaaaSpread
import Derived.Test.YtkffhfdmdcecaaaBut
import Derived.Test.YtkffhfdmdcecaaaBits
import Derived.Test.YtkffhfdmdcecaaaCodeNum
import Derived.Maps.OwnOps
namespace Go.Proofs.Ytkffhfdmdcecaaa
set_option linter.all false
set_option maxRecDepth 100000
open Go.RowKit Go.Shelf

theorem But.of_row {w w' : World} {g : Nat} (h : w.grownBy w' (some g)) : But w w' g none := ⟨h.os, h.tape, h.output, h.size, fun k hk hg _ => h.block k hk fun e => hg (by injection e)⟩

theorem grown_set (W : World) (b i : Nat) (v : Value) : W.grownBy (W.setCell ⟨b, i, none⟩ v) (some b) :=
  ⟨rfl, rfl, rfl, (KeepsWalks.setCell W _ v).size, fun k _ hk => Below.heap_setCell _ _ _ k (fun e => hk (by rw [e]))⟩
theorem wrap_sub2 {q N : Nat} (h1 : N ≤ q) (h2 : q ≤ 2 * N) (h3 : N ≤ 512) : wrap64 (wrap64 (q : Int) - (N : Int)) = (q : Int) - (N : Int) := by unfold wrap64; omega
theorem wrap_in9 (n : Int) (h0 : -9223372036854775808 ≤ n) (h1 : n ≤ 9223372036854775807) : IntKind.i64.wrap n = n := by
  rw [wrapEq]; unfold wrap64; omega
theorem len_q (x : Int) (L : Nat) (h0 : 0 ≤ x) (h1 : x ≤ 1023) (hL : Lib.bitLen x.toNat = L) (w : World) : Calls Try.prog 41 #[.int .u64 (IntKind.u64.wrap x)] w fun e w' => e = .returned (.int .i64 (L : Int)) ∧ w' = w := by
  have hx : IntKind.u64.wrap x = x := by rw [IntKind.wrap_u64]; omega
  rw [hx]
  refine (Try.bits_Len _ _ (by omega) (by omega)).mono ?_
  rw [hL]
  exact fun _ _ h => h

set_option maxHeartbeats 1600000 in
theorem cellFn_any {m : Nat} {xs l : List Int} {i p : Nat} {Y : Int} {X c e N : Nat} (hm : m < 10) (hN : 2 ^ m = N) (F : CellFact m xs l i p Y X c e) (hp : p < 512) (w : World) (bt bh bp Bm k : Nat) (A A2 : Option Addr) (n c1 c2 : Nat) (D : DataW Unit)
    (hT : Blk w bt 25 #[.int .i64 m, .slice A n c1]) (hI : Ints w .i64 (.slice A n c1) xs) (hH : Boxed w bh 71 (.map (some Bm))) (hP : Boxed w bp 23 (.slice A2 N c2))
    (hO : w.ownsMap Try.prog 3 (plainElem Try.prog 3) Bm k D) (hD : Had D (l.take i)) (hk : k < maxLen) :
    Calls Try.prog 49 #[.int .i64 p, .pointer (some ⟨bt, 0, none⟩), .pointer (some ⟨bh, 0, none⟩), .pointer (some ⟨bp, 0, none⟩)] w fun e w' =>
      e = .returned (.agg (cellAt m xs l i).toArray) ∧ ∃ D', w'.ownsMap Try.prog 3 (plainElem Try.prog 3) Bm (k + 1) D' ∧ Had D' (l.take (i + 1)) ∧ But w w' Bm none := by
  have HF := Lib.hid F
  have hXN : X ≤ N := by rw [← hN]; exact F.le
  have hN512 : N ≤ 512 := by rw [← hN]; exact (step_le ⟨m, hm⟩).2.2
  have hcX := F.lt
  have hem := F.e_le
  obtain ⟨A', n', c', heq, hnc, hmx, hat⟩ := hI.get
  injection heq with e1 e2 e3
  subst e1 e2 e3
  have hpn : p < n := by
    have := (List.getElem?_eq_some_iff.1 F.norm).1
    rw [hat.1] at this; exact this
  obtain ⟨b, off, Y', rfl, hb, cY, EY⟩ := hat.at_ hpn
  obtain rfl : Y = Y' := by have := F.norm.symm.trans EY; exact Option.some.inj this
  have hput : D.atKey (.int .i64 p) (.lit (.int .i64 0)) = .lit (.int .i64 (c : Int)) := by rw [hD.2 p hp, F.cnt]
  have hD2 := hD.put hp
  rw [F.cnt] at hD2
  have htk : l.take i ++ [(p : Int)] = l.take (i + 1) := by rw [List.take_add_one, F.sym]; rfl
  rw [htk] at hD2
  have HD2 := Lib.hid hD2
  have HAT := Lib.hid hput
  have HN := Lib.hid hN
  have HT := Lib.hid hT
  have HP := Lib.hid hP
  have HH := Lib.hid hH
  have HO := Lib.hid hO
  have hp64 : (Lit.int .i64 (p : Int)).wf = true := WalkArith.wf_i64 (by omega)
  have hc64 : (Lit.int .i64 ((c : Int) + 1)).wf = true := WalkArith.wf_i64 (by omega)
  have hkey := Maps.keyOf_int_mk Try.underlying3 hp64
  obtain ⟨cT0, cT1, -, -⟩ := hT.two
  have cH := hH.cell
  have p0 : (0 : Int) ≤ (p : Int) := by omega
  have p1 : (p : Int) < (n : Int) := by omega
  have lt1 : bt < w.heap.size := hT.lt
  have lt2 : bh < w.heap.size := hH.lt
  have lt3 : bp < w.heap.size := hP.lt
  have s0 : (0 : Int) ≤ (X : Int) + (c : Int) := by omega
  have s1 : (X : Int) + (c : Int) ≤ 1023 := by omega
  have hown := hO.alloc (.cells #[.int .i64 0, .int .i64 0, .int .i64 0] 49)
  have HY : Y = -1 ∧ X = 1 ∨ Y = (X : Int) := by have := F.low; have := F.abs; omega
  clear hD hD2 hput htk hN hT hP hH hO hI hat EY F hnc hmx
  go_enter Try.func49, Try.ntmps49
  have hx : ∃ xm : Int, max Y (-Y) = xm ∧ xm = (X : Int) := ⟨_, rfl, by omega⟩
  obtain ⟨xm, hxm, hxX⟩ := hx
  subst hxX
  have y0 : -1 ≤ Y := by omega
  have y1 : Y ≤ 512 := by omega
  clear HY
  have nT : bt ≠ Bm := by
    have h1 := HT.out
    intro e
    subst e
    obtain ⟨es, ck, hh, _⟩ := HO.out
    rw [show w.heap[bt]? = _ from h1] at hh
    cases hh
  have nP : bp ≠ Bm := own_not_cells HO.out HP.out
  have nW : w.heap.size ≠ Bm := by have := HO.out.lt; omega
  have hbl : Lib.bitLen ((X : Int) + (c : Int)).toNat = e + 1 := by
    rw [show ((X : Int) + (c : Int)).toNat = X + c by omega]
    have h9 : 2 ^ (m + 1) = 2 * N := by rw [Nat.pow_succ, HN.out]; omega
    exact bitLen_eq _ _ HF.out.lo HF.out.hi (by omega)
  have HBL := Lib.hid hbl
  clear hbl
  go_wp2_with (first
    | (at_lookup; refine wpList_lookup_own_int _ rfl _ _ 71 rfl 3 3 .i64 (Maps.int_keyed Try.underlying3) Try.underlying71 Try.underlying3 (zeroInt _) Bm _ D rfl hown _ _ rfl hkey ?_; intro cc hat hwc; rw [HAT.out] at hat; injection hat with hat; injection hat with _ hat; subst hat)
    | (at_mapUpdate; refine wpList_mapUpdate_own _ rfl _ _ _ 71 rfl 3 3 (Maps.int_keyed Try.underlying3) Try.underlying71 _ Bm k D rfl hown hk _ _ _ rfl rfl hkey _ [] (plainElem_int Try.underlying3 hc64) ?_; intro w2 hown2 hgrow2))
  have hbut := But.of_row hgrow2
  have hb1 : Below w.heap.size w (w.alloc (.cells #[.int .i64 0, .int .i64 0, .int .i64 0] 49)) := (Below.refl _ w).alloc (Nat.le_refl _) _
  have hT2 := ((HT.out.alloc _).but hbut nT (by simp) : Blk w2 bt _ _)
  have hP2 := (((show Blk w bp 23 _ from HP.out).alloc _).but hbut nP (by simp) : Blk w2 bp _ _)
  have hR2 := ((Blk.new w 49 #[.int .i64 0, .int .i64 0, .int .i64 0]).but hbut nW (by simp) : Blk w2 w.heap.size _ _)
  obtain ⟨q0, -, -, -⟩ := hT2.two
  have q1 : w2.cell? ⟨bp, 0, none⟩ = some (.slice A2 N c2) := by rw [hP2.cell]; rfl
  have f0 := hR2.frozen 0
  have f1 := hR2.frozen 1
  have f2 := hR2.frozen 2
  have z0 : w2.cell? ⟨w.heap.size, 0, none⟩ = some (.int .i64 0) := by rw [hR2.cell]; rfl
  have z1 : w2.cell? ⟨w.heap.size, 1, none⟩ = some (.int .i64 0) := by rw [hR2.cell]; rfl
  have z2 : w2.cell? ⟨w.heap.size, 2, none⟩ = some (.int .i64 0) := by rw [hR2.cell]; rfl
  have HR2 := Lib.hid hR2
  have HBUT := Lib.hid hbut
  have HOWN2 := Lib.hid hown2
  have m0 : (0 : Int) ≤ (m : Int) := by omega
  have m1 : (m : Int) ≤ 9 := by omega
  clear hb1 hT2 hP2 hR2 hbut hown2 hgrow2 hown cY cT0 cT1 cH hkey
  go_quiet ((go_at_call 41; exact Calls.quiet_of_same (len_q _ (e + 1) s0 s1 HBL.out _)))
  obtain ⟨B, hB⟩ : ∃ B, m - e = B := ⟨_, rfl⟩
  have hbw : IntKind.i64.wrap (IntKind.i64.wrap ((m : Int) + 1) - ((e : Int) + 1)) = (B : Int) := by
    rw [wrap_in9 ((m : Int) + 1) (by omega) (by omega), wrap_in9 _ (by omega) (by omega)]; omega
  rw [hbw]
  have hBm : B ≤ 9 := by omega
  have b0 : (0 : Int) ≤ (B : Int) := by omega
  have b1 : (B : Int) ≤ 9 := by omega
  have HB := Lib.hid hB
  clear hbw hB hem
  go_wp2
  go_region
  have hbd := HF.out.bounds
  have hba := HF.out.base
  have hce := HF.out.cell
  have hN2 := HN.out
  rw [hN2, HB.out] at hbd hba
  have hv : wrap64 (wrap64 (((X : Int) + (c : Int)) * 2 ^ B) - (N : Int)) = baseAt m xs l i := by
    have e1 : ((X : Int) + (c : Int)) * 2 ^ B = (((X + c) * 2 ^ B : Nat) : Int) := by rw [Int.natCast_mul, Int.natCast_pow, Int.natCast_add]; rfl
    obtain ⟨q, hq⟩ : ∃ q, (X + c) * 2 ^ B = q := ⟨_, rfl⟩
    rw [hq] at hba hbd e1
    rw [hba, e1]
    have hq2 : q ≤ 2 * N := Nat.le_trans (Nat.le_add_right _ _) hbd.2
    have hq1 := hbd.1
    exact wrap_sub2 hq1 hq2 hN512
  have hcell : cellAt m xs l i = [.int .i64 (p : Int), .int .i64 (B : Int), .int .i64 (baseAt m xs l i)] := by
    rw [hce, HF.out.base, HB.out]
  rw [hv]
  generalize baseAt m xs l i = V at *
  have HC := Lib.hid hcell
  clear hv hcell hce hba hbd hN2
  obtain ⟨W3, hW3⟩ : ∃ W3, (((w2.drewN (nq + 1)).setCell ⟨w.heap.size, 0, none⟩ (.int .i64 (p : Int))).setCell ⟨w.heap.size, 1, none⟩ (.int .i64 (B : Int))).setCell ⟨w.heap.size, 2, none⟩ (.int .i64 V) = W3 := ⟨_, rfl⟩
  have hR3 : Blk W3 w.heap.size 49 #[.int .i64 (p : Int), .int .i64 (B : Int), .int .i64 V] := by rw [← hW3]; exact ((((HR2.out.drewN _).set_ 0 _).set_ 1 _).set_ 2 _).congr rfl
  have g1 : W3.cell? ⟨w.heap.size, 0, none⟩ = some (.int .i64 (p : Int)) := by rw [hR3.cell]; rfl
  have g2 : W3.cell? ⟨w.heap.size, 1, none⟩ = some (.int .i64 (B : Int)) := by rw [hR3.cell]; rfl
  have g3 : W3.cell? ⟨w.heap.size, 2, none⟩ = some (.int .i64 V) := by rw [hR3.cell]; rfl
  have hne : some Bm ≠ some w.heap.size := fun e => nW (Option.some.inj e).symm
  have HO3 : Hid (W3.ownsMap Try.prog 3 (plainElem Try.prog 3) Bm (k + 1) (D.put (.int .i64 p) (.lit (.int .i64 ((c : Int) + 1))))) := (by
    rw [← hW3]
    exact (((show (w2.drewN (nq + 1)).ownsMap Try.prog 3 (plainElem Try.prog 3) Bm (k + 1) _ from HOWN2.out).kept (grown_set _ _ 0 _) hne).kept (grown_set _ _ 1 _) hne).kept (grown_set _ _ 2 _) hne : World.ownsMap _ _ _ _ _ _ _)
  have HB3 : Hid (But w W3 Bm none) := (by
    rw [← hW3]
    exact ((((((But.of_below ((Below.refl _ w).alloc (Nat.le_refl _) _) _ _).trans HBUT.out (.inl rfl)).drewN _).far (Nat.le_refl _) _ _).far (Nat.le_refl _) _ _).far (Nat.le_refl _) _ _) : But _ _ _ _)
  rw [hW3]
  clear hW3 hne
  go_wp2
  exact bodyPost_ret (v := .agg #[.int .i64 (p : Int), .int .i64 (B : Int), .int .i64 V]) (by simp [results, Try.results49, go_sem, g1, g2, g3]) rfl ⟨by rw [HC.out], _, HO3.out, HD2.out, HB3.out⟩
end Go.Proofs.Ytkffhfdmdcecaaa
