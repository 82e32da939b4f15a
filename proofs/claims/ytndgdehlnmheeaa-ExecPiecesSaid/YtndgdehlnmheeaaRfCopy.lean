/-
  The reference's ring: Copy.
-/
import Derived.Test.YtndgdehlnmheeaaRfAdd
namespace Go.Proofs.Ytndgdehlnmheeaa
set_option maxRecDepth 100000
open Go.RowKit

theorem ext_get {C : List Int} {off : Nat} (h1 : 1 ≤ off) (h2 : off ≤ C.length) (k : Nat) :
    (C ++ copied (lastN off C) off k)[C.length + k - off]? = some ((lastN off C).getD (k % off) 0) := by
  rcases Nat.lt_or_ge k off with h | h
  · rw [List.getElem?_append_left (by omega), Nat.mod_eq_of_lt h, List.getD_eq_getElem?_getD, lastN_get, show C.length - off + k = C.length + k - off by omega]
    rw [List.getElem?_eq_getElem (by omega)]
    rfl
  · rw [List.getElem?_append_right (by omega), show C.length + k - off - C.length = k - off by omega, Nat.mod_eq_sub_mod h]
    simp only [copied, List.getElem?_map]
    rw [List.getElem?_range (by omega)]
    rfl

theorem AddSt.alloc {w W : World} {S T : Nat} {cv v : Value} {xs : List Int} (h : AddSt w W S T cv v xs) (o : Obj) : AddSt w (W.alloc o) S T cv v xs :=
  ⟨h.below.alloc (by have := h.size; omega) o, h.box.alloc o, h.zero.alloc o, h.row.below ((Below.refl _ W).alloc (Nat.le_refl _) o) (Nat.le_refl _), h.own, by have := h.size; simp; omega⟩

/-- The three cells of the box. -/
def Box3 (w W : World) (S T : Nat) (cv : Value) : Prop := W.cell? ⟨w.heap.size, 0, none⟩ = some (.int .i64 S) ∧ W.cell? ⟨w.heap.size, 1, none⟩ = some cv ∧ W.cell? ⟨w.heap.size, 2, none⟩ = some (.int .i64 T)
theorem AddSt.fin {w W W2 : World} {S T : Nat} {cv v : Value} {xs : List Int} (h : AddSt w W S T cv v xs) (hb : Below W.drew.heap.size W.drew W2) :
    Below w.heap.size w W2 ∧ Blk W2 (w.heap.size + 1) 45 #[.int .i64 0, .slice none 0 0, .int .i64 0] ∧ Box3 w W2 S T cv := by
  have hb' : Below W.heap.size W W2 := ⟨hb.os, hb.tape, hb.output, hb.size, hb.block⟩
  have hk := (h.box.below hb' h.box.lt).three
  exact ⟨h.below.trans (hb'.mono (by have := h.size; omega)), h.zero.below hb' h.zero.lt, hk.1, hk.2.1, hk.2.2.1⟩
theorem Box3.stores {w W : World} {S T : Nat} {cv : Value} (h : Box3 w W S T cv) (u0 u1 u2 : Value) : Box3 w (((W.setCell ⟨w.heap.size + 1, 0, none⟩ u0).setCell ⟨w.heap.size + 1, 1, none⟩ u1).setCell ⟨w.heap.size + 1, 2, none⟩ u2) S T cv := by
  obtain ⟨h0, h1, h2⟩ := h
  refine ⟨?_, ?_, ?_⟩ <;> (rw [World.cell?_setCell_other _ _ _ _ (by simp), World.cell?_setCell_other _ _ _ _ (by simp), World.cell?_setCell_other _ _ _ _ (by simp)]; assumption)

theorem refCopy_arg (w : World) (S : Nat) (A : Option Addr) (N c T : Nat) (off n : Int) (hn : n < 0 ∨ 131072 < n) :
    Calls Try.prog 50 #[rv S (.slice A N c) T, .int .i64 off, .int .i64 n] w fun e w' => e = .returned (.tuple #[rv S (.slice A N c) T, .slice none 0 0, .int .i64 2]) ∧ Below w.heap.size w w' := by
  have HB := Lib.hid (((Below.refl w.heap.size w).alloc (Nat.le_refl _) (.cells #[.int .i64 S, .slice A N c, .int .i64 T] 45)).alloc (by simp) (.cells #[.int .i64 S, .slice A N c, .int .i64 T] 45))
  unfold rv
  by_cases h1 : n < 0
  · clear hn
    go_enter Try.func50, Try.ntmps50
    go_wp2
    refine bodyPost_ret (v := .tuple #[rv S (.slice A N c) T, .slice none 0 0, .int .i64 2]) (by simp [results, Try.results50, go_sem]) rfl ?_
    exact ⟨rfl, HB.out⟩
  · have h2 : 131072 < n := by omega
    clear hn
    go_enter Try.func50, Try.ntmps50
    go_wp2
    refine bodyPost_ret (v := .tuple #[rv S (.slice A N c) T, .slice none 0 0, .int .i64 2]) (by simp [results, Try.results50, go_sem]) rfl ?_
    exact ⟨rfl, HB.out⟩

theorem refCopy_seq (w : World) (S : Nat) (A : Option Addr) (N c T : Nat) (off n : Int) (h0 : 0 ≤ n) (hn : n ≤ 131072) (ho : off < 1 ∨ (N : Int) < off) :
    Calls Try.prog 50 #[rv S (.slice A N c) T, .int .i64 off, .int .i64 n] w fun e w' => e = .returned (.tuple #[rv S (.slice A N c) T, .slice none 0 0, .int .i64 15]) ∧ Below w.heap.size w w' := by
  have HB := Lib.hid (((Below.refl w.heap.size w).alloc (Nat.le_refl _) (.cells #[.int .i64 S, .slice A N c, .int .i64 T] 45)).alloc (by simp) (.cells #[.int .i64 S, .slice A N c, .int .i64 T] 45))
  have e1 : ¬ n < 0 := by omega
  have e2 : ¬ 131072 < n := by omega
  unfold rv
  by_cases h1 : off < 1
  · clear ho
    go_enter Try.func50, Try.ntmps50
    go_wp2
    refine bodyPost_ret (v := .tuple #[rv S (.slice A N c) T, .slice none 0 0, .int .i64 15]) (by simp [results, Try.results50, go_sem]) rfl ?_
    exact ⟨rfl, HB.out⟩
  · have h2 : (N : Int) < off := by omega
    clear ho
    go_enter Try.func50, Try.ntmps50
    go_wp2
    refine bodyPost_ret (v := .tuple #[rv S (.slice A N c) T, .slice none 0 0, .int .i64 15]) (by simp [results, Try.results50, go_sem]) rfl ?_
    exact ⟨rfl, HB.out⟩

set_option maxHeartbeats 3200000 in
theorem refCopy_ok (w : World) (S : Nat) (cv : Value) (T : Nat) (C : List Int) (hC : Ints w .u8 cv C) (hS : S ≤ 134217728) (hCS : C.length ≤ S) (off n : Nat) (hn : n ≤ 131072) (h1 : 1 ≤ off) (h2 : off ≤ C.length) (hT : T + n ≤ 9223372036854775807) :
    Calls Try.prog 50 #[rv S cv T, .int .i64 off, .int .i64 n] w fun e w' => ∃ bv' ov, e = .returned (.tuple #[rv S bv' (T + n), ov, .int .i64 0]) ∧
      Ints w' .u8 bv' (lastN S (C ++ copied (lastN off C) off n)) ∧ Ints w' .u8 ov (copied (lastN off C) off n) ∧ Below w.heap.size w w' ∧ (∀ k, bv'.ownBlock = some k → w.heap.size ≤ k) ∧ ∀ k, ov.ownBlock = some k → w.heap.size ≤ k := by
  have HX := Lib.hid (ext_get h1 h2)
  obtain ⟨A, N, c, rfl, hc, hm, hat⟩ := hC.get
  have hN : C.length = N := hat.1
  rw [hN] at h2 HX hCS
  have HN := Lib.hid hN
  have HA := Lib.hid hat
  obtain ⟨F, hF⟩ : ∃ F, lastN off C = F := ⟨_, rfl⟩
  rw [hF] at HX ⊢
  have HCS := Lib.hid hCS
  have HS := Lib.hid hS
  have HTT := Lib.hid hT
  have e1 : ¬ (n : Int) < 0 := by omega
  have e2 : ¬ 131072 < (n : Int) := by omega
  have e3 : ¬ (off : Int) < 1 := by omega
  have e4 : ¬ (N : Int) < (off : Int) := by omega
  have hNb : N ≤ 134217728 := by omega
  clear hC hat hN hF hCS hS hT
  have HB0 := Lib.hid ((((Below.refl w.heap.size w).alloc (Nat.le_refl _) (.cells #[.int .i64 S, .slice A N c, .int .i64 T] 45)).alloc (by simp) (.cells #[.int .i64 0, .slice none 0 0, .int .i64 0] 45)).alloc (by simp; omega) (.cells #[] 5))
  have HR0 := Lib.hid (row_empty_at (w := (w.alloc (.cells #[.int .i64 S, .slice A N c, .int .i64 T] 45)).alloc (.cells #[.int .i64 0, .slice none 0 0, .int .i64 0] 45)) (g := w.heap.size + 1 + 1) (by simp))
  have HK0 := Lib.hid (((Blk.new w 45 #[.int .i64 S, .slice A N c, .int .i64 T]).alloc (.cells #[.int .i64 0, .slice none 0 0, .int .i64 0] 45)).alloc (.cells #[] 5))
  have HJ0 := Lib.hid ((Blk.new1 w (.cells #[.int .i64 S, .slice A N c, .int .i64 T] 45) 45 #[.int .i64 0, .slice none 0 0, .int .i64 0]).alloc (.cells #[] 5))
  unfold rv
  go_enter Try.func50, Try.ntmps50
  go_wp2_with (at_builtin; refine wpList_append_row rfl _ _ rfl (.slice (some ⟨w.heap.size + 1 + 1, 0, none⟩) 0 0) [] C rfl HR0.out A N c rfl (HA.out.below HB0.out (Nat.le_refl _)) (by simp; omega) N (by simp) ?_; intro A3 c3 w2 hrow hgrow hown; have HST := Lib.hid (AddSt.first HB0.out HK0.out HJ0.out hrow hgrow hown); clear hrow hgrow hown)
  clear HB0 HR0 HK0 HJ0
  go_loopw [9, 11] (fun all i wr => ∃ k M : Nat, k ≤ n ∧ i = .int .i64 k ∧ M ≤ 9223372036854775807 ∧ Hid (N + k = M) ∧ ∃ A1 c1, all = .slice A1 M c1 ∧ Hid (AddSt w wr S T (.slice A N c) (.slice A1 M c1) (C ++ copied F off k))) (fun _ i _ => n - (intOf i).toNat)
  case atStart => exact ⟨0, N, Nat.zero_le _, rfl, by omega, (rfl : _ = _), A3, c3, rfl, (by simpa [copied] using HST.out : AddSt _ _ _ _ _ _ _)⟩
  case round =>
    clear HST
    obtain ⟨k, M, hk, rfl, hMb, HM, A1, c1, rfl, HG⟩ := hrel
    have k0 : (0 : Int) ≤ (k : Int) := by omega
    obtain ⟨A2, n2, c2, he, hc2, hm2, hat⟩ := HG.out.row.ints.get
    injection he with he1 he2 he3
    subst he1 he2 he3
    have hMe := HM.out
    have g4 : (M : Int) ≤ 9223372036854775807 := by omega
    by_cases hlt : k < n
    · have k1 : (k : Int) < (n : Int) := by omega
      obtain ⟨b, o, rfl, hcell⟩ := hat.2 (by omega)
      obtain ⟨D, hD⟩ : ∃ D, N + k - off = D := ⟨_, rfl⟩
      have cx := hcell _ _ (HX.out k)
      rw [hD] at cx
      have g1 : (M : Int) - (off : Int) = (D : Int) := by omega
      have g2 : (0 : Int) ≤ (D : Int) := by omega
      have g3 : (D : Int) < (M : Int) := by omega
      obtain ⟨x, hx⟩ : ∃ x, F.getD (k % off) 0 = x := ⟨_, rfl⟩
      rw [hx] at cx
      have HXX := Lib.hid hx
      have HLEN := Lib.hid (hat.1)
      clear hat hcell hD hx hMe
      go_wp2_with (at_builtin; refine wpList_append_row rfl _ _ rfl _ (C ++ copied F off k) [x] rfl (HG.out.alloc _).row (some ⟨wr.heap.size, 0, none⟩) 1 1 rfl (one_at wr _) (by rw [HLEN.out]; have := HM.out; omega) (M + 1) (by rw [HLEN.out]) ?_; intro A4 c4 w3 hrow hgrow hown; have HN2 := Lib.hid ((HG.out.alloc _).next hrow hgrow hown); clear hrow hgrow hown)
      go_roundw
      case rel => exact ⟨k + 1, M + 1, by omega, by go_num, by have := HM.out; omega, (by have := HM.out; omega : _ = _), A4, c4, rfl, (by rw [copied_succ, HXX.out, ← List.append_assoc]; exact HN2.out : AddSt _ _ _ _ _ _ _)⟩
      case measure => simp [intOf]; omega
    · obtain rfl : k = n := by omega
      have hdrop : (C ++ copied F off k).drop N = copied F off k := by
        have : N = C.length := HN.out.symm
        rw [this, List.drop_left]
      have hcut := at_cut hat hc2 (j := N) (by omega)
      rw [hdrop, show M - N = k by omega] at hcut
      have HCI := Lib.hid ((HA.out.ints hc (by simp only [maxLen]; omega)).below HG.out.below (Nat.le_refl _))
      have HS2 : Hid (S ≤ 9223372036854775807) := (by have := HS.out; omega : S ≤ _)
      have g1 : (0 : Int) ≤ (N : Int) := by omega
      have g2 : (N : Int) ≤ (M : Int) := by omega
      have g3 : M - N = k := by omega
      obtain ⟨b0, b1, b2, -⟩ := HG.out.box.three
      clear hat hdrop hMe
      by_cases hcN : c1 = N
      · rw [if_pos hcN] at hcut
        obtain rfl : k = 0 := by omega
        obtain rfl : N = M := by omega
        have hcN' := hcN.symm
        subst hcN'
        have HXI := Lib.hid (hcut.ints (show 0 ≤ 0 by omega) (by simp [maxLen]))
        clear hcut hcN
        have HXD := Lib.hid (show Ints wr.drew _ _ _ from HXI.out)
        have HKEY := Lib.hid (refAdd_any wr.drew S (.slice A N c) (.slice A1 0 0) T C (copied F off 0) (HCI.out : Ints wr _ _ _) (HXI.out : Ints wr _ _ _) HS2.out (by rw [HN.out, copied_length]; omega) (by rw [copied_length]; exact HTT.out))
        rw [copied_length] at HKEY
        go_wp2
        go_region_held3 (fun w' => w'.cell? ⟨w.heap.size, 0, none⟩ = some (.int .i64 S) ∧ w'.cell? ⟨w.heap.size, 1, none⟩ = some (.slice A N c) ∧ w'.cell? ⟨w.heap.size, 2, none⟩ = some (.int .i64 T))
          (first | exact ⟨b0, b1, b2⟩ | exact KB.out | exact (KB5.out _ _ _))
          (first
            | (go_at_call 49; refine HKEY.out.mono ?_; rintro e w5 ⟨bv', rfl, hi, hb, ho⟩; have HO := Lib.hid ho; clear ho; obtain ⟨A5, n5, c5, rfl, -, -, -⟩ := hi.get; have HI5 := Lib.hid hi; have HBB := Lib.hid (HG.out.fin hb); have HO5 := Lib.hid (HXD.out.below hb (Nat.le_refl _)); obtain ⟨j1, j2, j3, j4, j5, j6⟩ := HBB.out.2.1.three; have KB := Lib.hid HBB.out.2.2; have KB5 := Lib.hid (HBB.out.2.2.stores); clear hi hb))
        all_goals
          go_wp2
          have hb6 := ((HBB.out.1.setCell (p := ⟨w.heap.size + 1, 0, none⟩) (by simp) (.int .i64 S)).setCell (p := ⟨w.heap.size + 1, 1, none⟩) (by simp) (.slice A5 n5 c5)).setCell (p := ⟨w.heap.size + 1, 2, none⟩) (by simp) (.int .i64 (T + 0 : Nat))
          refine bodyPost_ret (v := .tuple #[rv S (.slice A5 n5 c5) (T + 0), .slice A1 0 0, .int .i64 0]) (by simp [results, Try.results50, go_sem, j1, j2, j3]) rfl ?_
          exact ⟨_, _, rfl, ints_res HI5.out HBB.out.2.1 (fun x e => by cases e) _ _ _, ints_res HO5.out HBB.out.2.1 (fun x e => by cases e) _ _ _, hb6, fun k hk => Nat.le_trans HG.out.below.size (HO.out k hk), fun k hk => by have := HG.out.own k ((own_any _ _ _ _ _).trans hk); omega⟩
      · rw [if_neg hcN] at hcut
        have HXI := Lib.hid (hcut.ints (show k ≤ c1 - N by omega) (by simp only [maxLen]; omega))
        clear hcut
        have HXD := Lib.hid (show Ints wr.drew _ _ _ from HXI.out)
        have HKEY := Lib.hid (refAdd_any wr.drew S (.slice A N c) (.slice (A1.map (·.add N)) k (c1 - N)) T C (copied F off k) (HCI.out : Ints wr _ _ _) (HXI.out : Ints wr _ _ _) HS2.out (by rw [HN.out, copied_length]; omega) (by rw [copied_length]; exact HTT.out))
        rw [copied_length] at HKEY
        go_wp2
        go_region_held3 (fun w' => w'.cell? ⟨w.heap.size, 0, none⟩ = some (.int .i64 S) ∧ w'.cell? ⟨w.heap.size, 1, none⟩ = some (.slice A N c) ∧ w'.cell? ⟨w.heap.size, 2, none⟩ = some (.int .i64 T))
          (first | exact ⟨b0, b1, b2⟩ | exact KB.out | exact (KB5.out _ _ _))
          (first
            | (go_at_call 49; refine HKEY.out.mono ?_; rintro e w5 ⟨bv', rfl, hi, hb, ho⟩; have HO := Lib.hid ho; clear ho; obtain ⟨A5, n5, c5, rfl, -, -, -⟩ := hi.get; have HI5 := Lib.hid hi; have HBB := Lib.hid (HG.out.fin hb); have HO5 := Lib.hid (HXD.out.below hb (Nat.le_refl _)); obtain ⟨j1, j2, j3, j4, j5, j6⟩ := HBB.out.2.1.three; have KB := Lib.hid HBB.out.2.2; have KB5 := Lib.hid (HBB.out.2.2.stores); clear hi hb))
        all_goals
          go_wp2
          have hb6 := ((HBB.out.1.setCell (p := ⟨w.heap.size + 1, 0, none⟩) (by simp) (.int .i64 S)).setCell (p := ⟨w.heap.size + 1, 1, none⟩) (by simp) (.slice A5 n5 c5)).setCell (p := ⟨w.heap.size + 1, 2, none⟩) (by simp) (.int .i64 (T + k : Nat))
          refine bodyPost_ret (v := .tuple #[rv S (.slice A5 n5 c5) (T + k), .slice (A1.map (·.add N)) k (c1 - N), .int .i64 0]) (by simp [results, Try.results50, go_sem, j1, j2, j3]) rfl ?_
          exact ⟨_, _, rfl, ints_res HI5.out HBB.out.2.1 (fun x e => by cases e) _ _ _, ints_res HO5.out HBB.out.2.1 (fun x e => by cases e) _ _ _, hb6, fun k hk => Nat.le_trans HG.out.below.size (HO.out k hk), fun k hk => by have := HG.out.own k ((own_map _ _ _ _ _ _).symm.trans hk); omega⟩
end Go.Proofs.Ytndgdehlnmheeaa
