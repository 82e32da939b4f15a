/-
  NormTimes: the law's walk.
-/
import Derived.Test.YtelijgibgpbcnaaNmSt
namespace Go.Proofs.Ytelijgibgpbcnaa
open Go.RowKit

theorem map_take_succ {cs : List Int} {k : Nat} {x t : Int} (h : cs[k]? = some x) : (cs.take (k + 1)).map (· * t) = (cs.take k).map (· * t) ++ [x * t] := by
  rw [List.take_add_one, h, List.map_append]; rfl

set_option maxHeartbeats 3200000 in
theorem normTimes_walk (v : Value) (cs : List Int) {w : World} (hI : Ints w .i64 v cs ∧ ∀ z ∈ cs, (Lit.int .i64 z).wf = true) (log : Int) (_ : (Lit.int .i64 log).wf = true) (t : Int) (_ : (Lit.int .i64 t).wf = true) :
    Calls Try.prog 7 #[v, .int .i64 log, .int .i64 t] w fun e w' => e = .returned (.bool true) ∧ Below w.heap.size w w' := by
  obtain ⟨hI, -⟩ := hI
  have HI := Lib.hid hI
  obtain ⟨A, n, c, rfl, hc, hmx, hx⟩ := hI.get
  have hcl : cs.length = n := hx.1
  have HCL := Lib.hid hcl
  have HX := Lib.hid hx
  clear hx hI hcl
  obtain ⟨i0, hi, hz0, hz1, hz2⟩ := info_parts infoInt
  by_cases h6 : 300 < (n : Int)
  · go_enter Try.func7, Try.ntmps7
    go_wp2_with (go_at_call 12; refine (known_any _).mono ?_; rintro e w2 ⟨rfl, hb⟩; have HB := Lib.hid hb; clear hb)
    go_ret
    exact ⟨rfl, HB.out⟩
  by_cases ht1 : t < 1
  · go_enter Try.func7, Try.ntmps7
    go_wp2_with (go_at_call 12; refine (known_any _).mono ?_; rintro e w2 ⟨rfl, hb⟩; have HB := Lib.hid hb; clear hb)
    go_ret
    exact ⟨rfl, HB.out⟩
  by_cases ht2 : 30 < t
  · go_enter Try.func7, Try.ntmps7
    go_wp2_with (go_at_call 12; refine (known_any _).mono ?_; rintro e w2 ⟨rfl, hb⟩; have HB := Lib.hid hb; clear hb)
    go_ret
    exact ⟨rfl, HB.out⟩
  have HLEN : Hid (cs.length ≤ 300) := (by rw [HCL.out]; omega : cs.length ≤ 300)
  go_enter Try.func7, Try.ntmps7
  go_wp2
  go_loopw [7, 8] (fun out i wr => ∃ k : Nat, k ≤ n ∧ i = .int .i64 k ∧ Hid (Grow wr w.heap.size 3 .i64 out ((cs.take k).map (· * t))) ∧ Hid (Below w.heap.size w wr) ∧ Hid (∀ x ∈ cs.take k, 0 ≤ x ∧ x ≤ 100000000)) (fun _ i _ => n - (intOf i).toNat)
  case atStart => exact ⟨0, Nat.zero_le _, rfl, (Grow.nil _ _ _ _ : Grow _ _ _ _ _ ((cs.take 0).map (· * t))), (Below.refl _ _ : Below _ _ _), (fun x hx => by simp at hx : ∀ x ∈ cs.take 0, 0 ≤ x ∧ x ≤ 100000000)⟩
  case round =>
    obtain ⟨k, hk, rfl, HG, HBL, HA⟩ := hrel
    have k0 : (0 : Int) ≤ (k : Int) := by omega
    by_cases hlt : k < n
    · obtain ⟨b, off, x, rfl, hb, cx, EX⟩ := HX.out.at_ hlt
      replace cx := (HBL.out.cell hb).trans cx
      have k1 : (k : Int) < (n : Int) := by omega
      by_cases hx0 : x < 0
      · go_wp2_with (go_at_call 12; refine (known_any _).mono ?_; rintro e w2 ⟨rfl, hb⟩; have HB := Lib.hid (HBL.out.trans (hb.mono HBL.out.size)); clear hb)
        go_ret
        exact ⟨rfl, HB.out⟩
      by_cases hx8 : 100000000 < x
      · go_wp2_with (go_at_call 12; refine (known_any _).mono ?_; rintro e w2 ⟨rfl, hb⟩; have HB := Lib.hid (HBL.out.trans (hb.mono HBL.out.size)); clear hb)
        go_ret
        exact ⟨rfl, HB.out⟩
      obtain ⟨p1, p2⟩ := prod_bounds (show 0 ≤ x by omega) (show x ≤ 100000000 by omega) (show 0 ≤ t by omega) (show t ≤ 30 by omega) (by omega)
      have hrow : wr.ownsRow w.heap.size 3 1 _ _ _ := HG.out
      have hrl : ((cs.take k).map (· * t)).length ≤ 300 := by rw [List.length_map, List.length_take]; omega
      have hwsz : w.heap.size ≤ wr.heap.size := HBL.out.size
      have HMT : Hid ((cs.take (k + 1)).map (· * t) = (cs.take k).map (· * t) ++ [x * t]) := (map_take_succ EX.out : _ = _)
      have HA2 : Hid (∀ y ∈ cs.take (k + 1), 0 ≤ y ∧ y ≤ 100000000) := (fun y hy => by
        rw [List.take_add_one, EX.out] at hy
        simp at hy
        rcases hy with hy | rfl
        · exact HA.out y hy
        · omega : ∀ y ∈ cs.take (k + 1), 0 ≤ y ∧ y ≤ 100000000)
      go_wp2_with (at_builtin; refine wpList_append_own _ rfl _ _ 22 rfl w.heap.size 3 i0 (.int .i64 0) 1 8 Try.underlying22 hi hz0 hz1 hz2 rfl (by decide) _ _ _ rfl (hrow.alloc _) ⟨wr.heap.size, 0, none⟩ 1 1 [.int .i64 (x * t)] rfl rfl (cell_one_new _ _ _) (by simp [Value.oneCell']) (by unfold maxLen; omega) (by omega) (by simp; omega) ?_; intro v2 w2 hown2 hgrow2 _; have H2 := Lib.hid (HG.out.app HBL.out hwsz hown2 hgrow2); clear hown2 hgrow2)
      go_roundw
      case rel => exact ⟨k + 1, by omega, by go_num, (by rw [HMT.out]; exact H2.out.1 : Grow _ _ _ _ _ _), (H2.out.2 : Below _ _ _), HA2⟩
      case measure => simp [intOf]; omega
    · obtain rfl : k = n := by omega
      have htk : cs.take k = cs := List.take_of_length_le (by rw [HCL.out]; omega)
      have hg := HG.out
      have ha := HA.out
      rw [htk] at hg ha
      obtain ⟨e1, e2, e3⟩ := nAll_mul (log := log) ha HLEN.out (show 1 ≤ t by omega) (show t ≤ 30 by omega)
      have HE : Hid (nL (cs.map (· * t)) log = nL cs log ∧ nN (cs.map (· * t)) log = nN cs log ∧ nE (cs.map (· * t)) log = nE cs log) := ⟨e1, e2, e3⟩
      have HGI := Lib.hid hg.ints
      have HBX := HBL
      clear htk hg ha e1 e2 e3 HG HA
      go_wp2_with fail
      refine (normalize_all _ cs log _ (HI.out.below HBX.out (Nat.le_refl _)) (by have := HLEN.out; omega)).mono ?_
      rintro e w1 ⟨A1, l1, c1, rfl, HI1, hb⟩
      have HB1 := Lib.hid (HBX.out.trans (hb.mono HBX.out.size))
      have HBOX := Lib.hid (Blk.new w1 25 #[.int .i64 (nL cs log), .slice A1 l1 c1])
      have HGI1 := Lib.hid ((HGI.out.below hb (Nat.le_refl _)).alloc (.cells #[.int .i64 (nL cs log), .slice A1 l1 c1] 25))
      clear hb
      go_wp2_with fail
      refine (normalize_all _ (cs.map (· * t)) log _ HGI1.out (by rw [List.length_map]; have := HLEN.out; omega)).mono ?_
      rintro e w2 ⟨A2, l2, c2, rfl, HI2, hb⟩
      rw [HE.out.1, HE.out.2.2]
      rw [HE.out.2.1] at HI2
      obtain ⟨b0, b1, -, -⟩ := (HBOX.out.below hb HBOX.out.lt).two
      have HB2 := Lib.hid ((HB1.out.alloc HB1.out.size _).trans (hb.mono (by have := HB1.out.size; simp; omega)))
      have HI3 := Lib.hid ((HI1.out.alloc _).below hb (Nat.le_refl _))
      have hlt : w1.heap.size < w2.heap.size := by have := hb.size; simp at this; omega
      clear hb
      go_wp2_with (first | (go_at_call 15; refine (same_true _ _ _ (nN cs log) _ (HI3.out.alloc _) (HI2.out.alloc _)).mono ?_; rintro e w3 ⟨rfl, hb⟩; have HB3 := Lib.hid ((HB2.out.alloc HB2.out.size _).trans (hb.mono (by have := HB2.out.size; simp; omega))); clear hb) | (go_at_call 12; refine (known_any _).mono ?_; rintro e w4 ⟨rfl, hb⟩; have HB4 := Lib.hid (HB3.out.trans (hb.mono HB3.out.size)); clear hb))
      go_ret
      exact ⟨rfl, HB4.out⟩
end Go.Proofs.Ytelijgibgpbcnaa
