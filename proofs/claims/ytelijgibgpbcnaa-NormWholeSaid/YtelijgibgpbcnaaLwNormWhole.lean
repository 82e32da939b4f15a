/-
  NormWhole: the law's walk.
-/
import Derived.Test.YtelijgibgpbcnaaLwNormTimes
import Derived.Test.YtelijgibgpbcnaaNormEq
namespace Go.Proofs.Ytelijgibgpbcnaa
open Go.RowKit

set_option maxHeartbeats 3200000 in
theorem normWhole_walk (log : Int) (v : Value) (xs : List Int) (_ : (Lit.int .i64 log).wf = true) {w : World} (hI : Ints w .i64 v xs ∧ ∀ z ∈ xs, (Lit.int .i64 z).wf = true) (t : Int) (_ : (Lit.int .i64 t).wf = true) :
    Calls Try.prog 8 #[.agg #[.int .i64 log, v], .int .i64 t] w fun e w' => e = .returned (.bool true) ∧ Below w.heap.size w w' := by
  obtain ⟨hI, -⟩ := hI
  have HI := Lib.hid hI
  obtain ⟨A, n, c, rfl, hc, hmx, hx⟩ := hI.get
  have hcl : xs.length = n := hx.1
  have HCL := Lib.hid hcl
  have HX := Lib.hid hx
  clear hx hI hcl
  have hb0 : ∀ o, Below w.heap.size w (w.alloc o) := fun o => (Below.refl _ w).alloc (Nat.le_refl _) o
  have HB0 := Lib.hid hb0
  clear hb0
  obtain ⟨i0, hi, hz0, hz1, hz2⟩ := info_parts infoInt
  by_cases h6 : 300 < (n : Int)
  · go_enter Try.func8, Try.ntmps8
    go_wp2_with (go_at_call 12; refine (known_any _).mono ?_; rintro e w2 ⟨rfl, hb⟩; have HB := Lib.hid ((HB0.out _).trans (hb.mono (by simp))); clear hb)
    go_ret
    exact ⟨rfl, HB.out⟩
  by_cases ht1 : t < 1
  · go_enter Try.func8, Try.ntmps8
    go_wp2_with (go_at_call 12; refine (known_any _).mono ?_; rintro e w2 ⟨rfl, hb⟩; have HB := Lib.hid ((HB0.out _).trans (hb.mono (by simp))); clear hb)
    go_ret
    exact ⟨rfl, HB.out⟩
  by_cases ht2 : 1000000 < t
  · go_enter Try.func8, Try.ntmps8
    go_wp2_with (go_at_call 12; refine (known_any _).mono ?_; rintro e w2 ⟨rfl, hb⟩; have HB := Lib.hid ((HB0.out _).trans (hb.mono (by simp))); clear hb)
    go_ret
    exact ⟨rfl, HB.out⟩
  by_cases hv : Valid log xs 300 9
  · have HV := Lib.hid hv
    clear hv
    go_enter Try.func8, Try.ntmps8
    go_wp2_with fail
    refine (may_any log _ xs 300 9 _ (HI.out.alloc _)).mono ?_
    rw [chk_0 HV.out]
    rintro e w1 ⟨rfl, hb⟩
    have HB1 := Lib.hid ((HB0.out _).trans (hb.mono (by simp)))
    have HR1 := Lib.hid ((Blk.new w 25 #[.int .i64 log, .slice A n c]).below hb (by simp))
    clear hb
    obtain ⟨c0, c1, -, -⟩ := HR1.out.two
    go_wp2
    go_loopw [5, 6] (fun out i wr => ∃ k : Nat, k ≤ n ∧ i = .int .i64 k ∧ Hid (Grow wr w1.heap.size 3 .i64 out ((xs.take k).map (· * t))) ∧ Hid (Below w1.heap.size w1 wr) ∧ Hid (∀ x ∈ xs.take k, 0 ≤ x)) (fun _ i _ => n - (intOf i).toNat)
    case atStart => exact ⟨0, Nat.zero_le _, rfl, (Grow.nil _ _ _ _ : Grow _ _ _ _ _ ((xs.take 0).map (· * t))), (Below.refl _ _ : Below _ _ _), (fun x hx => by simp at hx : ∀ x ∈ xs.take 0, 0 ≤ x)⟩
    case round =>
      obtain ⟨k, hk, rfl, HG, HBL, HA⟩ := hrel
      have k0 : (0 : Int) ≤ (k : Int) := by omega
      obtain ⟨d0, d1, -, -⟩ := (HR1.out.below HBL.out HR1.out.lt).two
      have HBW := Lib.hid (HB1.out.trans (HBL.out.mono HB1.out.size))
      by_cases hlt : k < n
      · obtain ⟨b, off, x, rfl, hb, cx, EX⟩ := HX.out.at_ hlt
        replace cx := (HBW.out.cell hb).trans cx
        have k1 : (k : Int) < (n : Int) := by omega
        by_cases hx0 : x < 0
        · go_wp2_with (go_at_call 12; refine (known_any _).mono ?_; rintro e w2 ⟨rfl, hb⟩; have HB := Lib.hid (HBW.out.trans (hb.mono HBW.out.size)); clear hb)
          go_ret
          exact ⟨rfl, HB.out⟩
        have hx5 : x ≤ 512 := by
          have h1 := statesSum_take_succ EX.out
          have h2 := statesSum_take_le xs (k + 1)
          have h3 := statesSum_nonneg (xs.take k)
          have h4 := HV.out.2.2.2.2.2.2.2
          have h5 := two_pow_le HV.out.1 HV.out.2.2.1
          omega
        obtain ⟨p1, p2⟩ := prod_bounds (show 0 ≤ x by omega) hx5 (show 0 ≤ t by omega) (show t ≤ 1000000 by omega) (by omega)
        have hrow : wr.ownsRow w1.heap.size 3 1 _ _ _ := HG.out
        have hrl : ((xs.take k).map (· * t)).length ≤ 300 := by rw [List.length_map, List.length_take]; omega
        have hwsz : w1.heap.size ≤ wr.heap.size := HBL.out.size
        have HMT : Hid ((xs.take (k + 1)).map (· * t) = (xs.take k).map (· * t) ++ [x * t]) := (map_take_succ EX.out : _ = _)
        have HA2 : Hid (∀ y ∈ xs.take (k + 1), 0 ≤ y) := (fun y hy => by
          rw [List.take_add_one, EX.out] at hy
          simp at hy
          rcases hy with hy | rfl
          · exact HA.out y hy
          · omega : ∀ y ∈ xs.take (k + 1), 0 ≤ y)
        go_wp2_with (at_builtin; refine wpList_append_own _ rfl _ _ 22 rfl w1.heap.size 3 i0 (.int .i64 0) 1 8 Try.underlying22 hi hz0 hz1 hz2 rfl (by decide) _ _ _ rfl (hrow.alloc _) ⟨wr.heap.size, 0, none⟩ 1 1 [.int .i64 (x * t)] rfl rfl (cell_one_new _ _ _) (by simp [Value.oneCell']) (by unfold maxLen; omega) (by omega) (by simp; omega) ?_; intro v2 w2 hown2 hgrow2 _; have H2 := Lib.hid (HG.out.app HBL.out hwsz hown2 hgrow2); clear hown2 hgrow2)
        go_roundw
        case rel => exact ⟨k + 1, by omega, by go_num, (by rw [HMT.out]; exact H2.out.1 : Grow _ _ _ _ _ _), (H2.out.2 : Below _ _ _), HA2⟩
        case measure => simp [intOf]; omega
      · obtain rfl : k = n := by omega
        have htk : xs.take k = xs := List.take_of_length_le (by rw [HCL.out]; omega)
        have hg := HG.out
        have ha := HA.out
        rw [htk] at hg ha
        have hwk := whole_ok HV.out ha (show 1 ≤ t by omega) (show t ≤ 1000000 by omega)
        have HWK := Lib.hid hwk
        have HGI := Lib.hid hg.ints
        have HML : Hid ((xs.map (· * t)).length ≤ 1000) := (by rw [List.length_map, HCL.out]; omega : _ ≤ _)
        clear htk hg ha hwk HG HA
        go_wp2_with fail
        refine (normalize_ok _ (xs.map (· * t)) log _ HGI.out HWK.out.1 HML.out).mono ?_
        intro e w2 hp
        obtain ⟨g, l, c1, rfl, hg, HI2, hb, HL, hl⟩ := hp.get HML.out
        rw [HWK.out.2] at HI2
        have HB2 := Lib.hid (HBW.out.trans (hb.mono HBW.out.size))
        have HR2 := Lib.hid (((HR1.out.below HBL.out HR1.out.lt).below hb (Nat.lt_of_lt_of_le HR1.out.lt HBL.out.size)))
        clear hp hb HL
        obtain ⟨f0, f1, -, -⟩ := HR2.out.two
        have hlt2 : w.heap.size < w2.heap.size := HR2.out.lt
        go_wp2_with (first | (go_at_call 22; refine (normEq_true _ _ _ xs _ ((HI.out.below HB2.out (Nat.le_refl _)).alloc _) (HI2.out.alloc _)).mono ?_; rintro e w3 ⟨rfl, hb⟩; have HB3 := Lib.hid ((HB2.out.alloc HB2.out.size _).trans (hb.mono (by have := HB2.out.size; simp; omega))); clear hb) | (go_at_call 12; refine (known_any _).mono ?_; rintro e w4 ⟨rfl, hb⟩; have HB4 := Lib.hid (HB3.out.trans (hb.mono HB3.out.size)); clear hb))
        go_ret
        exact ⟨rfl, HB4.out⟩
  · have HV := Lib.hid hv
    clear hv
    go_enter Try.func8, Try.ntmps8
    go_wp2_with fail
    refine (may_any log _ xs 300 9 _ (HI.out.alloc _)).mono ?_
    rw [chk_13 HV.out]
    rintro e w1 ⟨rfl, hb⟩
    have HB1 := Lib.hid ((HB0.out _).trans (hb.mono (by simp)))
    clear hb
    go_wp2_with (go_at_call 12; refine (known_any _).mono ?_; rintro e w2 ⟨rfl, hb⟩; have HB := Lib.hid (HB1.out.trans (hb.mono HB1.out.size)); clear hb)
    go_ret
    exact ⟨rfl, HB.out⟩
end Go.Proofs.Ytelijgibgpbcnaa
