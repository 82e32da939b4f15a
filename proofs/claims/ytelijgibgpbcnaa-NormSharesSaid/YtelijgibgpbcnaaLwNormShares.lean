/-
  NormShares: the law's walk.
-/
import Derived.Test.YtelijgibgpbcnaaLwNormOrder
namespace Go.Proofs.Ytelijgibgpbcnaa
open Go.RowKit

/-- Whether one of the first k symbols has a share below 1. -/
def rareTo (cs : List Int) (S T : Int) : Nat → Bool
  | 0 => false
  | k + 1 => rareTo cs S T k || (decide (0 < gt cs k) && decide (gt cs k * S < T))
theorem rareTo_no {cs : List Int} {S T : Int} : ∀ {k : Nat}, rareTo cs S T k = false → ∀ i, i < k → 0 < gt cs i → ¬ gt cs i * S < T
  | k + 1, h, i, hi, hp => by
    unfold rareTo at h
    rw [Bool.or_eq_false_iff] at h
    rcases Nat.lt_or_ge i k with h1 | h1
    · exact rareTo_no h.1 i h1 hp
    · obtain rfl : i = k := by omega
      intro h2
      have := h.2
      simp [hp, h2] at this
theorem rareTo_yes {cs : List Int} {S T : Int} : ∀ {k i : Nat}, i < k → 0 < gt cs i → gt cs i * S < T → rareTo cs S T k = true
  | k + 1, i, hi, hp, h => by
    unfold rareTo
    rcases Nat.lt_or_ge i k with h1 | h1
    · rw [rareTo_yes h1 hp h]; rfl
    · obtain rfl : i = k := by omega
      simp [hp, h]

set_option maxRecDepth 100000 in
set_option maxHeartbeats 6400000 in
theorem normShares_walk (v : Value) (cs : List Int) {w : World} (hI : Ints w .i64 v cs ∧ ∀ z ∈ cs, (Lit.int .i64 z).wf = true) (log : Int) (_ : (Lit.int .i64 log).wf = true) :
    Calls Try.prog 6 #[v, .int .i64 log] w fun e w' => e = .returned (.bool true) ∧ Below w.heap.size w w' := by
  obtain ⟨hI, -⟩ := hI
  have HI := Lib.hid hI
  obtain ⟨A, n, c, rfl, hc, hmx, hx⟩ := hI.get
  have hcl : cs.length = n := hx.1
  have HCL := Lib.hid hcl
  have HX := Lib.hid hx
  clear hx hI hcl
  by_cases h6 : 300 < (n : Int)
  · go_enter Try.func6, Try.ntmps6
    go_wp2_with (go_at_call 12; refine (known_any _).mono ?_; rintro e w2 ⟨rfl, hb⟩; have HB := Lib.hid hb; clear hb)
    go_ret
    exact ⟨rfl, HB.out⟩
  have HLEN : Hid (cs.length ≤ 1000) := (by rw [HCL.out]; omega : cs.length ≤ 1000)
  by_cases hok : NOk cs log
  · have HOK := Lib.hid hok
    have HNF := Lib.hid (norms_facts hok.cok)
    have l0 : 0 ≤ log := hok.2.2.1
    have l9 : log ≤ 9 := hok.2.2.2.1
    have hS := two_pow_le l0 l9
    have hsize := fun W => size_in log l0 (by omega) W
    obtain ⟨ns, hns⟩ : ∃ ns, normsOf cs (2 ^ log.toNat) = ns := ⟨_, rfl⟩
    rw [hns] at HNF
    have HNS := Lib.hid hns
    obtain ⟨S, hSe⟩ : ∃ S, (2 : Int) ^ log.toNat = S := ⟨_, rfl⟩
    rw [hSe] at hS hsize HNF
    obtain ⟨hS1, hS5⟩ := hS
    have HSZ := Lib.hid hsize
    obtain ⟨T, hTe⟩ : ∃ T, cs.sum = T := ⟨_, rfl⟩
    have hT0 := total_pos hok.1 hok.2.1
    have hT4 := hok.1.2
    have hcb : ∀ i, 0 ≤ gt cs i ∧ gt cs i ≤ T := fun i => ⟨gt_nonneg hok.1 i, by rw [← hTe]; exact gt_le_total hok.1 i⟩
    rw [hTe] at hT0 hT4
    have HT := Lib.hid hTe
    have HCBD := Lib.hid hcb
    have HRES : Hid (CRes cs = .returned (.tuple #[.int .i64 T, .int .i64 (usedOf cs), .bool true])) := CRes_yes hok.1 hTe.symm rfl (decide_eq_true (by have := hok.2.1; omega)).symm
    clear hok hns hSe hTe hsize hcb
    go_enter Try.func6, Try.ntmps6
    go_wp2_with fail
    refine (normalize_ok _ cs log _ HI.out HOK.out HLEN.out).mono ?_
    intro e w1 hp
    obtain ⟨g, l, c1, rfl, hg, HI2, hb, HL, hl⟩ := hp.get HLEN.out
    rw [HNS.out] at HI2 HL
    have HST := Lib.hid (LwSt.start (log := log) (c2 := c1) hb HI2.out.at__ HX.out)
    have hln : l ≤ n := by
      have h1 := HNF.out.len
      rw [HL.out, HCL.out] at h1
      exact h1
    have HI4 := Lib.hid ((HI.out.below hb (Nat.le_refl _)).alloc (.cells #[.int .i64 log, .slice (some ⟨g, 0, none⟩) l c1] 25))
    clear hp hb
    go_wp2_with fail
    refine (counts_any _ cs _ HI4.out).mono ?_
    rw [HRES.out]
    rintro e w' ⟨rfl, rfl⟩
    go_wp2_with fail
    refine (HSZ.out _).mono ?_
    rintro e w' ⟨rfl, rfl⟩
    go_wp2
    obtain ⟨W0, hW0⟩ : ∃ W0, w1.alloc (.cells #[.int .i64 log, .slice (some ⟨g, 0, none⟩) l c1] 25) = W0 := ⟨_, rfl⟩
    rw [hW0] at HST ⊢
    clear hW0 HI4
    go_loop [11, 12] (fun r i => ∃ k : Nat, k ≤ n ∧ i = .int .i64 k ∧ ∃ b : Bool, r = .bool b ∧ Hid (rareTo cs S T k = b)) (fun _ i => n - (intOf i).toNat)
    case atStart => exact ⟨0, Nat.zero_le _, rfl, false, rfl, (rfl : _ = _)⟩
    case round =>
      obtain ⟨k, hk, rfl, rb, rfl, HRB⟩ := hrel
      have k0 : (0 : Int) ≤ (k : Int) := by omega
      by_cases hlt : k < n
      · have k1 : (k : Int) < (n : Int) := by omega
        obtain ⟨b, off, rfl, cx⟩ := HST.out.cnt.one hlt
        obtain ⟨x, hx⟩ : ∃ x, gt cs k = x := ⟨_, rfl⟩
        obtain ⟨hx0, hxT⟩ := HCBD.out k
        rw [hx] at cx hx0 hxT
        obtain ⟨hp1, hp2⟩ := prod_bounds hx0 (Int.le_trans hxT hT4) (show 0 ≤ S by omega) hS5 (by omega)
        have HXE := Lib.hid hx
        have hrs : rareTo cs S T (k + 1) = (rb || (decide (0 < x) && decide (x * S < T))) := by rw [rareTo, HRB.out, HXE.out]
        have HRS := Lib.hid hrs
        clear hx hrs
        cases rb with
        | true =>
          go_wp2
          go_round
          case rel => exact ⟨k + 1, by omega, by go_num, true, rfl, (by rw [HRS.out]; rfl : _ = _)⟩
          case measure => simp [intOf]; omega
        | false =>
          by_cases hpos : 0 < x
          · by_cases hr : x * S < T
            · go_wp2
              go_round
              case rel => exact ⟨k + 1, by omega, by go_num, true, rfl, (by rw [HRS.out]; simp [hpos, hr] : _ = _)⟩
              case measure => simp [intOf]; omega
            · have hrb : decide (x * S < T) = false := decide_eq_false hr
              go_wp2
              go_round
              case rel => exact ⟨k + 1, by omega, by go_num, false, rfl, (by rw [HRS.out]; simp [hr] : _ = _)⟩
              case measure => simp [intOf]; omega
          · have hpb : decide (0 < x) = false := decide_eq_false hpos
            go_wp2
            go_round
            case rel => exact ⟨k + 1, by omega, by go_num, false, rfl, (by rw [HRS.out, hpb]; rfl : _ = _)⟩
            case measure => simp [intOf]; omega
      · obtain rfl : k = n := by omega
        go_wp2
        go_loopw [13] (fun i wr => ∃ j : Nat, j ≤ l ∧ i = .int .i64 j ∧ ∃ m, wr = W0.drewN m) (fun i _ => l - (intOf i).toNat)
        case atStart => exact ⟨0, Nat.zero_le _, rfl, 0, rfl⟩
        case round =>
          obtain ⟨j, hj, rfl, m, rfl⟩ := hrel
          have j0 : (0 : Int) ≤ (j : Int) := by omega
          obtain ⟨b0, b1, -, -⟩ := HST.out.box.two
          by_cases hjl : j < l
          · have j1 : (j : Int) < (l : Int) := by omega
            have j2 : (j : Int) < (k : Int) := by omega
            have jn : j < k := by omega
            obtain ⟨b, off, hA, cx⟩ := HST.out.cnt.one jn
            subst hA
            obtain ⟨b', off', hA', cy⟩ := HST.out.tab.one hjl
            injection hA' with hA'
            injection hA' with h1 h2
            subst h1 h2
            obtain ⟨x, hx⟩ : ∃ x, gt cs j = x := ⟨_, rfl⟩
            obtain ⟨y, hy⟩ : ∃ y, gt ns j = y := ⟨_, rfl⟩
            have hg1 := HNF.out.ge j
            have hrare := HNF.out.rare j (by rw [HL.out]; exact hjl)
            have hsm := HNF.out.small j
            have hover := HNF.out.over j
            have hund : rareTo cs S T k = false → -cs.sum < ((gt ns j).natAbs : Int) * cs.sum - gt cs j * S := fun h => HNF.out.under (fun i hi => by
              rw [HT.out]
              by_cases hik : i < k
              · exact rareTo_no h i hik hi
              · rw [gt_none (by rw [HCL.out]; omega)] at hi; omega) j
            obtain ⟨hx0, hxT⟩ := HCBD.out j
            obtain ⟨a, ha⟩ : ∃ a, y.natAbs = a := ⟨_, rfl⟩
            rw [hx] at cx hx0 hxT hrare hover hund
            rw [hy] at cy hg1 hrare hsm hover hund
            rw [ha] at hsm hover hund
            rw [HT.out] at hrare hover hund
            rw [Nat.zero_add] at cy
            have HA := Lib.hid ha
            obtain ⟨hp1, hp2⟩ := prod_bounds hx0 (Int.le_trans hxT hT4) (show 0 ≤ S by omega) hS5 (by omega)
            obtain ⟨hp3, hp4⟩ := prod_bounds (show (0 : Int) ≤ (a : Int) by omega) (show (a : Int) ≤ 512 by omega) (show 0 ≤ T by omega) hT4 (by omega)
            have e1 : IntKind.i64.wrap (x * S) = x * S := IntWalk.i64_in _ (by omega)
            have e2 : IntKind.i64.wrap (-T) = -T := IntWalk.i64_in _ (by omega)
            have HRR := Lib.hid hrare
            have HOV := Lib.hid hover
            have HUN := Lib.hid hund
            have hxj : Hid (gt cs j = x) := hx
            clear ha hx hy hrare hover hund
            by_cases hpos : 0 < x
            · have hlt1 := HOV.out hpos
              have hge1 : ¬ T ≤ (a : Int) * T - x * S := by omega
              have hgeb : decide (T ≤ (a : Int) * T - x * S) = false := decide_eq_false hge1
              by_cases hr : x * S < T
              · obtain rfl : y = -1 := HRR.out.2 ⟨hpos, hr⟩
                obtain rfl : rb = true := by rw [← HRB.out]; exact rareTo_yes jn (by rw [hxj.out]; exact hpos) (by rw [hxj.out]; exact hr)
                go_wp2_with (go_at_call 18; refine (states_q (-1) a _ (by assumption) HA).mono ?_; rintro e w' ⟨rfl, rfl⟩)
                go_quiet (fail)
                go_wp2
                go_roundw
                case rel => exact ⟨j + 1, by omega, by go_num, _, rfl⟩
                case measure => simp [intOf]; omega
              · have hyb : (y == -1) = false := by
                  rw [beq_eq_false_iff_ne]
                  intro h
                  exact hr (HRR.out.1 h).2
                have hrb : decide (x * S < T) = false := decide_eq_false hr
                cases rb with
                | true =>
                  go_wp2_with (go_at_call 18; refine (states_q _ a _ (by assumption) HA).mono ?_; rintro e w' ⟨rfl, rfl⟩)
                  go_quiet (fail)
                  go_wp2
                  go_roundw
                  case rel => exact ⟨j + 1, by omega, by go_num, _, rfl⟩
                  case measure => simp [intOf]; omega
                | false =>
                  have hu := HUN.out HRB.out
                  have hub : decide ((a : Int) * T - x * S ≤ -T) = false := decide_eq_false (by omega)
                  go_wp2_with (go_at_call 18; refine (states_q _ a _ (by assumption) HA).mono ?_; rintro e w' ⟨rfl, rfl⟩)
                  go_quiet (fail)
                  go_wp2
                  go_roundw
                  case rel => exact ⟨j + 1, by omega, by go_num, _, rfl⟩
                  case measure => simp [intOf]; omega
            · have hpb : decide (0 < x) = false := decide_eq_false hpos
              have hyb : (y == -1) = false := by
                rw [beq_eq_false_iff_ne]
                intro h
                exact hpos (HRR.out.1 h).1
              cases rb with
              | true =>
                go_wp2_with (go_at_call 18; refine (states_q _ a _ (by assumption) HA).mono ?_; rintro e w' ⟨rfl, rfl⟩)
                go_quiet (fail)
                go_wp2
                go_roundw
                case rel => exact ⟨j + 1, by omega, by go_num, _, rfl⟩
                case measure => simp [intOf]; omega
              | false =>
                have hu := HUN.out HRB.out
                have hub : decide ((a : Int) * T - x * S ≤ -T) = false := decide_eq_false (by omega)
                go_wp2_with (go_at_call 18; refine (states_q _ a _ (by assumption) HA).mono ?_; rintro e w' ⟨rfl, rfl⟩)
                go_quiet (fail)
                go_wp2
                go_roundw
                case rel => exact ⟨j + 1, by omega, by go_num, _, rfl⟩
                case measure => simp [intOf]; omega
          · have hjb : decide (j < l) = false := decide_eq_false hjl
            have HBM := Lib.hid (HST.out.drewN m).below
            go_wp2_with (go_at_call 12; refine (known_any _).mono ?_; rintro e w4 ⟨rfl, hb⟩; have HB4 := Lib.hid (HBM.out.trans (hb.mono HBM.out.size)); clear hb)
            all_goals
              go_ret
              exact ⟨rfl, HB4.out⟩
  · have HOK := Lib.hid hok
    clear hok
    go_enter Try.func6, Try.ntmps6
    go_wp2_with fail
    refine (normalize_bad _ cs log _ HI.out HOK.out).mono ?_
    rintro e w1 ⟨rfl, hb⟩
    have HB1 := Lib.hid hb
    clear hb
    go_wp2_with (go_at_call 12; refine (known_any _).mono ?_; rintro e w4 ⟨rfl, hb⟩; have HB4 := Lib.hid ((HB1.out.alloc HB1.out.size _).trans (hb.mono (by have := HB1.out.size; simp; omega))); clear hb)
    go_ret
    exact ⟨rfl, HB4.out⟩
end Go.Proofs.Ytelijgibgpbcnaa
