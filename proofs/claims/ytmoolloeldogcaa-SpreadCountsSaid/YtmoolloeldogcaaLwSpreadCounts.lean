/-
  SpreadCounts: the law's walk.
-/
import Derived.Test.YtmoolloeldogcaaLwSpreadUnlike
import Derived.Test.YtmoolloeldogcaaSpPos
namespace Go.Proofs.Ytmoolloeldogcaa
open Go.RowKit

theorem madeCells_zero (n : Nat) : madeCells #[Value.int .i64 0] n = ((List.replicate n (0 : Int)).map (Value.int .i64)).toArray := by
  apply Array.ext
  · simp [size_madeCells]
  · intro i h1 h2
    have e : i % 1 = 0 := Nat.mod_one i
    simp [madeCells, e]

set_option maxHeartbeats 3200000 in
theorem spreadCounts_walk (log : Int) (v : Value) (xs : List Int) (_ : (Lit.int .i64 log).wf = true) {w : World} (hI : Ints w .i64 v xs ∧ ∀ z ∈ xs, (Lit.int .i64 z).wf = true) :
    Calls Try.prog 9 #[.agg #[.int .i64 log, v]] w fun e w' => e = .returned (.bool true) ∧ Below w.heap.size w w' := by
  obtain ⟨hI, hwf⟩ := hI
  have HW := Lib.hid (wfAll_i64 hwf)
  have HI := Lib.hid hI
  obtain ⟨A, n, c, rfl, hc, hmx, hx⟩ := hI.get
  have HX := Lib.hid hx
  clear hx hwf hI
  have hb0 : ∀ o, Below w.heap.size w (w.alloc o) := fun o => (Below.refl _ w).alloc (Nat.le_refl _) o
  have HB0 := Lib.hid hb0
  clear hb0
  by_cases h6 : 600 < (n : Int)
  · go_enter Try.func9, Try.ntmps9
    go_wp2_with (go_at_call 11; refine (known_any _).mono ?_; rintro e w2 ⟨rfl, hb⟩; have HB := Lib.hid ((HB0.out _).trans (hb.mono (by simp))); clear hb)
    go_ret
    exact ⟨rfl, HB.out⟩
  by_cases hv : Valid log xs 256 9
  · obtain ⟨m, hm, rfl, hall, hge⟩ := valid_facts hv
    have HV := Lib.hid hv
    have HALL := Lib.hid hall
    have HGE := Lib.hid hge
    have hN := (step_le ⟨m, hm⟩).2.2
    simp only at hN
    obtain ⟨N, hNe⟩ : ∃ N, 2 ^ m = N := ⟨_, rfl⟩
    rw [hNe] at hN
    have hpow : (2 : Int) ^ m = (N : Int) := by rw [← hNe, Int.natCast_pow]; rfl
    have HNE := Lib.hid hNe
    have HPOW := Lib.hid hpow
    have m0 : (0 : Int) ≤ (m : Int) := by omega
    clear hv hall hNe hpow hge
    have hmk : ∀ W : World, (Instr.makeSlice 22 (.int .i64 (n : Int)) (.int .i64 (n : Int))).run Try.prog W = .ok (.slice (some ⟨W.heap.size, 0, none⟩) n n) (W.alloc (.cells (madeCells #[.int .i64 0] n) 3)) :=
      fun W => run_make_row' 22 3 (.int .i64 0) 8 Try.underlying22 infoInt rfl .i64 .i64 n (by omega) (by omega) W
    go_enter Try.func9, Try.ntmps9
    go_wp2_with fail
    refine (may_any m _ xs 256 9 _ (HI.out.alloc _)).mono ?_
    rw [chk_0 HV.out]
    rintro e w1 ⟨rfl, hb⟩
    have HB1 := Lib.hid ((HB0.out _).trans (hb.mono (by simp)))
    have HR1 := Lib.hid ((Blk.new w 24 #[.int .i64 m, .slice A n c]).below hb (by simp))
    clear hb
    obtain ⟨c0, c1, -, -⟩ := HR1.out.two
    go_wp2_with fail
    refine (spread_ok m _ xs _ (HI.out.below HB1.out (Nat.le_refl _)) HW.out hm HV.out HALL.out).mono ?_
    rintro e w2 ⟨sv, l, rfl, ⟨g, t, rfl, hg, hk⟩, hsp, hb⟩
    have hlen : l.length = N := by rw [hsp.len, HNE.out]
    rw [hlen]
    have HLEN := Lib.hid hlen
    have HB2 := Lib.hid (HB1.out.trans (hb.mono HB1.out.size))
    have HR2 := Lib.hid (HR1.out.below hb HR1.out.lt)
    have HSP := Lib.hid hsp
    have HK := Lib.hid hk
    clear hb hsp hk hlen c0 c1 HR1
    obtain ⟨c0, c1, -, -⟩ := HR2.out.two
    go_wp2_with fail
    refine (size_in m m0 (by omega) _).mono ?_
    rw [Int.toNat_natCast, HPOW.out]
    rintro e w' ⟨rfl, rfl⟩
    go_wp2
    have hblk := Blk.new w2 3 (madeCells #[.int .i64 0] n)
    rw [madeCells_zero, ← tally_nil] at hblk
    rw [madeCells_zero, ← tally_nil]
    have HBLK := Lib.hid hblk
    clear hblk hmk
    go_loopw [6] (fun i wr => ∃ k : Nat, k ≤ N ∧ i = .int .i64 k ∧ Hid (Blk wr w2.heap.size 3 ((tally n (l.take k)).map (Value.int .i64)).toArray) ∧ Hid (Below w2.heap.size w2 wr)) (fun i _ => N - (intOf i).toNat)
    case atStart => exact ⟨0, Nat.zero_le _, rfl, HBLK, ((Below.refl _ w2).alloc (Nat.le_refl _) _ : Below _ _ _)⟩
    case round =>
      clear HBLK
      obtain ⟨k, hk, rfl, HB, HBL⟩ := hrel
      by_cases hlt : k < N
      · obtain ⟨s, hs⟩ : ∃ s, l[k]? = some s := ⟨_, List.getElem?_eq_getElem (by rw [HLEN.out]; exact hlt)⟩
        obtain ⟨p, rfl, hp⟩ := HSP.out.mem hm HALL.out (List.mem_of_getElem? hs)
        rw [HX.out.1] at hp
        have cl : wr.cell? ⟨g, k, none⟩ = some (.int .i64 (p : Int)) := (HBL.out.cell (p := ⟨g, k, none⟩) HK.out.lt).trans (HK.out.int_at hs)
        obtain ⟨q, hq⟩ : ∃ q, (l.take k).count (p : Int) = q := ⟨_, rfl⟩
        have hq5 : q ≤ k := by rw [← hq]; exact Nat.le_trans List.count_le_length (by rw [List.length_take]; omega)
        have cb : wr.cell? ⟨w2.heap.size, p, none⟩ = some (.int .i64 (q : Int)) := HB.out.int_at (by rw [tally_at _ hp, hq])
        have fb : wr.frozen? ⟨w2.heap.size, p, none⟩ = false := HB.out.frozen p
        have hts := tally_succ (n := n) hs
        rw [hq] at hts
        have HTS := Lib.hid hts
        have k0 : (0 : Int) ≤ (k : Int) := by omega
        have k1 : (k : Int) < (N : Int) := by omega
        have p0 : (0 : Int) ≤ (p : Int) := by omega
        have p1 : (p : Int) < (n : Int) := by omega
        clear hs hq hts
        go_wp2
        go_roundw
        case rel => exact ⟨k + 1, by omega, by go_num, (by rw [HTS.out]; exact HB.out.set_ints p ((q : Int) + 1) : Blk _ _ _ _), (HBL.out.setCell (p := ⟨w2.heap.size, p, none⟩) (Nat.le_refl _) _ : Below _ _ _)⟩
        case measure => simp [intOf]; omega
      · obtain rfl : k = N := by omega
        have hb0 := HB.out
        rw [List.take_of_length_le (by rw [HLEN.out]; omega)] at hb0
        have HB0 := Lib.hid hb0
        clear hb0 HB
        go_wp2
        go_loopw [7] (fun i wr => ∃ j : Nat, j ≤ n ∧ i = .int .i64 j ∧ Hid (Blk wr w2.heap.size 3 ((tally n l).map (Value.int .i64)).toArray) ∧ Hid (Below w2.heap.size w2 wr)) (fun i _ => n - (intOf i).toNat)
        case atStart => exact ⟨0, Nat.zero_le _, rfl, HB0, HBL⟩
        case round =>
          clear HB0 HBL
          obtain ⟨j, hj, rfl, HB, HBL⟩ := hrel
          have cw : wr.cell? ⟨w.heap.size, 1, none⟩ = some (.slice A n c) := (HBL.out.cell (p := ⟨w.heap.size, 1, none⟩) HR2.out.lt).trans c1
          have cw0 : wr.cell? ⟨w.heap.size, 0, none⟩ = some (.int .i64 m) := (HBL.out.cell (p := ⟨w.heap.size, 0, none⟩) HR2.out.lt).trans c0
          by_cases hjlt : j < n
          · obtain ⟨b, off, x, rfl, hb, cx, EX⟩ := HX.out.at_ hjlt
            have hx1 := HGE.out x (List.mem_of_getElem? EX.out)
            obtain ⟨a, ha⟩ : ∃ a, x.natAbs = a := ⟨_, rfl⟩
            have hca : l.count (j : Int) = a := by
              rw [HSP.out.count hm HALL.out HGE.out, List.getD, EX.out]; exact ha
            have hax : Hid (x.natAbs = a) := ha
            have HCA := Lib.hid hca
            have ha5 : a ≤ 512 := by rw [← hca]; exact Nat.le_trans List.count_le_length (by rw [HLEN.out]; omega)
            have k0 : (0 : Int) ≤ (j : Int) := by omega
            have k1 : (j : Int) < (n : Int) := by omega
            clear ha hca
            go_wp2_with fail
            have hble : Below w.heap.size w wr := HB2.out.trans (HBL.out.mono HB2.out.size)
            refine (pos_ok m _ xs j _ (HI.out.below hble (Nat.le_refl _)) HW.out hm HV.out HALL.out).mono ?_
            rintro e w3 ⟨pv, l', rfl, hgr, hsp', hb3⟩
            obtain rfl := HSP.out.unique hm hsp' (by have := HALL.out; omega)
            obtain ⟨A3, n3, c3, rfl, hc3, hm3, h3⟩ := hgr.ints.get
            obtain rfl : n3 = a := by rw [← h3.1, placesOf_len, HCA.out]
            have HB3 := Lib.hid (HB.out.below hb3 HB.out.lt)
            have HBL3 := Lib.hid (HBL.out.trans (hb3.mono HBL.out.size))
            have cw3 : w3.cell? ⟨w.heap.size, 1, none⟩ = some (.slice (some ⟨b, off, none⟩) n c) := (hb3.cell (p := ⟨w.heap.size, 1, none⟩) (Nat.lt_of_lt_of_le HR2.out.lt HBL.out.size)).trans cw
            have cx3 := ((HB2.out.trans (HBL3.out.mono HB2.out.size)).cell hb).trans cx
            have cb : w3.cell? ⟨w2.heap.size, j, none⟩ = some (.int .i64 (n3 : Int)) := HB3.out.int_at (by rw [tally_at _ hjlt, HCA.out])
            clear hble hgr hsp' hb3 h3 cw cw0
            go_wp2
            go_quiet ((go_at_call 20; exact Calls.quiet_of_same (states_q _ n3 _ (by assumption) (by assumption))))
            go_wp2
            go_roundw
            case rel => exact ⟨j + 1, by omega, by go_num, (HB3.out.drewN _ : Blk _ _ _ _), (below_drewN HBL3.out _ : Below _ _ _)⟩
            case measure => simp [intOf]; omega
          · have HBX := Lib.hid (HB2.out.trans (HBL.out.mono HB2.out.size))
            go_wp2_with (go_at_call 11; refine (known_any _).mono ?_; rintro e w3 ⟨rfl, hb⟩; have HB9 := Lib.hid (HBX.out.trans (hb.mono HBX.out.size)); clear hb)
            go_ret
            exact ⟨rfl, HB9.out⟩
  · have HV := Lib.hid hv
    clear hv
    go_enter Try.func9, Try.ntmps9
    go_wp2_with fail
    refine (may_any log _ xs 256 9 _ (HI.out.alloc _)).mono ?_
    rw [chk_13 HV.out]
    rintro e w1 ⟨rfl, hb⟩
    have HB1 := Lib.hid ((HB0.out _).trans (hb.mono (by simp)))
    clear hb
    go_wp2_with (go_at_call 11; refine (known_any _).mono ?_; rintro e w2 ⟨rfl, hb⟩; have HB := Lib.hid (HB1.out.trans (hb.mono HB1.out.size)); clear hb)
    go_ret
    exact ⟨rfl, HB.out⟩
end Go.Proofs.Ytmoolloeldogcaa
