/-
  SpreadRare: the law's walk.
-/
import Derived.Test.YtmoolloeldogcaaSp08
import Derived.Test.YtmoolloeldogcaaArgs
namespace Go.Proofs.Ytmoolloeldogcaa
open Go.RowKit

theorem rares_at {xs : List Int} {k : Nat} (h : xs[k]? = some (-1)) : (rares xs)[(rares (xs.take k)).length]? = some (k : Int) := by
  have e : rares xs = rares (xs.take (k + 1) ++ xs.drop (k + 1)) := by rw [List.take_append_drop]
  have e2 : ∃ rest, rares (xs.take (k + 1) ++ xs.drop (k + 1)) = rares (xs.take (k + 1)) ++ rest := by
    unfold rares
    rw [List.zipIdx_append, List.filterMap_append]
    exact ⟨_, rfl⟩
  obtain ⟨rest, e2⟩ := e2
  rw [e, e2, rares_take h, if_pos rfl, List.append_assoc, List.getElem?_append_right (Nat.le_refl _)]
  simp
/-- What stands at a free index. -/
theorem IsSpread.free_at {m : Nat} {xs l : List Int} (hm : m < 10) (h : IsSpread m xs l) (hall : (rares xs).length + (others xs).length = 2 ^ m) {a : Nat} (ha : a < freeOf m xs) :
    ∃ (p : Nat) (x : Int), l[a]? = some (p : Int) ∧ xs[p]? = some x ∧ 0 < x := by
  obtain ⟨k, hk, rfl⟩ := va_onto hm (show a < 2 ^ m by unfold freeOf at ha; omega)
  have h1 := h.free k hk ha
  have h2 := cnt_lt hm hk ha
  rw [freeOf_eq hall] at h2
  rw [freeOf_eq hall, List.getElem?_eq_getElem h2] at h1
  obtain ⟨p, x, e, hx, hx0⟩ := mem_others.1 (List.getElem_mem h2)
  exact ⟨p, x, by rw [h1, e], hx, hx0⟩

set_option maxHeartbeats 1600000 in
theorem spreadRare_walk (log : Int) (v : Value) (xs : List Int) (_ : (Lit.int .i64 log).wf = true) {w : World} (hI : Ints w .i64 v xs ∧ ∀ z ∈ xs, (Lit.int .i64 z).wf = true) :
    Calls Try.prog 5 #[.agg #[.int .i64 log, v]] w fun e w' => e = .returned (.bool true) ∧ Below w.heap.size w w' := by
  obtain ⟨hI, hwf⟩ := hI
  have HW := Lib.hid (wfAll_i64 hwf)
  have HI := Lib.hid hI
  obtain ⟨A, n, c, rfl, hc, hmx, hx⟩ := hI.get
  have HX := Lib.hid hx
  clear hx hwf hI
  have hb0 : ∀ o, Below w.heap.size w (w.alloc o) := fun o => (Below.refl _ w).alloc (Nat.le_refl _) o
  have HB0 := Lib.hid hb0
  clear hb0
  by_cases h6 : 600 < (n : Int)
  · go_enter Try.func5, Try.ntmps5
    go_wp2_with (go_at_call 11; refine (known_any _).mono ?_; rintro e w2 ⟨rfl, hb⟩; have HB := Lib.hid ((HB0.out _).trans (hb.mono (by simp))); clear hb)
    go_ret
    exact ⟨rfl, HB.out⟩
  by_cases hv : Valid log xs 256 9
  · obtain ⟨m, hm, rfl, hall, hge⟩ := valid_facts hv
    have HV := Lib.hid hv
    have HALL := Lib.hid hall
    have hN := (step_le ⟨m, hm⟩).2.2
    simp only at hN
    obtain ⟨N, hNe⟩ : ∃ N, 2 ^ m = N := ⟨_, rfl⟩
    rw [hNe] at hN
    have hN0 : 0 < N := by rw [← hNe]; exact pow_pos2 m
    have hpow : (2 : Int) ^ m = (N : Int) := by rw [← hNe, Int.natCast_pow]; rfl
    have HNE := Lib.hid hNe
    have HPOW := Lib.hid hpow
    have m0 : (0 : Int) ≤ (m : Int) := by omega
    clear hv hall hNe hpow hge
    go_enter Try.func5, Try.ntmps5
    go_wp2_with fail
    refine (may_any m _ xs 256 9 _ (HI.out.alloc _)).mono ?_
    rw [chk_0 HV.out]
    rintro e w1 ⟨rfl, hb⟩
    have HB1 := Lib.hid ((HB0.out _).trans (hb.mono (by simp)))
    have HR1 := Lib.hid ((Blk.new w 24 #[.int .i64 m, .slice A n c]).below hb (by simp))
    clear hb
    obtain ⟨c0, c1, -, -⟩ := HR1.out.two
    go_wp2_with fail
    refine (spread_ok m _ xs _ (HI.out.below HB1.out (Nat.le_refl _)) HW.out hm HV.out HALL.out).mono ?_
    rintro e w2 ⟨sv, l, rfl, ⟨g, t, rfl, hg, hk⟩, hsp, hb⟩
    have hlen : l.length = N := by rw [hsp.len, HNE.out]
    rw [hlen]
    have HB2 := Lib.hid (HB1.out.trans (hb.mono HB1.out.size))
    have HR2 := Lib.hid (HR1.out.below hb HR1.out.lt)
    have HSP := Lib.hid hsp
    have HK := Lib.hid hk
    clear hb hsp hk hlen c0 c1 HR1
    obtain ⟨c0, c1, -, -⟩ := HR2.out.two
    go_wp2_with fail
    refine (size_in m m0 (by omega) _).mono ?_
    rw [Int.toNat_natCast, HPOW.out]
    rintro e w' ⟨rfl, rfl⟩
    go_wp2
    go_loop [5, 6] (fun top i => ∃ k : Nat, k ≤ n ∧ i = .int .i64 k ∧ ∃ T0 : Nat, top = .int .i64 T0 ∧ T0 ≤ N ∧ Hid (T0 + (rares (xs.take k)).length = N)) (fun _ i => n - (intOf i).toNat)
    case atStart => exact ⟨0, Nat.zero_le _, rfl, N, rfl, Nat.le_refl _, (by simp [rares] : N + (rares (xs.take 0)).length = N)⟩
    case round =>
      obtain ⟨k, hk, rfl, T0, rfl, hT0, HT⟩ := hrel
      by_cases hlt : k < n
      · obtain ⟨b, off, x, rfl, hb, cx, EX⟩ := HX.out.at_ hlt
        replace cx := (HB2.out.cell hb).trans cx
        have h0 : (0 : Int) ≤ (k : Int) := by omega
        have h0' : (k : Int) < (n : Int) := by omega
        by_cases hx : x = -1
        · subst hx
          have h1 := rares_at EX.out
          have h2 := (List.getElem?_eq_some_iff.1 h1).1
          have h3 := HALL.out
          have h4 := HT.out
          rw [HNE.out] at h3
          obtain ⟨T1, rfl⟩ : ∃ T1, T0 = T1 + 1 := ⟨T0 - 1, by omega⟩
          have h5 := HSP.out.rare _ h2
          rw [h1, HNE.out, show N - 1 - (rares (xs.take k)).length = T1 by omega] at h5
          have cb : w2.cell? ⟨g, T1, none⟩ = some (.int .i64 k) := HK.out.int_at h5
          have hT1 : (0 : Int) ≤ (T1 : Int) := by omega
          have hT1' : (T1 : Int) < (N : Int) := by omega
          have HT1 : Hid (T1 + (rares (xs.take (k + 1))).length = N) := (by rw [rares_take EX.out, if_pos rfl]; simp; omega : T1 + (rares (xs.take (k + 1))).length = N)
          clear h1 h2 h3 h4 h5
          go_wp2
          go_round
          case rel => exact ⟨k + 1, by omega, by go_num, T1, by go_num, by omega, HT1⟩
          case measure => simp [intOf]; omega
        · have hx' : (x == -1) = false := by simpa using hx
          have HT1 : Hid (T0 + (rares (xs.take (k + 1))).length = N) := (by rw [rares_take EX.out, if_neg hx, List.append_nil]; exact HT.out : T0 + (rares (xs.take (k + 1))).length = N)
          clear hx
          go_wp2
          go_round
          case rel => exact ⟨k + 1, by omega, by go_num, T0, rfl, by omega, HT1⟩
          case measure => simp [intOf]; omega
      · obtain rfl : k = n := by omega
        have hF : Hid (T0 = freeOf m xs) := (by
          have h1 := HT.out
          rw [List.take_of_length_le (by rw [HX.out.1]; omega)] at h1
          unfold freeOf
          rw [HNE.out]; omega : T0 = freeOf m xs)
        go_wp2
        go_loopw [7] (fun i wr => ∃ j : Nat, j ≤ T0 ∧ i = .int .i64 j ∧ Below w2.heap.size w2 wr) (fun i _ => T0 - (intOf i).toNat)
        case atStart => exact ⟨0, Nat.zero_le _, rfl, Below.refl _ _⟩
        case round =>
          obtain ⟨j, hj, rfl, hbel⟩ := hrel
          by_cases hjlt : j < T0
          · obtain ⟨p, x, hl, hxp, hx0⟩ := HSP.out.free_at hm HALL.out (show j < freeOf m xs by rw [← hF.out]; exact hjlt)
            have hpn : p < k := by have := (List.getElem?_eq_some_iff.1 hxp).1; rw [HX.out.1] at this; exact this
            obtain ⟨b, off, x', rfl, hb, cx, EX⟩ := HX.out.at_ hpn
            obtain rfl : x = x' := by have := hxp.symm.trans EX.out; simpa using this
            replace cx := (hbel.cell (Nat.lt_of_lt_of_le hb HB2.out.size)).trans ((HB2.out.cell hb).trans cx)
            have cl : wr.cell? ⟨g, j, none⟩ = some (.int .i64 (p : Int)) := (hbel.cell (p := ⟨g, j, none⟩) HK.out.lt).trans (HK.out.int_at hl)
            have cb : wr.cell? ⟨w.heap.size, 1, none⟩ = some (.slice (some ⟨b, off, none⟩) k c) := (hbel.cell (p := ⟨w.heap.size, 1, none⟩) HR2.out.lt).trans c1
            have j0 : (0 : Int) ≤ (j : Int) := by omega
            have j1 : (j : Int) < (N : Int) := by omega
            have p0 : (0 : Int) ≤ (p : Int) := by omega
            have p1 : (p : Int) < (k : Int) := by omega
            have x1 : ¬ x < 1 := by omega
            clear hl hxp
            go_wp2
            go_quiet (fail)
            go_wp2
            go_roundw
            case rel => exact ⟨j + 1, by omega, by go_num, below_drewN hbel _⟩
            case measure => simp [intOf]; omega
          · obtain rfl : j = T0 := by omega
            have HBL := Lib.hid (HB2.out.trans (hbel.mono HB2.out.size))
            go_wp2_with (go_at_call 11; refine (known_any _).mono ?_; rintro e w3 ⟨rfl, hb⟩; have HB := Lib.hid (HBL.out.trans (hb.mono HBL.out.size)); clear hb)
            go_ret
            exact ⟨rfl, HB.out⟩
  · have HV := Lib.hid hv
    clear hv
    go_enter Try.func5, Try.ntmps5
    go_wp2_with fail
    refine (may_any log _ xs 256 9 _ (HI.out.alloc _)).mono ?_
    rw [chk_13 HV.out]
    rintro e w1 ⟨rfl, hb⟩
    have HB1 := Lib.hid ((HB0.out _).trans (hb.mono (by simp)))
    clear hb
    go_wp2_with (go_at_call 11; refine (known_any _).mono ?_; rintro e w2 ⟨rfl, hb⟩; have HB := Lib.hid (HB1.out.trans (hb.mono HB1.out.size)); clear hb)
    go_ret
    exact ⟨rfl, HB.out⟩
end Go.Proofs.Ytmoolloeldogcaa
