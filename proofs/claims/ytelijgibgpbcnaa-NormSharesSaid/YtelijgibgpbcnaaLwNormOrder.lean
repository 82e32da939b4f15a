/-
  NormOrder: the law's walk.
-/
import Derived.Test.YtelijgibgpbcnaaNmSt
namespace Go.Proofs.Ytelijgibgpbcnaa
open Go.RowKit

/-- A quiet call in a world that has drawn already. -/
theorem quiet_again {P : Program} {f : FuncId} {args : Array Value} {w : World} {a n : Nat} {v : Value}
    (h : Calls P f args (w.drewN (a + n)) fun e w' => e = .returned v ∧ w' = w.drewN (a + n)) :
    Calls P f args (w.drewN (a + n)) fun e w'' => e = .returned v ∧ ∃ m, w'' = w.drewN (a + m) :=
  h.mono fun _ _ ⟨he, hm⟩ => ⟨he, n, hm⟩
theorem states_q (n : Int) (a : Nat) (w : World) (hn : -1 ≤ n) (ha : Hid (n.natAbs = a)) : Calls Try.prog 18 #[.int .i64 n] w fun e w' => e = .returned (.int .i64 a) ∧ w' = w :=
  (states_any n w hn).mono fun _ _ ⟨he, hw⟩ => ⟨by rw [he, ha.out], hw.symm⟩

set_option maxHeartbeats 3200000 in
theorem normOrder_walk (v : Value) (cs : List Int) {w : World} (hI : Ints w .i64 v cs ∧ ∀ z ∈ cs, (Lit.int .i64 z).wf = true) (log : Int) (_ : (Lit.int .i64 log).wf = true) :
    Calls Try.prog 5 #[v, .int .i64 log] w fun e w' => e = .returned (.bool true) ∧ Below w.heap.size w w' := by
  obtain ⟨hI, -⟩ := hI
  have HI := Lib.hid hI
  obtain ⟨A, n, c, rfl, hc, hmx, hx⟩ := hI.get
  have hcl : cs.length = n := hx.1
  have HCL := Lib.hid hcl
  have HX := Lib.hid hx
  clear hx hI hcl
  by_cases h6 : 100 < (n : Int)
  · go_enter Try.func5, Try.ntmps5
    go_wp2_with (go_at_call 12; refine (known_any _).mono ?_; rintro e w2 ⟨rfl, hb⟩; have HB := Lib.hid hb; clear hb)
    go_ret
    exact ⟨rfl, HB.out⟩
  have HLEN : Hid (cs.length ≤ 1000) := (by rw [HCL.out]; omega : cs.length ≤ 1000)
  by_cases hok : NOk cs log
  · have HOK := Lib.hid hok
    have HNF := Lib.hid (norms_facts hok.cok)
    obtain ⟨ns, hns⟩ : ∃ ns, normsOf cs (2 ^ log.toNat) = ns := ⟨_, rfl⟩
    rw [hns] at HNF
    have HNS := Lib.hid hns
    clear hok hns
    go_enter Try.func5, Try.ntmps5
    go_wp2_with fail
    refine (normalize_ok _ cs log _ HI.out HOK.out HLEN.out).mono ?_
    intro e w1 hp
    obtain ⟨g, l, c1, rfl, hg, HI2, hb, HL, hl⟩ := hp.get HLEN.out
    rw [HNS.out] at HI2 HL
    have HST := Lib.hid (LwSt.start (log := log) (c2 := c1) hb HI2.out.at__ HX.out)
    have hln : l ≤ n := by have := HNF.out.len; rw [HL.out, HCL.out] at this; exact this
    clear hp hb
    go_wp2
    go_loopw [7] (fun i wr => ∃ k : Nat, k ≤ l ∧ i = .int .i64 k ∧ Hid (LwSt w wr w1.heap.size log (some ⟨g, 0, none⟩) l c1 ns A n cs)) (fun i _ => l - (intOf i).toNat)
    case atStart => exact ⟨0, Nat.zero_le _, rfl, HST⟩
    case round =>
      clear HST
      obtain ⟨k, hk, rfl, HS⟩ := hrel
      have k0 : (0 : Int) ≤ (k : Int) := by omega
      obtain ⟨b0, b1, -, -⟩ := HS.out.box.two
      by_cases hlt : k < l
      · have k1 : (k : Int) < (l : Int) := by omega
        have k2 : (k : Int) < (n : Int) := by omega
        obtain ⟨W1, rfl⟩ : ∃ W1 : World, W1 = wr := ⟨_, rfl⟩
        go_wp2
        go_loopw [8] (fun i wr => ∃ j : Nat, j ≤ l ∧ i = .int .i64 j ∧ ∃ m, wr = W1.drewN m) (fun i _ => l - (intOf i).toNat)
        case atStart => exact ⟨0, Nat.zero_le _, rfl, 0, rfl⟩
        case round =>
          obtain ⟨j, hj, rfl, m, rfl⟩ := hrel
          have j0 : (0 : Int) ≤ (j : Int) := by omega
          by_cases hjl : j < l
          · have j1 : (j : Int) < (l : Int) := by omega
            have j2 : (j : Int) < (n : Int) := by omega
            have jn : j < n := by omega
            have kn : k < n := by omega
            obtain ⟨b, off, hA, cx⟩ := HS.out.cnt.one kn
            obtain ⟨b', off', hA', cx'⟩ := HS.out.cnt.one jn
            subst hA
            injection hA' with hA'
            injection hA' with h1 h2
            subst h1 h2
            obtain ⟨b', off', hA', cy⟩ := HS.out.tab.one hlt
            injection hA' with hA'
            injection hA' with h1 h2
            subst h1 h2
            obtain ⟨b', off', hA', cy'⟩ := HS.out.tab.one hjl
            injection hA' with hA'
            injection hA' with h1 h2
            subst h1 h2
            have hord := HNF.out.order k j (by rw [HL.out]; exact hlt) (by rw [HL.out]; exact hjl)
            have hg1 := HNF.out.ge k
            have hg2 := HNF.out.ge j
            obtain ⟨x, hx⟩ : ∃ x, gt cs k = x := ⟨_, rfl⟩
            obtain ⟨x', hx'⟩ : ∃ x', gt cs j = x' := ⟨_, rfl⟩
            obtain ⟨y, hy⟩ : ∃ y, gt ns k = y := ⟨_, rfl⟩
            obtain ⟨y', hy'⟩ : ∃ y', gt ns j = y' := ⟨_, rfl⟩
            rw [hx] at cx hord
            rw [hx'] at cx' hord
            rw [hy] at cy hord hg1
            rw [hy'] at cy' hord hg2
            rw [Nat.zero_add] at cy cy'
            obtain ⟨a, ha⟩ : ∃ a, y.natAbs = a := ⟨_, rfl⟩
            obtain ⟨a', ha'⟩ : ∃ a', y'.natAbs = a' := ⟨_, rfl⟩
            rw [ha, ha'] at hord
            have HA := Lib.hid ha
            have HA' := Lib.hid ha'
            have HORD := Lib.hid hord
            clear ha ha' hx hx' hy hy' hord
            by_cases hxx : x < x'
            · have hle := HORD.out hxx
              have hle1 : ¬ (a' : Int) < (a : Int) := by omega
              have hle2 : decide (a' < a) = false := decide_eq_false (by omega)
              have hle3 : decide ((a' : Int) < (a : Int)) = false := decide_eq_false hle1
              go_wp2
              go_quiet ((go_at_call 18; exact quiet_again (states_q _ _ _ (by assumption) (by assumption))))
              go_wp2
              go_roundw
              case rel => exact ⟨j + 1, by omega, by go_num, _, rfl⟩
              case measure => simp [intOf]; omega
            · have hxb : decide (x < x') = false := decide_eq_false hxx
              go_wp2
              go_quiet ((go_at_call 18; exact quiet_again (states_q _ _ _ (by assumption) (by assumption))))
              go_wp2
              go_roundw
              case rel => exact ⟨j + 1, by omega, by go_num, _, rfl⟩
              case measure => simp [intOf]; omega
          · go_wp2
            go_roundw
            case rel => exact ⟨k + 1, by omega, by go_num, (HS.out.drewN m : LwSt _ _ _ _ _ _ _ _ _ _ _)⟩
            case measure => simp [intOf]; omega
      · go_wp2_with (go_at_call 12; refine (known_any _).mono ?_; rintro e w4 ⟨rfl, hb⟩; have HB4 := Lib.hid (HS.out.below.trans (hb.mono HS.out.below.size)); clear hb)
        go_ret
        exact ⟨rfl, HB4.out⟩
  · have HOK := Lib.hid hok
    clear hok
    go_enter Try.func5, Try.ntmps5
    go_wp2_with fail
    refine (normalize_bad _ cs log _ HI.out HOK.out).mono ?_
    rintro e w1 ⟨rfl, hb⟩
    have HB1 := Lib.hid hb
    clear hb
    go_wp2_with (go_at_call 12; refine (known_any _).mono ?_; rintro e w4 ⟨rfl, hb⟩; have HB4 := Lib.hid ((HB1.out.alloc HB1.out.size _).trans (hb.mono (by have := HB1.out.size; simp; omega))); clear hb)
    go_ret
    exact ⟨rfl, HB4.out⟩
end Go.Proofs.Ytelijgibgpbcnaa
