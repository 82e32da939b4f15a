/-
  SpreadTells: the law's walk.
-/
import Derived.Test.YtmoolloeldogcaaSpOfW
import Derived.Test.YtmoolloeldogcaaArgs
namespace Go.Proofs.Ytmoolloeldogcaa
open Go.RowKit

theorem IsSpread.le512 {m : Nat} {xs l : List Int} (hm : m < 10) (h : IsSpread m xs l) : l.length ≤ maxLen := by
  rw [h.len]; have := (step_le ⟨m, hm⟩).2.2; simp only at this; unfold maxLen; omega

set_option maxHeartbeats 1600000 in
theorem spreadTells_walk (log : Int) (v : Value) (xs : List Int) (_ : (Lit.int .i64 log).wf = true) {w : World} (hI : Ints w .i64 v xs ∧ ∀ z ∈ xs, (Lit.int .i64 z).wf = true) :
    Calls Try.prog 3 #[.agg #[.int .i64 log, v]] w fun e w' => e = .returned (.bool true) ∧ Below w.heap.size w w' := by
  obtain ⟨hI, hwf⟩ := hI
  have HW := Lib.hid (wfAll_i64 hwf)
  have HI := Lib.hid hI
  obtain ⟨A, n, c, rfl, hc, hmx, hx⟩ := hI.get
  clear hx hwf hI
  have hb0 : ∀ o, Below w.heap.size w (w.alloc o) := fun o => (Below.refl _ w).alloc (Nat.le_refl _) o
  have HB0 := Lib.hid hb0
  clear hb0
  by_cases h6 : 600 < (n : Int)
  · go_enter Try.func3, Try.ntmps3
    go_wp2_with (go_at_call 11; refine (known_any _).mono ?_; rintro e w2 ⟨rfl, hb⟩; have HB := Lib.hid ((HB0.out _).trans (hb.mono (by simp))); clear hb)
    go_ret
    exact ⟨rfl, HB.out⟩
  by_cases hv : Valid log xs 256 9
  · obtain ⟨m, hm, rfl, hall, hge⟩ := valid_facts hv
    have HV := Lib.hid hv
    have HALL := Lib.hid hall
    clear hv hall hge
    go_enter Try.func3, Try.ntmps3
    go_wp2_with fail
    refine (spread_ok m _ xs _ (HI.out.alloc _) HW.out hm HV.out HALL.out).mono ?_
    rintro e w1 ⟨sv, l, rfl, hf, hsp, hb⟩
    have HB1 := Lib.hid ((HB0.out _).trans (hb.mono (by simp)))
    have HR1 := Lib.hid ((Blk.new w 24 #[.int .i64 m, .slice A n c]).below hb (by simp))
    have HF := Lib.hid (hf.ints (hsp.le512 hm))
    have HSP := Lib.hid hsp
    clear hb hsp hf
    obtain ⟨c0, c1, -, -⟩ := HR1.out.two
    go_wp2_with fail
    refine (of_ok m _ xs _ (HI.out.below HB1.out (Nat.le_refl _)) HW.out hm HV.out HALL.out).mono ?_
    rintro e w2 ⟨sv2, l2, rfl, hf2, hsp2, hb2⟩
    obtain rfl := HSP.out.unique hm hsp2 (by have := HALL.out; omega)
    have HB2 := Lib.hid (HB1.out.trans (hb2.mono HB1.out.size))
    have HF1 := Lib.hid (HF.out.below hb2 (Nat.le_refl _))
    have HF2 := Lib.hid (hf2.ints (hsp2.le512 hm))
    clear hb2 hsp2 hf2 c0 c1 HF
    go_wp2_with (first | (go_at_call 14; refine (same08_any _ _ l l _ HF1.out HF2.out).mono ?_; rw [show lEq l l = true from decide_eq_true rfl]; rintro e w3 ⟨rfl, hb⟩; have HB3 := Lib.hid (HB2.out.trans (hb.mono HB2.out.size)); clear hb) | (go_at_call 11; refine (known_any _).mono ?_; rintro e w4 ⟨rfl, hb⟩; have HB4 := Lib.hid (HB3.out.trans (hb.mono HB3.out.size)); clear hb))
    go_ret
    exact ⟨rfl, HB4.out⟩
  · have HV := Lib.hid hv
    clear hv
    go_enter Try.func3, Try.ntmps3
    go_wp2_with fail
    refine (spread_bad log _ xs _ (HI.out.alloc _) HW.out HV.out).mono ?_
    rintro e w1 ⟨rfl, hb⟩
    have HB1 := Lib.hid ((HB0.out _).trans (hb.mono (by simp)))
    have HR1 := Lib.hid ((Blk.new w 24 #[.int .i64 log, .slice A n c]).below hb (by simp))
    clear hb
    obtain ⟨c0, c1, -, -⟩ := HR1.out.two
    go_wp2_with fail
    refine (of_bad log _ xs _ (HI.out.below HB1.out (Nat.le_refl _)) HV.out).mono ?_
    rintro e w2 ⟨rfl, hb2⟩
    have HB2 := Lib.hid (HB1.out.trans (hb2.mono HB1.out.size))
    clear hb2 c0 c1
    go_wp2_with (first | (go_at_call 14; refine (same08_any _ _ [] [] _ (Ints.nil _ _) (Ints.nil _ _)).mono ?_; rw [show lEq [] [] = true from decide_eq_true rfl]; rintro e w3 ⟨rfl, hb⟩; have HB3 := Lib.hid (HB2.out.trans (hb.mono HB2.out.size)); clear hb) | (go_at_call 11; refine (known_any _).mono ?_; rintro e w4 ⟨rfl, hb⟩; have HB4 := Lib.hid (HB3.out.trans (hb.mono HB3.out.size)); clear hb))
    go_ret
    exact ⟨rfl, HB4.out⟩
end Go.Proofs.Ytmoolloeldogcaa
