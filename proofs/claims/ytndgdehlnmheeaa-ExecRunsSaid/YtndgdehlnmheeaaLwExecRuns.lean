/-
  ExecRuns: the law's walk.
-/
import Derived.Test.YtndgdehlnmheeaaExRunsO
import Derived.Test.YtndgdehlnmheeaaExRunsB
import Derived.Test.YtndgdehlnmheeaaExRefB
namespace Go.Proofs.Ytndgdehlnmheeaa
set_option linter.all false
set_option maxRecDepth 100000
open Go.RowKit

set_option maxHeartbeats 1600000 in
theorem er_sz {w : World} (sz : Int) (hsz : sz < 1 ∨ 134217728 < sz) (va : Value) (aa : List Int) (ha : Ints w .u8 va aa) (vl : Value) (ls : List Int) (hl : Ints w .u8 vl ls) (v : Value) (ss : List SeqD) (h : Seqs w v ss) (most : Int) :
    Calls Try.prog 6 #[.int .i64 sz, va, vl, v, .int .i64 most] w fun e w' => e = .returned (.bool true) ∧ Below w.heap.size w w' := by
  have HS := Lib.hid h
  obtain ⟨A1, c1, rfl, a1, a2, -⟩ := ints_form0 ha
  obtain ⟨A2, c2, rfl, d1, d2, -⟩ := ints_form0 hl
  obtain ⟨⟨A, c, rfl, hlc, hcm, -⟩, -⟩ := h
  obtain ⟨n, hn⟩ : ∃ n, ss.length = n := ⟨_, rfl⟩
  obtain ⟨na, hna⟩ : ∃ n, aa.length = n := ⟨_, rfl⟩
  obtain ⟨nl, hnl⟩ : ∃ n, ls.length = n := ⟨_, rfl⟩
  rw [hna] at a1 ⊢
  rw [hnl] at d1 ⊢
  have hF := few_any w _ ss HS.out A1 A2 na nl c1 c2 (by omega) (by omega)
  rw [hn] at hF ⊢
  have HF := Lib.hid hF
  have HSZ := Lib.hid hsz
  clear ha hl hn hna hnl hF hsz HS
  go_enter Try.func6, Try.ntmps6
  go_wp2_with fail
  refine HF.out.mono ?_
  rintro e w1 ⟨bo, rfl, hw, -⟩
  obtain rfl : w = w1 := hw.symm
  cases bo
  · go_wp2_with (go_at_call 12; refine (works_at (Below.refl _ w)).mono ?_; rintro e w9 ⟨rfl, hb⟩; have HB := Lib.hid hb; clear hb)
    go_ret
    exact ⟨rfl, HB.out⟩
  go_wp2_with fail
  refine (rings_bad w sz _ HSZ.out).mono ?_
  rintro e w1 ⟨rfl, hb1⟩
  have HB1 := Lib.hid hb1
  clear hb1
  go_wp2_with (go_at_call 12; refine (works_any _).mono ?_; rintro e w9 ⟨rfl, hb⟩; have HB := Lib.hid hb; clear hb)
  go_ret
  have h1 : Below w.heap.size w (w1.alloc (.cells #[.int .i64 0, .slice none 0 0, .int .i64 0] 45)) := HB1.out.alloc HB1.out.size _
  exact ⟨rfl, h1.trans (HB.out.mono h1.size)⟩

theorem execRuns_walk {w : World} (sz : Int) (_hsz : (Lit.int .i64 sz).wf = true) (va : Value) (aa : List Int) (ha : Ints w .u8 va aa ∧ ∀ z ∈ aa, (Lit.int .u8 z).wf = true) (vl : Value) (ls : List Int) (hl : Ints w .u8 vl ls ∧ ∀ z ∈ ls, (Lit.int .u8 z).wf = true) (v : Value) (ss : List SeqD) (h : Seqs w v ss) (most : Int) (_hm : (Lit.int .i64 most).wf = true) :
    Calls Try.prog 6 #[.int .i64 sz, va, vl, v, .int .i64 most] w fun e w' => e = .returned (.bool true) ∧ Below w.heap.size w w' := by
  have hua : U8s aa := fun z hz => u8_wf (ha.2 z hz)
  have hul : U8s ls := fun z hz => u8_wf (hl.2 z hz)
  by_cases h1 : 1 ≤ sz ∧ sz ≤ 134217728
  · obtain ⟨S, rfl⟩ := Int.eq_ofNat_of_zero_le (show 0 ≤ sz by omega)
    obtain ⟨⟨ra, rt, re⟩, hr⟩ : ∃ p, chkOf S aa ls most ss = p := ⟨_, rfl⟩
    by_cases hre : re = 0
    · subst hre
      obtain ⟨-, -, hck⟩ := chkOf_ok hr
      obtain ⟨-, -, rfl⟩ := content_length (C := aa) hck
      exact er_ok S (by omega) (by omega) va aa ha.1 hua vl ls hl.1 hul v ss h most rt hr
    · exact er_bad S (by omega) (by omega) va aa ha.1 hua vl ls hl.1 hul v ss h most ra rt re hr hre
  · exact er_sz sz (by omega) va aa ha.1 vl ls hl.1 v ss h most
end Go.Proofs.Ytndgdehlnmheeaa
