/-
  plan: the examples of the chapter.
-/
import Derived.Test.YtamhkfnghgbenaaPlCutA
import Derived.Test.YtamhkfnghgbenaaPlSame
import Derived.Test.YtamhkfnghgbenaaPlSq
import Derived.Test.YtamhkfnghgbenaaPlRefW
import Derived.Test.YtamhkfnghgbenaaPlLits
import Derived.Test.YtamhkfnghgbenaaPlVerify
import Derived.Test.YtamhkfnghgbenaaPlFirst
import Derived.Lib.SlBytesConst
namespace Go.Proofs.Ytamhkfnghgbenaa
set_option linter.all false
open Go.RowKit

theorem SeqRow.seqs {w : World} {v : Value} {xs : List SeqD} (h : SeqRow w v xs) (hw : ∀ s ∈ xs, s.Wf) : Seqs w v xs := by
  obtain ⟨A, c, hv, h1, h2⟩ := SRow.form h
  rw [List.length_map] at hv h1
  subst hv
  refine ⟨⟨A, c, rfl, h1, h2, fun h0 => ?_⟩, hw⟩
  obtain ⟨g, hA, -, hc⟩ := SRow.cell h (fun c hc => by obtain ⟨x, -, rfl⟩ := List.mem_map.1 hc; rfl) (i := 0) (by rw [List.length_map]; exact h0)
  refine ⟨g, 0, hA, fun i s hs => ?_⟩
  have hx : (xs.map SeqD.cells)[i]? = some s.cells := by rw [List.getElem?_map, hs]; rfl
  have hcell := hc i _ hx
  rw [Nat.zero_add]
  exact ⟨hcell 0 _ (by omega) rfl, hcell 1 _ (by omega) rfl, hcell 2 _ (by omega) rfl⟩

theorem num_any (w : World) (n : Int) : Calls Try.prog 16 #[.int .i64 n] w fun e w' => e = .returned (.int .i64 n) ∧ w' = w := by
  go_enter Try.func16, Try.ntmps16
  go_wp2
  go_ret
  exact ⟨rfl, rfl⟩

/-- The plan of the chapter's examples. -/
abbrev gvn : List SeqD := [⟨2, 4, 2⟩, ⟨1, 3, 7⟩]
theorem given_any (w : World) : Calls Try.prog 27 #[] w fun e w' => ∃ A c, e = .returned (.slice A 2 c) ∧ Seqs w' (.slice A 2 c) gvn ∧ Below w.heap.size w w' := by
  have HS : Hid (Seqs (w.alloc (.cells #[.int .i64 2, .int .i64 4, .int .i64 2, .int .i64 1, .int .i64 3, .int .i64 7] 60)) (.slice (some ⟨w.heap.size, 0, none⟩) 2 2) gvn) := (Seqs.lit2 w ⟨2, 4, 2⟩ ⟨1, 3, 7⟩ (by decide) (by decide) : Seqs _ _ _)
  have HB := Lib.hid ((Below.refl w.heap.size w).alloc (Nat.le_refl _) (.cells #[.int .i64 2, .int .i64 4, .int .i64 2, .int .i64 1, .int .i64 3, .int .i64 7] 60))
  go_enter Try.func27, Try.ntmps27
  go_wp2
  go_ret
  exact ⟨_, _, rfl, HS.out, HB.out⟩

set_option maxRecDepth 100000 in
theorem cuts_true (w : World) (v va vb : Value) (ss xs ys : List SeqD) (T : Int) (h : Seqs w v ss) (hl : ss.length ≤ 100000) (h1 : Seqs w va xs) (h2 : Seqs w vb ys) (hr : cutR ss T = (xs, ys, 0)) (hx : ∀ s ∈ xs, s.Wf) (hy : ∀ s ∈ ys, s.Wf) (lx : xs.length ≤ 100000) (ly : ys.length ≤ 100000) :
    Calls Try.prog 28 #[v, .int .i64 T, va, vb] w fun e w' => e = .returned (.bool true) ∧ Below w.heap.size w w' := by
  have HS := Lib.hid h
  have HL := Lib.hid hl
  have H1 := Lib.hid h1
  have H2 := Lib.hid h2
  have HR := Lib.hid hr
  have HX := Lib.hid hx
  have HY := Lib.hid hy
  have LX := Lib.hid lx
  have LY := Lib.hid ly
  obtain ⟨⟨A, c, hv, -, -, -⟩, -⟩ := h
  obtain ⟨⟨A1, c1, hv1, -, -, -⟩, -⟩ := h1
  obtain ⟨⟨A2, c2, hv2, -, -, -⟩, -⟩ := h2
  subst hv hv1 hv2
  clear hl hr hx hy lx ly
  go_enter Try.func28, Try.ntmps28
  go_wp2_with fail
  refine (cut_any w _ ss T HS.out HL.out).mono ?_
  rw [HR.out]
  rintro e w1 ⟨va, vb, rfl, hst⟩
  have S1 := Lib.hid (SeqRow.seqs hst.ra HX.out)
  have S2 := Lib.hid (SeqRow.seqs hst.rb HY.out)
  obtain ⟨A3, c3, e3, -, -⟩ := SRow.form hst.ra
  obtain ⟨A4, c4, e4, -, -⟩ := SRow.form hst.rb
  have HB := Lib.hid hst.bel
  rw [List.length_map] at e3 e4
  subst e3 e4
  clear hst
  go_wp2_with fail
  refine (num_any _ _).mono ?_
  rintro e w2 ⟨rfl, rfl⟩
  go_wp2_with fail
  refine (same_any _ _ _ xs xs S1.out (H1.out.below HB.out (Nat.le_refl _)) LX.out).mono ?_
  rw [decide_eq_true rfl]
  rintro e w3 ⟨rfl, hb⟩
  have HB3 := Lib.hid (HB.out.trans (hb.mono HB.out.size))
  have S3 := Lib.hid (S2.out.below hb (Nat.le_refl _))
  clear hb
  go_wp2_with fail
  refine (same_any _ _ _ ys ys S3.out (H2.out.below HB3.out (Nat.le_refl _)) LY.out).mono ?_
  rw [decide_eq_true rfl]
  rintro e w4 ⟨rfl, hb⟩
  have HB4 := Lib.hid (HB3.out.trans (hb.mono HB3.out.size))
  clear hb
  go_wp2
  go_ret
  exact ⟨rfl, HB4.out⟩
end Go.Proofs.Ytamhkfnghgbenaa
