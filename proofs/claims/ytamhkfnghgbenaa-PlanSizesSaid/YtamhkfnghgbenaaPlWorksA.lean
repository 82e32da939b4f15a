/-
  plan: works.
-/
import Derived.Test.YtamhkfnghgbenaaPlWorks
import Derived.Test.YtamhkfnghgbenaaPlStr
namespace Go.Proofs.Ytamhkfnghgbenaa
set_option linter.all false
open Go.RowKit

abbrev txt1 : List Int := [97, 98, 97, 98, 97, 98, 99, 97, 98, 97, 98, 97]
abbrev txt2 : List Int := [97, 98, 97, 98, 97, 98, 99, 97, 98, 98, 98, 97]

theorem gvn_size : sizeR gvn = (10, 0) := by decide
theorem gvn_where1 : whereR gvn 12 0 6 = (1, 15) := by decide
theorem gvn_where2 : whereR gvn 9 0 100 = (1, 15) := by decide
theorem gvn_where3 : whereR gvn 12 0 100 = (0, 0) := by decide
theorem gvn_lits : litsR gvn txt1 = ([97, 98, 99, 98, 97], 0) := by decide
theorem gvn_cut1 : (cutR gvn 11).2.2 = 21 := by decide
theorem gvn_cut2 : cutR gvn 5 = ([⟨2, 3, 2⟩], [⟨2, 3, 7⟩], 0) := by decide
theorem gvn_cut3 : cutR gvn 4 = ([], [⟨3, 3, 7⟩], 0) := by decide
theorem gvn_is1 : verR gvn [] txt1 9 = 0 := by decide
theorem gvn_is2 : verR gvn [] txt2 9 = 22 := by decide

set_option maxHeartbeats 3200000 in
set_option maxRecDepth 100000 in
theorem works_any (w : World) : Calls Try.prog 11 #[] w fun e w' => e = .returned (.bool true) ∧ Below w.heap.size w w' := by
  have hcv : ∀ (W : World) (C : Array Value) (n c : Nat), (convert 34 34 (.slice (some ⟨W.heap.size, 0, none⟩) n c)).run Try.prog (W.alloc (.cells C 5)) = .ok (.slice (some ⟨W.heap.size, 0, none⟩) n c) (W.alloc (.cells C 5 (C.size, C.size + 1))) :=
    fun W C n c => Lib.run_convert_bytes_const W _ _ C n c Try.underlying34 Try.underlying5
  go_enter Try.func11, Try.ntmps11
  go_wp2_with fail
  refine (given_any _).mono ?_
  rintro e w1 ⟨A, c, rfl, hs, hb⟩
  have HS1 := Lib.hid hs
  have HB1 := Lib.hid hb
  clear hs hb
  go_wp2_with fail
  refine (size_any _ _ gvn HS1.out (by decide)).mono ?_
  rw [gvn_size]
  rintro e w2 ⟨rfl, hb⟩
  have HS2 := Lib.hid (HS1.out.below hb (Nat.le_refl _))
  have HB2 := Lib.hid (HB1.out.trans (hb.mono HB1.out.size))
  clear hb HS1
  go_wp2_with fail
  refine (first_any _ _ gvn 12 0 6 HS2.out).mono ?_
  unfold FirstPost
  rw [gvn_where1]
  rintro e w3 ⟨rfl, hb⟩
  have HS3 := Lib.hid (HS2.out.below hb (Nat.le_refl _))
  have HB3 := Lib.hid (HB2.out.trans (hb.mono HB2.out.size))
  clear hb HS2
  go_wp2_with fail
  refine (first_any _ _ gvn 9 0 100 HS3.out).mono ?_
  unfold FirstPost
  rw [gvn_where2]
  rintro e w4 ⟨rfl, hb⟩
  have HS4 := Lib.hid (HS3.out.below hb (Nat.le_refl _))
  have HB4 := Lib.hid (HB3.out.trans (hb.mono HB3.out.size))
  clear hb HS3
  go_wp2_with fail
  refine (lits_any _ _ _ gvn txt1 (HS4.out.below ((Below.refl _ _).alloc (Nat.le_refl _) _) (Nat.le_refl _)) (lit_ints txt1 (12, 13) 12 rfl (by decide)) (by decide) (by decide)).mono ?_
  rw [gvn_lits]
  rintro e w5 ⟨A5, c5, rfl, hg, hb⟩
  have hb5 := ((Below.refl w4.heap.size w4).alloc (Nat.le_refl _) _).trans (hb.mono (by simp))
  have HS5 := Lib.hid (HS4.out.below hb5 (Nat.le_refl _))
  have HB5 := Lib.hid (HB4.out.trans (hb5.mono HB4.out.size))
  have HG5 := Lib.hid hg.ints
  clear hb hb5 hg HS4
  go_wp2_with fail
  refine (cut_any _ _ gvn 11 HS5.out (by decide)).mono ?_
  rw [gvn_cut1]
  rintro e w6 ⟨va, vb, rfl, hst⟩
  obtain ⟨A6, c6, e6, -, -⟩ := SRow.form hst.ra
  obtain ⟨A7, c7, e7, -, -⟩ := SRow.form hst.rb
  subst e6 e7
  have HS6 := Lib.hid (HS5.out.below hst.bel (Nat.le_refl _))
  have HB6 := Lib.hid (HB5.out.trans (hst.bel.mono HB5.out.size))
  have HG6 := Lib.hid (HG5.out.below hst.bel (Nat.le_refl _))
  clear hst HS5 HG5
  go_wp2_with fail
  refine (num_any _ _).mono ?_
  rintro e w7 ⟨rfl, rfl⟩
  go_wp2_with fail
  refine (num_any _ _).mono ?_
  rintro e w8 ⟨rfl, rfl⟩
  go_wp2_with fail
  refine (check_any _ _ gvn 12 0 100 HS6.out).mono ?_
  rw [gvn_where3]
  rintro e w9 ⟨rfl, hb⟩
  have HS9 := Lib.hid (HS6.out.below hb (Nat.le_refl _))
  have HB9 := Lib.hid (HB6.out.trans (hb.mono HB6.out.size))
  have HG9 := Lib.hid (HG6.out.below hb (Nat.le_refl _))
  clear hb HS6 HG6
  go_wp2_with fail
  refine (num_any _ _).mono ?_
  rintro e w10 ⟨rfl, rfl⟩
  go_wp2_with fail
  refine (verify_any _ _ _ _ gvn [] txt1 9 (HS9.out.below ((Below.refl _ _).alloc (Nat.le_refl _) _) (Nat.le_refl _)) (Ints.nil _ _) (lit_ints txt1 (12, 13) 12 rfl (by decide)) (by decide) (by decide) (by decide)).mono ?_
  rw [gvn_is1]
  rintro e w11 ⟨rfl, hb⟩
  have hb5 := ((Below.refl w10.heap.size w10).alloc (Nat.le_refl _) _).trans (hb.mono (by simp))
  have HS11 := Lib.hid (HS9.out.below hb5 (Nat.le_refl _))
  have HB11 := Lib.hid (HB9.out.trans (hb5.mono HB9.out.size))
  have HG11 := Lib.hid (HG9.out.below hb5 (Nat.le_refl _))
  clear hb hb5 HS9 HG9
  go_wp2_with fail
  refine (num_any _ _).mono ?_
  rintro e w12 ⟨rfl, rfl⟩
  go_wp2_with fail
  refine (verify_any _ _ _ _ gvn [] txt2 9 (HS11.out.below ((Below.refl _ _).alloc (Nat.le_refl _) _) (Nat.le_refl _)) (Ints.nil _ _) (lit_ints txt2 (12, 13) 12 rfl (by decide)) (by decide) (by decide) (by decide)).mono ?_
  rw [gvn_is2]
  rintro e w13 ⟨rfl, hb⟩
  have hb5 := ((Below.refl w12.heap.size w12).alloc (Nat.le_refl _) _).trans (hb.mono (by simp))
  have HS13 := Lib.hid (HS11.out.below hb5 (Nat.le_refl _))
  have HB13 := Lib.hid (HB11.out.trans (hb5.mono HB11.out.size))
  have q13 : (convert 34 9 (.slice A5 5 c5)).run Try.prog w13 = .ok (.string ⟨#[97, 98, 99, 98, 97]⟩) w13 := conv_str (HG11.out.below hb5 (Nat.le_refl _))
  clear hb hb5 HS11 HG11
  go_wp2_with fail
  have ha2 : Seqs ((w13.alloc (.cells #[.int .i64 2, .int .i64 3, .int .i64 2] 60)).alloc (.cells #[.int .i64 2, .int .i64 3, .int .i64 7] 60)) (.slice (some ⟨w13.heap.size, 0, none⟩) 1 1) [⟨2, 3, 2⟩] := (Seqs.lit1 w13 ⟨2, 3, 2⟩ (by decide)).below ((Below.refl _ _).alloc (Nat.le_refl _) _) (Nat.le_refl _)
  have hb2 : Seqs ((w13.alloc (.cells #[.int .i64 2, .int .i64 3, .int .i64 2] 60)).alloc (.cells #[.int .i64 2, .int .i64 3, .int .i64 7] 60)) (.slice (some ⟨w13.heap.size + 1, 0, none⟩) 1 1) [⟨2, 3, 7⟩] := by
    have h := Seqs.lit1 (w13.alloc (.cells #[.int .i64 2, .int .i64 3, .int .i64 2] 60)) ⟨2, 3, 7⟩ (by decide)
    rwa [show (w13.alloc (.cells #[.int .i64 2, .int .i64 3, .int .i64 2] 60)).heap.size = w13.heap.size + 1 by simp] at h
  have hs2 : Seqs ((w13.alloc (.cells #[.int .i64 2, .int .i64 3, .int .i64 2] 60)).alloc (.cells #[.int .i64 2, .int .i64 3, .int .i64 7] 60)) (.slice A 2 c) gvn := HS13.out.below (((Below.refl w13.heap.size w13).alloc (Nat.le_refl _) _).alloc (by simp) _) (Nat.le_refl _)
  refine (cuts_true ((w13.alloc (.cells #[.int .i64 2, .int .i64 3, .int .i64 2] 60)).alloc (.cells #[.int .i64 2, .int .i64 3, .int .i64 7] 60)) (.slice A 2 c) (.slice (some ⟨w13.heap.size, 0, none⟩) 1 1) (.slice (some ⟨w13.heap.size + 1, 0, none⟩) 1 1) gvn [⟨2, 3, 2⟩] [⟨2, 3, 7⟩] 5 hs2 (by decide) ha2 hb2 gvn_cut2 (by decide) (by decide) (by decide) (by decide)).mono ?_
  clear ha2 hb2 hs2
  rintro e w14 ⟨rfl, hb⟩
  have hb5 := (((Below.refl w13.heap.size w13).alloc (Nat.le_refl _) _).alloc (by simp) _).trans (hb.mono (by simp; omega))
  have HS14 := Lib.hid (HS13.out.below hb5 (Nat.le_refl _))
  have HB14 := Lib.hid (HB13.out.trans (hb5.mono HB13.out.size))
  clear hb hb5 HS13 q13
  go_wp2_with fail
  have ha2 : Seqs (w14.alloc (.cells #[.int .i64 3, .int .i64 3, .int .i64 7] 60)) (.slice none 0 0) [] := Seqs.nil _
  have hb2 : Seqs (w14.alloc (.cells #[.int .i64 3, .int .i64 3, .int .i64 7] 60)) (.slice (some ⟨w14.heap.size, 0, none⟩) 1 1) [⟨3, 3, 7⟩] := Seqs.lit1 w14 ⟨3, 3, 7⟩ (by decide)
  have hs2 : Seqs (w14.alloc (.cells #[.int .i64 3, .int .i64 3, .int .i64 7] 60)) (.slice A 2 c) gvn := HS14.out.below ((Below.refl w14.heap.size w14).alloc (Nat.le_refl _) _) (Nat.le_refl _)
  refine (cuts_true (w14.alloc (.cells #[.int .i64 3, .int .i64 3, .int .i64 7] 60)) (.slice A 2 c) (.slice none 0 0) (.slice (some ⟨w14.heap.size, 0, none⟩) 1 1) gvn [] [⟨3, 3, 7⟩] 4 hs2 (by decide) ha2 hb2 gvn_cut3 (by decide) (by decide) (by decide) (by decide)).mono ?_
  clear ha2 hb2 hs2
  rintro e w15 ⟨rfl, hb⟩
  have hb5 := ((Below.refl w14.heap.size w14).alloc (Nat.le_refl _) _).trans (hb.mono (by simp))
  have HB15 := Lib.hid (HB14.out.trans (hb5.mono HB14.out.size))
  clear hb hb5 HS14
  go_wp2
  go_ret
  exact ⟨rfl, HB15.out⟩

theorem works_at {w W : World} (hb : Below w.heap.size w W) : Calls Try.prog 11 #[] W fun e w' => e = .returned (.bool true) ∧ Below w.heap.size w w' :=
  (works_any W).mono fun _ _ ⟨he, h⟩ => ⟨he, hb.trans (h.mono hb.size)⟩
end Go.Proofs.Ytamhkfnghgbenaa
