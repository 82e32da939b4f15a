/-
  PlanCuts: the law's walk.
-/
import Derived.Test.YtamhkfnghgbenaaPlApp
import Derived.Test.YtamhkfnghgbenaaPlRefD
import Derived.Test.YtamhkfnghgbenaaArgSeqs
namespace Go.Proofs.Ytamhkfnghgbenaa
set_option linter.all false
open Go.RowKit

theorem cutTo_wf {ss : List SeqD} {at_ : Int} (ha : 0 ≤ at_ ∧ at_ ≤ 131072) (hw : ∀ s ∈ ss, s.Wf) : ∀ {k : Nat}, k ≤ ss.length → Good 1 131072 0 0 ss k → (∀ s ∈ (cutTo ss at_ k).1, s.Wf) ∧ (∀ s ∈ (cutTo ss at_ k).2.1, s.Wf)
  | 0, _, _ => by simp [cutTo]
  | k + 1, hk, hg => by
    have hs := List.getElem?_eq_getElem (l := ss) (i := k) (by omega)
    obtain ⟨s, hse⟩ : ∃ s, ss[k]'(by omega) = s := ⟨_, rfl⟩
    rw [hse] at hs
    have hgk : Good 1 131072 0 0 ss k := fun i x hi => hg i x (by omega)
    have hpos := Good.pos (by omega) (k := k) (by omega) hgk
    obtain ⟨⟨o1, o2, o3, o4⟩, -⟩ := hg k _ (by omega) hs
    simp only [stepAt] at o1 o2 o3 o4
    have hcy := cutTo_carry ss at_ (k := k) (by omega) hgk
    have ih := cutTo_wf ha hw (k := k) (by omega) hgk
    have hsw := hw s (List.mem_of_getElem? hs)
    have hso := hsw.2.2
    rw [cutTo_succ hs]
    obtain ⟨P, hP⟩ : ∃ P, posL (ss.take k) = P := ⟨_, rfl⟩
    rw [hP] at hpos o3 o4 ⊢
    obtain ⟨⟨aa, bb, cy⟩, hct⟩ : ∃ x, cutTo ss at_ k = x := ⟨_, rfl⟩
    rw [hct] at hcy ih ⊢
    simp only at hcy ih
    have snoc : ∀ (l : List SeqD) (y : SeqD), (∀ x ∈ l, x.Wf) → y.Wf → ∀ x ∈ l ++ [y], x.Wf := fun l y h1 h2 x hx => by
      rcases List.mem_append.1 hx with h | h
      · exact h1 x h
      · rw [List.mem_singleton] at h; exact h ▸ h2
    unfold cutStep
    split
    · exact ⟨snoc _ _ ih.1 hsw, ih.2⟩
    · split
      · exact ⟨ih.1, snoc _ _ ih.2 ⟨by simp only; omega, by simp only; omega, hso⟩⟩
      · refine ⟨?_, ?_⟩
        · simp only
          split
          · exact snoc _ _ ih.1 ⟨by simp only; omega, by simp only; omega, hso⟩
          · exact ih.1
        · simp only
          split
          · exact snoc _ _ ih.2 ⟨by simp only; omega, by simp only; omega, hso⟩
          · exact ih.2
theorem cutR_wf {ss : List SeqD} {at_ : Int} (hw : ∀ s ∈ ss, s.Wf) : (∀ s ∈ (cutR ss at_).1, s.Wf) ∧ (∀ s ∈ (cutR ss at_).2.1, s.Wf) := by
  unfold cutR
  split
  · next h =>
    split
    · next h2 =>
      obtain ⟨-, -, hg⟩ := sizeR_ok h
      have := sizeR_le ss
      exact cutTo_wf ⟨h2.1, by omega⟩ hw (Nat.le_refl _) hg
    · simp
  · simp
theorem cutR_le (ss : List SeqD) (at_ : Int) : (cutR ss at_).1.length ≤ ss.length ∧ (cutR ss at_).2.1.length ≤ ss.length := by
  unfold cutR
  split
  · split
    · exact cutTo_le ss at_ _
    · simp
  · simp

set_option maxRecDepth 100000 in
set_option maxHeartbeats 1600000 in
theorem planCuts_walk {w : World} (v : Value) (ss : List SeqD) (h : Seqs w v ss) (T : Int) (_hT : (Lit.int .i64 T).wf = true) :
    Calls Try.prog 6 #[v, .int .i64 T] w fun e w' => e = .returned (.bool true) ∧ Below w.heap.size w w' := by
  have HS := Lib.hid h
  have HW := Lib.hid (cutR_wf (at_ := T) h.2)
  have HLE := Lib.hid (cutR_le ss T)
  have HWF := Lib.hid h.2
  obtain ⟨⟨A, c, hv', hlc, hcm, -⟩, -⟩ := h
  obtain ⟨n, hn⟩ : ∃ n, ss.length = n := ⟨_, rfl⟩
  rw [hn] at hv' hlc
  subst hv'
  have HN := Lib.hid hn
  have hni : (n : Int) ≤ 9223372036854775807 := by have := hcm; simp only [maxLen] at this; omega
  clear hn
  by_cases hg : 100 < n
  · have hgi : (100 : Int) < (n : Int) := by omega
    go_enter Try.func6, Try.ntmps6
    go_wp2_with (go_at_call 11; refine (works_at (Below.refl _ w)).mono ?_; rintro e w1 ⟨rfl, hb⟩; have HB := Lib.hid hb; clear hb)
    go_ret
    exact ⟨rfl, HB.out⟩
  · have hgi : (n : Int) ≤ 100 := by omega
    have HL : Hid (ss.length ≤ 100000) := (by rw [HN.out]; omega : ss.length ≤ 100000)
    obtain ⟨⟨xs, ys, q⟩, hq⟩ : ∃ p, cutR ss T = p := ⟨_, rfl⟩
    rw [hq] at HW HLE
    simp only at HW HLE
    have HQ := Lib.hid hq
    clear hq
    have hE0 : SeqRow (w.alloc (.cells #[] 60)) (.slice (some ⟨w.heap.size, 0, none⟩) 0 0) [] := seqRow_empty w
    have HE0 := Lib.hid hE0
    have hb0 := (Below.refl w.heap.size w).alloc (Nat.le_refl _) (.cells #[] 60)
    have HB0 := Lib.hid hb0
    have HS0 := Lib.hid (HS.out.below hb0 (Nat.le_refl _))
    clear hE0 hb0
    go_enter Try.func6, Try.ntmps6
    go_wp2_with (at_builtin; refine wpList_append_seqs rfl _ _ rfl rfl HE0.out rfl HS0.out (by simp; omega) n (by simp) ?_; intro A4 c4 w4 hr hgr; rw [List.nil_append] at hr; have HR4 := Lib.hid hr; have HB4 := Lib.hid (HB0.out.grown hgr HB0.out.size (fun k hk => Nat.le_of_eq (Option.some.inj hk))); clear hr hgr)
    go_wp2_with fail
    refine (cut_any _ _ ss T (HR4.out.seqs HWF.out) HL.out).mono ?_
    rw [HQ.out]
    simp only
    rintro e w5 ⟨va, vb, rfl, hst⟩
    obtain ⟨A5, c5, e5, -, -⟩ := SRow.form hst.ra
    obtain ⟨A6, c6, e6, -, -⟩ := SRow.form hst.rb
    rw [List.length_map] at e5 e6
    subst e5 e6
    have S1 := Lib.hid (SeqRow.seqs hst.ra HW.out.1)
    have S2 := Lib.hid (SeqRow.seqs hst.rb HW.out.2)
    have S3 := Lib.hid ((HR4.out.seqs HWF.out).below hst.bel (Nat.le_refl _))
    have HB5 := Lib.hid (HB4.out.trans (hst.bel.mono HB4.out.size))
    have HS5 := Lib.hid (HS.out.below HB5.out (Nat.le_refl _))
    clear hst HR4 HE0 HS0 HB0
    go_wp2_with fail
    refine (rcut_any _ _ ss T HS5.out HL.out).mono ?_
    rw [HQ.out]
    simp only
    rintro e w6 ⟨vc, vd, rfl, hst⟩
    obtain ⟨A7, c7, e7, -, -⟩ := SRow.form hst.ra
    obtain ⟨A8, c8, e8, -, -⟩ := SRow.form hst.rb
    rw [List.length_map] at e7 e8
    subst e7 e8
    have T1 := Lib.hid (SeqRow.seqs hst.ra HW.out.1)
    have T2 := Lib.hid (SeqRow.seqs hst.rb HW.out.2)
    have S1' := Lib.hid (S1.out.below hst.bel (Nat.le_refl _))
    have S2' := Lib.hid (S2.out.below hst.bel (Nat.le_refl _))
    have S3' := Lib.hid (S3.out.below hst.bel (Nat.le_refl _))
    have HB6 := Lib.hid (HB5.out.trans (hst.bel.mono HB5.out.size))
    have HS6 := Lib.hid (HS5.out.below hst.bel (Nat.le_refl _))
    clear hst S1 S2 S3 HS5
    go_wp2_with fail
    refine (same_any _ _ _ xs xs S1'.out T1.out (by have := HLE.out.1; have := HL.out; omega)).mono ?_
    rw [decide_eq_true rfl]
    rintro e w7 ⟨rfl, hb⟩
    have HB7 := Lib.hid (HB6.out.trans (hb.mono HB6.out.size))
    have S4 := Lib.hid (S2'.out.below hb (Nat.le_refl _))
    have T4 := Lib.hid (T2.out.below hb (Nat.le_refl _))
    have S5 := Lib.hid (S3'.out.below hb (Nat.le_refl _))
    have HS7 := Lib.hid (HS6.out.below hb (Nat.le_refl _))
    clear hb S1' S2' S3' T1 T2 HS6
    go_wp2_with fail
    refine (same_any _ _ _ ys ys S4.out T4.out (by have := HLE.out.2; have := HL.out; omega)).mono ?_
    rw [decide_eq_true rfl]
    rintro e w8 ⟨rfl, hb⟩
    have HB8 := Lib.hid (HB7.out.trans (hb.mono HB7.out.size))
    have S6 := Lib.hid (S5.out.below hb (Nat.le_refl _))
    have HS8 := Lib.hid (HS7.out.below hb (Nat.le_refl _))
    clear hb S4 T4 S5 HS7
    go_wp2_with fail
    refine (num_any _ _).mono ?_
    rintro e w9 ⟨rfl, rfl⟩
    go_wp2_with fail
    refine (same_any _ _ _ ss ss S6.out HS8.out HL.out).mono ?_
    rw [decide_eq_true rfl]
    rintro e w10 ⟨rfl, hb⟩
    have HB10 := Lib.hid (HB8.out.trans (hb.mono HB8.out.size))
    clear hb S6 HS8
    go_wp2_with (go_at_call 11; refine (works_at HB10.out).mono ?_; rintro e w9 ⟨rfl, hb⟩; have HB := Lib.hid hb; clear hb)
    go_ret
    exact ⟨rfl, HB.out⟩
end Go.Proofs.Ytamhkfnghgbenaa
