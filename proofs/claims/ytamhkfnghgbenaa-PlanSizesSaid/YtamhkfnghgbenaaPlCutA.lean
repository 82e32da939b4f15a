/-
  plan: Cut at any position.
-/
import Derived.Test.YtamhkfnghgbenaaPlCut
namespace Go.Proofs.Ytamhkfnghgbenaa
set_option linter.all false
open Go.RowKit

theorem cut_bad (w : World) (v : Value) (ss : List SeqD) (at_ : Int) (h : Seqs w v ss) (hl : ss.length ≤ 100000) (hb : (sizeR ss).2 ≠ 0 ∨ (sizeR ss).2 = 0 ∧ ¬ (0 ≤ at_ ∧ at_ ≤ (sizeR ss).1)) :
    Calls Try.prog 22 #[v, .int .i64 at_] w fun e w' => e = .returned (.tuple #[.slice none 0 0, .slice none 0 0, .int .i64 (cutR ss at_).2.2]) ∧ Below w.heap.size w w' := by
  have HL := Lib.hid hl
  have HS := Lib.hid h
  obtain ⟨⟨A, c, hv, hlc, hcm, -⟩, -⟩ := h
  subst hv
  have hsz := sizeR_cases ss
  have hsl := sizeR_le ss
  obtain ⟨pq, hpq⟩ : ∃ p, sizeR ss = p := ⟨_, rfl⟩
  have HPQ := Lib.hid hpq
  obtain ⟨sz, q⟩ := pq
  rw [hpq] at hb hsz hsl
  simp only at hb hsz hsl
  obtain ⟨z, rfl⟩ := Int.eq_ofNat_of_zero_le hsl.1
  rcases hb with hb | ⟨rfl, hb⟩
  · obtain ⟨rfl, hz⟩ : q = 15 ∧ (z : Int) = 0 := by
      rcases hsz with h | h
      · exact absurd h hb
      · exact h
    have hr : (cutR ss at_).2.2 = 15 := by unfold cutR; rw [hpq]; simp
    rw [hr]
    clear hb hpq hr hz hsz
    go_enter Try.func22, Try.ntmps22
    go_wp2_with (first
      | (go_at_call 29; refine (steps_all _ _ ss HS.out HL.out).mono ?_; rw [HPQ.out]; rintro e w4 ⟨A4, c4, rfl, hb, hr, ho⟩; have HB4 := Lib.hid hb; clear hb hr ho))
    refine bodyPost_ret (v := .tuple #[.slice none 0 0, .slice none 0 0, .int .i64 15]) (by simp [results, Try.results22, go_sem]) rfl ⟨rfl, HB4.out⟩
  · have hr : (cutR ss at_).2.2 = 21 := by unfold cutR; rw [hpq]; simp only [if_true]; rw [if_neg hb]
    rw [hr]
    clear hpq hr hsz
    by_cases h0 : at_ < 0
    · clear hb
      go_enter Try.func22, Try.ntmps22
      go_wp2_with (first
        | (go_at_call 29; refine (steps_all _ _ ss HS.out HL.out).mono ?_; rw [HPQ.out]; rintro e w4 ⟨A4, c4, rfl, hb, hr, ho⟩; have HB4 := Lib.hid hb; clear hb hr ho))
      refine bodyPost_ret (v := .tuple #[.slice none 0 0, .slice none 0 0, .int .i64 21]) (by simp [results, Try.results22, go_sem]) rfl ⟨rfl, HB4.out⟩
    · have h1 : 0 ≤ at_ := by omega
      have h2 : (z : Int) < at_ := by omega
      clear hb h0
      go_enter Try.func22, Try.ntmps22
      go_wp2_with (first
        | (go_at_call 29; refine (steps_all _ _ ss HS.out HL.out).mono ?_; rw [HPQ.out]; rintro e w4 ⟨A4, c4, rfl, hb, hr, ho⟩; have HB4 := Lib.hid hb; clear hb hr ho))
      refine bodyPost_ret (v := .tuple #[.slice none 0 0, .slice none 0 0, .int .i64 21]) (by simp [results, Try.results22, go_sem]) rfl ⟨rfl, HB4.out⟩

theorem cut_any (w : World) (v : Value) (ss : List SeqD) (at_ : Int) (h : Seqs w v ss) (hl : ss.length ≤ 100000) :
    Calls Try.prog 22 #[v, .int .i64 at_] w fun e w' => ∃ va vb, e = .returned (.tuple #[va, vb, .int .i64 (cutR ss at_).2.2]) ∧ CutSt w w' va vb (cutR ss at_).1 (cutR ss at_).2.1 := by
  by_cases hg : (sizeR ss).2 = 0 ∧ (0 ≤ at_ ∧ at_ ≤ (sizeR ss).1)
  · obtain ⟨h1, h2, h3⟩ := hg
    have hr : cutR ss at_ = ((cutTo ss at_ ss.length).1, (cutTo ss at_ ss.length).2.1, 0) := by unfold cutR; rw [if_pos h1, if_pos ⟨h2, h3⟩]
    rw [hr]
    obtain ⟨T, rfl⟩ := Int.eq_ofNat_of_zero_le h2
    exact cut_ok w v ss T h hl h1 h3
  · have hb : (sizeR ss).2 ≠ 0 ∨ (sizeR ss).2 = 0 ∧ ¬ (0 ≤ at_ ∧ at_ ≤ (sizeR ss).1) := by
      by_cases h1 : (sizeR ss).2 = 0
      · exact Or.inr ⟨h1, fun h2 => hg ⟨h1, h2⟩⟩
      · exact Or.inl h1
    have hr : (cutR ss at_).1 = [] ∧ (cutR ss at_).2.1 = [] := by
      unfold cutR
      rcases hb with h1 | ⟨h1, h2⟩
      · rw [if_neg h1]; exact ⟨rfl, rfl⟩
      · rw [if_pos h1, if_neg h2]; exact ⟨rfl, rfl⟩
    refine (cut_bad w v ss at_ h hl hb).mono ?_
    rintro e w' ⟨rfl, hb⟩
    rw [hr.1, hr.2]
    exact ⟨_, _, rfl, (CutSt.start w).below hb⟩
end Go.Proofs.Ytamhkfnghgbenaa
