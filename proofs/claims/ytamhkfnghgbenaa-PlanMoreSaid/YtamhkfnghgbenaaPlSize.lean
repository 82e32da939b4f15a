/-
  plan: Size.
-/
import Derived.Test.YtamhkfnghgbenaaPlBad
namespace Go.Proofs.Ytamhkfnghgbenaa
set_option linter.all false
open Go.RowKit

theorem size_any (w : World) (v : Value) (ss : List SeqD) (h : Seqs w v ss) (hl : ss.length ≤ 100000) : Calls Try.prog 12 #[v] w fun e w' =>
    e = .returned (.tuple #[.int .i64 (sizeR ss).1, .int .i64 (sizeR ss).2]) ∧ Below w.heap.size w w' := by
  have HS := Lib.hid h
  have HL := Lib.hid hl
  obtain ⟨⟨A0, c0, hv, -, -, -⟩, -⟩ := h
  clear hl
  have hc := sizeR_cases ss
  obtain ⟨p, hp⟩ : ∃ p, sizeR ss = p := ⟨_, rfl⟩
  have HP := Lib.hid hp
  obtain ⟨n, q⟩ := p
  rw [hp] at hc
  simp only at hc
  obtain ⟨m, hm⟩ : ∃ m, ss.length = m := ⟨_, rfl⟩
  rw [hm] at hv
  clear hp hm
  subst hv
  rcases hc with hq | ⟨hq, hn⟩
  · subst hq
    go_enter Try.func12, Try.ntmps12
    go_wp2_with (refine (steps_all _ _ ss HS.out HL.out).mono ?_; rw [HP.out]; rintro e w2 ⟨A, c, rfl, hb, -, -⟩; have HB := Lib.hid hb; clear hb)
    refine bodyPost_ret (v := .tuple #[.int .i64 n, .int .i64 0]) (by simp [results, Try.results12, go_sem]) rfl ⟨by rw [HP.out], HB.out⟩
  · subst hq hn
    go_enter Try.func12, Try.ntmps12
    go_wp2_with (refine (steps_all _ _ ss HS.out HL.out).mono ?_; rw [HP.out]; rintro e w2 ⟨A, c, rfl, hb, -, -⟩; have HB := Lib.hid hb; clear hb)
    refine bodyPost_ret (v := .tuple #[.int .i64 0, .int .i64 15]) (by simp [results, Try.results12, go_sem]) rfl ⟨by rw [HP.out], HB.out⟩
end Go.Proofs.Ytamhkfnghgbenaa
