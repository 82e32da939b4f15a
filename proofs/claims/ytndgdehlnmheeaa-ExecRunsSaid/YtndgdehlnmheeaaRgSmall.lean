/-
  Ring: none, end, Len, Size, Total.
-/
import Derived.Test.YtndgdehlnmheeaaRows
import Derived.Test.YtndgdehlnmheeaaRgPlain
namespace Go.Proofs.Ytndgdehlnmheeaa
set_option maxRecDepth 100000
open Go.RowKit

/-- The pointer to a ring. -/
abbrev rp (g : Nat) : Value := .pointer (some ⟨g, 0, none⟩)

/-- No ring: nil, or a zero ring. -/
def NoRing (w : World) (p : Value) : Prop := p = .pointer none ∨ ∃ g, p = rp g ∧ Blk w g 64 #[.slice none 0 0, .int .i64 0, .int .i64 0]

theorem ring_cells {w : World} {g : Nat} {v s t : Value} (h : Blk w g 64 #[v, s, t]) :
    w.cell? ⟨g, 0, none⟩ = some v ∧ w.cell? ⟨g, 1, none⟩ = some s ∧ w.cell? ⟨g, 2, none⟩ = some t ∧ w.frozen? ⟨g, 0, none⟩ = false ∧ w.frozen? ⟨g, 1, none⟩ = false ∧ w.frozen? ⟨g, 2, none⟩ = false :=
  ⟨by rw [h.cell]; rfl, by rw [h.cell]; rfl, by rw [h.cell]; rfl, h.frozen 0, h.frozen 1, h.frozen 2⟩

theorem none_ring (w : World) {g : Nat} {v : Value} {S T : Nat} (h : Blk w g 64 #[v, .int .i64 S, .int .i64 T]) (hS : 1 ≤ S) :
    Calls Try.prog 33 #[rp g] w fun e w' => e = .returned (.bool false) ∧ w' = w := by
  obtain ⟨c0, c1, c2, -⟩ := ring_cells h
  have h0 : ((S : Int) == 0) = false := by simp; omega
  unfold rp
  go_enter Try.func33, Try.ntmps33
  go_wp2
  go_ret
  exact ⟨rfl, rfl⟩

theorem none_no (w : World) {p : Value} (h : NoRing w p) :
    Calls Try.prog 33 #[p] w fun e w' => e = .returned (.bool true) ∧ w' = w := by
  rcases h with rfl | ⟨g, rfl, h⟩
  · go_enter Try.func33, Try.ntmps33
    go_wp2
    go_ret
    exact ⟨rfl, rfl⟩
  · obtain ⟨c0, c1, c2, -⟩ := ring_cells h
    unfold rp
    go_enter Try.func33, Try.ntmps33
    go_wp2
    go_ret
    exact ⟨rfl, rfl⟩

theorem size_ring (w : World) {g : Nat} {v : Value} {S T : Nat} {st : List Int} (h : Ring w g v S st T) :
    Calls Try.prog 54 #[rp g] w fun e w' => e = .returned (.int .i64 S) ∧ w' = w := by
  obtain ⟨c0, c1, c2, -⟩ := ring_cells h.blk
  have HB := Lib.hid h.blk
  have HP := Lib.hid h.pos
  clear h
  unfold rp
  go_enter Try.func54, Try.ntmps54
  go_wp2_with (go_at_call 33; refine (none_ring _ HB.out HP.out).mono ?_; rintro e w1 ⟨rfl, rfl⟩)
  go_ret
  exact ⟨rfl, rfl⟩

theorem total_ring (w : World) {g : Nat} {v : Value} {S T : Nat} {st : List Int} (h : Ring w g v S st T) :
    Calls Try.prog 20 #[rp g] w fun e w' => e = .returned (.int .i64 T) ∧ w' = w := by
  obtain ⟨c0, c1, c2, -⟩ := ring_cells h.blk
  have HB := Lib.hid h.blk
  have HP := Lib.hid h.pos
  clear h
  unfold rp
  go_enter Try.func20, Try.ntmps20
  go_wp2_with (go_at_call 33; refine (none_ring _ HB.out HP.out).mono ?_; rintro e w1 ⟨rfl, rfl⟩)
  go_ret
  exact ⟨rfl, rfl⟩

theorem len_ring (w : World) {g : Nat} {v : Value} {S T : Nat} {st : List Int} (h : Ring w g v S st T) :
    Calls Try.prog 36 #[rp g] w fun e w' => e = .returned (.int .i64 (min S st.length : Nat)) ∧ ∃ m, w' = w.drewN m := by
  obtain ⟨A, c, rfl, -, hc, -⟩ := h.form
  obtain ⟨c0, c1, c2, -⟩ := ring_cells h.blk
  have HB := Lib.hid h.blk
  have HP := Lib.hid h.pos
  have hn : st.length ≤ 9223372036854775807 := by have := h.len; have := h.max; omega
  obtain ⟨N, hN⟩ : ∃ N, st.length = N := ⟨_, rfl⟩
  rw [hN] at hn c0 HB ⊢
  clear h hN
  unfold rp
  by_cases hlt : N < S
  · have hm : min S N = N := by omega
    rw [hm]
    clear hm
    go_enter Try.func36, Try.ntmps36
    go_wp2_with (go_at_call 33; refine (none_ring _ HB.out HP.out).mono ?_; rintro e w1 ⟨rfl, rfl⟩)
    go_region
    all_goals (go_wp2; go_ret; exact ⟨rfl, _, rfl⟩)
  · have hm : min S N = S := by omega
    rw [hm]
    clear hm
    go_enter Try.func36, Try.ntmps36
    go_wp2_with (go_at_call 33; refine (none_ring _ HB.out HP.out).mono ?_; rintro e w1 ⟨rfl, rfl⟩)
    go_region
    all_goals (go_wp2; go_ret; exact ⟨rfl, _, rfl⟩)
end Go.Proofs.Ytndgdehlnmheeaa
