/-
  Ring: Byte.
-/
import Derived.Test.YtohmkcoodaidcaaRgByte
import Derived.Deep.RegionHeld3
namespace Go.Proofs.Ytohmkcoodaidcaa
set_option maxRecDepth 100000
open Go.RowKit

theorem byte_out (w : World) {g : Nat} {v : Value} {S T : Nat} {st : List Int} (h : Ring w g v S st T) (off : Int) (ho : off < 1 ∨ ((min S st.length : Nat) : Int) < off) :
    Calls Try.prog 29 #[rp g, .int .i64 off] w fun e w' => e = .returned (.tuple #[.int .u8 0, .bool false]) ∧ ∃ m, w' = w.drewN m := by
  have HR := Lib.hid h
  obtain ⟨L, hL⟩ : ∃ L, min S st.length = L := ⟨_, rfl⟩
  rw [hL] at ho
  have HL := Lib.hid hL
  clear h hL
  by_cases h1 : off < 1
  · clear ho
    unfold rp at *
    go_enter Try.func29, Try.ntmps29
    go_wp2
    go_ret2
    exact ⟨rfl, 0, rfl⟩
  · have h2 : (L : Int) < off := by omega
    clear ho
    unfold rp
    go_enter Try.func29, Try.ntmps29
    go_wp2_with (go_at_call 13; refine (len_ring _ HR.out).mono ?_; rw [HL.out]; rintro e w1 ⟨rfl, m1, rfl⟩)
    go_ret2
    exact ⟨rfl, _, rfl⟩

theorem byte_in (w : World) {g : Nat} {v : Value} {S T : Nat} {st : List Int} (h : Ring w g v S st T) (off : Nat) (h1 : 1 ≤ off) (h2 : off ≤ min S st.length) {x : Int} (hx : st[st.length - off]? = some x) :
    Calls Try.prog 29 #[rp g, .int .i64 off] w fun e w' => e = .returned (.tuple #[.int .u8 x, .bool true]) ∧ ∃ m, w' = w.drewN m := by
  have HR := Lib.hid h
  have HO : Hid (off ≤ st.length) := (by omega : off ≤ st.length)
  have HX : Hid ((lastN off st)[0]? = some x) := (by rw [lastN_get]; exact hx : _ = _)
  obtain ⟨L, hL⟩ : ∃ L, min S st.length = L := ⟨_, rfl⟩
  rw [hL] at h2
  have HL := Lib.hid hL
  have e1 : ¬ (off : Int) < 1 := by omega
  have e2 : ¬ (L : Int) < (off : Int) := by omega
  have e3 : 0 < off := by omega
  clear h hL hx
  unfold rp
  go_enter Try.func29, Try.ntmps29
  go_wp2_with (first
    | (go_at_call 13; refine (len_ring _ HR.out).mono ?_; rw [HL.out]; rintro e w1 ⟨rfl, m1, rfl⟩)
    | (go_at_call 34; refine (end_ring _ (HR.out.drewN m1) off HO.out).mono ?_; rintro e w1 ⟨⟨A, rfl, hat⟩, m2, rfl⟩; obtain ⟨b, o, rfl, hc⟩ := hat.2 e3; have cx := hc 0 _ HX.out; rw [Nat.add_zero, World.cell?_drewN] at cx; clear hat hc))
  go_ret2
  exact ⟨rfl, _, rfl⟩

end Go.Proofs.Ytohmkcoodaidcaa
