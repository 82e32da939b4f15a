/-
  The ring's laws: a call (Act) as cells, a slice of calls, few.
-/
import Derived.Test.YtohmkcoodaidcaaRgWorks
import Derived.Test.YtohmkcoodaidcaaRgNone
namespace Go.Proofs.Ytohmkcoodaidcaa
open Go.RowKit

/-- A call: What, B (a slice and its bytes), Off, N. -/
structure ActD where
  what : Int
  bv : Value
  b : List Int
  off : Int
  n : Int

/-- Its cells lie at block b from o on. -/
structure ActD.At (x : ActD) (w : World) (b o : Nat) : Prop where
  c0 : w.cell? ⟨b, o, none⟩ = some (.int .i64 x.what)
  c1 : w.cell? ⟨b, o + 1, none⟩ = some x.bv
  c2 : w.cell? ⟨b, o + 2, none⟩ = some (.int .i64 x.off)
  c3 : w.cell? ⟨b, o + 3, none⟩ = some (.int .i64 x.n)

/-- Its bytes read, its numbers are in range. -/
structure ActD.Ok (x : ActD) (w : World) : Prop where
  ints : Ints w .u8 x.bv x.b
  u8 : U8s x.b
  wn : -9223372036854775808 ≤ x.n ∧ x.n ≤ 9223372036854775807

/-- A slice of calls. -/
structure Acts (w : World) (v : Value) (l : List ActD) : Prop where
  at_ : ∃ A c, v = .slice A l.length c ∧ l.length ≤ c ∧ c ≤ maxLen ∧ (0 < l.length → ∃ b off, A = some ⟨b, off, none⟩ ∧ ∀ (i : Nat) (x : ActD), l[i]? = some x → x.At w b (off + i * 4))
  ok : ∀ x ∈ l, x.Ok w

section
variable {w w' : World} {B : Nat} {x : ActD} {v : Value} {l : List ActD}
theorem ActD.At.below {b o : Nat} (h : x.At w b o) (hb : Below B w w') (hB : w.heap.size ≤ B) : x.At w' b o := by
  have hlt := World.block_lt_of_cell? w _ h.c0
  have hlt' : b < B := Nat.lt_of_lt_of_le hlt hB
  exact ⟨(hb.cell (p := ⟨b, o, none⟩) hlt').trans h.c0, (hb.cell (p := ⟨b, o + 1, none⟩) hlt').trans h.c1, (hb.cell (p := ⟨b, o + 2, none⟩) hlt').trans h.c2, (hb.cell (p := ⟨b, o + 3, none⟩) hlt').trans h.c3⟩
theorem ActD.Ok.below (h : x.Ok w) (hb : Below B w w') (hB : w.heap.size ≤ B) : x.Ok w' := ⟨h.ints.below hb hB, h.u8, h.wn⟩
theorem Acts.below (h : Acts w v l) (hb : Below B w w') (hB : w.heap.size ≤ B) : Acts w' v l := by
  obtain ⟨⟨A, c, h1, h2, h3, h4⟩, hok⟩ := h
  refine ⟨⟨A, c, h1, h2, h3, fun h0 => ?_⟩, fun x hx => (hok x hx).below hb hB⟩
  obtain ⟨b, off, hA, hx⟩ := h4 h0
  exact ⟨b, off, hA, fun i x hi => (hx i x hi).below hb hB⟩
end

/-- Is a call within few's bounds. -/
def ActD.small (x : ActD) : Prop := x.b.length ≤ 100 ∧ (x.n ≤ 300 ∨ 131072 < x.n ∨ (x.what ≠ 3 ∧ x.what ≠ 4))
instance (x : ActD) : Decidable x.small := by unfold ActD.small; infer_instance
/-- What few reports. -/
def fewP (l : List ActD) (most : Int) : Prop := (l.length : Int) ≤ most ∧ ∀ x ∈ l, x.small
instance (l : List ActD) (most : Int) : Decidable (fewP l most) := by unfold fewP; infer_instance

theorem small_take_succ {l : List ActD} {k : Nat} {x : ActD} (h : ∀ y ∈ l.take k, y.small) (hx : l[k]? = some x) (hs : x.small) : ∀ y ∈ l.take (k + 1), y.small := by
  rw [List.take_add_one, hx]
  intro y hy
  rcases List.mem_append.1 hy with h1 | h1
  · exact h y h1
  · simp at h1; subst h1; exact hs

set_option maxHeartbeats 1600000 in
theorem few_any (w : World) (v : Value) (l : List ActD) (h : Acts w v l) (most : Int) :
    Calls Try.prog 17 #[v, .int .i64 most] w fun e w' => e = .returned (.bool (decide (fewP l most))) ∧ w' = w := by
  obtain ⟨⟨A, c, rfl, hlc, hcm, hat⟩, hok⟩ := h
  have HA := Lib.hid hat
  have HO := Lib.hid hok
  have hnm : l.length ≤ 9223372036854775807 := by simp only [maxLen] at hcm; omega
  obtain ⟨N, hN⟩ : ∃ N, l.length = N := ⟨_, rfl⟩
  have HN := Lib.hid hN
  rw [hN] at hlc hnm ⊢
  clear hat hok hN
  by_cases hm : most < (N : Int)
  · have hd : decide (fewP l most) = false := decide_eq_false (fun hf => by have := hf.1; rw [HN.out] at this; omega)
    rw [hd]
    clear hd
    go_enter Try.func17, Try.ntmps17
    go_wp2
    go_ret
    exact ⟨rfl, rfl⟩
  · go_enter Try.func17, Try.ntmps17
    go_wp2
    go_loop [5] (fun i => ∃ k : Nat, k ≤ N ∧ i = .int .i64 k ∧ Hid (∀ y ∈ l.take k, y.small)) (fun i => N - (intOf i).toNat)
    case atStart => exact ⟨0, Nat.zero_le _, rfl, (fun y hy => by simp at hy : ∀ y ∈ l.take 0, y.small)⟩
    case round =>
      obtain ⟨k, hk, rfl, HS⟩ := hrel
      have k0 : (0 : Int) ≤ (k : Int) := by omega
      by_cases hlt : k < N
      · have k1 : (k : Int) < (N : Int) := by omega
        obtain ⟨b, off, rfl, hcell⟩ := HA.out (by have := HN.out; omega)
        have hx := List.getElem?_eq_getElem (l := l) (i := k) (by have := HN.out; omega)
        have hmem := List.mem_of_getElem? hx
        obtain ⟨x, hxe⟩ : ∃ x, l[k]'(by have := HN.out; omega) = x := ⟨_, rfl⟩
        rw [hxe] at hx hmem
        have HX := Lib.hid hx
        have HMEM := Lib.hid hmem
        obtain ⟨c0, c1, c2, c3⟩ := hcell k x hx
        obtain ⟨Ab, nb, cb, hbv, -, hcb, hatb⟩ := (HO.out x hmem).ints.get
        have hlen := hatb.1
        rw [hbv] at c1
        obtain ⟨what, hwhat⟩ : ∃ z, x.what = z := ⟨_, rfl⟩
        obtain ⟨nn, hnn⟩ : ∃ z, x.n = z := ⟨_, rfl⟩
        rw [hwhat] at c0
        rw [hnn] at c3
        by_cases hs : x.small
        · have HSM := Lib.hid hs
          unfold ActD.small at hs
          rw [hlen, hwhat, hnn] at hs
          clear hcell hx hmem hxe hbv hatb hlen hwhat hnn c2
          obtain ⟨h1, hs⟩ := hs
          have hs' : nn ≤ 300 ∨ 131072 < nn ∨ ((what == 3) = false ∧ (what == 4) = false) := by
            rcases hs with h | h | h
            · exact .inl h
            · exact .inr (.inl h)
            · exact .inr (.inr ⟨by simpa using h.1, by simpa using h.2⟩)
          clear hs
          obtain h2 | h2 | ⟨h2, h3⟩ := hs'
          all_goals
            go_wp2
            all_goals
              go_round
              case rel => exact ⟨k + 1, by omega, by go_num, (small_take_succ HS.out HX.out HSM.out : ∀ y ∈ l.take (k + 1), y.small)⟩
              case measure => simp [intOf]; omega
        · have hf : decide (fewP l most) = false := decide_eq_false (fun hf => hs (hf.2 x hmem))
          have HF := Lib.hid hf
          have hs' : 100 < nb ∨ (nb ≤ 100 ∧ 300 < nn ∧ nn ≤ 131072 ∧ (what = 3 ∨ what = 4)) := by
            unfold ActD.small at hs
            rw [hlen, hwhat, hnn] at hs
            omega
          clear hcell hx hmem hxe hbv hatb hlen hwhat hnn c2 hs hf
          rcases hs' with h1 | ⟨h1, h2, h3, h4 | h4⟩
          all_goals
            go_wp2
            go_ret
            exact ⟨ret_bool HF.out.symm, rfl⟩
      · obtain rfl : k = N := by omega
        have ht : decide (fewP l most) = true := decide_eq_true ⟨by rw [HN.out]; omega, by have := HS.out; rw [List.take_of_length_le (by rw [HN.out]; exact Nat.le_refl _)] at this; exact this⟩
        have HT := Lib.hid ht
        clear ht
        go_wp2
        go_ret
        exact ⟨ret_bool HT.out.symm, rfl⟩
end Go.Proofs.Ytohmkcoodaidcaa
