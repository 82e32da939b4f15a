/-
  plan: Literals.
-/
import Derived.Test.YtamhkfnghgbenaaPlLit
namespace Go.Proofs.Ytamhkfnghgbenaa
set_option linter.all false
set_option maxRecDepth 100000
open Go.RowKit

/-- What Literals answers. -/
def litsR (ss : List SeqD) (dd : List Int) : List Int × Int := if (sizeR ss).2 = 0 ∧ (sizeR ss).1 ≤ dd.length then (litsTo ss dd ss.length ++ dd.drop (posL ss).toNat, 0) else ([], 15)

theorem AtInts.tail {w : World} {k : IntKind} {A : Option Addr} {n c z : Nat} {xs : List Int} (h : AtInts w k A n xs) (hz : z ≤ n) (hc : n ≤ c) : AtInts w k (if c = z then A else Option.map (fun x => Addr.add x z) A) (n - z) (xs.drop z) := by
  refine ⟨by rw [List.length_drop, h.1], fun h0 => ?_⟩
  obtain ⟨b, o, hA, -⟩ := h.2 (by omega)
  obtain ⟨-, hx⟩ := h.sub hA (i := z) (m := n - z) (by omega)
  rw [if_neg (by omega), hA, show Option.map (fun x => Addr.add x z) (some (⟨b, o, none⟩ : Addr)) = some ⟨b, o + z, none⟩ by simp [Addr.add]]
  have h2 := hx h0
  rwa [List.take_of_length_le (by rw [List.length_drop, h.1]; omega)] at h2

set_option maxHeartbeats 1600000 in
theorem lits_any (w : World) (v vd : Value) (ss : List SeqD) (dd : List Int) (h : Seqs w v ss) (hd : Ints w .u8 vd dd) (hl : ss.length ≤ 100) (l2 : dd.length ≤ 131072) :
    Calls Try.prog 20 #[v, vd] w fun e w' => ∃ A cc, e = .returned (.tuple #[.slice A (litsR ss dd).1.length cc, .int .i64 (litsR ss dd).2]) ∧ Grow w' w.heap.size 5 .u8 (.slice A (litsR ss dd).1.length cc) (litsR ss dd).1 ∧ Below w.heap.size w w' := by
  have HL := Lib.hid hl
  obtain ⟨A2, c2, rfl, d1, d2, d3⟩ := ints_form hd
  have HS := Lib.hid (h.below ((Below.refl w.heap.size w).alloc (Nat.le_refl _) (.cells #[.slice A2 dd.length c2] 34)) (Nat.le_refl _))
  obtain ⟨⟨A, c, hv, hlc, hcm, -⟩, -⟩ := h
  obtain ⟨n, hn⟩ : ∃ n, ss.length = n := ⟨_, rfl⟩
  rw [hn] at hv hlc
  subst hv
  obtain ⟨nd, hnd⟩ : ∃ n, dd.length = n := ⟨_, rfl⟩
  rw [hnd] at d1 d3 l2 HS ⊢
  have HN := Lib.hid hn
  have HND := Lib.hid hnd
  have hB0 := (Below.refl w.heap.size w).alloc (Nat.le_refl _) (.cells #[.slice A2 nd c2] 34)
  have HB := Lib.hid hB0
  have HD := Lib.hid (d3.below hB0 (Nat.le_refl _))
  have HC : Hid ((w.alloc (.cells #[.slice A2 nd c2] 34)).cell? ⟨w.heap.size, 0, none⟩ = some (.slice A2 nd c2)) := (by simp : (w.alloc (.cells #[.slice A2 nd c2] 34)).cell? ⟨w.heap.size, 0, none⟩ = some (.slice A2 nd c2))
  have hsz := sizeR_cases ss
  have hsl := sizeR_le ss
  obtain ⟨pq, hpq⟩ : ∃ p, sizeR ss = p := ⟨_, rfl⟩
  have HPQ := Lib.hid hpq
  obtain ⟨sz, q⟩ := pq
  rw [hpq] at hsz hsl
  simp only at hsz hsl
  obtain ⟨z, rfl⟩ := Int.eq_ofNat_of_zero_le hsl.1
  have hndi : (nd : Int) ≤ 9223372036854775807 := by omega
  by_cases hok : q = 0 ∧ (z : Int) ≤ nd
  · obtain ⟨rfl, hz⟩ := hok
    have hzz := sizeR_ok (ss := ss) (by rw [hpq])
    have hlr : litsR ss dd = (litsTo ss dd ss.length ++ dd.drop (posL ss).toNat, 0) := by unfold litsR; rw [if_pos ⟨by rw [hpq], by rw [hpq, hnd]; exact hz⟩]
    have hp2 := hzz.2.1
    rw [hpq] at hp2
    simp only at hp2
    rw [hn, ← hp2, Int.toNat_natCast] at hlr
    have hgn := hzz.1
    rw [hn] at hgn
    have HGN := Lib.hid hgn
    have HZP : Hid (posL (ss.take n) ≤ nd) := (by rw [← hn, List.take_length, ← hp2]; exact hz : posL (ss.take n) ≤ nd)
    have HLR := Lib.hid hlr
    obtain ⟨m, hm⟩ : ∃ m, (litsTo ss dd n).length = m := ⟨_, rfl⟩
    have hmb : m ≤ 100 * 131072 := by
      have h1 := litsTo_le ss dd n
      rw [hm, hnd] at h1
      exact Nat.le_trans h1 (Nat.mul_le_mul (by omega) l2)
    have HM := Lib.hid hm
    have HMB := Lib.hid hmb
    have z0 : (0 : Int) ≤ (z : Int) := by omega
    have z1 : (z : Int) ≤ (c2 : Int) := by omega
    have z2 : z ≤ nd := by omega
    clear hm hmb hlr hzz hp2 hgn hsz hsl hpq hn hnd d3 hB0
    go_enter Try.func20, Try.ntmps20
    go_wp2_with (first
      | (go_at_call 29; refine (steps_all _ _ ss HS.out (by have := HL.out; omega)).mono ?_; rw [HGN.out, HPQ.out]; rintro e w4 ⟨A4, c4, rfl, hb, hr, ho⟩; have HB4 := Lib.hid (HB.out.trans (hb.mono HB.out.size)); have HR4 := Lib.hid hr; have HD4 := Lib.hid (HD.out.below hb (Nat.le_refl _)); have hc4 := (hb.cell (p := ⟨w.heap.size, 0, none⟩) (by simp)).trans HC.out; have HC4 := Lib.hid hc4; clear hb hr ho)
      | (go_at_call 36; refine (joined_any _ w.heap.size A2 nd c2 dd A4 n c4 ss HL.out HGN.out HZP.out d1 l2 d2 HC4.out HD4.out HR4.out).mono ?_; rw [HM.out]; rintro e w5 ⟨A5, c5, rfl, hg, hb⟩; have HB5 := Lib.hid (HB4.out.trans (hb.mono HB4.out.size)); have HD5 := Lib.hid (AtInts.tail (z := z) (c := c2) (HD4.out.below hb (Nat.le_refl _)) z2 d1); have HG5 := Lib.hid (hg.mono HB4.out.size); have hc5 := (hb.cell (p := ⟨w.heap.size, 0, none⟩) (World.block_lt_of_cell? w4 _ HC4.out)).trans HC4.out; clear hb hg)
      | (at_builtin; refine wpList_append_ints_any rfl _ _ rfl w.heap.size _ (litsTo ss dd n) (dd.drop z) rfl HG5.out _ (nd - z) (c2 - z) rfl HD5.out (by rw [HM.out]; have := HMB.out; omega) HB5.out.size (m + (nd - z)) (by rw [HM.out]) ?_; intro A6 c6 w6 hg hgr; have HG6 := Lib.hid hg; have HB6 := Lib.hid (HB5.out.grown hgr HB5.out.size (fun r hr => (World.ownsRow.lt HG5.out r hr).1)); clear hg hgr))
    all_goals
      have hlen : (litsR ss dd).1.length = m + (nd - z) := by rw [HLR.out]; simp only [List.length_append, List.length_drop]; rw [HM.out, HND.out]
      rw [hlen]
      refine bodyPost_ret (v := .tuple #[.slice A6 (m + (nd - z)) c6, .int .i64 0]) (by simp [results, Try.results20, go_sem]) rfl ⟨_, _, by rw [HLR.out], ?_, HB6.out⟩
      rw [HLR.out]
      exact HG6.out
  · have hlr : litsR ss dd = ([], 15) := by
      unfold litsR
      rw [if_neg]
      rintro ⟨h1, h2⟩
      rw [hpq] at h1 h2
      rw [hnd] at h2
      exact hok ⟨h1, h2⟩
    have HLR := Lib.hid hlr
    clear hlr hnd hn d3 hB0 hpq
    rcases hsz with rfl | ⟨rfl, hz⟩
    · have hz : (nd : Int) < (z : Int) := by omega
      have hz2 : nd < z := by omega
      go_enter Try.func20, Try.ntmps20
      go_wp2_with (first
        | (go_at_call 29; refine (steps_all _ _ ss HS.out (by have := HL.out; omega)).mono ?_; rw [HPQ.out]; rintro e w4 ⟨A4, c4, rfl, hb, hr, ho⟩; have HB4 := Lib.hid (HB.out.trans (hb.mono HB.out.size)); have hc4 := (hb.cell (p := ⟨w.heap.size, 0, none⟩) (by simp)).trans HC.out; clear hb hr ho))
      have hlen : (litsR ss dd).1.length = 0 := by rw [HLR.out]; rfl
      rw [hlen]
      refine bodyPost_ret (v := .tuple #[.slice none 0 0, .int .i64 15]) (by simp [results, Try.results20, go_sem]) rfl ⟨_, _, by rw [HLR.out], ?_, HB4.out⟩
      rw [HLR.out]
      exact Grow.nil _ _ _ _
    · go_enter Try.func20, Try.ntmps20
      go_wp2_with (first
        | (go_at_call 29; refine (steps_all _ _ ss HS.out (by have := HL.out; omega)).mono ?_; rw [HPQ.out]; rintro e w4 ⟨A4, c4, rfl, hb, hr, ho⟩; have HB4 := Lib.hid (HB.out.trans (hb.mono HB.out.size)); have hc4 := (hb.cell (p := ⟨w.heap.size, 0, none⟩) (by simp)).trans HC.out; clear hb hr ho))
      have hlen : (litsR ss dd).1.length = 0 := by rw [HLR.out]; rfl
      rw [hlen]
      refine bodyPost_ret (v := .tuple #[.slice none 0 0, .int .i64 15]) (by simp [results, Try.results20, go_sem]) rfl ⟨_, _, by rw [HLR.out], ?_, HB4.out⟩
      rw [HLR.out]
      exact Grow.nil _ _ _ _
end Go.Proofs.Ytamhkfnghgbenaa
