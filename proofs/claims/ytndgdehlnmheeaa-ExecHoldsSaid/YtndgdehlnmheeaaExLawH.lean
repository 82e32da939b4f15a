/-
  exec: executing a plan of some data yields the data.
-/
import Derived.Test.YtndgdehlnmheeaaExLaw
namespace Go.Proofs.Ytndgdehlnmheeaa
set_option linter.all false
set_option maxRecDepth 100000
open Go.RowKit

theorem litsTo_le_ {ss : List SeqD} {dd : List Int} {k m : Nat} (h : k ≤ m) : ∃ r, litsTo ss dd m = litsTo ss dd k ++ r := by
  induction m with
  | zero => obtain rfl : k = 0 := by omega
            exact ⟨[], by simp⟩
  | succ m ih =>
    rcases Nat.lt_or_ge m k with h1 | h1
    · obtain rfl : k = m + 1 := by omega
      exact ⟨[], by simp⟩
    · obtain ⟨r, hr⟩ := ih h1
      rw [litsTo, hr]
      exact ⟨_, List.append_assoc _ _ _⟩

/-- A match of a plan is what a copy makes. -/
theorem copied_match {all : List Int} {from_ off len : Nat} (ho : 1 ≤ off) (ho2 : off ≤ from_) (hl : from_ + len ≤ all.length) (h : ∀ j, from_ ≤ j → j < from_ + len → all[j]? = all[j - off]?) :
    copied (lastN off (all.take from_)) off len = (all.drop from_).take len := by
  have key : ∀ i, i < len → all[from_ + i]? = all[from_ - off + i % off]? := by
    intro i
    induction i using Nat.strongRecOn with
    | _ i ih =>
      intro hi
      rw [h (from_ + i) (by omega) (by omega)]
      rcases Nat.lt_or_ge i off with h1 | h1
      · rw [Nat.mod_eq_of_lt h1]; congr 1; omega
      · rw [show from_ + i - off = from_ + (i - off) by omega, ih (i - off) (by omega) (by omega), Nat.mod_eq_sub_mod h1]
  apply List.ext_getElem?
  intro i
  rcases Nat.lt_or_ge i len with hi | hi
  · unfold copied
    rw [List.getElem?_map, List.getElem?_range hi, List.getElem?_take, if_pos hi, List.getElem?_drop, key i hi]
    have hm := Nat.mod_lt i (show 0 < off by omega)
    have hln : (all.take from_).length = from_ := by rw [List.length_take]; omega
    have hl2 : i % off < (lastN off (all.take from_)).length := by rw [lastN_length, hln]; omega
    simp only [Option.map_some]
    rw [← getD_some hl2, lastN_get, hln, List.getElem?_take, if_pos (by omega)]
  · rw [List.getElem?_eq_none (by rw [copied_length]; exact hi), List.getElem?_eq_none (by rw [List.length_take]; omega)]

theorem take_app (H dd : List Int) (m : Nat) : (H ++ dd).take (H.length + m) = H ++ dd.take m := by
  induction H with
  | nil => simp
  | cons x r ih => rw [List.length_cons, show r.length + 1 + m = (r.length + m) + 1 by omega, List.cons_append, List.take_succ_cons, ih, List.cons_append]
theorem drop_app (H dd : List Int) (m : Nat) : (H ++ dd).drop (H.length + m) = dd.drop m := by
  induction H with
  | nil => simp
  | cons x r ih => rw [List.length_cons, show r.length + 1 + m = (r.length + m) + 1 by omega, List.cons_append, List.drop_succ_cons, ih]

/-- Behind k sequences of a plan of the data dd. -/
structure HoldAt (S na nd : Nat) (H dd lits : List Int) (ss : List SeqD) (k : Nat) : Prop where
  out : (runTo H lits ss k).1 = dd.take (posL (ss.take k)).toNat
  lit : litsTo ss dd k ++ (runTo H lits ss k).2 = lits
  ck : chk S (min S na : Nat) nd ss 0 lits.length 0 = chk S (min S na : Nat) nd (ss.drop k) k (runTo H lits ss k).2.length (posL (ss.take k))

theorem hold_all {S : Nat} {H dd lits : List Int} {ss : List SeqD} (hd : dd.length ≤ 131072) (hS1 : 1 ≤ S) (hp : PlanOf H.length dd.length S (H ++ dd) ss) (hl : lits = litsTo ss dd ss.length ++ dd.drop (posL ss).toNat) :
    ∀ {k : Nat}, k ≤ ss.length → HoldAt S H.length dd.length H dd lits ss k
  | 0, _ => ⟨by simp [runTo, posL], by simp [litsTo, runTo], by simp [runTo, posL]⟩
  | k + 1, hk => by
    have hs := List.getElem?_eq_getElem (l := ss) (i := k) (by omega)
    obtain ⟨s, hse⟩ : ∃ s, ss[k]'(by omega) = s := ⟨_, rfl⟩
    rw [hse] at hs
    obtain ⟨i1, i2, i3⟩ := hold_all hd hS1 hp hl (k := k) (by omega)
    obtain ⟨hP0, c1, c2, c3, c4, c5, c6, c7⟩ := hp k s hs
    obtain ⟨P, hP⟩ : ∃ P : Nat, posL (ss.take k) = P := ⟨(posL (ss.take k)).toNat, by omega⟩
    obtain ⟨O, hO⟩ : ∃ O, (runTo H lits ss k).1 = O := ⟨_, rfl⟩
    obtain ⟨ls, hls⟩ : ∃ ls, (runTo H lits ss k).2 = ls := ⟨_, rfl⟩
    rw [hP] at c3 c6 c7 i1 i3
    rw [Int.toNat_natCast] at i1
    rw [hO] at i1
    rw [hls] at i2 i3
    obtain ⟨li, hli⟩ := Int.eq_ofNat_of_zero_le c1
    obtain ⟨le, hle⟩ := Int.eq_ofNat_of_zero_le (show 0 ≤ s.len by omega)
    obtain ⟨of_, hof⟩ := Int.eq_ofNat_of_zero_le (show 0 ≤ s.off by omega)
    rw [hli, hle] at c3
    rw [hof] at c4 c5 c6
    rw [hli] at c6
    -- what is left of the literals begins with this sequence's
    have htk : ls.take li = (dd.drop P).take li ∧ li ≤ ls.length := by
      obtain ⟨r, hr⟩ := litsTo_le_ (ss := ss) (dd := dd) (show k + 1 ≤ ss.length by omega)
      have h1 : litsTo ss dd (k + 1) = litsTo ss dd k ++ (dd.drop P).take li := by
        rw [litsTo, hs]
        simp only
        rw [hP, hli, Int.toNat_natCast, Int.toNat_natCast]
      have h2 : litsTo ss dd k ++ ls = litsTo ss dd k ++ ((dd.drop P).take li ++ (r ++ dd.drop (posL ss).toNat)) := by
        rw [i2, hl, hr, h1]
        simp only [List.append_assoc]
      have h3 := List.append_cancel_left h2
      have hlen : ((dd.drop P).take li).length = li := by rw [List.length_take, List.length_drop]; omega
      rw [h3]
      refine ⟨?_, by rw [List.length_append, hlen]; omega⟩
      exact List.take_left' hlen
    obtain ⟨htk, hlil⟩ := htk
    have hdt : (dd.take P).length = P := by rw [List.length_take]; omega
    have hpiece : pieceL (H ++ O) ls s = (dd.drop P).take (li + le) := by
      unfold pieceL
      rw [hli, hle, hof]
      simp only [Int.toNat_natCast]
      rw [htk, i1]
      have hX : H ++ dd.take P ++ (dd.drop P).take li = (H ++ dd).take (H.length + P + li) := by
        rw [show H.length + P + li = H.length + (P + li) by omega, take_app, List.take_add, List.append_assoc]
      have hcm := copied_match (all := H ++ dd) (from_ := H.length + P + li) (off := of_) (len := le) (by omega) (by omega) (by rw [List.length_append]; omega) (fun j h1 h2 => by
        have := c7 j (by omega) (by omega)
        rw [hof, Int.toNat_natCast] at this
        exact this)
      rw [hX, hcm]
      rw [show H.length + P + li = H.length + (P + li) by omega, drop_app, List.take_add, List.drop_drop]
    have ePos : posL (ss.take (k + 1)) = ((P + (li + le) : Nat) : Int) := by rw [posL_take_succ hs, hP, hli, hle]; omega
    refine ⟨?_, ?_, ?_⟩
    · rw [runTo_succ hs, hO, hls, hpiece, ePos, Int.toNat_natCast, i1]
      exact (List.take_add ..).symm
    · rw [runTo_succ hs, hls, litsTo, hs]
      simp only
      rw [hP, hli, Int.toNat_natCast, Int.toNat_natCast, ← htk, List.append_assoc, List.take_append_drop]
      exact i2
    · rw [i3, ePos, runTo_succ hs, hls]
      simp only
      have ok1 : LookD.ok1 ⟨s, k, S, (min S H.length : Nat), ls.length, dd.length, P⟩ := ⟨c1, by simp only; omega, c2, by simp only; omega, by simp only; omega, by simp only; omega, by simp only; omega⟩
      have ok2 : LookD.ok2 ⟨s, k, S, (min S H.length : Nat), ls.length, dd.length, P⟩ := ⟨by simp only; omega, by simp only; omega⟩
      rw [chk_succ hs ok1 ok2, hli, hle, List.length_drop, Int.toNat_natCast]
      have e1 : (((ls.length - li : Nat) : Int)) = (ls.length : Int) - li := by omega
      have e2 : (((P + (li + le) : Nat) : Int)) = (P : Int) + ((li : Int) + le) := by push_cast; omega
      rw [e1, e2]

theorem exec_holds {S : Nat} {H dd : List Int} {ss : List SeqD} (hd : dd.length ≤ 131072) (hS1 : 1 ≤ S) (hS2 : S ≤ 134217728) (hv : verR ss H dd S = 0) :
    (litsR ss dd).2 = 0 ∧ chkR S ((min S H.length : Nat) : Int) (litsR ss dd).1.length dd.length ss = ((0 : Int), (dd.length : Int), (0 : Int)) ∧ chkR S H.length (litsR ss dd).1.length dd.length ss = ((0 : Int), (dd.length : Int), (0 : Int)) ∧ contentL H (litsR ss dd).1 ss = dd := by
  obtain ⟨hargs, hp⟩ := verR_zero.1 hv
  obtain ⟨z1, z2, z3, z4⟩ := hp.size hd
  have hlr : litsR ss dd = (litsTo ss dd ss.length ++ dd.drop (posL ss).toNat, 0) := by
    unfold litsR
    rw [if_pos ⟨by rw [z1], by rw [z1]; exact z4⟩]
  rw [hlr]
  simp only
  obtain ⟨lits, hl⟩ : ∃ lits, litsTo ss dd ss.length ++ dd.drop (posL ss).toNat = lits := ⟨_, rfl⟩
  rw [hl]
  obtain ⟨i1, i2, i3⟩ := hold_all (H := H) hd hS1 hp hl.symm (Nat.le_refl _)
  rw [List.take_length] at i1 i3
  have hls : (runTo H lits ss ss.length).2 = dd.drop (posL ss).toNat := by
    have := i2.trans hl.symm
    exact List.append_cancel_left this
  obtain ⟨P, hP⟩ : ∃ P : Nat, posL ss = P := ⟨(posL ss).toNat, by omega⟩
  rw [hls, hP, Int.toNat_natCast, List.length_drop] at i3
  rw [chk_end_ok (by omega)] at i3
  have hchk : chk S (min S H.length : Nat) dd.length ss 0 lits.length 0 = ((0 : Int), (dd.length : Int), (0 : Int)) := by
    rw [i3]
    have : (P : Int) + ((dd.length - P : Nat) : Int) = dd.length := by omega
    rw [this]
  have h1 : chkR S (min S H.length : Nat) lits.length dd.length ss = ((0 : Int), (dd.length : Int), (0 : Int)) := by
    unfold chkR
    rw [if_pos ⟨by omega, by omega, by omega, by omega, by omega, by omega⟩, show min (((min S H.length : Nat)) : Int) (S : Int) = ((min S H.length : Nat) : Int) by omega]
    exact hchk
  have h2 : chkR S H.length lits.length dd.length ss = ((0 : Int), (dd.length : Int), (0 : Int)) := by
    unfold chkR
    rw [if_pos ⟨by omega, by omega, by omega, by omega, by omega, by omega⟩, show min (H.length : Int) (S : Int) = ((min S H.length : Nat) : Int) by omega]
    exact hchk
  refine ⟨by first | trivial | rfl, h1, h2, ?_⟩
  have hr := RunAt.all (H := H) hchk (Nat.le_refl _)
  have hc := hr.cont
  rw [hc, List.drop_length, i1, hls, hP, Int.toNat_natCast]
  unfold contentL piecesL
  by_cases h0 : dd.drop P = []
  · rw [if_pos h0]
    have := List.take_append_drop P dd
    rw [h0, List.append_nil] at this
    simpa using this
  · rw [if_neg h0]
    simp
end Go.Proofs.Ytndgdehlnmheeaa
