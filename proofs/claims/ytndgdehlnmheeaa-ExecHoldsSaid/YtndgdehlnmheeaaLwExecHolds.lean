/-
  ExecHolds: the law's walk.
-/
import Derived.Test.YtndgdehlnmheeaaExFew
import Derived.Test.YtndgdehlnmheeaaExLawH
import Derived.Test.YtndgdehlnmheeaaArgSeqs
namespace Go.Proofs.Ytndgdehlnmheeaa
set_option linter.all false
set_option maxRecDepth 100000
open Go.RowKit

set_option maxHeartbeats 3200000 in
theorem execHolds_walk {w : World} (v : Value) (ss : List SeqD) (h : Seqs w v ss) (va : Value) (aa : List Int) (ha : Ints w .u8 va aa ∧ ∀ z ∈ aa, (Lit.int .u8 z).wf = true) (vd : Value) (dd : List Int) (hd : Ints w .u8 vd dd ∧ ∀ z ∈ dd, (Lit.int .u8 z).wf = true) (wd : Int) (_hwd : (Lit.int .i64 wd).wf = true) :
    Calls Try.prog 4 #[v, va, vd, .int .i64 wd] w fun e w' => e = .returned (.bool true) ∧ Below w.heap.size w w' := by
  have HS := Lib.hid h
  have HA := Lib.hid ha.1
  have HD := Lib.hid hd.1
  have HUA : Hid (U8s aa) := ((fun z hz => u8_wf (ha.2 z hz)) : U8s aa)
  have HUD : Hid (U8s dd) := ((fun z hz => u8_wf (hd.2 z hz)) : U8s dd)
  obtain ⟨A1, c1, rfl, a1, a2, -⟩ := ints_form ha.1
  obtain ⟨A2, c2, rfl, d1, d2, -⟩ := ints_form hd.1
  obtain ⟨⟨A, c, hv', hlc, hcm, h4⟩, -⟩ := h
  have hown : ∀ k, 0 < ss.length → v.ownBlock = some k → k < w.heap.size := fun k h0 hk => by
    obtain ⟨b, off, rfl, hcell⟩ := h4 h0
    rw [hv'] at hk
    obtain rfl : b = k := by simpa [Value.ownBlock] using hk
    exact World.block_lt_of_cell? w _ (hcell 0 _ (List.getElem?_eq_getElem h0)).1
  have HOWN := Lib.hid hown
  clear hown h4
  obtain ⟨n, hn⟩ : ∃ n, ss.length = n := ⟨_, rfl⟩
  obtain ⟨na, hna⟩ : ∃ n, aa.length = n := ⟨_, rfl⟩
  obtain ⟨nd, hnd⟩ : ∃ n, dd.length = n := ⟨_, rfl⟩
  have HN := Lib.hid hn
  have HNA := Lib.hid hna
  have HND := Lib.hid hnd
  rw [hn] at hv' hlc
  rw [hna] at a1 HA ⊢
  rw [hnd] at d1 HD ⊢
  subst hv'
  clear ha hd hn hna hnd
  have hF : ∀ W, Below w.heap.size w W → Calls Try.prog 11 #[.slice A n c, .slice A1 na c1, .slice A2 nd c2] W (FewPost ss na nd W) := fun W hW => few_any W _ ss (HS.out.below hW (Nat.le_refl _)) A1 A2 na nd c1 c2 (by omega) (by omega)
  have HF := Lib.hid (hF w (Below.refl _ _))
  clear hF
  obtain ⟨q, hq⟩ : ∃ p, verR ss aa dd wd = p := ⟨_, rfl⟩
  have HQ := Lib.hid hq
  have hndi : (nd : Int) ≤ 9223372036854775807 := by omega
  have hnai : (na : Int) ≤ 9223372036854775807 := by omega
  by_cases hq0 : q = 0
  · subst hq0
    obtain ⟨⟨-, -, g3, g4, g5⟩, -⟩ := verR_zero.1 hq
    obtain ⟨S, rfl⟩ := Int.eq_ofNat_of_zero_le (show 0 ≤ wd by omega)
    have hS1 : 1 ≤ S := by omega
    have hS2 : S ≤ 134217728 := by omega
    obtain ⟨e1, e2, e3, e4⟩ := exec_holds (by omega) hS1 hS2 hq
    obtain ⟨⟨lits, lq⟩, hlr⟩ : ∃ p, litsR ss dd = p := ⟨_, rfl⟩
    rw [hlr] at e1 e2 e3 e4
    simp only at e1 e2 e3 e4
    subst e1
    obtain ⟨nl, hnl⟩ : ∃ n, lits.length = n := ⟨_, rfl⟩
    have hul : U8s lits := fun z hz => by
      have h8 : litsTo ss dd ss.length ++ dd.drop (posL ss).toNat = lits := by
        have := hlr
        unfold litsR at this
        split at this
        · exact (Prod.mk.inj this).1
        · simp at this
      have h9 : ∀ k, ∀ z ∈ litsTo ss dd k, z ∈ dd := by
        intro k
        induction k with
        | zero => intro z hz; simp [litsTo] at hz
        | succ k ih =>
          intro z hz
          rw [litsTo] at hz
          rcases List.mem_append.1 hz with h | h
          · exact ih z h
          · cases hsk : ss[k]? with
            | none => rw [hsk] at h; simp at h
            | some s => rw [hsk] at h; exact List.mem_of_mem_drop (List.mem_of_mem_take h)
      rw [← h8] at hz
      rcases List.mem_append.1 hz with h | h
      · exact HUD.out z (h9 _ z h)
      · exact HUD.out z (List.mem_of_mem_drop h)
    rw [HND.out] at e2 e3
    have HUL := Lib.hid hul
    have HLR := Lib.hid hlr
    have HC1 := Lib.hid e2
    have HC2 := Lib.hid (show chkR S na nl nd ss = ((0 : Int), (nd : Int), (0 : Int)) by rw [← HNA.out, ← hnl]; exact e3)
    have HCO := Lib.hid e4
    have HNL := Lib.hid hnl
    have hlle : nl ≤ nd := by
      obtain ⟨-, -, hck⟩ := chkOf_ok (C := aa) (ls := lits) e2
      have := chk_le hck
      omega
    clear hul hlr e2 e3 e4 hnl hq g3 g4 g5
    go_enter Try.func4, Try.ntmps4
    go_wp2_with fail
    refine HF.out.mono ?_
    rintro e w1 ⟨bo, rfl, hw, hbo⟩
    obtain rfl : w = w1 := hw.symm
    cases bo
    · clear hbo
      go_wp2_with (go_at_call 12; refine (works_at (Below.refl _ w)).mono ?_; rintro e w9 ⟨rfl, hb⟩; have HB := Lib.hid hb; clear hb)
      go_ret
      exact ⟨rfl, HB.out⟩
    · have HBO := Lib.hid (hbo rfl)
      clear hbo
      go_wp2_with fail
      refine (verify_any _ _ _ _ ss aa dd S HS.out HA.out HD.out (by have := HBO.out; omega) (by have := HBO.out; have := HNA.out; omega) (by have := HBO.out; have := HND.out; omega)).mono ?_
      rw [HQ.out]
      rintro e w1 ⟨rfl, hb⟩
      have HB1 := Lib.hid hb
      clear hb
      go_wp2_with fail
      refine (num_any _ _).mono ?_
      rintro e w2 ⟨rfl, hw⟩
      obtain rfl : w1 = w2 := hw.symm
      go_wp2_with fail
      refine (lits_any _ _ _ ss dd (HS.out.below HB1.out (Nat.le_refl _)) (HD.out.below HB1.out (Nat.le_refl _)) (by have := HBO.out; omega) (by have := HBO.out; have := HND.out; omega)).mono ?_
      rw [HLR.out]
      simp only
      rw [HNL.out]
      rintro e w2 ⟨A5, c5, rfl, hg, hb⟩
      have HG2 := Lib.hid hg.ints
      have HB2 := Lib.hid (HB1.out.trans (hb.mono HB1.out.size))
      clear hg hb HB1
      go_wp2_with fail
      refine (new_ok _ (S := S) (bs := aa) hS1 hS2 (HA.out.below HB2.out (Nat.le_refl _)) HUA.out (by have := HBO.out; have := HNA.out; omega)).mono ?_
      rintro e w3 ⟨g, v1, rfl, hm⟩
      have hgl := hm.at_
      have hvl := hm.own
      have HO3 : Hid (OwnRing w w3 g v1 S (keepL S aa) 0) := (OwnRing.made hm HB2.out : OwnRing _ _ _ _ _ _ _)
      have HSF : Hid (SeqFar (.slice A n c) ss g v1.ownBlock) := (fun k h0 hk => by
        have h1 := HOWN.out k h0 hk
        have h2 := HB2.out.size
        exact ⟨by omega, fun e => by have := hvl _ e; omega⟩ : SeqFar _ _ _ _)
      have HG3 := Lib.hid (HG2.out.below hm.below (Nat.le_refl _))
      have HB3 := Lib.hid (HB2.out.trans (hm.below.mono HB2.out.size))
      clear hm hgl hvl HG2 HB2
      go_wp2_with fail
      refine (run_ok _ HO3.out.ring (C := aa) (keepL_last _ _) _ lits HG3.out HUL.out (by have := HNL.out; have := HBO.out; omega) _ ss (HS.out.below HB3.out (Nat.le_refl _)) (by have := HBO.out; omega) HSF.out nd nd HC1.out (by decide)).mono ?_
      rw [HCO.out, HND.out]
      rintro e w4 ⟨v4, st4, A6, c6, rfl, hok, hg⟩
      have ho := HO3.out.ran hok
      rw [HND.out, Nat.zero_add] at ho
      have HO4 := Lib.hid ho
      have HG4 := Lib.hid hg.ints
      have HS4 := Lib.hid (HS.out.below ho.below (Nat.le_refl _))
      have HD4 := Lib.hid (HD.out.below ho.below (Nat.le_refl _))
      clear hok hg ho HO3 HG3 HB3 HSF
      go_wp2_with fail
      refine (excheck_any _ S na nl nd _ ss HS4.out ⟨by omega, by omega⟩).mono ?_
      rw [HC2.out]
      rintro e w5 ⟨rfl, hb⟩
      have HO5 := Lib.hid (HO4.out.next hb)
      have q1 : (convert 22 9 (.slice A6 nd c6)).run Try.prog w5 = .ok (.string (strOfNums dd)) w5 := conv_str (HG4.out.below hb (Nat.le_refl _))
      have q2 : (convert 22 9 (.slice A2 nd c2)).run Try.prog w5 = .ok (.string (strOfNums dd)) w5 := conv_str (HD4.out.below hb (Nat.le_refl _))
      clear hb HO4 HG4 HS4 HD4
      go_wp2_with fail
      refine (num_any _ _).mono ?_
      rintro e w6 ⟨rfl, hw⟩
      obtain rfl : w5 = w6 := hw.symm
      go_wp2_with fail
      refine (num_any _ _).mono ?_
      rintro e w6 ⟨rfl, hw⟩
      obtain rfl : w5 = w6 := hw.symm
      go_wp2_with fail
      refine (num_any _ _).mono ?_
      rintro e w6 ⟨rfl, hw⟩
      obtain rfl : w5 = w6 := hw.symm
      go_wp2_with fail
      refine (num_any _ _).mono ?_
      rintro e w6 ⟨rfl, hw⟩
      obtain rfl : w5 = w6 := hw.symm
      go_wp2_with fail
      refine (total_ring _ HO5.out.ring).mono ?_
      rintro e w6 ⟨rfl, hw⟩
      obtain rfl : w5 = w6 := hw.symm
      go_wp2_with (go_at_call 12; refine (works_at HO5.out.below).mono ?_; rintro e w9 ⟨rfl, hb⟩; have HB := Lib.hid hb; clear hb)
      go_ret
      exact ⟨rfl, HB.out⟩
  · have hq2 : (q == 0) = false := by simpa using hq0
    have hq3 : (q != 0) = true := by simpa using hq0
    clear hq
    go_enter Try.func4, Try.ntmps4
    go_wp2_with fail
    refine HF.out.mono ?_
    rintro e w1 ⟨bo, rfl, hw, hbo⟩
    obtain rfl : w = w1 := hw.symm
    cases bo
    · clear hbo
      go_wp2_with (go_at_call 12; refine (works_at (Below.refl _ w)).mono ?_; rintro e w9 ⟨rfl, hb⟩; have HB := Lib.hid hb; clear hb)
      go_ret
      exact ⟨rfl, HB.out⟩
    · have HBO := Lib.hid (hbo rfl)
      clear hbo
      go_wp2_with fail
      refine (verify_any _ _ _ _ ss aa dd wd HS.out HA.out HD.out (by have := HBO.out; omega) (by have := HBO.out; have := HNA.out; omega) (by have := HBO.out; have := HND.out; omega)).mono ?_
      rw [HQ.out]
      rintro e w1 ⟨rfl, hb⟩
      have HB1 := Lib.hid hb
      clear hb
      go_wp2_with fail
      refine (num_any _ _).mono ?_
      rintro e w2 ⟨rfl, hw⟩
      obtain rfl : w1 = w2 := hw.symm
      go_wp2_with (go_at_call 12; refine (works_at HB1.out).mono ?_; rintro e w9 ⟨rfl, hb⟩; have HB := Lib.hid hb; clear hb)
      go_ret
      exact ⟨rfl, HB.out⟩
end Go.Proofs.Ytndgdehlnmheeaa
