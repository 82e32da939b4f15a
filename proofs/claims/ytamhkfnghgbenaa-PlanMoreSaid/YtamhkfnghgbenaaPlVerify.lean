/-
  plan: Verify.
-/
import Derived.Test.YtamhkfnghgbenaaStCell
namespace Go.Proofs.Ytamhkfnghgbenaa
set_option linter.all false
set_option maxRecDepth 100000
open Go.RowKit

/-- Is a match a copy of what lies before it. -/
def matchOk (all : List Int) (from_ len off : Nat) : Bool := listEq ((all.drop from_).take len) ((all.drop (from_ - off)).take len)
/-- Is the k-th sequence's match a copy. -/
def copyOk (all : List Int) (na : Nat) (ss : List SeqD) (k : Nat) : Bool := match ss[k]? with
  | none => true
  | some s => matchOk all (na + (posL (ss.take k) + s.lit).toNat) s.len.toNat s.off.toNat
/-- What Verify answers. -/
def verR (ss : List SeqD) (aa dd : List Int) (wd : Int) : Int := if (whereR ss dd.length aa.length wd).2 = 0 then (if (List.range ss.length).all (copyOk (aa ++ dd) aa.length ss) then 0 else 22) else (whereR ss dd.length aa.length wd).2

theorem AtInts.sub {w : World} {k : IntKind} {A : Option Addr} {b off n : Nat} {xs : List Int} (h : AtInts w k A n xs) (hA : A = some ⟨b, off, none⟩) {i m : Nat} (hi : i + m ≤ n) : AtInts w k (some ⟨b, off + i, none⟩) m ((xs.drop i).take m) := by
  refine ⟨by rw [List.length_take, List.length_drop, h.1]; omega, fun h0 => ?_⟩
  obtain ⟨b', off', hA', hx⟩ := h.2 (by omega)
  rw [hA] at hA'
  injection hA' with hA'
  injection hA' with h1 h2
  subst h1 h2
  refine ⟨b, off + i, rfl, fun j x hj => ?_⟩
  rw [List.getElem?_take] at hj
  split at hj
  · rw [List.getElem?_drop] at hj
    rw [Nat.add_assoc]
    exact hx _ _ hj
  · cases hj

theorem ints_form {w : World} {k : IntKind} {v : Value} {xs : List Int} (h : Ints w k v xs) : ∃ A c, v = .slice A xs.length c ∧ xs.length ≤ c ∧ c ≤ 9223372036854775807 ∧ AtInts w k A xs.length xs := by
  obtain ⟨A, n, c, hv, h1, h2, h3⟩ := h.get
  obtain ⟨hl, h4⟩ := h3
  subst hl
  exact ⟨A, c, hv, h1, h2, rfl, h4⟩

theorem Grow.at_ {w : World} {B : Nat} {e : TypeId} {k : IntKind} {A : Option Addr} {n c : Nat} {xs : List Int} (h : Grow w B e k (.slice A n c) xs) : AtInts w k A n xs := by
  obtain ⟨A', n', c', he, -, -, h3⟩ := h.ints.get
  injection he with e1 e2 e3
  subst e1 e2
  exact h3

theorem Grow.cap {w : World} {B : Nat} {e : TypeId} {k : IntKind} {A : Option Addr} {n c : Nat} {xs : List Int} (h : Grow w B e k (.slice A n c) xs) : n ≤ c ∧ c ≤ 9223372036854775807 := by
  obtain ⟨A', n', c', he, h1, h2, -⟩ := h.ints.get
  injection he with e1 e2 e3
  subst e2 e3
  exact ⟨h1, h2⟩

theorem ver_no {all : List Int} {na : Nat} {ss : List SeqD} {k : Nat} (hk : k < ss.length) (h : copyOk all na ss k = false) : (if (List.range ss.length).all (copyOk all na ss) then (0 : Int) else 22) = 22 := by
  rw [if_neg]
  intro ha
  rw [List.all_eq_true] at ha
  have := ha k (List.mem_range.2 hk)
  rw [h] at this
  cases this
theorem ver_yes {all : List Int} {na : Nat} {ss : List SeqD} (h : ∀ j < ss.length, copyOk all na ss j = true) : (if (List.range ss.length).all (copyOk all na ss) then (0 : Int) else 22) = 0 := by
  rw [if_pos]
  rw [List.all_eq_true]
  exact fun j hj => h j (List.mem_range.1 hj)
theorem verR_no {ss : List SeqD} {aa dd : List Int} {wd : Int} (h0 : (whereR ss dd.length aa.length wd).2 = 0) {k : Nat} (hk : k < ss.length) (h : copyOk (aa ++ dd) aa.length ss k = false) : verR ss aa dd wd = 22 := by
  unfold verR
  rw [if_pos h0]
  exact ver_no hk h
theorem verR_yes {ss : List SeqD} {aa dd : List Int} {wd : Int} (h0 : (whereR ss dd.length aa.length wd).2 = 0) (h : ∀ j < ss.length, copyOk (aa ++ dd) aa.length ss j = true) : verR ss aa dd wd = 0 := by
  unfold verR
  rw [if_pos h0]
  exact ver_yes h
theorem verR_bad {ss : List SeqD} {aa dd : List Int} {wd : Int} (h0 : (whereR ss dd.length aa.length wd).2 ≠ 0) : verR ss aa dd wd = (whereR ss dd.length aa.length wd).2 := by
  unfold verR
  rw [if_neg h0]
theorem ver_succ {all : List Int} {na : Nat} {ss : List SeqD} {k : Nat} (h : ∀ j < k, copyOk all na ss j = true) (hk : copyOk all na ss k = true) : ∀ j < k + 1, copyOk all na ss j = true := fun j hj => by
  rcases Nat.lt_or_ge j k with h1 | h1
  · exact h j h1
  · obtain rfl : j = k := by omega
    exact hk

set_option maxHeartbeats 3200000 in
theorem verify_any (w : World) (v va vd : Value) (ss : List SeqD) (aa dd : List Int) (wd : Int) (h : Seqs w v ss) (ha : Ints w .u8 va aa) (hd : Ints w .u8 vd dd) (hl : ss.length ≤ 100000) (l1 : aa.length ≤ 300000) (l2 : dd.length ≤ 300000) :
    Calls Try.prog 18 #[v, va, vd, .int .i64 wd] w fun e w' => e = .returned (.int .i64 (verR ss aa dd wd)) ∧ Below w.heap.size w w' := by
  have HS := Lib.hid h
  have HL := Lib.hid hl
  obtain ⟨A1, c1, rfl, a1, a2, a3⟩ := ints_form ha
  obtain ⟨A2, c2, rfl, d1, d2, d3⟩ := ints_form hd
  obtain ⟨⟨A, c, hv, hlc, hcm, -⟩, -⟩ := h
  have hw := Lib.hid (show whereR ss dd.length aa.length wd = whereR ss dd.length aa.length wd from rfl)
  obtain ⟨q, hq⟩ : ∃ q, (whereR ss dd.length aa.length wd).2 = q := ⟨_, rfl⟩
  obtain ⟨n, hn⟩ : ∃ n, ss.length = n := ⟨_, rfl⟩
  obtain ⟨na, hna⟩ : ∃ n, aa.length = n := ⟨_, rfl⟩
  obtain ⟨nd, hnd⟩ : ∃ n, dd.length = n := ⟨_, rfl⟩
  rw [hn] at hv hlc
  rw [hna] at a1 a3 l1
  rw [hnd] at d1 d3 l2
  have HA := Lib.hid a3
  have HD := Lib.hid d3
  subst hv
  rw [hna, hnd] at hq ⊢
  have HQ := Lib.hid hq
  have HN := Lib.hid hn
  have HNA := Lib.hid hna
  have HND := Lib.hid hnd
  clear hl a3 d3 hw ha hd hn hna hnd
  by_cases hq0 : q = 0
  · subst hq0
    obtain ⟨hok, hgood⟩ := whereR_good hq
    have hg1 := good_one ⟨hok.1, hok.2.2.1⟩ (Nat.le_refl _) hgood
    have hgn := nGood_all hg1
    rw [HN.out] at hgn
    have HGN := Lib.hid hgn
    have HG1 := Lib.hid hg1
    have HGOOD := Lib.hid hgood
    have HL2 : Hid (n ≤ 100000) := (by have := HL.out; rw [HN.out] at this; exact this : n ≤ 100000)
    have hnn : (n : Int) ≤ 9223372036854775807 := by have := HL2.out; omega
    have hndb : nd ≤ 131072 := by have := hok.2.2.1; omega
    clear hok hgood hg1 hgn hq
    go_enter Try.func18, Try.ntmps18
    go_wp2_with (first
      | (go_at_call 17; refine (check_any _ _ ss nd na wd HS.out).mono ?_; rw [HQ.out]; rintro e w2 ⟨rfl, hb⟩; have HB := Lib.hid hb; clear hb)
      | (go_at_call 33; refine (concat_any _ w2.heap.size 2 A1 A2 na c1 nd c2 aa dd (by simp) (by simp) (HA.out.below (HB.out.alloc HB.out.size _) (Nat.le_refl _)) (HD.out.below (HB.out.alloc HB.out.size _) (Nat.le_refl _)) l1 l2).mono ?_; rintro e w3 ⟨A3, c3, rfl, hb, hg⟩; have HB3 := Lib.hid ((HB.out.alloc HB.out.size _).trans (hb.mono (HB.out.alloc HB.out.size _).size)); have HG3 := Lib.hid hg; have HCC := Lib.hid hg.cap; clear hb hg)
      | (go_at_call 29; refine (steps_all _ _ ss (HS.out.below HB3.out (Nat.le_refl _)) HL.out).mono ?_; rw [HGN.out]; rintro e w4 ⟨A4, c4, rfl, hb, hr, ho⟩; have HB4 := Lib.hid (HB3.out.trans (hb.mono HB3.out.size)); have HR4 := Lib.hid hr; have HA4 := Lib.hid (HG3.out.at_.below hb (Nat.le_refl _)); clear hb hr ho))
    go_loopw [39] (fun i wr => ∃ k : Nat, k ≤ n ∧ i = .int .i64 k ∧ Hid (Below w.heap.size w wr) ∧ Hid (AtInts wr .u8 A3 (na + nd) (aa ++ dd)) ∧ Hid (StRow wr (.slice A4 n c4) (stepsOf 131072 0 0 ss n)) ∧ Hid (∀ j < k, copyOk (aa ++ dd) na ss j = true)) (fun i _ => n - (intOf i).toNat)
    case atStart => exact ⟨0, Nat.zero_le _, rfl, (HB4.out : Below _ _ _), (HA4.out : AtInts _ _ _ _ _), (HR4.out : StRow _ _ _), (fun j hj => absurd hj (Nat.not_lt_zero _) : ∀ j < 0, _)⟩
    case round =>
      clear HB HB3 HG3 HB4 HA4 HR4
      obtain ⟨k, hk, rfl, HB, HAT, HR, HOK⟩ := hrel
      have k0 : (0 : Int) ≤ (k : Int) := by omega
      by_cases hlt : k < n
      · have k1 : (k : Int) < (n : Int) := by omega
        have hxk := List.getElem?_eq_getElem (l := ss) (i := k) (by rw [HN.out]; exact hlt)
        obtain ⟨⟨lit, len, offs⟩, hse⟩ : ∃ s, ss[k]'(by rw [HN.out]; exact hlt) = s := ⟨_, rfl⟩
        rw [hse] at hxk
        obtain ⟨g, hA, -, hgl, p0, p1, p2, p3, p4, p5, p6, p7⟩ := StRow.at_ HR.out (Nat.le_of_eq HN.out.symm) hlt hxk
        subst hA
        have hpos := Good.pos (by omega) (Nat.le_of_lt (by rw [HN.out]; exact hlt)) (fun i s hi => HGOOD.out i s (by rw [HN.out]; omega) : Good 2 nd na wd ss k)
        obtain ⟨⟨o1, o2, o3, o4⟩, hr2⟩ := HGOOD.out k _ (by rw [HN.out]; exact hlt) hxk
        obtain ⟨o5, o6, o7⟩ := hr2 (by omega)
        have hcp : copyOk (aa ++ dd) na ss k = matchOk (aa ++ dd) (na + (posL (ss.take k) + lit).toNat) len.toNat offs.toNat := by unfold copyOk; rw [hxk]
        have HCP := Lib.hid hcp
        have HXK := Lib.hid hxk
        obtain ⟨P, hP⟩ : ∃ P, posL (ss.take k) = P := ⟨_, rfl⟩
        simp only [stepAt] at o1 o2 o3 o4 o5 o6 o7
        rw [hP] at hpos o3 o4 o7 p4 hcp
        obtain ⟨p, rfl⟩ := Int.eq_ofNat_of_zero_le hpos.1
        obtain ⟨t, rfl⟩ := Int.eq_ofNat_of_zero_le o1
        obtain ⟨L, rfl⟩ := Int.eq_ofNat_of_zero_le (by omega : 0 ≤ len)
        obtain ⟨D, rfl⟩ := Int.eq_ofNat_of_zero_le (by omega : 0 ≤ offs)
        obtain ⟨m, hm⟩ : ∃ m, p + t = m := ⟨_, rfl⟩
        obtain ⟨F, hF⟩ : ∃ F, na + m = F := ⟨_, rfl⟩
        obtain ⟨FL, hFL⟩ : ∃ x, F + L = x := ⟨_, rfl⟩
        obtain ⟨FD, hFD⟩ : ∃ x, F - D = x := ⟨_, rfl⟩
        obtain ⟨FDL, hFDL⟩ : ∃ x, FD + L = x := ⟨_, rfl⟩
        have hmx := fun W => match_any W ⟨⟨t, L, D⟩, k, p, 131072, 0, 0⟩ ⟨by simp only; omega, by simp only; omega⟩ ⟨by simp only; omega, by simp only; omega⟩
        have HMX := Lib.hid hmx
        have HM : Hid ((p : Int) + (t : Int) = (m : Int)) := (by omega : (p : Int) + (t : Int) = (m : Int))
        have b1 : FL ≤ na + nd := by omega
        have b2 : FDL ≤ na + nd := by omega
        have b3 : F ≤ FL := by omega
        have b4 : FD ≤ FDL := by omega
        have ew1 : IntKind.i64.wrap ((na : Int) + (m : Int)) = (F : Int) := by rw [wrap_in _ (by omega) (by omega)]; omega
        have ew2 : IntKind.i64.wrap ((F : Int) + (L : Int)) = (FL : Int) := by rw [wrap_in _ (by omega) (by omega)]; omega
        have ew3 : IntKind.i64.wrap ((F : Int) - (D : Int)) = (FD : Int) := by rw [wrap_in _ (by omega) (by omega)]; omega
        have ew4 : IntKind.i64.wrap ((FD : Int) + (L : Int)) = (FDL : Int) := by rw [wrap_in _ (by omega) (by omega)]; omega
        obtain ⟨b, off, hA3, -⟩ := HAT.out.2 (by omega)
        subst hA3
        have HS1 : Hid (AtInts wr .u8 (some ⟨b, off + F, none⟩) (FL - F) (((aa ++ dd).drop F).take L)) := ((by omega : L = FL - F) ▸ HAT.out.sub rfl (by omega) : AtInts _ _ _ _ _)
        have HS2 : Hid (AtInts wr .u8 (some ⟨b, off + FD, none⟩) (FDL - FD) (((aa ++ dd).drop FD).take L)) := ((by omega : L = FDL - FD) ▸ HAT.out.sub rfl (by omega) : AtInts _ _ _ _ _)
        have HBA := Lib.hid (HB.out.alloc HB.out.size (.cells #[.int .i64 t, .int .i64 L, .int .i64 D, .int .i64 k, .int .i64 p, .int .i64 131072, .int .i64 0, .int .i64 0] 71))
        have HE : Hid (copyOk (aa ++ dd) na ss k = listEq (((aa ++ dd).drop F).take L) (((aa ++ dd).drop FD).take L)) := (by rw [hcp]; unfold matchOk; rw [show (na + ((p : Int) + (t : Int)).toNat) = F by omega, Int.toNat_natCast, Int.toNat_natCast, hFD] : _ = _)
        have HP := Lib.hid hP
        have hcc := HCC.out.1
        have hcc2 := HCC.out.2
        have HFs := Lib.hid (And.intro hm (And.intro hF (And.intro hFL (And.intro hFD hFDL))))
        have kk0 : (0 : Int) ≤ (F : Int) := by omega
        have kk1 : (F : Int) ≤ (FL : Int) := by omega
        have kk2 : (FL : Int) ≤ (c3 : Int) := by omega
        have kk3 : (0 : Int) ≤ (FD : Int) := by omega
        have kk4 : (FD : Int) ≤ (FDL : Int) := by omega
        have kk5 : (FDL : Int) ≤ (c3 : Int) := by omega
        have kn2 : FL ≤ c3 := by omega
        have ne1 : ¬ (c3 = F) := by omega
        have ne2 : ¬ (c3 = FD) := by omega
        have kn5 : FDL ≤ c3 := by omega
        clear hcp hP hpos o1 o2 o3 o4 o5 o6 o7 hr2 hxk hse hm hF hFL hFD hFDL hmx
        simp only at p0 p1 p2 p3 p4 p5 p6 p7
        go_wp2_with (refine (HMX.out _).mono ?_; simp only; rw [HM.out]; rintro e w5 ⟨rfl, hb⟩; have HB5 := Lib.hid (HBA.out.trans (hb.mono HBA.out.size)); have HT1 := Lib.hid (HS1.out.below (((Below.refl wr.heap.size wr).alloc (Nat.le_refl _) _).trans (hb.mono (by simp))) (Nat.le_refl _)); have HT2 := Lib.hid (HS2.out.below (((Below.refl wr.heap.size wr).alloc (Nat.le_refl _) _).trans (hb.mono (by simp))) (Nat.le_refl _)); have HR5 := Lib.hid (SRow.below HR.out (((Below.refl wr.heap.size wr).alloc (Nat.le_refl _) _).trans (hb.mono (by simp))) (Nat.le_refl _)); have HAT5 := Lib.hid (HAT.out.below (((Below.refl wr.heap.size wr).alloc (Nat.le_refl _) _).trans (hb.mono (by simp))) (Nat.le_refl _)); have hst := ((Blk.new wr 71 (StepD.cells ⟨⟨t, L, D⟩, k, p, 131072, 0, 0⟩)).below hb (by simp)).step; obtain ⟨q0, q1, q2, -, -, -, -, -⟩ := hst; clear hb)
        clear p0 p1 p2 p3 p4 p5 p6 p7
        go_quiet (first | (go_at_call 35; refine Calls.quiet_of (slEq_any _ _ _ _ _ _ _ _ _ (HT1.out.drewN _) (HT2.out.drewN _) (by omega) (by omega))))
        go_wp2
        · rename_i hne
          go_ret
          have hf : copyOk (aa ++ dd) na ss k = false := by rw [HE.out]; simpa using hne
          have hv : verR ss aa dd wd = 22 := by
            exact verR_no (by rw [HNA.out, HND.out]; exact HQ.out) (by rw [HN.out]; exact hlt) (by rw [HNA.out]; exact hf)
          refine ⟨by rw [hv]; rfl, below_drewN HB5.out _⟩
        · rename_i hne
          have ht : copyOk (aa ++ dd) na ss k = true := by rw [HE.out]; simpa using hne
          have HT := Lib.hid ht
          go_roundw
          case rel => exact ⟨k + 1, by omega, by go_num, (below_drewN HB5.out _ : Below _ _ _), (HAT5.out.drewN _ : AtInts _ _ _ _ _), (HR5.out : StRow _ _ _), (ver_succ HOK.out HT.out : _)⟩
          case measure => simp [intOf]; omega
      · obtain rfl : k = n := by omega
        go_wp2
        go_ret
        have hv : verR ss aa dd wd = 0 := by
          exact verR_yes (by rw [HNA.out, HND.out]; exact HQ.out) (by rw [HN.out, HNA.out]; exact HOK.out)
        exact ⟨by rw [hv]; rfl, HB.out⟩
  · have hqb : (q == 0) = false := by simpa using hq0
    clear hq
    go_enter Try.func18, Try.ntmps18
    go_wp2_with (refine (check_any _ _ ss nd na wd HS.out).mono ?_; rw [HQ.out]; rintro e w2 ⟨rfl, hb⟩; have HB := Lib.hid hb; clear hb)
    go_ret
    exact ⟨by rw [verR_bad (by rw [HNA.out, HND.out, HQ.out]; exact hq0), HNA.out, HND.out, HQ.out]; rfl, HB.out⟩
end Go.Proofs.Ytamhkfnghgbenaa
