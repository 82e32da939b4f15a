/-
  exec's reference: Run where the check passes.
-/
import Derived.StillTailTactics
import Derived.Deep.LoopGhost
import Derived.Deep.DeepCutAuto
import Derived.Test.YtndgdehlnmheeaaExRefR
namespace Go.Proofs.Ytndgdehlnmheeaa
set_option linter.all false
set_option maxRecDepth 100000
open Go.RowKit

set_option maxHeartbeats 6400000 in
theorem refRun_far (w : World) (S T : Nat) (cv lv sv : Value) (H ls : List Int) (hH : Ints w .u8 cv (lastN S H)) (hl : Ints w .u8 lv ls) (hu : U8s ls) (ss : List SeqD) (hs : Seqs w sv ss) (hsl : ss.length ≤ 100000) (most t : Int) (hchk : chkOf S H ls most ss = (0, t, 0)) (hS2 : S ≤ 134217728) (hT : T ≤ 1152921504606846976) :
    Calls Try.prog 24 #[rv S cv T, lv, sv, .int .i64 most] w fun e w' => ∃ bv ov, e = .returned (.tuple #[rv S bv (T + (contentL H ls ss).length), ov, .int .i64 0]) ∧ Below w.heap.size w w' ∧ Ints w' .u8 bv (lastN S (H ++ contentL H ls ss)) ∧ PcsFar w.heap.size (if ls = [] then none else lv.ownBlock) w' ov (piecesL H ls ss) := by
  obtain ⟨A1, n1, c1, rfl, b1, b2, hat1⟩ := hH.get
  obtain ⟨A2, n2, c2, rfl, d1, d2, hat2⟩ := hl.get
  have hn1 : n1 = min S H.length := by rw [← hat1.1, lastN_length]
  obtain rfl : ls.length = n2 := hat2.1
  have HL0 := Lib.hid hl
  obtain ⟨lo, hlo⟩ : ∃ lo, (if ls = [] then none else (Value.slice A2 ls.length c2).ownBlock) = lo := ⟨_, rfl⟩
  rw [hlo]
  have hlo1 : 0 < ls.length → (Value.slice A2 ls.length c2).ownBlock = lo := fun h => by rw [← hlo, if_neg (fun e => by rw [e] at h; simp at h)]
  have hlo2 : ∀ k, lo = some k → k < w.heap.size := fun k hk => by
    rw [← hlo] at hk
    by_cases e : ls = []
    · rw [if_pos e] at hk; cases hk
    · rw [if_neg e] at hk
      obtain ⟨b, off, x, hA, hcell, -⟩ := hat2.at_ (List.length_pos_iff.2 e)
      rw [hA] at hk
      obtain rfl : b = k := Option.some.inj hk
      exact hcell
  have HLO1 := Lib.hid hlo1
  have HLO2 := Lib.hid hlo2
  clear hlo hlo1 hlo2 HL0
  obtain ⟨hm0, hm1, hck⟩ := chkOf_ok hchk
  have HS := Lib.hid hs
  have HCH : Hid (chkR S n1 ls.length most ss = (0, t, 0)) := (by rw [hn1]; exact hchk : _ = _)
  obtain ⟨⟨A, c, rfl, -, hcm, -⟩, -⟩ := hs
  obtain ⟨W0, hW0⟩ : ∃ W0, (w.alloc (.cells #[.int .i64 S, .slice A1 n1 c1, .int .i64 T] 45)).alloc (.cells #[.int .i64 0, .slice none 0 0, .int .i64 0] 45) = W0 := ⟨_, rfl⟩
  have HB0 : Hid (Below w.heap.size w W0) := (by rw [← hW0]; exact ((Below.refl _ w).alloc (Nat.le_refl _) _).alloc (by simp) _ : Below _ _ _)
  have HK0 : Hid (Blk W0 w.heap.size 45 #[.int .i64 S, .slice A1 n1 c1, .int .i64 T]) := (by rw [← hW0]; exact (Blk.new w _ _).below ((Below.refl _ _).alloc (Nat.le_refl _) _) (by simp) : Blk _ _ _ _)
  have HK1 : Hid (Blk W0 (w.heap.size + 1) 45 #[.int .i64 0, .slice none 0 0, .int .i64 0]) := (by
    have := Blk.new (w.alloc (.cells #[.int .i64 S, .slice A1 n1 c1, .int .i64 T] 45)) 45 #[.int .i64 0, .slice none 0 0, .int .i64 0]
    rw [World.size_alloc] at this
    rw [← hW0]; exact this : Blk _ _ _ _)
  have hwh := refWhere_any W0 S n1 ls.length most _ ss (HS.out.below HB0.out (Nat.le_refl _)) ⟨⟨by omega, by omega⟩, ⟨by omega, by omega⟩⟩
  rw [HCH.out] at hwh
  have HWH := Lib.hid hwh
  have HH := Lib.hid hH
  have HL := Lib.hid hat2
  have HU := Lib.hid hu
  have HCK := Lib.hid hck
  have HM := Lib.hid (And.intro hm0 hm1)
  have HT := Lib.hid hT
  have HCAP := Lib.hid (And.intro d1 d2)
  have n1i : (n1 : Int) ≤ 9223372036854775807 := by omega
  have n2i : (ls.length : Int) ≤ 9223372036854775807 := by omega
  obtain ⟨n, hn⟩ : ∃ n, ss.length = n := ⟨_, rfl⟩
  rw [hn] at hsl ⊢
  have HN := Lib.hid hn
  have hni : (n : Int) ≤ 9223372036854775807 := by omega
  obtain ⟨n2, hn2⟩ : ∃ n2, ls.length = n2 := ⟨_, rfl⟩
  rw [hn] at HWH
  rw [hn2] at HWH n2i HCAP ⊢
  have HN2 := Lib.hid hn2
  have HLO : Hid (0 < n2 → (Value.slice A2 n2 c2).ownBlock = lo) := ((fun h => by have := HLO1.out (by omega); rw [hn2] at this; exact this) : _ → _ = _)
  clear hH hl hu hat1 hat2 hchk hck hwh hm0 hm1 hn1 hn hn2 hT hcm d1 d2 b1 b2
  unfold rv
  go_enter Try.func24, Try.ntmps24
  obtain ⟨r0, r1, r2, -⟩ := HK0.out.three
  go_wp2_with fail
  refine HWH.out.mono ?_
  rintro e w1 ⟨rfl, hb⟩
  have HK2 := Lib.hid (HK0.out.below hb HK0.out.lt)
  have HK3 := Lib.hid (HK1.out.below hb HK1.out.lt)
  have HB2 := Lib.hid (HB0.out.trans (hb.mono HB0.out.size))
  clear hb HK0 HK1 HB0 HWH r0 r1 r2
  go_wp2
  have HST : Hid (RrRel lo w S T H ls (min S H.length : Nat) most t ss 0 A2 n2 c2 (.slice none 0 0) w1) :=
    (⟨A1, n1, c1, ls, [], [], ⟨HB2.out, by simpa using HK2.out, HK3.out, by simpa using HH.out.below HB2.out (Nat.le_refl _), by have := HL.out; rw [HN2.out] at this; exact this, HCAP.out, HLO.out, PcSt.start _ _ _ _⟩, rfl, by simpa using HCK.out, by simp, HU.out⟩ : RrRel _ _ _ _ _ _ _ _ _ _ _ _ _ _ _ _)
  clear HK2 HK3 HH HL HCK HU hW0
  go_loopg [1, 14, 15] n (fun g l o i wr => ∃ (k nl cl c4 : Nat) (Al A4 : Option Addr), k ≤ n ∧ g = n - k ∧ i = .int .i64 k ∧ l = .slice Al nl cl ∧ o = .slice A4 k c4 ∧ Hid (RrRel lo w S T H ls (min S H.length : Nat) most t ss k Al nl cl (.slice A4 k c4) wr))
  case atStart => exact ⟨0, n2, c2, 0, A2, none, Nat.zero_le _, by omega, rfl, rfl, rfl, (HST.out : RrRel _ _ _ _ _ _ _ _ _ _ _ _ _ _ _ _)⟩
  case round =>
    clear HST
    obtain ⟨k, nl, cl, c4, Al, A4, hk, hgk, rfl, rfl, rfl, HR⟩ := hrel
    have HGK := Lib.hid hgk
    clear hgk
    obtain ⟨Ab, nb, cb, rest, ps, es, hst, hpl, hck, hpc, huk⟩ := HR.out
    by_cases hlt : k < n
    · have hxk := List.getElem?_eq_getElem (l := ss) (i := k) (by rw [HN.out]; omega)
      obtain ⟨⟨lit, len, offs⟩, hse⟩ : ∃ s, ss[k]'(by rw [HN.out]; omega) = s := ⟨_, rfl⟩
      rw [hse] at hxk
      obtain ⟨A9, c9, he, -, -, h4⟩ := HS.out.at_
      injection he with e1 e2 e3
      subst e1
      clear e2 e3
      obtain ⟨b, off, rfl, hcell⟩ := h4 (by rw [HN.out]; omega)
      obtain ⟨z0, z1, z2⟩ := hcell k _ hxk
      simp only at z0 z1 z2
      have hbw := World.block_lt_of_cell? w _ z0
      simp only at hbw
      have hQ : ∀ W, Below w.heap.size w W → W.cell? ⟨b, off + k * 3, none⟩ = some (.int .i64 lit) ∧ W.cell? ⟨b, off + k * 3 + 1, none⟩ = some (.int .i64 len) ∧ W.cell? ⟨b, off + k * 3 + 2, none⟩ = some (.int .i64 offs) := fun W hW =>
        ⟨(hW.cell (p := ⟨b, off + k * 3, none⟩) hbw).trans z0, (hW.cell (p := ⟨b, off + k * 3 + 1, none⟩) hbw).trans z1, (hW.cell (p := ⟨b, off + k * 3 + 2, none⟩) hbw).trans z2⟩
      rw [drop_cons hxk] at hck
      obtain ⟨h1, h2, h3⟩ := chk_inv hck
      have hlet := chk_le (ls := rest.drop lit.toNat) (by
        have e9 : ((rest.drop lit.toNat).length : Int) = (rest.length : Int) - lit := by
          obtain ⟨x1, x2, -⟩ := h1
          simp only at x1 x2
          rw [List.length_drop]; omega
        rw [e9]; exact h3)
      obtain ⟨x1, x2, x3, x4, x5, x6, x7⟩ := h1
      obtain ⟨y1, y2⟩ := h2
      simp only at x1 x2 x3 x4 x5 x6 x7 y1 y2 h3 hlet
      obtain ⟨li, rfl⟩ := Int.eq_ofNat_of_zero_le x1
      obtain ⟨le, rfl⟩ := Int.eq_ofNat_of_zero_le (by omega : 0 ≤ len)
      obtain ⟨ofs, rfl⟩ := Int.eq_ofNat_of_zero_le (by omega : 0 ≤ offs)
      have hNl := hst.lits.1
      have HX := Lib.hid hxk
      have H3 := Lib.hid h3
      have HST := Lib.hid hst
      have HPL := Lib.hid hpl
      have HPC := Lib.hid hpc
      have HUK := Lib.hid huk
      have HQ := Lib.hid hQ
      have k0 : (0 : Int) ≤ (k : Int) := by omega
      have k1 : (k : Int) < (n : Int) := by omega
      have l0 : (0 : Int) ≤ (li : Int) := by omega
      have l1 : (li : Int) ≤ (nl : Int) := by omega
      have l2 : (li : Int) ≤ (cl : Int) := by have := hst.cap; omega
      have HLI : Hid (li ≤ nl ∧ li ≤ 131072 ∧ 1 ≤ le ∧ le ≤ 131072 ∧ 1 ≤ ofs ∧ ofs ≤ S) := (by have := HM.out; omega : _ ∧ _)
      have HOF : Hid ((ofs : Int) - (min S H.length : Nat) - ps.flatten.length ≤ li) := (by omega : _ ≤ _)
      have hlw := hst.lits.below hst.below (Nat.le_refl _)
      have HLT : Hid (AtInts wr .u8 Al li (rest.take li)) := (hlw.take (by omega) : AtInts _ _ _ _ _)
      obtain ⟨Tk, hTk⟩ : ∃ Tk : Nat, T + ps.flatten.length = Tk := ⟨_, rfl⟩
      have HTM : Hid (Tk + li + le ≤ 9223372036854775807) := (by have := HT.out; have := HM.out; omega : _ ≤ _)
      have HTK := Lib.hid hTk
      have HBK : Hid (Blk wr w.heap.size 45 #[.int .i64 S, .slice Ab nb cb, .int .i64 Tk]) := (by rw [← hTk]; exact hst.box : Blk _ _ _ _)
      obtain ⟨q0, q1, q2⟩ := hQ wr hst.below
      have HRES := Lib.hid hst.res.lt
      have hblt := World.block_lt_of_cell? wr _ q0
      simp only at hblt
      clear hTk z0 z1 z2 hQ hlw
      have HG0 := Lib.hid (World.ownsRow_made (e := 5) (size := 1) (base := wr.heap.size) wr #[] 0 (Nat.le_refl _) (by simp [maxLen]) rfl)
      clear hxk hse hcell h4 h3 hck hpc hpl huk x1 x2 x3 x4 x5 x6 x7 y1 y2 hlet hNl hst
      go_wp2_with (at_builtin; refine wpList_append_bs rfl _ _ rfl wr.heap.size _ [] (rest.take li) rfl HG0.out Al li cl rfl (HLT.out.alloc _) (by have := HLI.out.2.1; simp only [List.length_nil]; omega) (by simp) li (by simp) ?_; intro A6 c6 w6 hg hgr; rw [List.nil_append] at hg; have HG6 := Lib.hid hg; have HB6 := Lib.hid (((Below.refl wr.heap.size wr).alloc (Nat.le_refl _) (.cells #[] 5)).grown hgr (by simp) (fun r hr => (World.ownsRow.lt HG0.out r hr).1)); have HK6 := Lib.hid (HBK.out.below HB6.out HBK.out.lt); clear hg hgr; obtain ⟨p0, p1, p2, -⟩ := HK6.out.three)
      have ha6 := refAdd_any w6 S (.slice Ab nb cb) (.slice A6 li c6) Tk _ _ (HST.out.ring.below HB6.out (Nat.le_refl _)) (Grow.ints HG6.out) (by omega) (by rw [lastN_length, List.length_take]; have := HLI.out.2.1; omega) (by have := HTM.out; rw [HLT.out.1]; omega)
      rw [HLT.out.1] at ha6
      obtain ⟨Tn, hTn⟩ : ∃ Tn : Nat, Tk + li = Tn := ⟨_, rfl⟩
      rw [hTn] at ha6
      have HTN := Lib.hid hTn
      clear hTn
      have HA6 := Lib.hid ha6
      clear ha6 q0 q1 q2
      refine HA6.out.mono ?_
      rintro e w7 ⟨bv7, rfl, hi7, hb7, ho7⟩
      obtain ⟨A7, n7, c7, rfl, -⟩ := hi7.get
      rw [lastN_append] at hi7
      have HK7 := Lib.hid (HK6.out.below hb7 HK6.out.lt)
      have hb67 : Below wr.heap.size wr w7 := HB6.out.trans (hb7.mono HB6.out.size)
      obtain ⟨p3, p4, p5, p6, p7, p8⟩ := HK7.out.three
      have HMID : Hid (RrMid w wr (((w7.setCell ⟨w.heap.size, 0, none⟩ (.int .i64 S)).setCell ⟨w.heap.size, 1, none⟩ (.slice A7 n7 c7)).setCell ⟨w.heap.size, 2, none⟩ (.int .i64 (Tn : Int))) S Tn (lastN S (H ++ ps.flatten ++ rest.take li)) A7 n7 c7 A6 li c6 (rest.take li)) := (by
        have hr := HRES.out
        have hA : Blk (w7.setCell ⟨w.heap.size, 0, none⟩ (.int .i64 S)) w.heap.size 45 #[.int .i64 S, .slice Ab nb cb, .int .i64 Tk] := (HK7.out.set_ 0 (.int .i64 S)).congr rfl
        have hB : Blk ((w7.setCell ⟨w.heap.size, 0, none⟩ (.int .i64 S)).setCell ⟨w.heap.size, 1, none⟩ (.slice A7 n7 c7)) w.heap.size 45 #[.int .i64 S, .slice A7 n7 c7, .int .i64 Tk] := (hA.set_ 1 (.slice A7 n7 c7)).congr rfl
        have hK8 : Blk (((w7.setCell ⟨w.heap.size, 0, none⟩ (.int .i64 S)).setCell ⟨w.heap.size, 1, none⟩ (.slice A7 n7 c7)).setCell ⟨w.heap.size, 2, none⟩ (.int .i64 (Tn : Int))) w.heap.size 45 #[.int .i64 S, .slice A7 n7 c7, .int .i64 (Tn : Int)] := (hB.set_ 2 (.int .i64 (Tn : Int))).congr rfl
        have hbut := (((But.of_below hb67 w.heap.size none).set_ 0 (.int .i64 S)).set_ 1 (.slice A7 n7 c7)).set_ 2 (.int .i64 (Tn : Int))
        have hbl := HST.out.below
        refine ⟨hbl.trans ⟨hbut.os, hbut.tape, hbut.output, hbut.size, fun k hk => hbut.block k (by omega) (by omega) (by simp)⟩, hbut, hK8, ints_res hi7 HK7.out (fun x e => by cases e) _ _ _, ?_⟩
        exact (((Grow.below HG6.out hb7 (Nat.le_refl _)).far (p := ⟨w.heap.size, 0, none⟩) (by show w.heap.size < _; omega) (.int .i64 S)).far (p := ⟨w.heap.size, 1, none⟩) (by show w.heap.size < _; omega) (.slice A7 n7 c7)).far (p := ⟨w.heap.size, 2, none⟩) (by show w.heap.size < _; omega) (.int .i64 (Tn : Int)) : RrMid _ _ _ _ _ _ _ _ _ _ _ _ _)
      clear hi7 hb7 ho7 p0 p1 p2 hb67 HA6 HB6 HG6 HK6 HG0
      obtain ⟨q0, q1, q2⟩ := HQ.out _ HMID.out.below
      unfold rv
      go_upto_region 10 with fail
      go_cut [1] (fun l wx => ∃ (Al' : Option Addr) (nl' cl' : Nat), l = .slice Al' nl' cl' ∧ Hid (AtInts w .u8 Al' nl' (rest.drop li) ∧ (nl' ≤ cl' ∧ cl' ≤ 9223372036854775807) ∧ (0 < nl' → (Value.slice Al' nl' cl').ownBlock = lo)) ∧ Hid (RrMid w wr wx S Tn (lastN S (H ++ ps.flatten ++ rest.take li)) A7 n7 c7 A6 li c6 (rest.take li)))
      case first =>
        have HLW := HST.out
        by_cases hcl : cl = li
        · go_wp2
          go_meet
          exact ⟨_, _, _, rfl, (by
            have h1 := at_tail (c := cl) HLW.lits HLW.cap.1 (HLI.out.1)
            rw [if_pos hcl] at h1
            have := HLI.out.1
            have := HLW.cap
            exact ⟨h1, ⟨by omega, by omega⟩, fun h0 => by rw [← HLW.lown (by omega)]; exact own_any _ _ _ _ _⟩ : _ ∧ _), (HMID.out : RrMid _ _ _ _ _ _ _ _ _ _ _ _ _)⟩
        · go_wp2
          go_meet
          exact ⟨_, _, _, rfl, (by
            have h1 := at_tail (c := cl) HLW.lits HLW.cap.1 (HLI.out.1)
            rw [if_neg hcl] at h1
            have := HLI.out.1
            have := HLW.cap
            exact ⟨h1, ⟨by omega, by omega⟩, fun h0 => by rw [← HLW.lown (by omega)]; exact own_map _ _ _ _ _ _⟩ : _ ∧ _), (HMID.out : RrMid _ _ _ _ _ _ _ _ _ _ _ _ _)⟩
      case rest =>
        obtain ⟨Al', nl', cl', rfl, HLN, HM8⟩ := hcut
        clear HMID q0 q1 q2 p3 p4 p5 p6 p7 p8 HK7
        have hcp := fun W (hW : Below wc.heap.size wc W) => refCopy_ok W S (.slice A7 n7 c7) Tn _ (HM8.out.ring.below hW (Nat.le_refl _)) hS2 (by rw [lastN_length]; omega) ofs le (by have := HLI.out; omega) (by have := HLI.out; omega) (by
          have h1 := HOF.out
          have h2 := HLI.out
          have h3 := HLT.out.1
          rw [lastN_length, List.length_append, List.length_append, h3]
          omega) (by have := HTM.out; have := HTN.out; omega)
        obtain ⟨Tm, hTm⟩ : ∃ Tm : Nat, Tn + le = Tm := ⟨_, rfl⟩
        simp only [hTm] at hcp
        have HTM2 := Lib.hid hTm
        clear hTm
        have HCP := Lib.hid hcp
        have hs0 : ∀ W, Below wc.heap.size wc W → (fun w' => (w'.cell? ⟨w.heap.size, 0, none⟩ = some (.int .i64 S) ∧ w'.cell? ⟨w.heap.size, 1, none⟩ = some (.slice A7 n7 c7) ∧ w'.cell? ⟨w.heap.size, 2, none⟩ = some (.int .i64 Tn)) ∧ w'.cell? ⟨b, off + k * 3 + 1, none⟩ = some (.int .i64 le) ∧ w'.cell? ⟨b, off + k * 3 + 2, none⟩ = some (.int .i64 ofs)) W := fun W hW => by
          have h1 := (HM8.out.box.below hW HM8.out.box.lt).three
          have h2 := HQ.out W (HM8.out.below.trans (hW.mono HM8.out.below.size))
          exact ⟨⟨h1.1, h1.2.1, h1.2.2.1⟩, h2.2.1, h2.2.2⟩
        have HS0 := Lib.hid hs0
        clear hcp hs0
        go_upto_region 11 with fail
        go_cut [17, 18, 19] (fun o5 b5 u5 wx => ∃ (q n9 c9 n8 c8 : Nat) (A9 A8 : Option Addr) (u9 : Int), o5 = .pointer (some ⟨q, 0, none⟩) ∧ b5 = .slice A8 n8 c8 ∧ u5 = .int .i64 u9 ∧ Hid (RrCp wc wx S Tm q (lastN S (lastN S (H ++ ps.flatten ++ rest.take li) ++ copied (lastN ofs (lastN S (H ++ ps.flatten ++ rest.take li))) ofs le)) A9 n9 c9 A8 n8 c8 (copied (lastN ofs (lastN S (H ++ ps.flatten ++ rest.take li))) ofs le)))
        case first =>
          refine wp_region_held_drew (S := (fun w' => (w'.cell? ⟨w.heap.size, 0, none⟩ = some (.int .i64 S) ∧ w'.cell? ⟨w.heap.size, 1, none⟩ = some (.slice A7 n7 c7) ∧ w'.cell? ⟨w.heap.size, 2, none⟩ = some (.int .i64 Tn)) ∧ w'.cell? ⟨b, off + k * 3 + 1, none⟩ = some (.int .i64 le) ∧ w'.cell? ⟨b, off + k * 3 + 2, none⟩ = some (.int .i64 ofs))) (by kernel_rfl) ?_ (fun hHeld => ?_)
          · (try dsimp only); exact HS0.out _ (below_drewN (Below.refl _ _) 1)
          refine wpAnyH_take2 (i := 0) (oi := _) (d := some 64) (v := ?_) rfl rfl (by kernel_rfl) (by kernel_rfl) (by kernel_rfl) (fun _ _ _ h => h) (Or.inl ⟨by rfl, ?_⟩) (by assumption) ?_
          rotate_left 1
          · (intro w' hSw; (try dsimp only at hSw); go_simp; try with_reducible rfl)
          try simp only [Act.put, List.setIfInBounds_toArray, List.set_cons_zero, List.set_cons_succ]
          refine wpAnyH_take2 (i := 1) (oi := _) (d := some 65) (v := ?_) rfl rfl (by kernel_rfl) (by kernel_rfl) (by kernel_rfl) (fun _ _ _ h => h) (Or.inl ⟨by rfl, ?_⟩) (by assumption) ?_
          rotate_left 1
          · (intro w' hSw; (try dsimp only at hSw); go_simp; try with_reducible rfl)
          try simp only [Act.put, List.setIfInBounds_toArray, List.set_cons_zero, List.set_cons_succ]
          refine wpAnyH_take2 (i := 2) (oi := _) (d := some 66) (v := ?_) rfl rfl (by kernel_rfl) (by kernel_rfl) (by kernel_rfl) (fun _ _ _ h => h) (Or.inl ⟨by rfl, ?_⟩) (by assumption) ?_
          rotate_left 1
          · (intro w' hSw; (try dsimp only at hSw); go_simp; try with_reducible rfl)
          try simp only [Act.put, List.setIfInBounds_toArray, List.set_cons_zero, List.set_cons_succ]
          refine wpAnyH_take2 (i := 3) (oi := _) (d := some 67) (v := ?_) rfl rfl (by kernel_rfl) (by kernel_rfl) (by kernel_rfl) (fun _ _ _ h => h) (Or.inl ⟨by rfl, ?_⟩) (by assumption) ?_
          rotate_left 1
          · (intro w' hSw; (try dsimp only at hSw); go_simp; try with_reducible rfl)
          try simp only [Act.put, List.setIfInBounds_toArray, List.set_cons_zero, List.set_cons_succ]
          refine wpAnyH_take2 (i := 4) (oi := _) (d := some 68) (v := ?_) rfl rfl (by kernel_rfl) (by kernel_rfl) (by kernel_rfl) (fun _ _ _ h => h) (Or.inl ⟨by rfl, ?_⟩) (by assumption) ?_
          rotate_left 1
          · (intro w' hSw; (try dsimp only at hSw); go_simp; try with_reducible rfl)
          try simp only [Act.put, List.setIfInBounds_toArray, List.set_cons_zero, List.set_cons_succ]
          refine wpAnyH_take2 (i := 5) (oi := _) (d := some 69) (v := ?_) rfl rfl (by kernel_rfl) (by kernel_rfl) (by kernel_rfl) (fun _ _ _ h => h) (Or.inl ⟨by rfl, ?_⟩) (by assumption) ?_
          rotate_left 1
          · (intro w' hSw; (try dsimp only at hSw); go_simp; try with_reducible rfl)
          try simp only [Act.put, List.setIfInBounds_toArray, List.set_cons_zero, List.set_cons_succ]
          refine wpAnyH_take2 (i := 6) (oi := _) (d := some 70) (v := ?_) rfl rfl (by kernel_rfl) (by kernel_rfl) (by kernel_rfl) (fun _ _ _ h => h) (Or.inl ⟨by rfl, ?_⟩) (by assumption) ?_
          rotate_left 1
          · (intro w' hSw; (try dsimp only at hSw); go_simp; try with_reducible rfl)
          try simp only [Act.put, List.setIfInBounds_toArray, List.set_cons_zero, List.set_cons_succ]
          refine wpAnyH_take2 (i := 7) (oi := _) (d := some 71) (v := ?_) rfl rfl (by kernel_rfl) (by kernel_rfl) (by kernel_rfl) (fun _ _ _ h => h) (Or.inl ⟨by rfl, ?_⟩) (by assumption) ?_
          rotate_left 1
          · (intro w' hSw; (try dsimp only at hSw); go_simp; try with_reducible rfl)
          try simp only [Act.put, List.setIfInBounds_toArray, List.set_cons_zero, List.set_cons_succ]
          refine wpAnyH_take2 (i := 8) (oi := _) (d := some 72) (v := ?_) rfl rfl (by kernel_rfl) (by kernel_rfl) (by kernel_rfl) (fun _ _ _ h => h) (Or.inl ⟨by rfl, ?_⟩) (by assumption) ?_
          rotate_left 1
          · (intro w' hSw; (try dsimp only at hSw); go_simp; try with_reducible rfl)
          try simp only [Act.put, List.setIfInBounds_toArray, List.set_cons_zero, List.set_cons_succ]
          refine wpAnyH_take2 (i := 9) (oi := _) (d := some 73) (v := ?_) rfl rfl (by kernel_rfl) (by kernel_rfl) (by kernel_rfl) (fun _ _ _ h => h) (Or.inl ⟨by rfl, ?_⟩) (by assumption) ?_
          rotate_left 1
          · (intro w' hSw; (try dsimp only at hSw); go_simp; try with_reducible rfl)
          try simp only [Act.put, List.setIfInBounds_toArray, List.set_cons_zero, List.set_cons_succ]
          refine wpAnyH_take2 (i := 10) (oi := _) (d := some 74) (v := ?_) rfl rfl (by kernel_rfl) (by kernel_rfl) (by kernel_rfl) (fun _ _ _ h => h) (Or.inl ⟨by rfl, ?_⟩) (by assumption) ?_
          rotate_left 1
          · (intro w' hSw; (try dsimp only at hSw); go_simp; try with_reducible rfl)
          try simp only [Act.put, List.setIfInBounds_toArray, List.set_cons_zero, List.set_cons_succ]
          refine wpAnyH_ready (rs := [11, 16]) (by kernel_rfl) (by simp) ?_
          refine AllReadyH.cons (o := _) rfl (fun K hK => ?_) (AllReadyH.cons (o := _) rfl (fun K hK => ?_) AllReadyH.nil)
          · go_simp
            go_at_call 50; refine (HCP.out _ (below_drewN (Below.refl _ _) 1)).mono ?_; rintro e w9 ⟨bv9, ov9, rfl, hi9, ho9, hb9, hown9, -⟩; obtain ⟨A9', n9, c9', rfl, -⟩ := hi9.get; obtain ⟨A8, n8, c8, rfl, -⟩ := ho9.get; have HI9 := Lib.hid hi9; have HO9 := Lib.hid ho9; have HB9 := Lib.hid ((below_drewN (Below.refl _ _) 1 : Below wc.heap.size wc _).trans (hb9.mono (Nat.le_refl _))); have HOWN9 := Lib.hid hown9; clear hi9 ho9 hb9 hown9; unfold rv
            refine hK.out _ _ ?_ (fun hHeld => ?_)
            · (try dsimp only); exact HS0.out _ HB9.out
            clear hK K
            try simp only [Act.put, List.setIfInBounds_toArray, List.set_cons_zero, List.set_cons_succ]
            refine wpAnyH_take2 (i := 12) (oi := _) (d := some 63) (v := ?_) rfl rfl (by kernel_rfl) (by kernel_rfl) (by kernel_rfl) (fun _ _ _ h => h) (Or.inl ⟨by rfl, ?_⟩) (by assumption) ?_
            rotate_left 1
            · (intro w' hSw; (try dsimp only at hSw); go_simp; try with_reducible rfl)
            try simp only [Act.put, List.setIfInBounds_toArray, List.set_cons_zero, List.set_cons_succ]
            refine wpAnyH_take2 (i := 13) (oi := _) (d := some 76) (v := ?_) rfl rfl (by kernel_rfl) (by kernel_rfl) (by kernel_rfl) (fun _ _ _ h => h) (Or.inl ⟨by rfl, ?_⟩) (by assumption) ?_
            rotate_left 1
            · (intro w' hSw; (try dsimp only at hSw); go_simp; try with_reducible rfl)
            try simp only [Act.put, List.setIfInBounds_toArray, List.set_cons_zero, List.set_cons_succ]
            refine wpAnyH_take2 (i := 14) (oi := _) (d := some 77) (v := ?_) rfl rfl (by kernel_rfl) (by kernel_rfl) (by kernel_rfl) (fun _ _ _ h => h) (Or.inl ⟨by rfl, ?_⟩) (by assumption) ?_
            rotate_left 1
            · (intro w' hSw; (try dsimp only at hSw); go_simp; try with_reducible rfl)
            try simp only [Act.put, List.setIfInBounds_toArray, List.set_cons_zero, List.set_cons_succ]
            refine wpAnyH_take2 (i := 15) (oi := _) (d := some 78) (v := ?_) rfl rfl (by kernel_rfl) (by kernel_rfl) (by kernel_rfl) (fun _ _ _ h => h) (Or.inl ⟨by rfl, ?_⟩) (by assumption) ?_
            rotate_left 1
            · (intro w' hSw; (try dsimp only at hSw); go_simp; try with_reducible rfl)
            try simp only [Act.put, List.setIfInBounds_toArray, List.set_cons_zero, List.set_cons_succ]
            refine wpAnyH_ready (rs := [16]) (by kernel_rfl) (by simp) ?_
            refine AllReadyH.cons (o := _) rfl (fun K hK => ?_) ?_
            rotate_left
            · exact AllReadyH.nil
            go_simp
            refine hK.out _ _ ?_ (fun hHeld => ?_)
            · (try dsimp only); exact HS0.out _ (HB9.out.alloc HB9.out.size _)
            clear hK K
            try simp only [Act.put, List.setIfInBounds_toArray, List.set_cons_zero, List.set_cons_succ]
            refine wpAnyH_ready (rs := [17]) (by kernel_rfl) (by simp) ?_
            refine AllReadyH.cons (o := _) rfl (fun K hK => ?_) ?_
            rotate_left
            · exact AllReadyH.nil
            go_simp
            refine hK.out _ _ ?_ (fun hHeld => ?_)
            · (try dsimp only); exact HS0.out _ (HB9.out.alloc HB9.out.size _)
            clear hK K
            try simp only [Act.put, List.setIfInBounds_toArray, List.set_cons_zero, List.set_cons_succ]
            refine wpAnyH_take2 (i := 18) (oi := _) (d := some 18) (v := ?_) rfl rfl (by kernel_rfl) (by kernel_rfl) (by kernel_rfl) (fun _ _ _ h => h) (Or.inl ⟨by rfl, ?_⟩) (by assumption) ?_
            rotate_left 1
            · (intro w' hSw; (try dsimp only at hSw); go_simp; try with_reducible rfl)
            try simp only [Act.put, List.setIfInBounds_toArray, List.set_cons_zero, List.set_cons_succ]
            refine wpAnyH_take2 (i := 19) (oi := _) (d := some 19) (v := ?_) rfl rfl (by kernel_rfl) (by kernel_rfl) (by kernel_rfl) (fun _ _ _ h => h) (Or.inl ⟨by rfl, ?_⟩) (by assumption) ?_
            rotate_left 1
            · (intro w' hSw; (try dsimp only at hSw); go_simp; try with_reducible rfl)
            try simp only [Act.put, List.setIfInBounds_toArray, List.set_cons_zero, List.set_cons_succ]
            refine wpAnyH_done (by kernel_rfl) ?_ _
            go_wp2
            go_meet
            have hsz9 := HB9.out.size
            have hba := (Below.refl w9.heap.size w9).alloc (Nat.le_refl _) (.cells #[.int .i64 S, .slice A9' n9 c9', .int .i64 Tm] 45)
            exact ⟨w9.heap.size, n9, c9', n8, c8, A9', A8, 0, rfl, rfl, rfl, (⟨HB9.out.alloc hsz9 _, hsz9, Blk.new w9 _ _, HI9.out.below hba (Nat.le_refl _), fun k hk => by have := HOWN9.out k hk; simpa using this, HO9.out.below hba (Nat.le_refl _)⟩ : RrCp _ _ _ _ _ _ _ _ _ _ _ _ _)⟩
          · go_simp
            refine hK.out _ _ ?_ (fun hHeld => ?_)
            · (try dsimp only); exact HS0.out _ ((below_drewN (Below.refl _ _) 1 : Below wc.heap.size wc _).alloc (Nat.le_refl _) _)
            clear hK K
            try simp only [Act.put, List.setIfInBounds_toArray, List.set_cons_zero, List.set_cons_succ]
            refine wpAnyH_ready (rs := [11]) (by kernel_rfl) (by simp) ?_
            refine AllReadyH.cons (o := _) rfl (fun K hK => ?_) ?_
            rotate_left
            · exact AllReadyH.nil
            go_simp
            go_at_call 50; refine (HCP.out _ (((below_drewN (Below.refl _ _) 1 : Below wc.heap.size wc _).alloc (Nat.le_refl _) _))).mono ?_; rintro e w9 ⟨bv9, ov9, rfl, hi9, ho9, hb9, hown9, -⟩; obtain ⟨A9', n9, c9', rfl, -⟩ := hi9.get; obtain ⟨A8, n8, c8, rfl, -⟩ := ho9.get; have HI9 := Lib.hid hi9; have HO9 := Lib.hid ho9; have HB9 := Lib.hid ((((below_drewN (Below.refl _ _) 1 : Below wc.heap.size wc _).alloc (Nat.le_refl _) _) : Below wc.heap.size wc _).trans (hb9.mono (by simp))); have HOWN9 := Lib.hid hown9; have hz9 : Blk w9 wc.heap.size 45 #[.int .i64 0, .slice none 0 0, .int .i64 0] := (Blk.new (wc.drewN 1) 45 #[.int .i64 0, .slice none 0 0, .int .i64 0]).below hb9 (by simp); obtain ⟨z0, z1, z2, z3, z4, z5⟩ := hz9.three; have HZ9 := Lib.hid hz9; clear hz9; clear hi9 ho9 hb9 hown9; unfold rv
            refine hK.out _ _ ?_ (fun hHeld => ?_)
            · (try dsimp only); exact HS0.out _ HB9.out
            clear hK K
            try simp only [Act.put, List.setIfInBounds_toArray, List.set_cons_zero, List.set_cons_succ]
            refine wpAnyH_take2 (i := 12) (oi := _) (d := some 63) (v := ?_) rfl rfl (by kernel_rfl) (by kernel_rfl) (by kernel_rfl) (fun _ _ _ h => h) (Or.inl ⟨by rfl, ?_⟩) (by assumption) ?_
            rotate_left 1
            · (intro w' hSw; (try dsimp only at hSw); go_simp; try with_reducible rfl)
            try simp only [Act.put, List.setIfInBounds_toArray, List.set_cons_zero, List.set_cons_succ]
            refine wpAnyH_take2 (i := 13) (oi := _) (d := some 76) (v := ?_) rfl rfl (by kernel_rfl) (by kernel_rfl) (by kernel_rfl) (fun _ _ _ h => h) (Or.inl ⟨by rfl, ?_⟩) (by assumption) ?_
            rotate_left 1
            · (intro w' hSw; (try dsimp only at hSw); go_simp; try with_reducible rfl)
            try simp only [Act.put, List.setIfInBounds_toArray, List.set_cons_zero, List.set_cons_succ]
            refine wpAnyH_take2 (i := 14) (oi := _) (d := some 77) (v := ?_) rfl rfl (by kernel_rfl) (by kernel_rfl) (by kernel_rfl) (fun _ _ _ h => h) (Or.inl ⟨by rfl, ?_⟩) (by assumption) ?_
            rotate_left 1
            · (intro w' hSw; (try dsimp only at hSw); go_simp; try with_reducible rfl)
            try simp only [Act.put, List.setIfInBounds_toArray, List.set_cons_zero, List.set_cons_succ]
            refine wpAnyH_take2 (i := 15) (oi := _) (d := some 78) (v := ?_) rfl rfl (by kernel_rfl) (by kernel_rfl) (by kernel_rfl) (fun _ _ _ h => h) (Or.inl ⟨by rfl, ?_⟩) (by assumption) ?_
            rotate_left 1
            · (intro w' hSw; (try dsimp only at hSw); go_simp; try with_reducible rfl)
            try simp only [Act.put, List.setIfInBounds_toArray, List.set_cons_zero, List.set_cons_succ]
            refine wpAnyH_ready (rs := [17]) (by kernel_rfl) (by simp) ?_
            refine AllReadyH.cons (o := _) rfl (fun K hK => ?_) ?_
            rotate_left
            · exact AllReadyH.nil
            go_simp
            refine hK.out _ _ ?_ (fun hHeld => ?_)
            · (try dsimp only); exact HS0.out _ (((HB9.out.setCell (p := ⟨wc.heap.size, 0, none⟩) (Nat.le_refl _) _).setCell (p := ⟨wc.heap.size, 1, none⟩) (Nat.le_refl _) _).setCell (p := ⟨wc.heap.size, 2, none⟩) (Nat.le_refl _) _)
            clear hK K
            try simp only [Act.put, List.setIfInBounds_toArray, List.set_cons_zero, List.set_cons_succ]
            refine wpAnyH_take2 (i := 18) (oi := _) (d := some 18) (v := ?_) rfl rfl (by kernel_rfl) (by kernel_rfl) (by kernel_rfl) (fun _ _ _ h => h) (Or.inl ⟨by rfl, ?_⟩) (by assumption) ?_
            rotate_left 1
            · (intro w' hSw; (try dsimp only at hSw); go_simp; try with_reducible rfl)
            try simp only [Act.put, List.setIfInBounds_toArray, List.set_cons_zero, List.set_cons_succ]
            refine wpAnyH_take2 (i := 19) (oi := _) (d := some 19) (v := ?_) rfl rfl (by kernel_rfl) (by kernel_rfl) (by kernel_rfl) (fun _ _ _ h => h) (Or.inl ⟨by rfl, ?_⟩) (by assumption) ?_
            rotate_left 1
            · (intro w' hSw; (try dsimp only at hSw); go_simp; try with_reducible rfl)
            try simp only [Act.put, List.setIfInBounds_toArray, List.set_cons_zero, List.set_cons_succ]
            refine wpAnyH_done (by kernel_rfl) ?_ _
            go_wp2
            go_meet
            exact ⟨wc.heap.size, n9, c9', n8, c8, A9', A8, 0, rfl, rfl, rfl, (RrCp.late HB9.out HZ9.out HI9.out HO9.out (fun k hk => by have := HOWN9.out k hk; simp at this; omega) : RrCp _ _ _ _ _ _ _ _ _ _ _ _ _)⟩
        case rest =>
          obtain ⟨q, n9, c9', n8, c8, A9', A8, u9, rfl, rfl, rfl, HRC⟩ := hcut
          obtain ⟨j0, j1, j2, -⟩ := HRC.out.box.three
          obtain ⟨p0, p1, p2, p3, p4, p5⟩ := (HM8.out.box.below HRC.out.below HM8.out.box.lt).three
          have HEND := Lib.hid (HM8.out.copied HRC.out (by have := HRES.out; omega))
          have hca : AtInts _ .u8 A8 n8 _ := (by
            obtain ⟨A', n', c', he, -, -, h9⟩ := HEND.out.cps.get
            injection he with e1 e2 e3
            subst e1 e2
            exact h9)
          have HCA := Lib.hid hca
          have HN8 : Hid (n8 = le) := (by have := hca.1; rw [copied_length] at this; exact this.symm : _ = _)
          have HEL : Hid (es.length = k) := (by rw [← HPL.out]; exact HST.out.out.len : _ = _)
          clear hca HCP HS0 HM8
          go_wp2_with (first | (at_builtin; refine wpList_append_bs rfl _ _ rfl wr.heap.size _ (rest.take li) _ rfl HEND.out.piece A8 n8 c8 rfl HCA.out (by have := HLI.out; have := HN8.out; have := HLT.out.1; omega) HEND.out.but.size (li + le) (by have := HN8.out; have := HLT.out.1; omega) ?_; intro A10 c10 w10 hg hgr; have HG10 := Lib.hid hg; have HGR10 := Lib.hid hgr; have HRW := Lib.hid (HST.out.row HEND.out hgr (.cells #[.slice A10 (li + le) c10] 22)).2.row; clear hg hgr) | (at_builtin; refine wpList_append_pc rfl _ _ rfl rfl HRW.out w10.heap.size (.slice A10 (li + le) c10) rfl (Blk.new w10 _ _) rfl (by rw [HEL.out]; omega) (k + 1) (by rw [HEL.out]) ?_; intro A11 c11 w11 hrow hgrow hown; have H6 := Lib.hid hrow; have H7 := Lib.hid hgrow; have H8 := Lib.hid hown; clear hrow hgrow hown))
          go_roundg (n - (k + 1))
          case measure => have := HGK.out; omega
          case rel => exact ⟨k + 1, nl', cl', c11, Al', A11, by omega, rfl, by go_num, rfl, rfl, (RrRel.next HST.out HEND.out HGR10.out HG10.out _ H6.out H7.out H8.out HLN.out.1 HLN.out.2.1 HLN.out.2.2 (by have := HST.out.lits.1; have := HLI.out; omega) HLI.out.2.2.2.2.2 (by have := HTK.out; have := HTN.out; have := HTM2.out; omega) HPL.out HX.out H3.out HPC.out HUK.out : RrRel _ _ _ _ _ _ _ _ _ _ _ _ _ _ _ _)⟩
    · obtain rfl : k = n := by omega
      have hdn : ss.drop k = [] := List.drop_of_length_le (by rw [HN.out]; exact Nat.le_refl _)
      rw [hdn] at hck hpc
      have hle := chk_le hck
      have hNl := hst.lits.1
      have hcont : contentL H ls ss = (piecesL H ls ss).flatten := rfl
      obtain ⟨p0, p1, p2, p3, p4, p5⟩ := hst.box.three
      by_cases h0 : nl = 0
      · have hrs : rest = [] := List.eq_nil_of_length_eq_zero (by omega)
        subst hrs
        rw [piecesL, if_pos rfl, List.append_nil] at hpc
        rw [hpc] at hcont
        have HC := Lib.hid hcont
        have HP := Lib.hid hpc
        have HFIN := Lib.hid hst.fin
        obtain ⟨TT, hTT⟩ : ∃ TT : Nat, T + ps.flatten.length = TT := ⟨_, rfl⟩
        have hf := hst.fin
        rw [hTT] at hf p2
        have HF := Lib.hid hf
        have HTT := Lib.hid hTT
        obtain ⟨f0, f1, f2, f3, f4, f5⟩ := hst.res.three
        subst h0
        clear hck hpc hcont hst hle hNl hdn HR HFIN hf hTT
        go_wp2
        obtain ⟨g1, g2, g3, g4⟩ := HF.out.finish HLO2.out
        obtain ⟨k0, k1, k2, -⟩ := g1.three
        refine bodyPost_ret (v := .tuple #[.agg #[.int .i64 S, .slice Ab nb cb, .int .i64 TT], .slice A4 k c4, .int .i64 0]) (by simp [results, Try.results24, go_sem, k0, k1, k2]) rfl ?_
        rw [HC.out, HP.out, HTT.out]
        exact ⟨.slice Ab nb cb, _, rfl, g2, g3, g4⟩
      · have hne : rest ≠ [] := fun e => by rw [e] at hNl; simp at hNl; omega
        rw [piecesL, if_neg hne] at hpc
        rw [hpc] at hcont
        have HC := Lib.hid hcont
        have HP := Lib.hid hpc
        have HST := Lib.hid hst
        have HPL := Lib.hid hpl
        obtain ⟨Tk, hTk⟩ : ∃ Tk : Nat, T + ps.flatten.length = Tk := ⟨_, rfl⟩
        rw [hTk] at p2
        have hlw := (hst.lits.ints (c := cl) hst.cap.1 hst.cap.2).below hst.below (Nat.le_refl _)
        obtain ⟨Tn, hTn⟩ : ∃ Tn : Nat, Tk + rest.length = Tn := ⟨_, rfl⟩
        have ha6 := refAdd_any wr S (.slice Ab nb cb) (.slice Al nl cl) Tk _ _ hst.ring hlw (by omega) (by rw [lastN_length]; have := HM.out; omega) (by have := HT.out; have := HM.out; omega)
        rw [hTn] at ha6
        have HA6 := Lib.hid ha6
        have HTK := Lib.hid hTk
        have HTN := Lib.hid hTn
        have HN0 := Lib.hid (Nat.pos_of_ne_zero h0)
        have hN0 : (0 : Int) < (nl : Int) := by omega
        have hN1 : (nl : Int) ≤ 9223372036854775807 := by have := hst.cap; omega
        have HEL : Hid (es.length = k) := (by rw [← HPL.out]; exact hst.out.len : _ = _)
        clear hck hpc hcont hst hle hNl hdn h0 hne HR hpl huk ha6 hTk hTn hlw
        go_wp2_with fail
        refine HA6.out.mono ?_
        rintro e w7 ⟨bv7, rfl, hi7, hb7, ho7⟩
        obtain ⟨A7, n7, c7, rfl, -⟩ := hi7.get
        rw [lastN_append] at hi7
        have hbx7 := HST.out.box.below hb7 HST.out.box.lt
        have hi8 := fun (u0 u1 u2 : Value) => ints_res hi7 hbx7 (fun x e => by cases e) u0 u1 u2
        rw [HTK.out] at hbx7
        obtain ⟨p6, p7, p8, p9, pa, pb⟩ := hbx7.three
        have HB8 := Lib.hid (HST.out.boxed (A7 := A7) (n7 := n7) (c7 := c7) (T7 := Tn) hb7)
        have HI8 := Lib.hid (hi8 (.int .i64 S) (.slice A7 n7 c7) (.int .i64 Tn))
        have HO7 := Lib.hid ho7
        clear hbx7 hi7 hb7 ho7 hi8 HA6 p0 p1 p2 p3 p4 p5
        unfold rv
        obtain ⟨f0, f1, f2, f3, f4, f5⟩ := HST.out.res.three
        go_upto_region 16 with fail
        clear f0 f1 f2 f3 f4 f5 p6 p7 p8 p9 pa pb
        generalize ((w7.setCell ⟨w.heap.size, 0, none⟩ (.int .i64 S)).setCell ⟨w.heap.size, 1, none⟩ (.slice A7 n7 c7)).setCell ⟨w.heap.size, 2, none⟩ (.int .i64 Tn) = w8 at HB8 HI8 ⊢
        have HRW := Lib.hid (HST.out.rowT HB8.out.2 (.cells #[.slice Al nl cl] 22)).row
        go_wp2_with (at_builtin; refine wpList_append_pc rfl _ _ rfl rfl HRW.out w8.heap.size (.slice Al nl cl) rfl (Blk.new w8 _ _) rfl (by rw [HEL.out]; omega) (k + 1) (by rw [HEL.out]) ?_; intro A11 c11 w11 hrow hgrow hown; have HF := Lib.hid (HST.out.tail HN0.out HB8.out.1 HB8.out.2 HI8.out HO7.out _ hrow hgrow hown); obtain ⟨x0, x1, x2, x3, x4, x5⟩ := HF.out.box.three; obtain ⟨y0, y1, y2, y3, y4, y5⟩ := HF.out.res.three; clear hrow hgrow hown)
        obtain ⟨g1, g2, g3, g4⟩ := HF.out.finish HLO2.out
        obtain ⟨k0, k1, k2, -⟩ := g1.three
        refine bodyPost_ret (v := .tuple #[.agg #[.int .i64 S, .slice A7 n7 c7, .int .i64 Tn], .slice A11 (k + 1) c11, .int .i64 0]) (by simp [results, Try.results24, go_sem, k0, k1, k2]) rfl ?_
        rw [HC.out, HP.out]
        have e9 : T + (ps ++ [rest]).flatten.length = Tn := by
          have := HTK.out
          have := HTN.out
          simp only [List.flatten_append, List.flatten_cons, List.flatten_nil, List.append_nil, List.length_append]
          omega
        have e8 : H ++ (ps ++ [rest]).flatten = H ++ ps.flatten ++ rest := by simp
        rw [e9, e8]
        exact ⟨.slice A7 n7 c7, _, rfl, g2, g3, g4⟩

theorem refRun_ok (w : World) (S T : Nat) (cv lv sv : Value) (H ls : List Int) (hH : Ints w .u8 cv (lastN S H)) (hl : Ints w .u8 lv ls) (hu : U8s ls) (ss : List SeqD) (hs : Seqs w sv ss) (hsl : ss.length ≤ 100000) (most t : Int) (hchk : chkOf S H ls most ss = (0, t, 0)) (hS2 : S ≤ 134217728) (hT : T ≤ 1152921504606846976) :
    Calls Try.prog 24 #[rv S cv T, lv, sv, .int .i64 most] w fun e w' => ∃ bv ov, e = .returned (.tuple #[rv S bv (T + (contentL H ls ss).length), ov, .int .i64 0]) ∧ Below w.heap.size w w' ∧ Ints w' .u8 bv (lastN S (H ++ contentL H ls ss)) ∧ Pcs w' ov (piecesL H ls ss) :=
  (refRun_far w S T cv lv sv H ls hH hl hu ss hs hsl most t hchk hS2 hT).mono fun e w' ⟨bv, ov, h1, h2, h3, h4⟩ => ⟨bv, ov, h1, h2, h3, h4.pcs⟩
end Go.Proofs.Ytndgdehlnmheeaa
