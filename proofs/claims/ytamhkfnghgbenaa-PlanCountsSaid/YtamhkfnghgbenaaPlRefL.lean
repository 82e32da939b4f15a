/-
  plan: the reference's Lits.
-/
import Derived.Test.YtamhkfnghgbenaaPlRefW
import Derived.Test.YtamhkfnghgbenaaPlLits
namespace Go.Proofs.Ytamhkfnghgbenaa
set_option linter.all false
open Go.RowKit

theorem AtInts.mid {w : World} {k : IntKind} {A : Option Addr} {n a l c : Nat} {xs : List Int} (h : AtInts w k A n xs) (hal : a + l ≤ n) (hc : n ≤ c) : AtInts w k (if c = a then A else Option.map (fun x => Addr.add x a) A) l ((xs.drop a).take l) := by
  refine ⟨by rw [List.length_take, List.length_drop, h.1]; omega, fun h0 => ?_⟩
  obtain ⟨b', o, hA, -⟩ := h.2 (by omega)
  obtain ⟨-, hx⟩ := h.sub hA (i := a) (m := l) (by omega)
  rw [if_neg (by omega), hA, show Option.map (fun x => Addr.add x a) (some (⟨b', o, none⟩ : Addr)) = some ⟨b', o + a, none⟩ by simp [Addr.add]]
  exact hx h0

set_option linter.unusedSimpArgs false
set_option maxRecDepth 100000 in
set_option maxHeartbeats 1600000 in
theorem rlits_any (w : World) (v vd : Value) (ss : List SeqD) (dd : List Int) (h : Seqs w v ss) (hd : Ints w .u8 vd dd) (hl : ss.length ≤ 100) (l2 : dd.length ≤ 131072) :
    Calls Try.prog 21 #[v, vd] w fun e w' => ∃ A cc, e = .returned (.tuple #[.slice A (litsR ss dd).1.length cc, .int .i64 (litsR ss dd).2]) ∧ Grow w' w.heap.size 5 .u8 (.slice A (litsR ss dd).1.length cc) (litsR ss dd).1 ∧ Below w.heap.size w w' := by
  have HL := Lib.hid hl
  have HS := Lib.hid h
  obtain ⟨A2, c2, rfl, d1, d2, d3⟩ := ints_form hd
  obtain ⟨⟨A, c, hv, hlc, hcm, hat⟩, hwf⟩ := h
  have HAT := Lib.hid hat
  obtain ⟨n, hn⟩ : ∃ n, ss.length = n := ⟨_, rfl⟩
  rw [hn] at hv hlc
  subst hv
  obtain ⟨nd, hnd⟩ : ∃ n, dd.length = n := ⟨_, rfl⟩
  rw [hnd] at d1 d3 l2 ⊢
  have HN := Lib.hid hn
  have HND := Lib.hid hnd
  have HD := Lib.hid d3
  have hnn : n ≤ 100 := by omega
  have hsz := sizeR_cases ss
  have hsl := sizeR_le ss
  obtain ⟨pq, hpq⟩ : ∃ p, sizeR ss = p := ⟨_, rfl⟩
  have HPQ := Lib.hid hpq
  obtain ⟨sz, q⟩ := pq
  rw [hpq] at hsz hsl
  simp only at hsz hsl
  obtain ⟨z, rfl⟩ := Int.eq_ofNat_of_zero_le hsl.1
  have hndi : (nd : Int) ≤ 9223372036854775807 := by omega
  by_cases hok : q = 0 ∧ (z : Int) ≤ nd
  · obtain ⟨rfl, hz⟩ := hok
    have hzz := sizeR_ok (ss := ss) (by rw [hpq])
    have hlr : litsR ss dd = (litsTo ss dd ss.length ++ dd.drop (posL ss).toNat, 0) := by unfold litsR; rw [if_pos ⟨by rw [hpq], by rw [hpq, hnd]; exact hz⟩]
    have hp2 := hzz.2.1
    rw [hpq] at hp2
    simp only at hp2
    rw [hn, ← hp2, Int.toNat_natCast] at hlr
    have hgd := hzz.2.2
    rw [hn] at hgd
    have HGD := Lib.hid hgd
    have HZP : Hid (posL (ss.take n) = z) := (by rw [← hn, List.take_length]; exact hp2.symm : posL (ss.take n) = z)
    have HLR := Lib.hid hlr
    have z1 : (z : Int) ≤ (c2 : Int) := by omega
    have z2 : z ≤ nd := by omega
    clear hlr hzz hp2 hgd hsz hsl hpq hn hnd d3 hat hwf hl
    go_enter Try.func21, Try.ntmps21
    go_wp2_with fail
    refine (rsize_any _ _ ss HS.out (by have := HL.out; omega)).mono ?_
    rw [HPQ.out]
    rintro e w1 ⟨rfl, hb⟩
    have HB1 := Lib.hid hb
    clear hb
    go_wp2
    generalize decide (nd < z) = b0
    go_loopw [8, 9, 10] (fun v p i wr => ∃ (k m cc : Nat) (A' : Option Addr), k ≤ n ∧ i = .int .i64 k ∧ p = .int .i64 (posL (ss.take k)) ∧ v = .slice A' m cc ∧ Hid (Below w.heap.size w wr) ∧ Hid ((litsTo ss dd k).length = m) ∧ Hid (Grow wr w.heap.size 5 .u8 (.slice A' m cc) (litsTo ss dd k))) (fun _ _ i _ => n - (intOf i).toNat)
    case atStart => exact ⟨0, 0, 0, none, Nat.zero_le _, rfl, rfl, rfl, (HB1.out : Below _ _ _), (rfl : (litsTo ss dd 0).length = 0), (Grow.nil _ _ _ _ : Grow _ _ _ _ _ _)⟩
    case round =>
      clear HB1
      obtain ⟨k, m, cc, A', hk, rfl, rfl, rfl, HB, HM, HG⟩ := hrel
      have k0 : (0 : Int) ≤ (k : Int) := by omega
      by_cases hlt : k < n
      · have k1 : (k : Int) < (n : Int) := by omega
        have hxk := List.getElem?_eq_getElem (l := ss) (i := k) (by have := HN.out; omega)
        obtain ⟨⟨lit, len, offs⟩, hse⟩ : ∃ s, ss[k]'(by have := HN.out; omega) = s := ⟨_, rfl⟩
        rw [hse] at hxk
        obtain ⟨b, off, hA, hcl⟩ := HAT.out (by rw [HN.out]; omega)
        subst hA
        obtain ⟨p0, p1, p2⟩ := hcl k _ hxk
        have hp1 := Good.pos (size := 131072) (by omega) (by have := HN.out; omega : k ≤ ss.length) (fun i s hi => HGD.out i s (by omega))
        have hp2 := posL_mono (by rw [HN.out]; exact Nat.le_refl n) HGD.out (k := k + 1) (by omega)
        rw [HZP.out] at hp2
        obtain ⟨⟨o1, o2, o3, o4⟩, -⟩ := HGD.out k _ hlt hxk
        have hps := posL_take_succ hxk
        have hlk : litsTo ss dd (k + 1) = litsTo ss dd k ++ (dd.drop (posL (ss.take k)).toNat).take lit.toNat := by rw [litsTo, hxk]
        obtain ⟨P, hP⟩ : ∃ P, posL (ss.take k) = P := ⟨_, rfl⟩
        simp only [stepAt] at o1 o2 o3 o4
        simp only at p0 p1 p2
        rw [hP] at hp1 hps o3 o4 hlk ⊢
        simp only at hps
        obtain ⟨a, rfl⟩ := Int.eq_ofNat_of_zero_le hp1.1
        obtain ⟨l, rfl⟩ := Int.eq_ofNat_of_zero_le o1
        have HLK : Hid (litsTo ss dd (k + 1) = litsTo ss dd k ++ (dd.drop a).take l) := (hlk : _ = _)
        have hal : a + l ≤ nd := by omega
        have HAL := Lib.hid hal
        obtain ⟨al, hall⟩ : ∃ al, a + l = al := ⟨_, rfl⟩
        have e1 : IntKind.i64.wrap ((a : Int) + (l : Int)) = (al : Int) := by rw [wrap_in _ (by omega) (by omega)]; omega
        have e2 : IntKind.i64.wrap ((a : Int) + (l : Int) + len) = (a : Int) + l + len := wrap_in _ (by omega) (by omega)
        have e3 : IntKind.i64.wrap ((al : Int) + len) = (al : Int) + len := wrap_in _ (by omega) (by omega)
        have i1 : (0 : Int) ≤ (a : Int) := by omega
        have i2 : (a : Int) ≤ (al : Int) := by omega
        have i3 : (al : Int) ≤ (c2 : Int) := by omega
        have n2 : a ≤ al := by omega
        have n3 : al ≤ c2 := by omega
        have hml : al - a = l := by omega
        have q0 := (HB.out.cell (World.block_lt_of_cell? w _ p0)).trans p0
        have q1 := (HB.out.cell (World.block_lt_of_cell? w _ p1)).trans p1
        have QL : Hid (∀ W : World, Below w.heap.size w W → W.cell? ⟨b, off + k * 3, none⟩ = some (.int .i64 l) ∧ W.cell? ⟨b, off + k * 3 + 1, none⟩ = some (.int .i64 len)) := (fun W hW => ⟨(hW.cell (World.block_lt_of_cell? w _ p0)).trans p0, (hW.cell (World.block_lt_of_cell? w _ p1)).trans p1⟩ : ∀ W : World, _)
        have HPS : Hid (posL (ss.take (k + 1)) = (al : Int) + len) := (by rw [hps]; omega : posL (ss.take (k + 1)) = (al : Int) + len)
        have HMA := Lib.hid hall
        have hmb : m + l ≤ 1000000000000 := by
          have h1 := litsTo_le ss dd k
          rw [HM.out, HND.out] at h1
          have h2 : k * nd ≤ 100 * 131072 := Nat.mul_le_mul (by have := HN.out; have := HL.out; omega) l2
          have := HAL.out
          omega
        have HMB := Lib.hid hmb
        clear hxk hse hp1 hp2 o1 o2 o3 o4 hps hlk hP hal hcl p0 p1 p2 hall hmb
        go_wp2_with ((at_builtin; refine wpList_append_ints_any rfl _ _ rfl w.heap.size _ (litsTo ss dd k) ((dd.drop a).take l) rfl HG.out _ l (c2 - a) rfl (AtInts.mid (HD.out.below HB.out (Nat.le_refl _)) HAL.out d1) (by rw [HM.out]; exact HMB.out) HB.out.size (m + l) (by rw [HM.out]) ?_; intro A6 c6 w6 hg hgr; have HG6 := Lib.hid hg; have HB6 := Lib.hid (HB.out.grown hgr HB.out.size (fun r hr => (World.ownsRow.lt HG.out r hr).1)); clear hg hgr))
        all_goals
          try subst h
          obtain ⟨g0, g1⟩ := QL.out _ HB6.out
          clear QL q0 q1
          go_quiet (fail)
          go_wp2
          go_roundw
          case rel => exact ⟨k + 1, m + l, c6, A6, by omega, by go_num, by rw [HPS.out], rfl, (below_drewN HB6.out nq : Below _ _ _), (by rw [HLK.out, List.length_append, HM.out, List.length_take, List.length_drop, HD.out.1]; have := HAL.out; omega : (litsTo ss dd (k + 1)).length = m + l), (by rw [HLK.out]; exact HG6.out : Grow _ _ _ _ _ (litsTo ss dd (k + 1)))⟩
          case measure => simp [intOf]; omega
      · obtain rfl : k = n := by omega
        have hmb : m ≤ 100 * 131072 := by
          have h1 := litsTo_le ss dd k
          rw [HM.out, HND.out] at h1
          exact Nat.le_trans h1 (Nat.mul_le_mul (by omega) l2)
        have HMB := Lib.hid hmb
        clear hmb
        rw [HZP.out]
        have z0 : (0 : Int) ≤ (z : Int) := by omega
        have HZ : Hid (z ≤ nd) := (z2 : z ≤ nd)
        go_wp2_with (at_builtin; refine wpList_append_ints_any rfl _ _ rfl w.heap.size _ (litsTo ss dd k) (dd.drop z) rfl HG.out _ (nd - z) (c2 - z) rfl (AtInts.tail (HD.out.below HB.out (Nat.le_refl _)) HZ.out d1) (by rw [HM.out]; have := HMB.out; omega) HB.out.size (m + (nd - z)) (by rw [HM.out]) ?_; intro A6 c6 w6 hg hgr; have HG6 := Lib.hid hg; have HB6 := Lib.hid (HB.out.grown hgr HB.out.size (fun r hr => (World.ownsRow.lt HG.out r hr).1)); clear hg hgr)
        all_goals
          have hlen : (litsR ss dd).1.length = m + (nd - z) := by rw [HLR.out]; simp only [List.length_append, List.length_drop]; rw [HM.out, HND.out]
          rw [hlen]
          refine bodyPost_ret (v := .tuple #[.slice A6 (m + (nd - z)) c6, .int .i64 0]) (by simp [results, Try.results21, go_sem]) rfl ⟨_, _, by rw [HLR.out], ?_, HB6.out⟩
          rw [HLR.out]
          exact HG6.out
  · have hlr : litsR ss dd = ([], 15) := by
      unfold litsR
      rw [if_neg]
      rw [hpq, hnd]
      exact hok
    have HLR := Lib.hid hlr
    have hcase : q = 15 ∧ (z : Int) = 0 ∨ q = 0 ∧ (nd : Int) < z := by
      rcases hsz with h0 | h0
      · exact .inr ⟨h0, by have := fun hz => hok ⟨h0, hz⟩; omega⟩
      · exact .inl h0
    clear hlr hok hsz hpq hn hnd d3 hat hwf hl
    rcases hcase with ⟨rfl, hz⟩ | ⟨rfl, hz⟩
    all_goals
      go_enter Try.func21, Try.ntmps21
      go_wp2_with fail
      refine (rsize_any _ _ ss HS.out (by have := HL.out; omega)).mono ?_
      rw [HPQ.out]
      rintro e w1 ⟨rfl, hb⟩
      have HB1 := Lib.hid hb
      clear hb
      go_wp2
      rw [HLR.out]
      refine bodyPost_ret (v := .tuple #[.slice none 0 0, .int .i64 15]) (by simp [results, Try.results21, go_sem]) rfl ⟨_, _, rfl, Grow.nil _ _ _ _, HB1.out⟩
end Go.Proofs.Ytamhkfnghgbenaa
