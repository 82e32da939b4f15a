/-
  exec's reference: the joined pieces; the law's pair of rings.
-/
import Derived.Deep.RegionWith
import Derived.Test.YtndgdehlnmheeaaExFew
import Derived.Test.YtndgdehlnmheeaaRfCopy
namespace Go.Proofs.Ytndgdehlnmheeaa
set_option linter.all false
set_option maxRecDepth 100000
open Go.RowKit

set_option maxHeartbeats 1600000 in
theorem refJoined_any (w : World) (v : Value) (ps : List (List Int)) (h : Pcs w v ps) (hl : ps.flatten.length ≤ 1000000000) :
    Calls Try.prog 25 #[v] w fun e w' => ∃ A c, e = .returned (.slice A ps.flatten.length c) ∧ Grow w' w.heap.size 5 .u8 (.slice A ps.flatten.length c) ps.flatten ∧ Below w.heap.size w w' := by
  have HP := Lib.hid h
  obtain ⟨A, c, hv, h1, h2, -⟩ := h.at_
  obtain ⟨n, hn⟩ : ∃ n, ps.length = n := ⟨_, rfl⟩
  rw [hn] at hv h1
  subst hv
  have HN := Lib.hid hn
  have HL := Lib.hid hl
  have hni : (n : Int) ≤ 9223372036854775807 := by simp only [maxLen] at h2; omega
  clear h hn hl
  go_enter Try.func25, Try.ntmps25
  go_wp2
  go_loopw [3, 4] (fun r i wr => ∃ (k m cc : Nat) (A' : Option Addr), k ≤ n ∧ i = .int .i64 k ∧ r = .slice A' m cc ∧ Hid (Below w.heap.size w wr) ∧ Hid ((ps.take k).flatten.length = m) ∧ Hid (Grow wr w.heap.size 5 .u8 (.slice A' m cc) (ps.take k).flatten)) (fun _ i _ => n - (intOf i).toNat)
  case atStart => exact ⟨0, 0, 0, none, Nat.zero_le _, rfl, rfl, (Below.refl _ _ : Below _ _ _), (rfl : _ = _), (Grow.nil _ _ _ _ : Grow _ _ _ _ _ _)⟩
  case round =>
    obtain ⟨k, m, cc, A', hk, rfl, rfl, HB, HM, HG⟩ := hrel
    have k0 : (0 : Int) ≤ (k : Int) := by omega
    by_cases hlt : k < n
    · have k1 : (k : Int) < (n : Int) := by omega
      obtain ⟨A2, c2, he, -, -, h4⟩ := (HP.out.below HB.out (Nat.le_refl _)).at_
      injection he with e1 e2 e3
      subst e1
      clear e2 e3
      obtain ⟨b, off, rfl, hcell⟩ := h4 (by rw [HN.out]; omega)
      have hxk := List.getElem?_eq_getElem (l := ps) (i := k) (by rw [HN.out]; omega)
      obtain ⟨p, hpe⟩ : ∃ p, ps[k]'(by rw [HN.out]; omega) = p := ⟨_, rfl⟩
      rw [hpe] at hxk
      obtain ⟨e, q0, hie⟩ := hcell k p hxk
      obtain ⟨A5, n5, c5, rfl, -, -, hat⟩ := hie.get
      have hblt := World.block_lt_of_cell? wr _ q0
      have hsu := flat_take_succ hxk
      have hln : ((ps.take (k + 1)).flatten.length) ≤ ps.flatten.length := by
        have h9 := congrArg (fun l => List.length (List.flatten l)) (List.take_append_drop (k + 1) ps)
        simp only [List.flatten_append, List.length_append] at h9
        omega
      rw [hsu, List.length_append, HM.out] at hln
      have HLN : Hid (m + n5 ≤ 1000000000000) := (by have := HL.out; have := hat.1; omega : _ ≤ _)
      have HSU := Lib.hid hsu
      have HAT := Lib.hid hat
      clear hxk hpe hie hat hcell h4 hsu hln
      go_wp2_with (at_builtin; refine wpList_append_bs rfl _ _ rfl w.heap.size _ (ps.take k).flatten p rfl HG.out A5 n5 c5 rfl HAT.out (by rw [HM.out]; exact HLN.out) HB.out.size (m + n5) (by rw [HM.out]) ?_; intro A6 c6 w6 hg hgr; have HG6 := Lib.hid hg; have HB6 := Lib.hid (HB.out.grown hgr HB.out.size (fun r hr => (World.ownsRow.lt HG.out r hr).1)); clear hg hgr)
      go_roundw
      case rel => exact ⟨k + 1, m + n5, c6, A6, by omega, by go_num, rfl, (HB6.out : Below _ _ _), (by rw [HSU.out, List.length_append, HM.out, HAT.out.1] : _ = _), (HSU.out ▸ HG6.out : Grow _ _ _ _ _ (ps.take (k + 1)).flatten)⟩
      case measure => simp [intOf]; omega
    · obtain rfl : k = n := by omega
      have HT : Hid (ps.take k = ps) := (List.take_of_length_le (by rw [HN.out]; exact Nat.le_refl _) : _ = _)
      go_wp2
      go_ret
      have hm := HM.out
      have hg := HG.out
      rw [HT.out] at hm hg
      subst hm
      exact ⟨_, _, rfl, hg, HB.out⟩

theorem rings_ok (w : World) {S : Nat} {bv : Value} {bs : List Int} (h1 : 1 ≤ S) (h2 : S ≤ 134217728) (hx : Ints w .u8 bv bs) (hu : U8s bs) (hl : bs.length ≤ 100000000000) :
    Calls Try.prog 23 #[.int .i64 S, bv] w fun e w' => ∃ g v bv', e = .returned (.tuple #[rp g, rv S bv' 0, .bool true]) ∧ Made w w' g v S (keepL S bs) 0 ∧ Ints w' .u8 bv' (lastN S bs) ∧ ∀ k, bv'.ownBlock = some k → k ≠ g ∧ v.ownBlock ≠ some k ∧ k < w'.heap.size := by
  have HX := Lib.hid hx
  have HU := Lib.hid hu
  have HL := Lib.hid hl
  have HZ := Lib.hid (Blk.new w 45 #[.int .i64 0, .slice none 0 0, .int .i64 0])
  obtain ⟨A0, n0, c0, rfl, -⟩ := hx.get
  clear hx hu hl
  go_enter Try.func23, Try.ntmps23
  go_wp2_with fail
  refine (new_ok _ (S := S) (bs := bs) h1 h2 (HX.out.alloc _) HU.out (by have := HL.out; omega)).mono ?_
  rintro e w1 ⟨g, v, rfl, hm⟩
  have HM := Lib.hid hm
  have HX1 := Lib.hid ((HX.out.alloc _).below hm.below (Nat.le_refl _))
  have HZ1 := Lib.hid (HZ.out.below hm.below HZ.out.lt)
  clear hm HZ
  go_wp2_with fail
  refine (refNew_ok _ (S := S) (bs := bs) h1 h2 HX1.out (by have := HL.out; omega)).mono ?_
  rintro e w2 ⟨bv', rfl, hi, hb, hk⟩
  obtain ⟨A2, n2, c2, rfl, -⟩ := hi.get
  have HZ2 := Lib.hid (HZ1.out.below hb HZ1.out.lt)
  have HI := Lib.hid hi
  have HB := Lib.hid hb
  have HK := Lib.hid hk
  clear hi hb hk
  unfold rv
  go_wp2
  have hN := Blk.new w2 45 #[.int .i64 S, .slice A2 n2 c2, .int .i64 0]
  have hZ := HZ2.out.below ((Below.refl _ w2).alloc (Nat.le_refl _) (.cells #[.int .i64 S, .slice A2 n2 c2, .int .i64 0] 45)) HZ2.out.lt
  have hb3 := HB.out.trans (((Below.refl _ w2).alloc (Nat.le_refl _) (.cells #[.int .i64 S, .slice A2 n2 c2, .int .i64 0] 45)).mono HB.out.size)
  have hi3 := HI.out.alloc (.cells #[.int .i64 S, .slice A2 n2 c2, .int .i64 0] 45)
  have hne : w.heap.size ≠ w2.heap.size := fun e => by have := HZ2.out.lt; omega
  have hs3 : (w2.alloc (.cells #[.int .i64 S, .slice A2 n2 c2, .int .i64 0] 45)).heap.size = w2.heap.size + 1 := World.size_alloc _ _
  generalize w2.alloc (.cells #[.int .i64 S, .slice A2 n2 c2, .int .i64 0] 45) = w3 at hN hZ hb3 hi3 hs3 ⊢
  obtain ⟨q0, q1, q2, q3, q4, q5⟩ := hN.three
  obtain ⟨z0, z1, z2, z3, z4, z5⟩ := hZ.three
  have HZ3 := Lib.hid hZ
  have HB3 := Lib.hid hb3
  have HI3 := Lib.hid hi3
  have HS3 := Lib.hid hs3
  clear hN hZ hb3 hi3 hs3
  go_region_with (first
    | (go_at_call 14; refine (num_any _ _).mono ?_; rintro e w6 ⟨rfl, hw⟩; obtain rfl := hw))
  all_goals
    go_wp2
    have hA : Blk (w3.setCell ⟨w.heap.size, 0, none⟩ (.int .i64 S)) w.heap.size 45 #[.int .i64 S, .slice none 0 0, .int .i64 0] := (HZ3.out.set_ 0 (.int .i64 S)).congr rfl
    have hB2 : Blk ((w3.setCell ⟨w.heap.size, 0, none⟩ (.int .i64 S)).setCell ⟨w.heap.size, 1, none⟩ (.slice A2 n2 c2)) w.heap.size 45 #[.int .i64 S, .slice A2 n2 c2, .int .i64 0] := (hA.set_ 1 (.slice A2 n2 c2)).congr rfl
    have hC : Blk (((w3.setCell ⟨w.heap.size, 0, none⟩ (.int .i64 S)).setCell ⟨w.heap.size, 1, none⟩ (.slice A2 n2 c2)).setCell ⟨w.heap.size, 2, none⟩ (.int .i64 0)) w.heap.size 45 #[.int .i64 S, .slice A2 n2 c2, .int .i64 0] := (hB2.set_ 2 (.int .i64 0)).congr rfl
    have k0 := hA.three.1
    have k1 := hB2.three.2.1
    have k2 := hC.three.2.2.1
    clear z0 z1 z2 q0 q1 q2
    refine bodyPost_ret (v := .tuple #[rp g, .agg #[.int .i64 S, .slice A2 n2 c2, .int .i64 0], .bool true]) (by simp [results, Try.results23, go_sem, k0, k1, k2]) rfl ?_
    have hg := HM.out.at_
    have ho := HM.out.own
    rw [World.size_alloc] at hg
    have hgl := HM.out.ring.lt
    refine ⟨g, v, .slice A2 n2 c2, rfl, ?_, ints_res HI3.out HZ3.out (fun x e => by cases e) (.int .i64 S) (.slice A2 n2 c2) (.int .i64 0), fun k hk => ?_⟩
    · refine ⟨((HM.out.ring.below HB3.out (Nat.le_refl _) : Ring w3 _ _ _ _ _)).but (((((But.refl w3 w.heap.size none).set_ 0 (.int .i64 S)).set_ 1 (.slice A2 n2 c2)).set_ 2 (.int .i64 0)).drewN 1) (by omega) (by simp) (fun e => by have := ho _ e; simp at this; omega) (by simp), by omega, fun k hk => by have := ho k hk; simp at this; omega, ?_⟩
      have hb := (((Below.refl _ w).alloc (Nat.le_refl _) (.cells #[.int .i64 0, .slice none 0 0, .int .i64 0] 45)).trans (HM.out.below.mono (by simp)))
      have hb2 : Below w.heap.size w w3 := hb.trans (HB3.out.mono hb.size)
      exact below_drewN (((hb2.setCell (p := ⟨w.heap.size, 0, none⟩) (Nat.le_refl _) (.int .i64 S)).setCell (p := ⟨w.heap.size, 1, none⟩) (Nat.le_refl _) (.slice A2 n2 c2)).setCell (p := ⟨w.heap.size, 2, none⟩) (Nat.le_refl _) (.int .i64 0)) 1
    · have h5 := HK.out k hk
      refine ⟨by omega, fun e => by have := HM.out.ring.row.lt _ e; omega, ?_⟩
      have := HS3.out
      simp
      show k < w3.heap.size
      omega

end Go.Proofs.Ytndgdehlnmheeaa
