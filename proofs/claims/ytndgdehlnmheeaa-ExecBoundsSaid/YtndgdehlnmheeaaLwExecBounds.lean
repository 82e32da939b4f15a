/-
  ExecBounds: the law's walk.
-/
import Derived.Test.YtndgdehlnmheeaaExFew
namespace Go.Proofs.Ytndgdehlnmheeaa
set_option linter.all false
set_option maxRecDepth 100000
open Go.RowKit

theorem copied_one (c : Int) (n : Nat) : copied [c] 1 n = List.replicate n c := by
  unfold copied
  apply List.ext_getElem?
  intro i
  rw [List.getElem?_map, List.getElem?_replicate]
  rcases Nat.lt_or_ge i n with h | h
  · rw [List.getElem?_range h, if_pos h]
    simp [Nat.mod_one]
  · rw [List.getElem?_eq_none (by simpa using h), if_neg (by omega)]
    rfl
theorem content_one (c : Int) (n : Nat) : contentL [c] [] [⟨0, n, 1⟩] = List.replicate n c := by
  simp [contentL, piecesL, pieceL, lastN, copied_one]
theorem content_two (c : Int) (n : Nat) : contentL [c] [c] [⟨0, n, 1⟩] = List.replicate (n + 1) c := by
  simp [contentL, piecesL, pieceL, lastN, copied_one, List.replicate_succ']
theorem eb_ok0 (c : Int) : chkOf 9 [c] [] 131072 [⟨0, 131072, 1⟩] = (0, 131072, 0) := (by decide : chkR 9 1 0 131072 [⟨0, 131072, 1⟩] = (0, 131072, 0))
theorem eb_no0 (c : Int) : chkOf 9 [c] [] 131072 [⟨0, 131073, 1⟩] = (0, 0, 15) := (by decide : chkR 9 1 0 131072 [⟨0, 131073, 1⟩] = (0, 0, 15))
theorem eb_no1 (c : Int) : chkOf 9 [c] [] 131071 [⟨0, 131072, 1⟩] = (0, 0, 10) := (by decide : chkR 9 1 0 131071 [⟨0, 131072, 1⟩] = (0, 0, 10))
theorem eb_ok2 (c : Int) : chkOf 9 [c] [c] 131072 [⟨0, 131071, 1⟩] = (0, 131072, 0) := (by decide : chkR 9 1 1 131072 [⟨0, 131071, 1⟩] = (0, 131072, 0))
theorem eb_no2 (c : Int) : chkOf 9 [c] [c] 131071 [⟨1, 131071, 1⟩] = (0, 0, 10) := (by decide : chkR 9 1 1 131071 [⟨1, 131071, 1⟩] = (0, 0, 10))
theorem ints_one (W : World) (c : Int) : Ints (W.alloc (.cells #[.int .u8 c] 5)) .u8 (.slice (some ⟨W.heap.size, 0, none⟩) 1 1) [c] := Ints.of_blk (Blk.new W _ _) rfl (Nat.le_refl _) (by simp [maxLen])

set_option maxHeartbeats 3200000 in
theorem eb_0f {w : World} (c : Int) (hu : U8s [c]) : Calls Try.prog 7 #[.int .i64 0, .bool false, .int .u8 c] w fun e w' => e = .returned (.bool true) ∧ Below w.heap.size w w' := by
  have HU := Lib.hid hu
  have HI0 := Lib.hid (ints_one w c)
  clear hu
  go_enter Try.func7, Try.ntmps7
  go_wp2_with fail
  refine (new_ok _ (S := 9) (bs := [c]) (by decide) (by decide) HI0.out HU.out (by simp)).mono ?_
  rintro e w1 ⟨g, v, rfl, hm⟩
  have hgl := hm.ring.lt
  have hvl := fun k => hm.ring.row.lt k
  have HO1 : Hid (OwnRing w w1 g v 9 [c] 0) := (OwnRing.made hm ((Below.refl _ w).alloc (Nat.le_refl _) _) : OwnRing _ _ _ _ _ _ _)
  have hb1 := Below.refl w1.heap.size w1
  have hb2 : Below w1.heap.size w1 (w1.alloc (.cells #[.int .i64 0, .int .i64 131072, .int .i64 1] 54)) := hb1.alloc hb1.size _
  have HO2 := Lib.hid (HO1.out.next hb2)
  have hs2 := Seqs.lit1 w1 ⟨0, 131072, 1⟩ (by decide)
  have HS2 := Lib.hid hs2
  have HSF : Hid (SeqFar (.slice (some ⟨w1.heap.size, 0, none⟩) 1 1) [⟨0, 131072, 1⟩] g v.ownBlock) := (fun k _ hk => by
    obtain rfl : w1.heap.size = k := by simpa [Value.ownBlock] using hk
    exact ⟨by omega, fun e => by have := hvl _ e; omega⟩ : SeqFar _ _ _ _)
  have HL2 : Hid (Ints (w1.alloc (.cells #[.int .i64 0, .int .i64 131072, .int .i64 1] 54)) .u8 (.slice none 0 0) []) := (Ints.nil _ _ : Ints _ _ _ _)
  clear hm hb1 hb2 hs2 hgl hvl HI0
  go_wp2_with fail
  refine (run_ok _ HO2.out.ring (C := [c]) rfl _ [] HL2.out (fun z hz => by cases hz) (by simp) _ [⟨0, 131072, 1⟩] HS2.out (by decide) HSF.out 131072 131072 (eb_ok0 c) (by decide)).mono ?_
  have hcont : contentL [c] [] [⟨0, 131072, 1⟩] = List.replicate 131072 c := content_one c 131072
  rw [hcont, List.length_replicate]
  rintro e w3 ⟨v3, st3, A3, c3, rfl, hok, hg⟩
  have ho := HO2.out.ran hok
  rw [List.length_replicate, Nat.zero_add] at ho
  have HO3 := Lib.hid ho
  obtain ⟨A5, n5, c5, he5, h51, h52, hat⟩ := hg.ints.get
  injection he5 with e1 e2 e3
  subst e1 e2 e3
  obtain ⟨b, off, rfl, hcell⟩ := hat.2 (by decide)
  have q0 := hcell 0 c (by rw [List.getElem?_replicate]; rfl)
  have q1 := hcell 131071 c (by rw [List.getElem?_replicate]; rfl)
  rw [Nat.add_zero] at q0
  clear hok hg hat hcell ho HO1 HO2 HS2 HSF HL2 hcont
  go_wp2_with fail
  refine (num_any _ _).mono ?_
  rintro e w4 ⟨rfl, hw⟩
  obtain rfl : w3 = w4 := hw.symm
  go_wp2_with fail
  refine (num_any _ _).mono ?_
  rintro e w4 ⟨rfl, hw⟩
  obtain rfl : w3 = w4 := hw.symm
  go_wp2_with fail
  refine (total_ring _ HO3.out.ring).mono ?_
  rintro e w4 ⟨rfl, hw⟩
  obtain rfl : w3 = w4 := hw.symm
  go_wp2_with (go_at_call 12; refine (works_at HO3.out.below).mono ?_; rintro e w9 ⟨rfl, hb⟩; have HB := Lib.hid hb; clear hb)
  go_ret
  exact ⟨rfl, HB.out⟩
set_option maxHeartbeats 3200000 in
theorem eb_0t {w : World} (c : Int) (hu : U8s [c]) : Calls Try.prog 7 #[.int .i64 0, .bool true, .int .u8 c] w fun e w' => e = .returned (.bool true) ∧ Below w.heap.size w w' := by
  have HU := Lib.hid hu
  have HI0 := Lib.hid (ints_one w c)
  clear hu
  go_enter Try.func7, Try.ntmps7
  go_wp2_with fail
  refine (new_ok _ (S := 9) (bs := [c]) (by decide) (by decide) HI0.out HU.out (by simp)).mono ?_
  rintro e w1 ⟨g, v, rfl, hm⟩
  have hgl := hm.ring.lt
  have hvl := fun k => hm.ring.row.lt k
  have HO1 : Hid (OwnRing w w1 g v 9 [c] 0) := (OwnRing.made hm ((Below.refl _ w).alloc (Nat.le_refl _) _) : OwnRing _ _ _ _ _ _ _)
  have hb1 := Below.refl w1.heap.size w1
  have hb2 : Below w1.heap.size w1 (w1.alloc (.cells #[.int .i64 0, .int .i64 131073, .int .i64 1] 54)) := hb1.alloc hb1.size _
  have HO2 := Lib.hid (HO1.out.next hb2)
  have hs2 := Seqs.lit1 w1 ⟨0, 131073, 1⟩ (by decide)
  have HS2 := Lib.hid hs2
  have HSF : Hid (SeqFar (.slice (some ⟨w1.heap.size, 0, none⟩) 1 1) [⟨0, 131073, 1⟩] g v.ownBlock) := (fun k _ hk => by
    obtain rfl : w1.heap.size = k := by simpa [Value.ownBlock] using hk
    exact ⟨by omega, fun e => by have := hvl _ e; omega⟩ : SeqFar _ _ _ _)
  have HL2 : Hid (Ints (w1.alloc (.cells #[.int .i64 0, .int .i64 131073, .int .i64 1] 54)) .u8 (.slice none 0 0) []) := (Ints.nil _ _ : Ints _ _ _ _)
  clear hm hb1 hb2 hs2 hgl hvl HI0
  go_wp2_with fail
  refine (run_bad _ HO2.out.ring (C := [c]) rfl _ [] HL2.out _ [⟨0, 131073, 1⟩] HS2.out 131072 0 0 15 (eb_no0 c) (by decide)).mono ?_
  rintro e w3 ⟨A3, c3, rfl, hb, -⟩
  have HO3 := Lib.hid (HO2.out.next hb)
  clear hb HO1 HO2 HS2 HSF HL2
  go_wp2_with fail
  refine (num_any _ _).mono ?_
  rintro e w4 ⟨rfl, hw⟩
  obtain rfl : w3 = w4 := hw.symm
  go_wp2_with fail
  refine (total_ring _ HO3.out.ring).mono ?_
  rintro e w4 ⟨rfl, hw⟩
  obtain rfl : w3 = w4 := hw.symm
  go_wp2_with (go_at_call 12; refine (works_at HO3.out.below).mono ?_; rintro e w9 ⟨rfl, hb⟩; have HB := Lib.hid hb; clear hb)
  go_ret
  exact ⟨rfl, HB.out⟩
set_option maxHeartbeats 3200000 in
theorem eb_1f {w : World} (c : Int) (hu : U8s [c]) : Calls Try.prog 7 #[.int .i64 1, .bool false, .int .u8 c] w fun e w' => e = .returned (.bool true) ∧ Below w.heap.size w w' := by
  have HU := Lib.hid hu
  have HI0 := Lib.hid (ints_one w c)
  clear hu
  go_enter Try.func7, Try.ntmps7
  go_wp2_with fail
  refine (new_ok _ (S := 9) (bs := [c]) (by decide) (by decide) HI0.out HU.out (by simp)).mono ?_
  rintro e w1 ⟨g, v, rfl, hm⟩
  have hgl := hm.ring.lt
  have hvl := fun k => hm.ring.row.lt k
  have HO1 : Hid (OwnRing w w1 g v 9 [c] 0) := (OwnRing.made hm ((Below.refl _ w).alloc (Nat.le_refl _) _) : OwnRing _ _ _ _ _ _ _)
  have hb1 := Below.refl w1.heap.size w1
  have hb2 : Below w1.heap.size w1 (w1.alloc (.cells #[.int .i64 0, .int .i64 131072, .int .i64 1] 54)) := hb1.alloc hb1.size _
  have HO2 := Lib.hid (HO1.out.next hb2)
  have hs2 := Seqs.lit1 w1 ⟨0, 131072, 1⟩ (by decide)
  have HS2 := Lib.hid hs2
  have HSF : Hid (SeqFar (.slice (some ⟨w1.heap.size, 0, none⟩) 1 1) [⟨0, 131072, 1⟩] g v.ownBlock) := (fun k _ hk => by
    obtain rfl : w1.heap.size = k := by simpa [Value.ownBlock] using hk
    exact ⟨by omega, fun e => by have := hvl _ e; omega⟩ : SeqFar _ _ _ _)
  have HL2 : Hid (Ints (w1.alloc (.cells #[.int .i64 0, .int .i64 131072, .int .i64 1] 54)) .u8 (.slice none 0 0) []) := (Ints.nil _ _ : Ints _ _ _ _)
  clear hm hb1 hb2 hs2 hgl hvl HI0
  go_wp2_with fail
  refine (run_ok _ HO2.out.ring (C := [c]) rfl _ [] HL2.out (fun z hz => by cases hz) (by simp) _ [⟨0, 131072, 1⟩] HS2.out (by decide) HSF.out 131072 131072 (eb_ok0 c) (by decide)).mono ?_
  have hcont : contentL [c] [] [⟨0, 131072, 1⟩] = List.replicate 131072 c := content_one c 131072
  rw [hcont, List.length_replicate]
  rintro e w3 ⟨v3, st3, A3, c3, rfl, hok, hg⟩
  have ho := HO2.out.ran hok
  rw [List.length_replicate, Nat.zero_add] at ho
  have HO3 := Lib.hid ho
  obtain ⟨A5, n5, c5, he5, h51, h52, hat⟩ := hg.ints.get
  injection he5 with e1 e2 e3
  subst e1 e2 e3
  obtain ⟨b, off, rfl, hcell⟩ := hat.2 (by decide)
  have q0 := hcell 0 c (by rw [List.getElem?_replicate]; rfl)
  have q1 := hcell 131071 c (by rw [List.getElem?_replicate]; rfl)
  rw [Nat.add_zero] at q0
  clear hok hg hat hcell ho HO1 HO2 HS2 HSF HL2 hcont
  go_wp2_with fail
  refine (num_any _ _).mono ?_
  rintro e w4 ⟨rfl, hw⟩
  obtain rfl : w3 = w4 := hw.symm
  go_wp2_with fail
  refine (num_any _ _).mono ?_
  rintro e w4 ⟨rfl, hw⟩
  obtain rfl : w3 = w4 := hw.symm
  go_wp2_with fail
  refine (total_ring _ HO3.out.ring).mono ?_
  rintro e w4 ⟨rfl, hw⟩
  obtain rfl : w3 = w4 := hw.symm
  go_wp2_with (go_at_call 12; refine (works_at HO3.out.below).mono ?_; rintro e w9 ⟨rfl, hb⟩; have HB := Lib.hid hb; clear hb)
  go_ret
  exact ⟨rfl, HB.out⟩
set_option maxHeartbeats 3200000 in
theorem eb_1t {w : World} (c : Int) (hu : U8s [c]) : Calls Try.prog 7 #[.int .i64 1, .bool true, .int .u8 c] w fun e w' => e = .returned (.bool true) ∧ Below w.heap.size w w' := by
  have HU := Lib.hid hu
  have HI0 := Lib.hid (ints_one w c)
  clear hu
  go_enter Try.func7, Try.ntmps7
  go_wp2_with fail
  refine (new_ok _ (S := 9) (bs := [c]) (by decide) (by decide) HI0.out HU.out (by simp)).mono ?_
  rintro e w1 ⟨g, v, rfl, hm⟩
  have hgl := hm.ring.lt
  have hvl := fun k => hm.ring.row.lt k
  have HO1 : Hid (OwnRing w w1 g v 9 [c] 0) := (OwnRing.made hm ((Below.refl _ w).alloc (Nat.le_refl _) _) : OwnRing _ _ _ _ _ _ _)
  have hb1 := Below.refl w1.heap.size w1
  have hb2 : Below w1.heap.size w1 (w1.alloc (.cells #[.int .i64 0, .int .i64 131072, .int .i64 1] 54)) := hb1.alloc hb1.size _
  have HO2 := Lib.hid (HO1.out.next hb2)
  have hs2 := Seqs.lit1 w1 ⟨0, 131072, 1⟩ (by decide)
  have HS2 := Lib.hid hs2
  have HSF : Hid (SeqFar (.slice (some ⟨w1.heap.size, 0, none⟩) 1 1) [⟨0, 131072, 1⟩] g v.ownBlock) := (fun k _ hk => by
    obtain rfl : w1.heap.size = k := by simpa [Value.ownBlock] using hk
    exact ⟨by omega, fun e => by have := hvl _ e; omega⟩ : SeqFar _ _ _ _)
  have HL2 : Hid (Ints (w1.alloc (.cells #[.int .i64 0, .int .i64 131072, .int .i64 1] 54)) .u8 (.slice none 0 0) []) := (Ints.nil _ _ : Ints _ _ _ _)
  clear hm hb1 hb2 hs2 hgl hvl HI0
  go_wp2_with fail
  refine (run_bad _ HO2.out.ring (C := [c]) rfl _ [] HL2.out _ [⟨0, 131072, 1⟩] HS2.out 131071 0 0 10 (eb_no1 c) (by decide)).mono ?_
  rintro e w3 ⟨A3, c3, rfl, hb, -⟩
  have HO3 := Lib.hid (HO2.out.next hb)
  clear hb HO1 HO2 HS2 HSF HL2
  go_wp2_with fail
  refine (num_any _ _).mono ?_
  rintro e w4 ⟨rfl, hw⟩
  obtain rfl : w3 = w4 := hw.symm
  go_wp2_with fail
  refine (total_ring _ HO3.out.ring).mono ?_
  rintro e w4 ⟨rfl, hw⟩
  obtain rfl : w3 = w4 := hw.symm
  go_wp2_with (go_at_call 12; refine (works_at HO3.out.below).mono ?_; rintro e w9 ⟨rfl, hb⟩; have HB := Lib.hid hb; clear hb)
  go_ret
  exact ⟨rfl, HB.out⟩
set_option maxHeartbeats 3200000 in
theorem eb_2f {w : World} (c : Int) (hu : U8s [c]) : Calls Try.prog 7 #[.int .i64 2, .bool false, .int .u8 c] w fun e w' => e = .returned (.bool true) ∧ Below w.heap.size w w' := by
  have HU := Lib.hid hu
  have HI0 := Lib.hid (ints_one w c)
  clear hu
  go_enter Try.func7, Try.ntmps7
  go_wp2_with fail
  refine (new_ok _ (S := 9) (bs := [c]) (by decide) (by decide) HI0.out HU.out (by simp)).mono ?_
  rintro e w1 ⟨g, v, rfl, hm⟩
  have hgl := hm.ring.lt
  have hvl := fun k => hm.ring.row.lt k
  have HO1 : Hid (OwnRing w w1 g v 9 [c] 0) := (OwnRing.made hm ((Below.refl _ w).alloc (Nat.le_refl _) _) : OwnRing _ _ _ _ _ _ _)
  have hb1 := (Below.refl w1.heap.size w1).alloc (Nat.le_refl _) (.cells #[.int .u8 c] 5)
  have hb2 : Below w1.heap.size w1 ((w1.alloc (.cells #[.int .u8 c] 5)).alloc (.cells #[.int .i64 0, .int .i64 131071, .int .i64 1] 54)) := hb1.alloc hb1.size _
  have HO2 := Lib.hid (HO1.out.next hb2)
  have hs2 := Seqs.lit1 (w1.alloc (.cells #[.int .u8 c] 5)) ⟨0, 131071, 1⟩ (by decide)
  rw [World.size_alloc] at hs2
  have HS2 := Lib.hid hs2
  have HSF : Hid (SeqFar (.slice (some ⟨w1.heap.size + 1, 0, none⟩) 1 1) [⟨0, 131071, 1⟩] g v.ownBlock) := (fun k _ hk => by
    obtain rfl : w1.heap.size + 1 = k := by simpa [Value.ownBlock] using hk
    exact ⟨by omega, fun e => by have := hvl _ e; omega⟩ : SeqFar _ _ _ _)
  have HL2 : Hid (Ints ((w1.alloc (.cells #[.int .u8 c] 5)).alloc (.cells #[.int .i64 0, .int .i64 131071, .int .i64 1] 54)) .u8 (.slice (some ⟨w1.heap.size, 0, none⟩) 1 1) [c]) := ((ints_one w1 c).below ((Below.refl _ _).alloc (Nat.le_refl _) _) (Nat.le_refl _) : Ints _ _ _ _)
  clear hm hb1 hb2 hs2 hgl hvl HI0
  go_wp2_with fail
  refine (run_ok _ HO2.out.ring (C := [c]) rfl _ [c] HL2.out HU.out (by simp) _ [⟨0, 131071, 1⟩] HS2.out (by decide) HSF.out 131072 131072 (eb_ok2 c) (by decide)).mono ?_
  have hcont : contentL [c] [c] [⟨0, 131071, 1⟩] = List.replicate 131072 c := content_two c 131071
  rw [hcont, List.length_replicate]
  rintro e w3 ⟨v3, st3, A3, c3, rfl, hok, hg⟩
  have ho := HO2.out.ran hok
  rw [List.length_replicate, Nat.zero_add] at ho
  have HO3 := Lib.hid ho
  obtain ⟨A5, n5, c5, he5, h51, h52, hat⟩ := hg.ints.get
  injection he5 with e1 e2 e3
  subst e1 e2 e3
  obtain ⟨b, off, rfl, hcell⟩ := hat.2 (by decide)
  have q0 := hcell 0 c (by rw [List.getElem?_replicate]; rfl)
  have q1 := hcell 131071 c (by rw [List.getElem?_replicate]; rfl)
  rw [Nat.add_zero] at q0
  clear hok hg hat hcell ho HO1 HO2 HS2 HSF HL2 hcont
  go_wp2_with fail
  refine (num_any _ _).mono ?_
  rintro e w4 ⟨rfl, hw⟩
  obtain rfl : w3 = w4 := hw.symm
  go_wp2_with fail
  refine (num_any _ _).mono ?_
  rintro e w4 ⟨rfl, hw⟩
  obtain rfl : w3 = w4 := hw.symm
  go_wp2_with fail
  refine (total_ring _ HO3.out.ring).mono ?_
  rintro e w4 ⟨rfl, hw⟩
  obtain rfl : w3 = w4 := hw.symm
  go_wp2_with (go_at_call 12; refine (works_at HO3.out.below).mono ?_; rintro e w9 ⟨rfl, hb⟩; have HB := Lib.hid hb; clear hb)
  go_ret
  exact ⟨rfl, HB.out⟩
set_option maxHeartbeats 3200000 in
theorem eb_2t {w : World} (c : Int) (hu : U8s [c]) : Calls Try.prog 7 #[.int .i64 2, .bool true, .int .u8 c] w fun e w' => e = .returned (.bool true) ∧ Below w.heap.size w w' := by
  have HU := Lib.hid hu
  have HI0 := Lib.hid (ints_one w c)
  clear hu
  go_enter Try.func7, Try.ntmps7
  go_wp2_with fail
  refine (new_ok _ (S := 9) (bs := [c]) (by decide) (by decide) HI0.out HU.out (by simp)).mono ?_
  rintro e w1 ⟨g, v, rfl, hm⟩
  have hgl := hm.ring.lt
  have hvl := fun k => hm.ring.row.lt k
  have HO1 : Hid (OwnRing w w1 g v 9 [c] 0) := (OwnRing.made hm ((Below.refl _ w).alloc (Nat.le_refl _) _) : OwnRing _ _ _ _ _ _ _)
  have hb1 := (Below.refl w1.heap.size w1).alloc (Nat.le_refl _) (.cells #[.int .u8 c] 5)
  have hb2 : Below w1.heap.size w1 ((w1.alloc (.cells #[.int .u8 c] 5)).alloc (.cells #[.int .i64 1, .int .i64 131071, .int .i64 1] 54)) := hb1.alloc hb1.size _
  have HO2 := Lib.hid (HO1.out.next hb2)
  have hs2 := Seqs.lit1 (w1.alloc (.cells #[.int .u8 c] 5)) ⟨1, 131071, 1⟩ (by decide)
  rw [World.size_alloc] at hs2
  have HS2 := Lib.hid hs2
  have HSF : Hid (SeqFar (.slice (some ⟨w1.heap.size + 1, 0, none⟩) 1 1) [⟨1, 131071, 1⟩] g v.ownBlock) := (fun k _ hk => by
    obtain rfl : w1.heap.size + 1 = k := by simpa [Value.ownBlock] using hk
    exact ⟨by omega, fun e => by have := hvl _ e; omega⟩ : SeqFar _ _ _ _)
  have HL2 : Hid (Ints ((w1.alloc (.cells #[.int .u8 c] 5)).alloc (.cells #[.int .i64 1, .int .i64 131071, .int .i64 1] 54)) .u8 (.slice (some ⟨w1.heap.size, 0, none⟩) 1 1) [c]) := ((ints_one w1 c).below ((Below.refl _ _).alloc (Nat.le_refl _) _) (Nat.le_refl _) : Ints _ _ _ _)
  clear hm hb1 hb2 hs2 hgl hvl HI0
  go_wp2_with fail
  refine (run_bad _ HO2.out.ring (C := [c]) rfl _ [c] HL2.out _ [⟨1, 131071, 1⟩] HS2.out 131071 0 0 10 (eb_no2 c) (by decide)).mono ?_
  rintro e w3 ⟨A3, c3, rfl, hb, -⟩
  have HO3 := Lib.hid (HO2.out.next hb)
  clear hb HO1 HO2 HS2 HSF HL2
  go_wp2_with fail
  refine (num_any _ _).mono ?_
  rintro e w4 ⟨rfl, hw⟩
  obtain rfl : w3 = w4 := hw.symm
  go_wp2_with fail
  refine (total_ring _ HO3.out.ring).mono ?_
  rintro e w4 ⟨rfl, hw⟩
  obtain rfl : w3 = w4 := hw.symm
  go_wp2_with (go_at_call 12; refine (works_at HO3.out.below).mono ?_; rintro e w9 ⟨rfl, hb⟩; have HB := Lib.hid hb; clear hb)
  go_ret
  exact ⟨rfl, HB.out⟩

theorem execBounds_walk {w : World} (a : Int) (_ha : (Lit.int .i64 a).wf = true) (p : Bool) (c : Int) (hc : (Lit.int .u8 c).wf = true) :
    Calls Try.prog 7 #[.int .i64 a, .bool p, .int .u8 c] w fun e w' => e = .returned (.bool true) ∧ Below w.heap.size w w' := by
  have hu : U8s [c] := fun z hz => by rw [List.mem_singleton] at hz; rw [hz]; exact u8_wf hc
  by_cases h0 : a = 0
  · subst h0; cases p; exact eb_0f c hu; exact eb_0t c hu
  · by_cases h1 : a = 1
    · subst h1; cases p; exact eb_1f c hu; exact eb_1t c hu
    · by_cases h2 : a = 2
      · subst h2; cases p; exact eb_2f c hu; exact eb_2t c hu
      · have g0 : (a == 0) = false := by simpa using h0
        have g1 : (a == 1) = false := by simpa using h1
        have g2 : (a == 2) = false := by simpa using h2
        have HU := Lib.hid hu
        have HI0 := Lib.hid (ints_one w c)
        clear hu h0 h1 h2
        cases p
        all_goals
          go_enter Try.func7, Try.ntmps7
          go_wp2_with fail
          refine (new_ok _ (S := 9) (bs := [c]) (by decide) (by decide) HI0.out HU.out (by simp)).mono ?_
          rintro e w1 ⟨g, v, rfl, hm⟩
          have HO1 : Hid (OwnRing w w1 g v 9 [c] 0) := (OwnRing.made hm ((Below.refl _ w).alloc (Nat.le_refl _) _) : OwnRing _ _ _ _ _ _ _)
          clear hm
          go_wp2_with (go_at_call 12; refine (works_at HO1.out.below).mono ?_; rintro e w9 ⟨rfl, hb⟩; have HB := Lib.hid hb; clear hb)
          go_ret
          exact ⟨rfl, HB.out⟩
end Go.Proofs.Ytndgdehlnmheeaa
