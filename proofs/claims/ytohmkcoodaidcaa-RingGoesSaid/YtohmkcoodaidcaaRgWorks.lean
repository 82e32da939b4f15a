/-
  The ring's laws: works.
-/
import Derived.Test.YtohmkcoodaidcaaRfSame
import Derived.Test.YtohmkcoodaidcaaRgOwn
import Derived.Test.YtohmkcoodaidcaaRgBy
import Derived.Lib.SlBytesConst
namespace Go.Proofs.Ytohmkcoodaidcaa
open Go.RowKit

theorem num_any (w : World) (n : Int) : Calls Try.prog 19 #[.int .i64 n] w fun e w' => e = .returned (.int .i64 n) ∧ w' = w := by
  go_enter Try.func19, Try.ntmps19
  go_wp2
  go_ret
  exact ⟨rfl, rfl⟩

set_option maxHeartbeats 3200000 in
set_option maxRecDepth 100000 in
theorem works_any (w : World) : Calls Try.prog 12 #[] w fun e w' => e = .returned (.bool true) ∧ Below w.heap.size w w' := by
  have hcv : ∀ (W : World) (C : Array Value) (n c : Nat), (convert 27 27 (.slice (some ⟨W.heap.size, 0, none⟩) n c)).run Try.prog (W.alloc (.cells C 5)) = .ok (.slice (some ⟨W.heap.size, 0, none⟩) n c) (W.alloc (.cells C 5 (C.size, C.size + 1))) :=
    fun W C n c => Lib.run_convert_bytes_const W _ _ C n c Try.underlying27 Try.underlying5
  go_enter Try.func12, Try.ntmps12
  go_wp2_with fail
  refine (new_ok _ (S := 4) (bs := [97, 98]) (by decide) (by decide) (lit_ints [97, 98] (2, 3) 2 rfl (by decide)) (by decide) (by decide)).mono ?_
  rintro e w1 ⟨g, v, rfl, hm⟩
  have HO1 : Hid (OwnRing w w1 g v 4 [97, 98] 0) := (OwnRing.made hm ((Below.refl _ w).alloc (Nat.le_refl _) _) : OwnRing _ _ _ _ _ _ _)
  clear hm
  go_wp2_with fail
  refine (len_q HO1.out.ring (L := 2) (by decide)).mono ?_
  rintro e w2 ⟨rfl, hm⟩
  have HO2 : Hid (OwnRing w w2 g v 4 [97, 98] 0) := (HO1.out.draws hm : OwnRing _ _ _ _ _ _ _)
  clear hm HO1
  go_wp2_with fail
  refine (total_ring _ HO2.out.ring).mono ?_
  rintro e w3 ⟨rfl, rfl⟩
  go_wp2_with fail
  refine (add_any _ (HO2.out.ring.alloc _) (lit_ints [99, 100, 101] (0, 0) 3 rfl (by decide)) (by decide) (by decide) (by decide)).mono ?_
  rintro e w4 ⟨rfl, v4, hp⟩
  have HO4 : Hid (OwnRing w w4 g v4 4 [97, 98, 99, 100, 101] 3) := ((HO2.out.next ((Below.refl _ _).alloc (Nat.le_refl _) _)).put hp : OwnRing _ _ _ _ _ _ _)
  clear hp HO2
  go_wp2_with fail
  refine (byte_in _ HO4.out.ring 1 (by decide) (by decide) (x := 101) (by decide)).mono ?_
  rintro e w5 ⟨rfl, hm⟩
  have HO5 : Hid (OwnRing w w5 g v4 4 [97, 98, 99, 100, 101] 3) := (HO4.out.draws hm : OwnRing _ _ _ _ _ _ _)
  clear hm HO4
  go_wp2_with fail
  refine (byte_out _ HO5.out.ring 5 (by decide)).mono ?_
  rintro e w6 ⟨rfl, hm⟩
  have HO6 : Hid (OwnRing w w6 g v4 4 [97, 98, 99, 100, 101] 3) := (HO5.out.draws hm : OwnRing _ _ _ _ _ _ _)
  clear hm HO5
  go_wp2_with fail
  refine (num_any _ _).mono ?_
  rintro e w7 ⟨rfl, rfl⟩
  go_wp2_with fail
  refine (num_any _ _).mono ?_
  rintro e w8 ⟨rfl, rfl⟩
  go_wp2_with fail
  refine (len_q HO6.out.ring (L := 4) (by decide)).mono ?_
  rintro e w9 ⟨rfl, hm⟩
  have HO9 : Hid (OwnRing w w9 g v4 4 [97, 98, 99, 100, 101] 3) := (HO6.out.draws hm : OwnRing _ _ _ _ _ _ _)
  clear hm HO6
  go_wp2_with fail
  refine (total_ring _ HO9.out.ring).mono ?_
  rintro e w10 ⟨rfl, rfl⟩
  go_wp2_with fail
  refine (last_some _ HO9.out.ring 9 (by decide)).mono ?_
  rintro e w11 ⟨ov, rfl, hc⟩
  have HO11 : Hid (OwnRing w w11 g v4 4 [97, 98, 99, 100, 101] 3) := (HO9.out.next hc.below : OwnRing _ _ _ _ _ _ _)
  obtain ⟨A11, n11, c11, rfl, -, -, -⟩ := hc.row.ints.get
  have q11 : (convert 27 9 (.slice A11 n11 c11)).run Try.prog w11 = .ok (.string ⟨#[98, 99, 100, 101]⟩) w11 := conv_str hc.row.ints
  clear hc HO9
  go_wp2_with fail
  refine (copy_ok _ HO11.out.ring 2 5 (by decide) (by decide) (by decide) (by decide)).mono ?_
  rintro e w12 ⟨ov, v12, rfl, hp⟩
  clear q11
  have HO12 : Hid (OwnRing w w12 g v12 4 [101, 100, 101, 100] 8) := (HO11.out.put hp.put : OwnRing _ _ _ _ _ _ _)
  have HD12 : Hid (Row w12 ov [100, 101, 100, 101, 100]) := (hp.row : Row _ _ _)
  clear hp HO11
  go_wp2_with fail
  refine (copy_seq _ HO12.out.ring 5 1 (by decide) (by decide) (by decide)).mono ?_
  rintro e w13 ⟨rfl, hb⟩
  have HO13 : Hid (OwnRing w w13 g v12 4 [101, 100, 101, 100] 8) := (HO12.out.next hb : OwnRing _ _ _ _ _ _ _)
  have HD13 := Lib.hid (HD12.out.below hb (Nat.le_refl _))
  clear hb HO12 HD12
  go_wp2_with fail
  refine (copy_seq _ HO13.out.ring 0 0 (by decide) (by decide) (by decide)).mono ?_
  rintro e w14 ⟨rfl, hb⟩
  have HO14 : Hid (OwnRing w w14 g v12 4 [101, 100, 101, 100] 8) := (HO13.out.next hb : OwnRing _ _ _ _ _ _ _)
  have HD14 := Lib.hid (HD13.out.below hb (Nat.le_refl _))
  clear hb HO13 HD13
  go_wp2_with fail
  refine (copy_arg _ HO14.out.ring 1 (-1) (by decide)).mono ?_
  rintro e w15 ⟨rfl, hb⟩
  have HO15 : Hid (OwnRing w w15 g v12 4 [101, 100, 101, 100] 8) := (HO14.out.next hb : OwnRing _ _ _ _ _ _ _)
  have HD15 := Lib.hid (HD14.out.below hb (Nat.le_refl _))
  clear hb HO14 HD14
  go_wp2_with fail
  refine (new_bad _ 0 _ (by decide)).mono ?_
  rintro e w16 ⟨rfl, hb⟩
  have HO16 : Hid (OwnRing w w16 g v12 4 [101, 100, 101, 100] 8) := (HO15.out.next hb : OwnRing _ _ _ _ _ _ _)
  have HD16 := Lib.hid (HD15.out.below hb (Nat.le_refl _))
  clear hb HO15 HD15
  go_wp2_with fail
  refine (new_ok _ (S := 2) (bs := [97, 98, 99]) (by decide) (by decide) (lit_ints [97, 98, 99] (3, 4) 3 rfl (by decide)) (by decide) (by decide)).mono ?_
  rintro e w17 ⟨g2, v17, rfl, hm⟩
  have hb17 := (Below.refl w16.heap.size w16).alloc (Nat.le_refl _) (.cells #[.int .u8 97, .int .u8 98, .int .u8 99] 5 (3, 4))
  have HO17 : Hid (OwnRing w w17 g v12 4 [101, 100, 101, 100] 8) := ((HO16.out.next hb17).next hm.below : OwnRing _ _ _ _ _ _ _)
  have HS17 : Hid (OwnRing w w17 g2 v17 2 [97, 98, 99] 0) := (OwnRing.made hm (HO16.out.next hb17).below : OwnRing _ _ _ _ _ _ _)
  have hd17 : Row w17 ov [100, 101, 100, 101, 100] := (HD16.out.below hb17 (Nat.le_refl _)).below hm.below (Nat.le_refl _)
  obtain ⟨A17, n17, c17, rfl, -, -, -⟩ := hd17.ints.get
  have q17 : (convert 27 9 (.slice A17 n17 c17)).run Try.prog w17 = .ok (.string ⟨#[100, 101, 100, 101, 100]⟩) w17 := conv_str hd17.ints
  clear hd17 hm HO16 HD16 hb17
  go_wp2_with fail
  refine (num_any _ _).mono ?_
  rintro e w18 ⟨rfl, rfl⟩
  go_wp2_with fail
  refine (num_any _ _).mono ?_
  rintro e w19 ⟨rfl, rfl⟩
  go_wp2_with fail
  refine (last_some _ HO17.out.ring 4 (by decide)).mono ?_
  rintro e w20 ⟨ov, rfl, hc⟩
  have HO20 : Hid (OwnRing w w20 g v12 4 [101, 100, 101, 100] 8) := (HO17.out.next hc.below : OwnRing _ _ _ _ _ _ _)
  have HS20 : Hid (OwnRing w w20 g2 v17 2 [97, 98, 99] 0) := (HS17.out.next hc.below : OwnRing _ _ _ _ _ _ _)
  obtain ⟨A20, n20, c20, rfl, -, -, -⟩ := hc.row.ints.get
  have q20 : (convert 27 9 (.slice A20 n20 c20)).run Try.prog w20 = .ok (.string ⟨#[101, 100, 101, 100]⟩) w20 := conv_str hc.row.ints
  clear hc HO17 HS17 q17
  go_wp2_with fail
  refine (total_ring _ HO20.out.ring).mono ?_
  rintro e w21 ⟨rfl, rfl⟩
  clear q20
  go_wp2_with fail
  refine (last_some _ HS20.out.ring 2 (by decide)).mono ?_
  rintro e w22 ⟨ov, rfl, hc⟩
  have HO22 : Hid (OwnRing w w22 g v12 4 [101, 100, 101, 100] 8) := (HO20.out.next hc.below : OwnRing _ _ _ _ _ _ _)
  obtain ⟨A22, n22, c22, rfl, -, -, -⟩ := hc.row.ints.get
  have q22 : (convert 27 9 (.slice A22 n22 c22)).run Try.prog w22 = .ok (.string ⟨#[98, 99]⟩) w22 := conv_str hc.row.ints
  clear hc HO20 HS20
  go_wp2
  go_ret
  exact ⟨rfl, HO22.out.below⟩
end Go.Proofs.Ytohmkcoodaidcaa
