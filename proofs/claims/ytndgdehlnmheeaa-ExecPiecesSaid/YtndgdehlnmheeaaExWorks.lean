/-
  exec: the examples of the chapter.
-/
import Derived.Test.YtndgdehlnmheeaaExRun
import Derived.Test.YtndgdehlnmheeaaRgOwn
import Derived.Lib.SlBytesConst
namespace Go.Proofs.Ytndgdehlnmheeaa
set_option linter.all false
set_option maxRecDepth 100000
open Go.RowKit

theorem num_any (w : World) (n : Int) : Calls Try.prog 14 #[.int .i64 n] w fun e w' => e = .returned (.int .i64 n) ∧ w' = w := by
  go_enter Try.func14, Try.ntmps14
  go_wp2
  go_ret
  exact ⟨rfl, rfl⟩

theorem OwnRing.ran {w W W2 : World} {g : Nat} {v v' : Value} {S : Nat} {C st st' : List Int} {T : Nat} {out : List Int} (h : OwnRing w W g v S st T) (hp : RunOk W W2 g v v' S C st' T out) : OwnRing w W2 g v' S st' (T + out.length) :=
  ⟨hp.ring, h.at_, fun k hk => by
    rcases hp.own with e | e
    · exact h.own k (e ▸ hk)
    · exact Nat.le_trans h.below.size (e k hk), h.below.trans (hp.but.below h.below.size h.at_ h.own)⟩

/-- The plan of the chapter's examples. -/
abbrev gvn : List SeqD := [⟨2, 3, 2⟩, ⟨0, 4, 5⟩]
theorem given_any (w : World) : Calls Try.prog 30 #[] w fun e w' => e = .returned (.slice (some ⟨w.heap.size, 0, none⟩) 2 2) ∧ Seqs w' (.slice (some ⟨w.heap.size, 0, none⟩) 2 2) gvn ∧ Below w.heap.size w w' := by
  have HS : Hid (Seqs (w.alloc (.cells #[.int .i64 2, .int .i64 3, .int .i64 2, .int .i64 0, .int .i64 4, .int .i64 5] 54)) (.slice (some ⟨w.heap.size, 0, none⟩) 2 2) gvn) := (Seqs.lit2 w ⟨2, 3, 2⟩ ⟨0, 4, 5⟩ (by decide) (by decide) : Seqs _ _ _)
  have HB := Lib.hid ((Below.refl w.heap.size w).alloc (Nat.le_refl _) (.cells #[.int .i64 2, .int .i64 3, .int .i64 2, .int .i64 0, .int .i64 4, .int .i64 5] 54))
  go_enter Try.func30, Try.ntmps30
  go_wp2
  go_ret
  exact ⟨rfl, HS.out, HB.out⟩

theorem gvn_cont : contentL [120, 121] [97, 98, 99] gvn = [97, 98, 97, 98, 97, 97, 98, 97, 98, 99] := by decide
theorem gvn_chk1 : chkOf 100 [120, 121] [97, 98, 99] 99 gvn = (0, 10, 0) := by decide
theorem gvn_chk2 : chkR 100 2 3 99 gvn = (0, 10, 0) := by decide
theorem gvn_chk3 : chkR 100 2 1 99 gvn = (0, 0, 15) := by decide
theorem gvn_chk4 : chkR 100 2 3 9 gvn = (2, 0, 10) := by decide
theorem gvn_chk5 : (chkR 4 2 3 99 gvn).2.2 = 15 := by decide
theorem gvn_chk6 : chkR 0 0 0 0 [] = (0, 0, 2) := by decide

set_option maxHeartbeats 6400000 in
theorem works_any (w : World) : Calls Try.prog 12 #[] w fun e w' => e = .returned (.bool true) ∧ Below w.heap.size w w' := by
  have hcv : ∀ (W : World) (C : Array Value) (n c : Nat), (convert 22 22 (.slice (some ⟨W.heap.size, 0, none⟩) n c)).run Try.prog (W.alloc (.cells C 5)) = .ok (.slice (some ⟨W.heap.size, 0, none⟩) n c) (W.alloc (.cells C 5 (C.size, C.size + 1))) :=
    fun W C n c => Lib.run_convert_bytes_const W _ _ C n c Try.underlying22 Try.underlying5
  go_enter Try.func12, Try.ntmps12
  go_wp2_with fail
  refine (new_ok _ (S := 100) (bs := [120, 121]) (by decide) (by decide) (lit_ints [120, 121] (2, 3) 2 rfl (by decide)) (by decide) (by decide)).mono ?_
  rintro e w1 ⟨g, v, rfl, hm⟩
  have HO1 : Hid (OwnRing w w1 g v 100 [120, 121] 0) := (OwnRing.made hm ((Below.refl _ w).alloc (Nat.le_refl _) _) : OwnRing _ _ _ _ _ _ _)
  clear hm
  go_wp2_with fail
  have hba := (Below.refl w1.heap.size w1).alloc (Nat.le_refl _) (.cells #[.int .u8 97, .int .u8 98, .int .u8 99] 5 (3, 4))
  have HO2 := Lib.hid (HO1.out.next hba)
  have HI2 : Hid (Ints (w1.alloc (.cells #[.int .u8 97, .int .u8 98, .int .u8 99] 5 (3, 4))) .u8 (.slice (some ⟨w1.heap.size, 0, none⟩) 3 3) [97, 98, 99]) := (lit_ints [97, 98, 99] (3, 4) 3 rfl (by decide) : Ints _ _ _ _)
  have hgl := HO1.out.ring.lt
  have hvl := fun k => HO1.out.ring.row.lt k
  clear hba
  refine (given_any _).mono ?_
  rintro e w2 ⟨rfl, hs, hb⟩
  have HO3 := Lib.hid (HO2.out.next hb)
  have HI3 := Lib.hid (HI2.out.below hb (Nat.le_refl _))
  rw [World.size_alloc] at hs
  have HS3 := Lib.hid hs
  have HSF : Hid (SeqFar (.slice (some ⟨w1.heap.size + 1, 0, none⟩) 2 2) gvn g v.ownBlock) := (fun k _ hk => by
    obtain rfl : w1.heap.size + 1 = k := by simpa [Value.ownBlock] using hk
    exact ⟨by omega, fun e => by have := hvl _ e; omega⟩ : SeqFar _ _ _ _)
  clear hb hs hgl hvl HO2 HI2 HO1
  go_wp2_with fail
  refine (run_ok _ HO3.out.ring (C := [120, 121]) rfl _ [97, 98, 99] HI3.out (by decide) (by decide) _ gvn HS3.out (by decide) HSF.out 99 10 gvn_chk1 (by decide)).mono ?_
  rw [gvn_cont]
  rintro e w3 ⟨v3, st3, A3, c3, rfl, hok, hg⟩
  have hlast := hok.last
  have HLA : Hid (lastN 20 (lastN 100 st3) = [120, 121, 97, 98, 97, 98, 97, 97, 98, 97, 98, 99]) := (by rw [hlast]; decide : _ = _)
  have HO4 := Lib.hid (HO3.out.ran hok)
  have HG4 := Lib.hid hg.ints
  clear hok hg hlast HO3 HI3 HS3 HSF
  go_wp2_with fail
  refine (given_any _).mono ?_
  rintro e w4 ⟨rfl, hs, hb⟩
  have HO5 := Lib.hid (HO4.out.next hb)
  have HG5 := Lib.hid (HG4.out.below hb (Nat.le_refl _))
  have HS5 := Lib.hid hs
  clear hb hs HO4 HG4
  go_wp2_with fail
  refine (excheck_any _ 100 2 3 99 _ gvn HS5.out (by decide)).mono ?_
  rw [gvn_chk2]
  rintro e w5 ⟨rfl, hb⟩
  have HO6 := Lib.hid (HO5.out.next hb)
  have HG6 := Lib.hid (HG5.out.below hb (Nat.le_refl _))
  clear hb HO5 HG5 HS5
  go_wp2_with fail
  refine (given_any _).mono ?_
  rintro e w6 ⟨rfl, hs, hb⟩
  have HO7 := Lib.hid (HO6.out.next hb)
  have HG7 := Lib.hid (HG6.out.below hb (Nat.le_refl _))
  have HS7 := Lib.hid hs
  clear hb hs HO6 HG6
  go_wp2_with fail
  refine (excheck_any _ 100 2 1 99 _ gvn HS7.out (by decide)).mono ?_
  rw [gvn_chk3]
  rintro e w7 ⟨rfl, hb⟩
  have HO8 := Lib.hid (HO7.out.next hb)
  have HG8 := Lib.hid (HG7.out.below hb (Nat.le_refl _))
  clear hb HO7 HG7 HS7
  go_wp2_with fail
  refine (given_any _).mono ?_
  rintro e w8 ⟨rfl, hs, hb⟩
  have HO9 := Lib.hid (HO8.out.next hb)
  have HG9 := Lib.hid (HG8.out.below hb (Nat.le_refl _))
  have HS9 := Lib.hid hs
  clear hb hs HO8 HG8
  go_wp2_with fail
  refine (excheck_any _ 100 2 3 9 _ gvn HS9.out (by decide)).mono ?_
  rw [gvn_chk4]
  rintro e w9 ⟨rfl, hb⟩
  have HO10 := Lib.hid (HO9.out.next hb)
  have HG10 := Lib.hid (HG9.out.below hb (Nat.le_refl _))
  clear hb HO9 HG9 HS9
  go_wp2_with fail
  refine (given_any _).mono ?_
  rintro e w10 ⟨rfl, hs, hb⟩
  have HO11 := Lib.hid (HO10.out.next hb)
  have HG11 := Lib.hid (HG10.out.below hb (Nat.le_refl _))
  have HS11 := Lib.hid hs
  clear hb hs HO10 HG10
  go_wp2_with fail
  refine (excheck_any _ 4 2 3 99 _ gvn HS11.out (by decide)).mono ?_
  rw [gvn_chk5]
  rintro e w11 ⟨rfl, hb⟩
  have HO12 := Lib.hid (HO11.out.next hb)
  have HG12 := Lib.hid (HG11.out.below hb (Nat.le_refl _))
  clear hb HO11 HG11 HS11
  go_wp2_with fail
  refine (given_any _).mono ?_
  rintro e w12 ⟨rfl, hs, hb⟩
  have HO13 := Lib.hid (HO12.out.next hb)
  have HG13 := Lib.hid (HG12.out.below hb (Nat.le_refl _))
  have HS13 := Lib.hid hs
  clear hb hs HO12 HG12
  go_wp2_with fail
  refine (exfirst_any _ 100 2 3 9 _ gvn HS13.out (by decide)).mono ?_
  rw [gvn_chk4]
  rintro e w13 ⟨rfl, hb⟩
  have HO14 := Lib.hid (HO13.out.next hb)
  have HG14 := Lib.hid (HG13.out.below hb (Nat.le_refl _))
  clear hb HO13 HG13 HS13
  go_wp2_with fail
  refine (given_any _).mono ?_
  rintro e w14 ⟨rfl, hs, hb⟩
  have HO15 := Lib.hid (HO14.out.next hb)
  have HG15 := Lib.hid (HG14.out.below hb (Nat.le_refl _))
  have HS15 := Lib.hid hs
  clear hb hs HO14 HG14
  go_wp2_with fail
  refine (exfirst_any _ 100 2 1 99 _ gvn HS15.out (by decide)).mono ?_
  rw [gvn_chk3]
  rintro e w15 ⟨rfl, hb⟩
  have HO16 := Lib.hid (HO15.out.next hb)
  have HG16 := Lib.hid (HG15.out.below hb (Nat.le_refl _))
  clear hb HO15 HG15 HS15
  go_wp2_with fail
  refine (exfirst_any _ 0 0 0 0 _ [] (Seqs.nil _) (by decide)).mono ?_
  rw [gvn_chk6]
  rintro e w16 ⟨rfl, hb⟩
  have HO17 := Lib.hid (HO16.out.next hb)
  have hg17 := HG16.out.below hb (Nat.le_refl _)
  have q17 : (convert 22 9 (.slice A3 10 c3)).run Try.prog w16 = .ok (.string ⟨#[97, 98, 97, 98, 97, 97, 98, 97, 98, 99]⟩) w16 := conv_str hg17
  clear hb HO16 HG16 hg17
  go_wp2_with fail
  refine (num_any _ _).mono ?_
  rintro e w18 ⟨rfl, rfl⟩
  go_wp2_with fail
  refine (num_any _ _).mono ?_
  rintro e w19 ⟨rfl, rfl⟩
  go_wp2_with fail
  refine (num_any _ _).mono ?_
  rintro e w20 ⟨rfl, rfl⟩
  go_wp2_with fail
  refine (last_some _ HO17.out.ring 20 (by decide)).mono ?_
  rw [HLA.out]
  rintro e w21 ⟨ov, rfl, hc⟩
  have HO18 := Lib.hid (HO17.out.next hc.below)
  obtain ⟨A11, n11, c11, rfl, -, -, -⟩ := hc.row.ints.get
  have q11 : (convert 22 9 (.slice A11 n11 c11)).run Try.prog w21 = .ok (.string ⟨#[120, 121, 97, 98, 97, 98, 97, 97, 98, 97, 98, 99]⟩) w21 := conv_str hc.row.ints
  clear hc HO17 q17
  go_wp2
  go_ret
  exact ⟨rfl, HO18.out.below⟩
theorem works_at {w W : World} (hb : Below w.heap.size w W) : Calls Try.prog 12 #[] W fun e w' => e = .returned (.bool true) ∧ Below w.heap.size w w' :=
  (works_any W).mono fun e w' ⟨h1, h2⟩ => ⟨h1, hb.trans (h2.mono hb.size)⟩
end Go.Proofs.Ytndgdehlnmheeaa
