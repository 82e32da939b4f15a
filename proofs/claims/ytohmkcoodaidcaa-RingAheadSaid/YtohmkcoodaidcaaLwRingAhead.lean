/-
  RingAhead: the law's walk.
-/
import Derived.Test.YtohmkcoodaidcaaRgTwo
import Derived.Test.YtohmkcoodaidcaaArgActs
namespace Go.Proofs.Ytohmkcoodaidcaa
open Go.RowKit

set_option maxRecDepth 100000 in
theorem ra_else (size : Int) (v1 v2 : Value) (xs bs : List Int) (off n : Int) {w : World} (ha : Ints w .u8 v1 xs) (hb : Ints w .u8 v2 bs)
    (h : size < 1 ∨ (1 ≤ size ∧ (300 < size ∨ (size ≤ 300 ∧ (200 < xs.length ∨ (xs.length ≤ 200 ∧ (200 < bs.length ∨ (bs.length ≤ 200 ∧ 200 < n)))))))) :
    Calls Try.prog 6 #[.int .i64 size, v1, v2, .int .i64 off, .int .i64 n] w fun e w' => e = .returned (.bool true) ∧ Below w.heap.size w w' := by
  obtain ⟨A, N, c, rfl, -, -, hat⟩ := ha.get
  obtain ⟨A2, N2, c2, rfl, -, -, hat2⟩ := hb.get
  rw [hat.1, hat2.1] at h
  clear hat hat2 ha hb
  rcases h with h | ⟨h0, h | ⟨h1, h | ⟨h2, h | ⟨h3, h⟩⟩⟩⟩
  all_goals
    go_enter Try.func6, Try.ntmps6
    go_wp2_with (go_at_call 12; refine (works_at (Below.refl _ w)).mono ?_; rintro e w1 ⟨rfl, hb⟩; have HB := Lib.hid hb; clear hb)
    go_ret
    exact ⟨rfl, HB.out⟩

set_option maxRecDepth 100000 in
set_option maxHeartbeats 1600000 in
theorem ra_main (S : Nat) (v1 v2 : Value) (xs bs : List Int) (off n : Int) {w : World} (ha : Ints w .u8 v1 xs) (hb : Ints w .u8 v2 bs) (hu : U8s xs) (hu2 : U8s bs) (h1 : 1 ≤ S) (h2 : S ≤ 300) (h3 : xs.length ≤ 200) (h4 : bs.length ≤ 200) (h5 : n ≤ 200) :
    Calls Try.prog 6 #[.int .i64 S, v1, v2, .int .i64 off, .int .i64 n] w fun e w' => e = .returned (.bool true) ∧ Below w.heap.size w w' := by
  obtain ⟨out, no, hcop⟩ := ring_copies S (lastN S (xs ++ bs)) off n (by omega)
  have HCOP := Lib.hid hcop
  have HX1 := Lib.hid ha
  have HX2 := Lib.hid hb
  have HU := Lib.hid hu
  have HU2 := Lib.hid hu2
  have HU12 := Lib.hid (hu.append hu2)
  have HS1 : Hid (1 ≤ S) := (h1 : _ ≤ _)
  have HS2 : Hid (S ≤ 134217728) := (by omega : S ≤ _)
  have HL1 : Hid (xs.length ≤ 100000000000000) := (by omega : _ ≤ _)
  have HL2 : Hid (bs.length ≤ 100000000000000) := (by omega : _ ≤ _)
  have HL12 : Hid ((xs ++ bs).length ≤ 100000000000000) := (by rw [List.length_append]; omega : _ ≤ _)
  obtain ⟨A, N, c, rfl, -, -, hat⟩ := ha.get
  obtain ⟨A2, N2, c2, rfl, -, -, hat2⟩ := hb.get
  have HN := Lib.hid hat.1
  have HN2 := Lib.hid hat2.1
  have HA := Lib.hid hat
  have HA2 := Lib.hid hat2
  rw [hat.1] at h3
  rw [hat2.1] at h4
  clear hcop hat hat2 ha hb hu hu2
  go_enter Try.func6, Try.ntmps6
  go_wp2_with fail
  refine (new_ok w HS1.out HS2.out HX1.out HU.out HL1.out).mono ?_
  rintro e w1 ⟨g, v, rfl, hm⟩
  have HO := Lib.hid (OwnRing.made hm (Below.refl _ w))
  clear hm
  have HB1 := Lib.hid ((Below.refl w1.heap.size w1).alloc (Nat.le_refl _) (.cells #[] 5))
  go_wp2_with (first
    | (at_builtin; refine wpList_append_row rfl _ _ rfl (.slice (some ⟨w1.heap.size, 0, none⟩) 0 0) [] xs rfl (row_empty w1) A N c rfl ((HA.out.below HO.out.below (Nat.le_refl _)).below HB1.out (Nat.le_refl _)) (by simp; omega) N (by simp) ?_; intro A3 c3 w2 hrow hgrow hown; have HG2 := Lib.hid (GivenSt.start HN.out hrow hgrow hown); clear hrow hgrow hown)
    | (at_builtin; refine wpList_append_row rfl _ _ rfl (.slice A3 N c3) xs bs rfl HG2.out.row A2 N2 c2 rfl ((HA2.out.below HO.out.below (Nat.le_refl _)).below HG2.out.bel (Nat.le_refl _)) (by rw [HN.out]; omega) (N + N2) (by rw [HN.out]) ?_; intro A4 c4 w3 hrow hgrow hown; have HG3 := Lib.hid (HG2.out.app (by rw [List.length_append, HN.out, HN2.out]) hrow hgrow hown); clear hrow hgrow hown))
  refine (new_ok w3 HS1.out HS2.out HG3.out.row.ints HU12.out HL12.out).mono ?_
  rintro e w4 ⟨g2, v2, rfl, hm⟩
  have HT4 := Lib.hid (Two.made (HO.out.next HG3.out.bel) hm)
  clear hm HG2 HG3 HO HB1
  go_wp2_with fail
  refine (add_any w4 HT4.out.r1 (HX2.out.below HT4.out.bel (Nat.le_refl _)) HU2.out HL2.out (by have := HL2.out; omega)).mono ?_
  rintro e w5 ⟨rfl, v', hp⟩
  rw [HN2.out, Nat.zero_add] at hp
  have HT5 := Lib.hid (HT4.out.put hp)
  clear hp HT4
  have HEQ : Hid (lastN S (keepL S (keepL S xs ++ bs)) = lastN S (keepL S (xs ++ bs))) := (by rw [keepL_last, keepL_last, last_keep_app] : _ = _)
  go_wp2_with fail
  refine (num_any w5 _).mono ?_
  rintro e w6 ⟨rfl, rfl⟩
  go_wp2_with fail
  refine (num_any w6 _).mono ?_
  rintro e w7 ⟨rfl, rfl⟩
  go_wp2_with fail
  refine (num_any w7 _).mono ?_
  rintro e w8 ⟨rfl, rfl⟩
  go_wp2_with fail
  refine (eq_ring w8 HT5.out.r1 HT5.out.r2).mono ?_
  rw [eq_true_of HEQ.out]
  rintro e w9 ⟨rfl, hm⟩
  have HT9 := Lib.hid (HT5.out.draws hm)
  clear hm HT5
  go_wp2_with fail
  refine (total_ring w9 HT9.out.r1).mono ?_
  rintro e w10 ⟨rfl, rfl⟩
  go_wp2_with fail
  refine (total_ring w10 HT9.out.r2).mono ?_
  rintro e w11 ⟨rfl, rfl⟩
  go_wp2_with fail
  refine (HCOP.out g v' _ N2 (by rw [keepL_last, last_keep_app]) (by omega) w11 HT9.out.r1).mono ?_
  rintro e w12 ⟨ov, v3, rfl, hp, hi, ho⟩
  have HT12 := Lib.hid (HT9.out.put hp)
  obtain ⟨A5, n5, c5, rfl, -, -, -⟩ := hi.get
  have HI12 := Lib.hid hi
  have HO12 := Lib.hid ho
  have HR2 := Lib.hid HT9.out.r2
  clear hp hi ho HT9
  go_wp2_with fail
  refine (HCOP.out g2 v2 _ 0 (by rw [keepL_last]) (by omega) w12 HT12.out.r2).mono ?_
  rintro e w13 ⟨ov, v4, rfl, hp, hi, ho⟩
  have HT13 := Lib.hid (HT12.out.symm.put hp).symm
  obtain ⟨A6, n6, c6, rfl, -, -, -⟩ := hi.get
  have q5 : (convert 27 9 (.slice A5 n5 c5)).run Try.prog w13 = .ok (.string (strOfNums out)) w13 := conv_str (HI12.out.but hp.but (fun _ k hk => ⟨by have := HO12.out k hk; have := HR2.out.lt; omega, fun e => by have := HO12.out k hk; have := HR2.out.row.lt k e; omega⟩))
  have q6 : (convert 27 9 (.slice A6 n6 c6)).run Try.prog w13 = .ok (.string (strOfNums out)) w13 := conv_str hi
  clear hp hi ho HT12 HI12 HO12
  have HEQ2 : Hid (lastN S (keepL S (keepL S (keepL S xs ++ bs) ++ out)) = lastN S (keepL S (keepL S (xs ++ bs) ++ out))) := (by rw [keepL_last, keepL_last, last_keep_app, last_keep_app, ← lastN_append, last_keep_app, lastN_append] : _ = _)
  go_wp2_with fail
  refine (eq_ring w13 HT13.out.r1 HT13.out.r2).mono ?_
  rw [eq_true_of HEQ2.out]
  rintro e w14 ⟨rfl, hm⟩
  have HT14 := Lib.hid (HT13.out.draws hm)
  clear hm HT13 q5 q6
  go_wp2_with (go_at_call 12; refine (works_at HT14.out.bel).mono ?_; rintro e w1 ⟨rfl, hb⟩; have HB := Lib.hid hb; clear hb)
  go_ret
  exact ⟨rfl, HB.out⟩

theorem ringAhead_walk (size : Int) (_ : (Lit.int .i64 size).wf = true) (v1 : Value) (xs : List Int) {w : World} (w1 : Ints w .u8 v1 xs ∧ ∀ z ∈ xs, (Lit.int .u8 z).wf = true) (v2 : Value) (bs : List Int) (w2 : Ints w .u8 v2 bs ∧ ∀ z ∈ bs, (Lit.int .u8 z).wf = true)
    (off : Int) (_ : (Lit.int .i64 off).wf = true) (n : Int) (_ : (Lit.int .i64 n).wf = true) :
    Calls Try.prog 6 #[.int .i64 size, v1, v2, .int .i64 off, .int .i64 n] w fun e w' => e = .returned (.bool true) ∧ Below w.heap.size w w' := by
  by_cases h : size < 1 ∨ (1 ≤ size ∧ (300 < size ∨ (size ≤ 300 ∧ (200 < xs.length ∨ (xs.length ≤ 200 ∧ (200 < bs.length ∨ (bs.length ≤ 200 ∧ 200 < n)))))))
  · exact ra_else size v1 v2 xs bs off n w1.1 w2.1 h
  · obtain ⟨S, rfl⟩ : ∃ S : Nat, size = (S : Int) := ⟨size.toNat, by omega⟩
    exact ra_main S v1 v2 xs bs off n w1.1 w2.1 (u8s_wf w1.2) (u8s_wf w2.2) (by omega) (by omega) (by omega) (by omega) (by omega)
end Go.Proofs.Ytohmkcoodaidcaa
