/-
  The reference of spread: Same; the law package's has and known.
-/
import Derived.Test.YtmoolloeldogcaaSpread
import Derived.Test.YtmoolloeldogcaaNormRef
namespace Go.Proofs.Ytmoolloeldogcaa
open Go.RowKit

/-- The lists are equal. -/
def lEq (xs ys : List Int) : Bool := decide (xs = ys)

set_option maxHeartbeats 400000 in
theorem same08_any (va vb : Value) (xs ys : List Int) (w : World) (hx : Ints w .i64 va xs) (hy : Ints w .i64 vb ys) :
    Calls Try.prog 14 #[va, vb] w fun e w' => e = .returned (.bool (lEq xs ys)) ∧ Below w.heap.size w w' := by
  obtain ⟨A, n, c, rfl, hc, hm, hx⟩ := hx.get
  obtain ⟨A', n', c', rfl, hc', hm', hy⟩ := hy.get
  have HX := Lib.hid hx
  have HY := Lib.hid hy
  clear hx hy
  by_cases h2 : n = n'
  · subst h2
    go_enter Try.func14, Try.ntmps14
    go_wp2
    go_loopw [5] (fun i wr => ∃ k : Nat, k ≤ n ∧ i = .int .i64 k ∧ Hid (xs.take k = ys.take k) ∧ Below w.heap.size w wr) (fun i _ => n - (intOf i).toNat)
    case atStart => exact ⟨0, Nat.zero_le _, rfl, rfl, Below.refl _ _⟩
    case round =>
      obtain ⟨k, hk, rfl, HT, hB⟩ := hrel
      by_cases hlt : k < n
      · obtain ⟨b, off, x, rfl, hb, cx, EX⟩ := HX.out.at_ hlt
        obtain ⟨b', off', y, rfl, hb', cy, EY⟩ := HY.out.at_ hlt
        replace cx := (hB.cell hb).trans cx
        replace cy := (hB.cell hb').trans cy
        have h0 : (0 : Int) ≤ (k : Int) := by omega
        have h0' : (k : Int) < (n : Int) := by omega
        by_cases hxy : x = y
        · subst hxy
          go_wp2
          go_quiet (fail)
          go_wp2
          go_roundw
          case rel => exact ⟨k + 1, by omega, by go_num, take_succ_eq HT.out EX.out EY.out, below_drewN hB _⟩
          case measure => simp [intOf]; omega
        · have hne : (x != y) = true := by simpa using hxy
          go_wp2
          go_quiet (fail)
          go_wp2
          go_ret
          refine ⟨ret_bool (decide_eq_false ?_).symm, below_drewN hB _⟩
          rintro rfl
          exact hxy (by have := EX.out.symm.trans EY.out; simpa using this)
      · go_wp2
        go_ret
        refine ⟨ret_bool (decide_eq_true ?_).symm, hB⟩
        have h1 := HT.out
        rwa [List.take_of_length_le (by rw [HX.out.1]; omega), List.take_of_length_le (by rw [HY.out.1]; omega)] at h1
  · have hne : ((n : Int) != (n' : Int)) = true := by simp; omega
    go_enter Try.func14, Try.ntmps14
    go_wp2
    go_ret
    refine ⟨ret_bool (decide_eq_false ?_).symm, Below.refl _ _⟩
    rintro rfl
    exact h2 (HX.out.1.symm.trans HY.out.1)

/-- 'has' at a table that is valid and whose spread is known. -/
theorem has_true (m : Nat) (v u : Value) (xs l : List Int) (w : World) (hx : Ints w .i64 v xs) (hu : Ints w .i64 u l) (hm : m < 10) (hv : Valid m xs 256 9) (hw : ∀ x ∈ xs, x ≤ 9223372036854775807)
    (hall : (rares xs).length + (others xs).length = 2 ^ m) (hl : IsSpread m xs l) :
    Calls Try.prog 23 #[.int .i64 m, v, u] w fun e w' => e = .returned (.bool true) ∧ Below w.heap.size w w' := by
  have HX := Lib.hid hx
  have HU := Lib.hid hu
  have HV := Lib.hid hv
  have HW := Lib.hid hw
  have HALL := Lib.hid hall
  have HL := Lib.hid hl
  obtain ⟨A, n, c, rfl, -, -, -⟩ := hx.get
  clear hx hu hv hw hall hl
  go_enter Try.func23, Try.ntmps23
  go_wp2_with fail
  refine (spread_ok m _ xs _ HX.out HW.out hm HV.out HALL.out).mono ?_
  rintro e w1 ⟨sv, l', rfl, hf, hsp, hb⟩
  have hll := hsp.unique hm HL.out (by have := HALL.out; omega)
  subst hll
  have HF : Hid (Ints w1 .i64 sv l') := hf.ints (by rw [hsp.len]; have := (step_le ⟨m, hm⟩).2.2; simp only at this; unfold maxLen; omega)
  have HB := Lib.hid hb
  have HU1 := Lib.hid (HU.out.below hb (Nat.le_refl _))
  clear hf hsp hb
  go_wp2_with (go_at_call 14; refine (same08_any _ _ l' l' _ HF.out HU1.out).mono ?_; rw [show lEq l' l' = true from decide_eq_true rfl]; rintro e w2 ⟨rfl, hb2⟩; have HB2 := Lib.hid (HB.out.trans (hb2.mono HB.out.size)); clear hb2)
  go_ret
  exact ⟨rfl, HB2.out⟩

theorem known_s1 : IsSpread 2 [3, 1] [0, 0, 0, 1] := ⟨by decide, by decide, by decide⟩
theorem known_s2 : IsSpread 2 [2, -1, 1] [0, 0, 2, 1] := ⟨by decide, by decide, by decide⟩
theorem known_s3 : IsSpread 0 [0, 1] [1] := ⟨by decide, by decide, by decide⟩
theorem known_s4 : IsSpread 4 [8, 8] [0, 0, 1, 1, 0, 1, 1, 0, 1, 1, 0, 0, 1, 0, 0, 1] := ⟨by decide, by decide, by decide +kernel⟩

theorem has_new (m : Nat) (xs l : List Int) (cs ds : Array Value) (n k : Nat) (w : World) (hc : cs = (xs.map (Value.int .i64)).toArray) (hd : ds = (l.map (Value.int .i64)).toArray) (hn : n = xs.length) (hk : k = l.length) (hxm : n ≤ 600) (hkm : k ≤ 600)
    (hm : m < 10) (hv : Valid m xs 256 9) (hw : ∀ x ∈ xs, x ≤ 9223372036854775807) (hall : (rares xs).length + (others xs).length = 2 ^ m) (hl : IsSpread m xs l) :
    Calls Try.prog 23 #[.int .i64 m, .slice (some ⟨w.heap.size, 0, none⟩) n n, .slice (some ⟨w.heap.size + 1, 0, none⟩) k k] ((w.alloc (.cells cs 3)).alloc (.cells ds 3)) fun e w' => e = .returned (.bool true) ∧ Below w.heap.size w w' := by
  subst hc hd
  refine (has_true m _ _ xs l _ (Ints.of_blk ((Blk.new w 3 _).alloc _) hn (Nat.le_refl _) (by unfold maxLen; omega)) (Ints.of_blk (Blk.new1 w _ 3 _) hk (Nat.le_refl _) (by unfold maxLen; omega)) hm hv hw hall hl).mono ?_
  rintro e w' ⟨he, hb⟩
  exact ⟨he, (((Below.refl _ w).alloc (Nat.le_refl _) _).alloc (by simp) _).trans (hb.mono (by simp; omega))⟩

set_option maxHeartbeats 1600000 in
theorem known_any (w : World) : Calls Try.prog 11 #[] w fun e w' => e = .returned (.bool true) ∧ Below w.heap.size w w' := by
  go_enter Try.func11, Try.ntmps11
  go_wp2_with fail
  refine (has_new 2 [3, 1] [0, 0, 0, 1] _ _ _ _ _ rfl rfl rfl rfl (by decide) (by decide) (by decide) (by decide) (by decide) (by decide) known_s1).mono ?_
  rintro e w1 ⟨rfl, hb⟩
  have HB1 := Lib.hid hb
  clear hb
  go_wp2_with fail
  refine (has_new 2 [2, -1, 1] [0, 0, 2, 1] _ _ _ _ _ rfl rfl rfl rfl (by decide) (by decide) (by decide) (by decide) (by decide) (by decide) known_s2).mono ?_
  rintro e w2 ⟨rfl, hb⟩
  have HB2 := Lib.hid (HB1.out.trans (hb.mono HB1.out.size))
  clear hb HB1
  go_wp2_with fail
  refine (has_new 0 [0, 1] [1] _ _ _ _ _ rfl rfl rfl rfl (by decide) (by decide) (by decide) (by decide) (by decide) (by decide) known_s3).mono ?_
  rintro e w3 ⟨rfl, hb⟩
  have HB3 := Lib.hid (HB2.out.trans (hb.mono HB2.out.size))
  clear hb HB2
  go_wp2_with fail
  refine (step_any 16 _).mono ?_
  rw [show stepI 16 = 13 from by decide]
  rintro e w0 ⟨rfl, rfl⟩
  go_wp2_with fail
  refine (has_new 4 [8, 8] [0, 0, 1, 1, 0, 1, 1, 0, 1, 1, 0, 0, 1, 0, 0, 1] _ _ _ _ _ rfl rfl rfl rfl (by decide) (by decide) (by decide) (by decide) (by decide) (by decide) known_s4).mono ?_
  rintro e w4 ⟨rfl, hb⟩
  have HB4 := Lib.hid (HB3.out.trans (hb.mono HB3.out.size))
  clear hb HB3
  go_wp2
  go_ret
  exact ⟨rfl, HB4.out⟩
end Go.Proofs.Ytmoolloeldogcaa
