/-
  RingBounds: the law's walk.
-/
import Derived.Test.YtohmkcoodaidcaaRgWorks
namespace Go.Proofs.Ytohmkcoodaidcaa
open Go.RowKit

theorem works_at {w W : World} (hb : Below w.heap.size w W) : Calls Try.prog 12 #[] W fun e w' => e = .returned (.bool true) ∧ Below w.heap.size w w' :=
  (works_any W).mono fun _ _ ⟨he, h⟩ => ⟨he, hb.trans (h.mono hb.size)⟩

theorem u8_one {c : Int} (hc : 0 ≤ c ∧ c < 256) : U8s [c] := fun x hx => by simp at hx; subst hx; exact hc

theorem copied_at {F : List Int} {off n i : Nat} (h : i < n) : (copied F off n)[i]? = some (F.getD (i % off) 0) := by
  simp only [copied, List.getElem?_map]
  rw [List.getElem?_range h]
  rfl

set_option maxRecDepth 100000 in
/-- The law's other arm: works alone. -/
theorem rb_else (which : Int) (past : Bool) (c : Int) {w : World} (h0 : which ≠ 0) (h1 : which ≠ 1) (h2 : which ≠ 2) (h3 : which ≠ 3) :
    Calls Try.prog 3 #[.int .i64 which, .bool past, .int .u8 c] w fun e w' => e = .returned (.bool true) ∧ Below w.heap.size w w' := by
  have b0 : (which == 0) = false := by simpa using h0
  have b1 : (which == 1) = false := by simpa using h1
  have b2 : (which == 2) = false := by simpa using h2
  have b3 : (which == 3) = false := by simpa using h3
  cases past
  all_goals
    go_enter Try.func3, Try.ntmps3
    go_wp2_with (go_at_call 12; refine (works_at (Below.refl _ w)).mono ?_; rintro e w1 ⟨rfl, hb⟩; have HB := Lib.hid hb; clear hb)
    go_ret
    exact ⟨rfl, HB.out⟩

set_option maxRecDepth 100000 in
theorem rb_0 (past : Bool) (c : Int) {w : World} :
    Calls Try.prog 3 #[.int .i64 0, .bool past, .int .u8 c] w fun e w' => e = .returned (.bool true) ∧ Below w.heap.size w w' := by
  cases past
  · go_enter Try.func3, Try.ntmps3
    go_wp2_with fail
    refine (new_ok _ (S := 1) (bs := []) (by decide) (by decide) (Ints.nil _ _) (by decide) (by decide)).mono ?_
    rintro e w1 ⟨g, v, rfl, hm⟩
    have HB1 := Lib.hid hm.below
    clear hm
    go_wp2_with (go_at_call 12; refine (works_at HB1.out).mono ?_; rintro e w1 ⟨rfl, hb⟩; have HB := Lib.hid hb; clear hb)
    go_ret
    exact ⟨rfl, HB.out⟩
  · go_enter Try.func3, Try.ntmps3
    go_wp2_with fail
    refine (new_bad _ 0 _ (by decide)).mono ?_
    rintro e w1 ⟨rfl, hb⟩
    have HB1 := Lib.hid hb
    clear hb
    go_wp2_with (go_at_call 12; refine (works_at HB1.out).mono ?_; rintro e w1 ⟨rfl, hb⟩; have HB := Lib.hid hb; clear hb)
    go_ret
    exact ⟨rfl, HB.out⟩

set_option maxRecDepth 100000 in
theorem rb_1 (past : Bool) (c : Int) (hc : 0 ≤ c ∧ c < 256) {w : World} :
    Calls Try.prog 3 #[.int .i64 1, .bool past, .int .u8 c] w fun e w' => e = .returned (.bool true) ∧ Below w.heap.size w w' := by
  have HC := Lib.hid (u8_one hc)
  have HA := Lib.hid ((Below.refl w.heap.size w).alloc (Nat.le_refl _) (.cells #[.int .u8 c] 5))
  cases past
  · go_enter Try.func3, Try.ntmps3
    go_wp2_with fail
    refine (new_ok _ (S := 134217728) (bs := [c]) (by decide) (by decide) (lit_ints [c] (0, 0) 1 rfl (by decide)) HC.out (by simp)).mono ?_
    rintro e w1 ⟨g, v, rfl, hm⟩
    have HO : Hid (OwnRing w w1 g v 134217728 [c] 0) := (OwnRing.made hm HA.out : OwnRing _ _ _ _ _ _ _)
    clear hm
    go_wp2_with (first
      | (go_at_call 13; refine (len_q HO.out.ring (L := 1) rfl).mono ?_; rintro e w2 ⟨rfl, hm⟩; have HO2 := Lib.hid (HO.out.draws hm); clear hm)
      | (go_at_call 12; refine (works_at HO2.out.below).mono ?_; rintro e w1 ⟨rfl, hb⟩; have HB := Lib.hid hb; clear hb))
    go_ret
    exact ⟨rfl, HB.out⟩
  · go_enter Try.func3, Try.ntmps3
    go_wp2_with fail
    refine (new_bad _ 134217729 _ (by decide)).mono ?_
    rintro e w1 ⟨rfl, hb⟩
    have HB1 := Lib.hid (HA.out.trans (hb.mono (by simp)))
    clear hb
    go_wp2_with (go_at_call 12; refine (works_at HB1.out).mono ?_; rintro e w1 ⟨rfl, hb⟩; have HB := Lib.hid hb; clear hb)
    go_ret
    exact ⟨rfl, HB.out⟩

theorem one_copied (c : Int) (i : Nat) : (lastN 1 [c]).getD (i % 1) 0 = c := by rw [Nat.mod_one]; rfl

set_option maxRecDepth 100000 in
theorem rb_2 (past : Bool) (c : Int) (hc : 0 ≤ c ∧ c < 256) {w : World} :
    Calls Try.prog 3 #[.int .i64 2, .bool past, .int .u8 c] w fun e w' => e = .returned (.bool true) ∧ Below w.heap.size w w' := by
  have HC := Lib.hid (u8_one hc)
  have HA := Lib.hid ((Below.refl w.heap.size w).alloc (Nat.le_refl _) (.cells #[.int .u8 c] 5))
  cases past
  · go_enter Try.func3, Try.ntmps3
    go_wp2_with fail
    refine (new_ok _ (S := 9) (bs := [c]) (by decide) (by decide) (lit_ints [c] (0, 0) 1 rfl (by decide)) HC.out (by simp)).mono ?_
    rintro e w1 ⟨g, v, rfl, hm⟩
    have HO : Hid (OwnRing w w1 g v 9 [c] 0) := (OwnRing.made hm HA.out : OwnRing _ _ _ _ _ _ _)
    clear hm
    go_wp2_with fail
    refine (copy_ok _ HO.out.ring 1 131072 (by decide) (by decide) (by simp) (by decide)).mono ?_
    rintro e w2 ⟨ov, v2, rfl, hp⟩
    have hl0 : min 9 (keepL 9 ([c] ++ copied (lastN 1 [c]) 1 131072)).length = 9 := by rw [keepL_le, List.length_append, copied_length]; simp
    obtain ⟨A, n, c1, rfl, -, -, hat⟩ := hp.row.ints.get
    have hn : 131072 = n := by rw [← hat.1, copied_length]
    subst hn
    obtain ⟨b, off, rfl, hcell⟩ := hat.2 (by decide)
    have cx := hcell 0 _ (copied_at (by decide))
    have cy := hcell 131071 _ (copied_at (by decide))
    rw [one_copied] at cx cy
    rw [Nat.add_zero] at cx
    obtain ⟨st2, hst2⟩ : ∃ s, keepL 9 ([c] ++ copied (lastN 1 [c]) 1 131072) = s := ⟨_, rfl⟩
    have hp' := hp.put
    rw [hst2] at hl0 hp'
    have HO2 : Hid (OwnRing w w2 g v2 9 st2 131072) := (HO.out.put hp' : OwnRing _ _ _ _ _ _ _)
    have HL := Lib.hid hl0
    clear hp hp' hat hcell hst2 hl0 HO
    go_wp2_with fail
    refine (len_q HO2.out.ring HL.out).mono ?_
    rintro e w3 ⟨rfl, hm⟩
    have HO3 := Lib.hid (HO2.out.draws hm)
    clear hm
    go_wp2_with fail
    refine (total_ring _ HO3.out.ring).mono ?_
    rintro e w4 ⟨rfl, rfl⟩
    go_wp2_with (go_at_call 12; refine (works_at HO3.out.below).mono ?_; rintro e w9 ⟨rfl, hb⟩; have HB := Lib.hid hb; clear hb)
    go_ret
    exact ⟨rfl, HB.out⟩
  · go_enter Try.func3, Try.ntmps3
    go_wp2_with fail
    refine (new_ok _ (S := 9) (bs := [c]) (by decide) (by decide) (lit_ints [c] (0, 0) 1 rfl (by decide)) HC.out (by simp)).mono ?_
    rintro e w1 ⟨g, v, rfl, hm⟩
    have HO : Hid (OwnRing w w1 g v 9 [c] 0) := (OwnRing.made hm HA.out : OwnRing _ _ _ _ _ _ _)
    clear hm
    go_wp2_with fail
    refine (copy_arg _ HO.out.ring 1 131073 (by decide)).mono ?_
    rintro e w2 ⟨rfl, hb⟩
    have HO2 := Lib.hid (HO.out.next hb)
    clear hb
    go_wp2_with fail
    refine (len_q HO2.out.ring (L := 1) rfl).mono ?_
    rintro e w3 ⟨rfl, hm⟩
    have HO3 := Lib.hid (HO2.out.draws hm)
    clear hm
    go_wp2_with fail
    refine (total_ring _ HO3.out.ring).mono ?_
    rintro e w4 ⟨rfl, rfl⟩
    go_wp2_with (go_at_call 12; refine (works_at HO3.out.below).mono ?_; rintro e w9 ⟨rfl, hb⟩; have HB := Lib.hid hb; clear hb)
    go_ret
    exact ⟨rfl, HB.out⟩

theorem u8_four {c : Int} (hc : 0 ≤ c ∧ c < 256) : U8s [c, 1, 2, 3] := fun x hx => by simp at hx; omega

set_option maxRecDepth 100000 in
theorem rb_3 (past : Bool) (c : Int) (hc : 0 ≤ c ∧ c < 256) {w : World} :
    Calls Try.prog 3 #[.int .i64 3, .bool past, .int .u8 c] w fun e w' => e = .returned (.bool true) ∧ Below w.heap.size w w' := by
  have HC := Lib.hid (u8_four hc)
  have HA := Lib.hid ((Below.refl w.heap.size w).alloc (Nat.le_refl _) (.cells #[.int .u8 c, .int .u8 1, .int .u8 2, .int .u8 3] 5))
  cases past
  · go_enter Try.func3, Try.ntmps3
    go_wp2_with fail
    refine (new_ok _ (S := 3) (bs := [c, 1, 2, 3]) (by decide) (by decide) (lit_ints [c, 1, 2, 3] (0, 0) 4 rfl (by decide)) HC.out (by simp)).mono ?_
    rintro e w1 ⟨g, v, rfl, hm⟩
    have HO : Hid (OwnRing w w1 g v 3 [c, 1, 2, 3] 0) := (OwnRing.made hm HA.out : OwnRing _ _ _ _ _ _ _)
    clear hm
    go_wp2_with fail
    refine (copy_ok _ HO.out.ring 3 2 (by decide) (by decide) (by simp) (by decide)).mono ?_
    rintro e w2 ⟨ov, v2, rfl, hp⟩
    have HO2 : Hid (OwnRing w w2 g v2 3 [c, 1, 2, 3, 1, 2] 2) := (HO.out.put hp.put : OwnRing _ _ _ _ _ _ _)
    have hrow : Row w2 ov [1, 2] := hp.row
    obtain ⟨A, n, c1, rfl, -, -, -⟩ := hrow.ints.get
    have q1 : (convert 27 9 (.slice A n c1)).run Try.prog w2 = .ok (.string ⟨#[1, 2]⟩) w2 := conv_str hrow.ints
    clear hp hrow HO
    go_wp2_with fail
    refine (last_some _ HO2.out.ring 9 (by decide)).mono ?_
    rintro e w3 ⟨ov, rfl, hcl⟩
    have HO3 := Lib.hid (HO2.out.next hcl.below)
    obtain ⟨A3, n3, c3, rfl, -, -, -⟩ := hcl.row.ints.get
    have q3 : (convert 27 9 (.slice A3 n3 c3)).run Try.prog w3 = .ok (.string ⟨#[3, 1, 2]⟩) w3 := conv_str hcl.row.ints
    clear hcl q1
    go_wp2_with (go_at_call 12; refine (works_at HO3.out.below).mono ?_; rintro e w9 ⟨rfl, hb⟩; have HB := Lib.hid hb; clear hb)
    go_ret
    exact ⟨rfl, HB.out⟩
  · go_enter Try.func3, Try.ntmps3
    go_wp2_with fail
    refine (new_ok _ (S := 3) (bs := [c, 1, 2, 3]) (by decide) (by decide) (lit_ints [c, 1, 2, 3] (0, 0) 4 rfl (by decide)) HC.out (by simp)).mono ?_
    rintro e w1 ⟨g, v, rfl, hm⟩
    have HO : Hid (OwnRing w w1 g v 3 [c, 1, 2, 3] 0) := (OwnRing.made hm HA.out : OwnRing _ _ _ _ _ _ _)
    clear hm
    go_wp2_with fail
    refine (copy_seq _ HO.out.ring 4 2 (by decide) (by decide) (by simp)).mono ?_
    rintro e w2 ⟨rfl, hb⟩
    have HO2 := Lib.hid (HO.out.next hb)
    clear hb
    go_wp2_with fail
    refine (last_some _ HO2.out.ring 9 (by decide)).mono ?_
    rintro e w3 ⟨ov, rfl, hcl⟩
    have HO3 := Lib.hid (HO2.out.next hcl.below)
    obtain ⟨A3, n3, c3, rfl, -, -, -⟩ := hcl.row.ints.get
    have q3 : (convert 27 9 (.slice A3 n3 c3)).run Try.prog w3 = .ok (.string ⟨#[1, 2, 3]⟩) w3 := conv_str hcl.row.ints
    clear hcl
    go_wp2_with (go_at_call 12; refine (works_at HO3.out.below).mono ?_; rintro e w9 ⟨rfl, hb⟩; have HB := Lib.hid hb; clear hb)
    go_ret
    exact ⟨rfl, HB.out⟩

theorem ringBounds_walk (which : Int) (_ : (Lit.int .i64 which).wf = true) (past : Bool) (c : Int) (hc : (Lit.int .u8 c).wf = true) {w : World} :
    Calls Try.prog 3 #[.int .i64 which, .bool past, .int .u8 c] w fun e w' => e = .returned (.bool true) ∧ Below w.heap.size w w' := by
  have hc' : 0 ≤ c ∧ c < 256 := by
    have h1 : IntKind.u8.min = 0 := rfl
    have h2 : IntKind.u8.max = 255 := rfl
    simp only [Lit.wf, Bool.and_eq_true, decide_eq_true_eq] at hc
    omega
  by_cases h0 : which = 0
  · subst h0; exact rb_0 past c
  by_cases h1 : which = 1
  · subst h1; exact rb_1 past c hc'
  by_cases h2 : which = 2
  · subst h2; exact rb_2 past c hc'
  by_cases h3 : which = 3
  · subst h3; exact rb_3 past c hc'
  exact rb_else which past c h0 h1 h2 h3
end Go.Proofs.Ytohmkcoodaidcaa
