/-
  SpreadOwn: the law's walk.
-/
import Derived.Test.YtmoolloeldogcaaLwSpreadUnlike
import Derived.Test.YtmoolloeldogcaaSpPos
import Derived.Test.YtmoolloeldogcaaAppend
import Derived.Deep.RegionHeld3
import Derived.Deep.DeepCutAuto
namespace Go.Proofs.Ytmoolloeldogcaa
open Go.RowKit

/-- What a table's spread is; nothing if the table is not valid. -/
def SpFun (log : Int) (xs l : List Int) : Prop := (∃ m : Nat, m < 10 ∧ log = m ∧ (rares xs).length ≤ 2 ^ m ∧ Valid log xs 256 9 ∧ IsSpread m xs l) ∨ (¬ Valid log xs 256 9 ∧ l = [])
theorem SpFun.unique {log : Int} {xs l l' : List Int} (h : SpFun log xs l) (h' : SpFun log xs l') : l = l' := by
  rcases h with ⟨m, hm, rfl, hr, hv, hs⟩ | ⟨hv, rfl⟩
  · rcases h' with ⟨m', hm', e, hr', hv', hs'⟩ | ⟨hv', rfl⟩
    · obtain rfl : m = m' := by omega
      exact hs.unique hm hs' hr
    · exact absurd hv hv'
  · rcases h' with ⟨m', hm', e, hr', hv', hs'⟩ | ⟨hv', rfl⟩
    · exact absurd hv' hv
    · rfl
/-- A slice of integers of the call's own. -/
def OwnI (w : World) (B : Nat) (v : Value) (xs : List Int) : Prop := ∃ t, Grow w B t .i64 v xs
theorem FreshInts.own {w : World} {B : Nat} {v : Value} {xs : List Int} (h : FreshInts w B v xs) (hm : xs.length ≤ maxLen) : OwnI w B v xs := by
  obtain ⟨g, t, rfl, hB, hb⟩ := h
  refine ⟨t, by simp, .inr ⟨g, xs.length, _, rfl, hB, hb, Nat.le_refl _, hm, by simp, ?_⟩⟩
  rw [List.toList_toArray, Nat.mul_one, List.take_of_length_le (by simp)]
theorem spread_all (log : Int) (v : Value) (xs : List Int) (w : World) (hx : Ints w .i64 v xs) (hw : ∀ x ∈ xs, x ≤ 9223372036854775807) :
    Calls Try.prog 12 #[.agg #[.int .i64 log, v]] w fun e w' => ∃ sv l r, e = .returned (.tuple #[sv, .int .i64 r]) ∧ OwnI w' w.heap.size sv l ∧ SpFun log xs l ∧ Below w.heap.size w w' := by
  by_cases hv : Valid log xs 256 9
  · obtain ⟨m, hm, rfl, hall, hge⟩ := valid_facts hv
    refine (spread_ok m v xs w hx hw hm hv hall).mono ?_
    rintro e w' ⟨sv, l, rfl, hf, hsp, hb⟩
    exact ⟨sv, l, 0, rfl, hf.own (hsp.le512 hm), .inl ⟨m, hm, rfl, by omega, hv, hsp⟩, hb⟩
  · refine (spread_bad log v xs w hx hw hv).mono ?_
    rintro e w' ⟨rfl, hb⟩
    exact ⟨_, [], 13, rfl, ⟨0, Grow.nil _ _ _ _⟩, .inr ⟨hv, rfl⟩, hb⟩
theorem of_all (log : Int) (v : Value) (xs : List Int) (w : World) (hx : Ints w .i64 v xs) (hw : ∀ x ∈ xs, x ≤ 9223372036854775807) :
    Calls Try.prog 13 #[.agg #[.int .i64 log, v]] w fun e w' => ∃ sv l r, e = .returned (.tuple #[sv, .int .i64 r]) ∧ OwnI w' w.heap.size sv l ∧ SpFun log xs l ∧ Below w.heap.size w w' := by
  by_cases hv : Valid log xs 256 9
  · obtain ⟨m, hm, rfl, hall, hge⟩ := valid_facts hv
    refine (of_ok m v xs w hx hw hm hv hall).mono ?_
    rintro e w' ⟨sv, l, rfl, hf, hsp, hb⟩
    exact ⟨sv, l, 0, rfl, hf.own (hsp.le512 hm), .inl ⟨m, hm, rfl, by omega, hv, hsp⟩, hb⟩
  · refine (of_bad log v xs w hx hv).mono ?_
    rintro e w' ⟨rfl, hb⟩
    exact ⟨_, [], 13, rfl, ⟨0, Grow.nil _ _ _ _⟩, .inr ⟨hv, rfl⟩, hb⟩
theorem pos_all (log : Int) (v : Value) (xs : List Int) (s : Int) (w : World) (hx : Ints w .i64 v xs) (hw : ∀ x ∈ xs, x ≤ 9223372036854775807) :
    Calls Try.prog 21 #[.agg #[.int .i64 log, v], .int .i64 s] w fun e w' => ∃ pv l r, e = .returned (.tuple #[pv, .int .i64 r]) ∧ OwnI w' w.heap.size pv l ∧ Below w.heap.size w w' := by
  by_cases hv : Valid log xs 256 9
  · obtain ⟨m, hm, rfl, hall, hge⟩ := valid_facts hv
    refine (pos_ok m v xs s w hx hw hm hv hall).mono ?_
    rintro e w' ⟨sv, l, rfl, hf, hsp, hb⟩
    exact ⟨sv, _, 0, rfl, ⟨_, hf⟩, hb⟩
  · refine (pos_bad log v xs s w hx hw hv).mono ?_
    rintro e w' ⟨rfl, hb⟩
    exact ⟨_, [], 13, rfl, ⟨0, Grow.nil _ _ _ _⟩, hb⟩
theorem Ints.len {w : World} {k : IntKind} {A : Option Addr} {n c : Nat} {xs : List Int} (h : Ints w k (.slice A n c) xs) : xs.length = n := by
  obtain ⟨A', c', hv, -⟩ := h
  injection hv with _ h1 _
  exact h1.symm
theorem OwnI.ints {w : World} {B : Nat} {v : Value} {xs : List Int} (h : OwnI w B v xs) : Ints w .i64 v xs := by
  obtain ⟨t, h⟩ := h
  exact h.ints

theorem grown_none {W w1 : World} (hg : W.grownBy w1 (Value.slice none 0 0).ownBlock) : Below W.heap.size W w1 := ⟨hg.os, hg.tape, hg.output, hg.size, fun k hk => hg.block k hk (by simp [Value.ownBlock])⟩
theorem bcell {W w1 : World} (hb : Below W.heap.size W w1) : (∀ b o, b < W.heap.size → w1.cell? ⟨b, o, none⟩ = W.cell? ⟨b, o, none⟩) ∧ (∀ b o, b < W.heap.size → w1.frozen? ⟨b, o, none⟩ = W.frozen? ⟨b, o, none⟩) :=
  ⟨fun b o h => hb.cell (p := ⟨b, o, none⟩) h, fun b o h => hb.frozen (p := ⟨b, o, none⟩) h⟩
/-- Behind the making of the own table: the argument's box, the own box, its norms. -/
structure OwnSt (w : World) (log : Int) (A : Option Addr) (n c : Nat) (xs : List Int) (O : Nat) (A2 : Option Addr) (c2 : Nat) (wx : World) : Prop where
  below : Below w.heap.size w wx
  box : Blk wx w.heap.size 24 #[.int .i64 log, .slice A n c]
  own : Blk wx O 24 #[.int .i64 log, .slice A2 n c2]
  ints : Ints wx .i64 (.slice A2 n c2) xs

theorem OwnSt.way1 {w w1 : World} {log : Int} {A A2 : Option Addr} {n c c2 : Nat} {xs : List Int} {B : Nat} {e : TypeId} (hg : (w.alloc (.cells #[.int .i64 log, .slice A n c] 24)).drew.grownBy w1 (Value.slice none 0 0).ownBlock)
    (hown : Grow w1 B e .i64 (.slice A2 n c2) ([] ++ xs)) : OwnSt w log A n c xs w1.heap.size A2 c2 (w1.alloc (.cells #[.int .i64 log, .slice A2 n c2] 24)) := by
  have hb := grown_none hg
  have hW : Below w.heap.size w (w.alloc (.cells #[.int .i64 log, .slice A n c] 24)).drew := ((Below.refl _ w).alloc (Nat.le_refl _) _).drew
  have hB : Blk (w.alloc (.cells #[.int .i64 log, .slice A n c] 24)).drew w.heap.size 24 #[.int .i64 log, .slice A n c] := Blk.new w _ _
  have h1 := hW.trans (hb.mono hW.size)
  exact ⟨h1.alloc h1.size _, (hB.below hb hB.lt).alloc _, Blk.new _ _ _, hown.ints.alloc _⟩
theorem OwnSt.way2 {w w1 : World} {log : Int} {A A2 : Option Addr} {n c c2 : Nat} {xs : List Int} {e : TypeId} {z : Array Value} (hz : z.size = 2)
    (hg : ((w.alloc (.cells #[.int .i64 log, .slice A n c] 24)).alloc (.cells z 24)).drew.grownBy w1 (Value.slice none 0 0).ownBlock)
    (hown : Grow w1 ((w.alloc (.cells #[.int .i64 log, .slice A n c] 24)).alloc (.cells z 24)).drew.heap.size e .i64 (.slice A2 n c2) ([] ++ xs)) :
    OwnSt w log A n c xs (w.heap.size + 1) A2 c2 ((w1.setCell ⟨w.heap.size + 1, 0, none⟩ (.int .i64 log)).setCell ⟨w.heap.size + 1, 1, none⟩ (.slice A2 n c2)) := by
  have hb := grown_none hg
  have hW : Below w.heap.size w ((w.alloc (.cells #[.int .i64 log, .slice A n c] 24)).alloc (.cells z 24)).drew := (((Below.refl _ w).alloc (Nat.le_refl _) _).alloc (by simp) _).drew
  have hB : Blk ((w.alloc (.cells #[.int .i64 log, .slice A n c] 24)).alloc (.cells z 24)).drew w.heap.size 24 #[.int .i64 log, .slice A n c] := (Blk.new w _ _).alloc _
  have hO : Blk ((w.alloc (.cells #[.int .i64 log, .slice A n c] 24)).alloc (.cells z 24)).drew (w.heap.size + 1) 24 z := Blk.new1 w _ _ _
  have h1 := hW.trans (hb.mono hW.size)
  have h2 := hO.below hb hO.lt
  refine ⟨(h1.setCell (p := ⟨w.heap.size + 1, 0, none⟩) (by simp) _).setCell (p := ⟨w.heap.size + 1, 1, none⟩) (by simp) _, ((hB.below hb hB.lt).far (p := ⟨w.heap.size + 1, 0, none⟩) (by simp) _).far (p := ⟨w.heap.size + 1, 1, none⟩) (by simp) _, ((h2.set_ 0 _).set_ 1 _).congr ?_, ?_⟩
  · rcases z with ⟨_ | ⟨a, _ | ⟨b, _ | ⟨d, l⟩⟩⟩⟩ <;> simp at hz ⊢
  · exact ((hown.far (p := ⟨w.heap.size + 1, 0, none⟩) (by simp) _).far (p := ⟨w.heap.size + 1, 1, none⟩) (by simp) _).ints

set_option maxHeartbeats 3200000 in
theorem spreadOwn_walk (log : Int) (v : Value) (xs : List Int) (_ : (Lit.int .i64 log).wf = true) {w : World} (hI : Ints w .i64 v xs ∧ ∀ z ∈ xs, (Lit.int .i64 z).wf = true) (s : Int) (_ : (Lit.int .i64 s).wf = true) :
    Calls Try.prog 10 #[.agg #[.int .i64 log, v], .int .i64 s] w fun e w' => e = .returned (.bool true) ∧ Below w.heap.size w w' := by
  obtain ⟨hI, hwf⟩ := hI
  have HW := Lib.hid (wfAll_i64 hwf)
  have HI := Lib.hid hI
  obtain ⟨A, n, c, rfl, hc, hmx, hx⟩ := hI.get
  have HX := Lib.hid hx
  clear hx hwf hI
  have hb0 : ∀ o, Below w.heap.size w (w.alloc o) := fun o => (Below.refl _ w).alloc (Nat.le_refl _) o
  have HB0 := Lib.hid hb0
  clear hb0
  obtain ⟨i0, hi, hz0, hz1, hz2⟩ := info_parts infoInt
  by_cases h6 : 300 < (n : Int)
  · go_enter Try.func10, Try.ntmps10
    go_wp2_with (go_at_call 11; refine (known_any _).mono ?_; rintro e w2 ⟨rfl, hb⟩; have HB := Lib.hid ((HB0.out _).trans (hb.mono (by simp))); clear hb)
    go_ret
    exact ⟨rfl, HB.out⟩
  have HXA : ∀ o, Hid (AtInts (w.alloc o) .i64 A n xs) := fun o => HX.out.alloc o
  have HXA2 := Lib.hid HXA
  clear HXA
  go_enter Try.func10, Try.ntmps10
  go_upto_region 3 with fail
  go_cut [5] (fun s5 wx => ∃ (O : Nat) (A2 : Option Addr) (c2 : Nat), s5 = .pointer (some ⟨O, 0, none⟩) ∧ Hid (OwnSt w log A n c xs O A2 c2 wx))
  case first =>
    go_region_held3 (fun w' => w'.cell? ⟨w.heap.size, 0, none⟩ = some (.int .i64 log) ∧ w'.cell? ⟨w.heap.size, 1, none⟩ = some (.slice A n c))
      (first | go_keep | (go_split_ands; refine ⟨?_, ?_⟩ <;> first | (rw [World.cell?_alloc_lt _ _ _ (by simp; omega)]; first | exact hk0 | exact hk1) | exact hk0 | exact hk1))
      ((refine step_append_ints _ (by rfl) _ _ _ (by rfl) _ 3 i0 (.int .i64 0) 8 Try.underlying22 hi hz0 hz1 hz2 rfl .i64 (.slice none 0 0) [] xs (by rfl) (Grow.nil _ _ _ _) A n c (by rfl) (by first | exact (HXA2.out _).out | exact (HXA2.out _).out.alloc _) (by simp [maxLen]; omega) (by simp; omega) (Nat.le_refl _) n (by simp) ?_; intro A2 c2 w1 hown1 hgrow; have hsz : w.heap.size + 1 ≤ w1.heap.size := (by have := hgrow.size; simp at this; omega); have hne1 : w.heap.size ≠ w1.heap.size := (by omega); have hne2 : w1.heap.size ≠ w.heap.size := (by omega); obtain ⟨hcc, hff⟩ := bcell (grown_none hgrow); have hk0 : w1.cell? ⟨w.heap.size, 0, none⟩ = some (.int .i64 log) := (by rw [hcc _ _ (by simp <;> omega)]; first | assumption | go_simp); have hk1 : w1.cell? ⟨w.heap.size, 1, none⟩ = some (.slice A n c) := (by rw [hcc _ _ (by simp <;> omega)]; first | assumption | go_simp)))
    all_goals (go_wp2_with fail; go_meet; first | exact ⟨_, A2, c2, rfl, OwnSt.way1 hgrow hown1⟩ | exact ⟨_, A2, c2, rfl, OwnSt.way2 rfl hgrow hown1⟩)
  case rest =>
    obtain ⟨O, A2, c2, rfl, HST⟩ := hcut
    have hox := HST.out.own
    obtain ⟨o0, o1, -, -⟩ := HST.out.own.two
    clear hox
    go_wp2_with fail
    refine (spread_all log _ xs _ HST.out.ints HW.out).mono ?_
    rintro e w1 ⟨sv, l, r, rfl, hl, hsp, hb⟩
    have HL := Lib.hid hl
    have HSP := Lib.hid hsp
    have HB1 := Lib.hid hb
    obtain ⟨o0, o1, -, -⟩ := (HST.out.own.below hb HST.out.own.lt).two
    clear hl hsp hb
    go_wp2_with fail
    refine (pos_all log _ xs s _ (HST.out.ints.below HB1.out (Nat.le_refl _)) HW.out).mono ?_
    rintro e w2 ⟨pv, l2, r2, rfl, hl2, hb⟩
    have HB2 := Lib.hid (HB1.out.trans (hb.mono HB1.out.size))
    obtain ⟨t2, hl2⟩ := hl2
    obtain ⟨t1, hl1⟩ := HL.out
    have HL1 := Lib.hid (hl1.below hb (Nat.le_refl _))
    obtain ⟨A3, n3, c3, rfl, hc3, hm3, -⟩ := hl1.ints.get
    obtain ⟨A4, n4, c4, rfl, hc4, hm4, -⟩ := hl2.ints.get
    have HG1 := Lib.hid hl1
    have hn3 : Hid (l.length = n3) := (HG1.out.ints.len : l.length = n3)
    have hn4 : Hid (l2.length = n4) := (hl2.ints.len : l2.length = n4)
    have HL2 := Lib.hid hl2
    clear hl2 hl1 hb HL o0 o1
    have HB3 := Lib.hid HST.out.below
    go_wp2
    go_loopw [10] (fun i wr => ∃ k : Nat, k ≤ n3 ∧ i = .int .i64 k ∧ ∃ ys, Hid (Grow wr wc.heap.size t1 .i64 (.slice A3 n3 c3) ys ∧ ys.length = n3) ∧ Hid (Grow wr w1.heap.size t2 .i64 (.slice A4 n4 c4) l2) ∧ Hid (Below wc.heap.size wc wr)) (fun i _ => n3 - (intOf i).toNat)
    case atStart => exact ⟨0, Nat.zero_le _, rfl, l, (⟨HL1.out, hn3.out⟩ : _ ∧ _), HL2, HB2⟩
    case round =>
      clear HL1 HL2 HB2
      obtain ⟨k, hk, rfl, ys, HG, HL2, HBL⟩ := hrel
      by_cases hlt : k < n3
      · obtain ⟨g, n', c', x, hv, hgB, hglt, -, -, -⟩ := HG1.out.cell (i := k) (by rw [hn3.out]; exact hlt)
        injection hv with hv
        subst hv
        obtain ⟨g', n', c', x, hv, -, -, -, cg, fg⟩ := HG.out.1.cell (i := k) (by rw [HG.out.2]; exact hlt)
        injection hv with hv
        injection hv with hv
        injection hv with hv
        subst hv
        have k0 : (0 : Int) ≤ (k : Int) := by omega
        have k1 : (k : Int) < (n3 : Int) := by omega
        go_wp2
        go_roundw
        case rel => exact ⟨k + 1, by omega, by go_num, ys.set k 77, (⟨HG.out.1.store rfl 77, by rw [List.length_set]; exact HG.out.2⟩ : _ ∧ _), (HL2.out.far (p := ⟨g, k, none⟩) hglt _ : Grow _ _ _ _ _ _), (HBL.out.setCell (p := ⟨g, k, none⟩) hgB _ : Below _ _ _)⟩
        case measure => simp [intOf]; omega
      · go_wp2
        go_loopw [11] (fun i wr => ∃ k : Nat, k ≤ n4 ∧ i = .int .i64 k ∧ ∃ ys, Hid (Grow wr w1.heap.size t2 .i64 (.slice A4 n4 c4) ys ∧ ys.length = n4) ∧ Hid (Below wc.heap.size wc wr)) (fun i _ => n4 - (intOf i).toNat)
        case atStart => exact ⟨0, Nat.zero_le _, rfl, l2, (⟨HL2.out, hn4.out⟩ : _ ∧ _), HBL⟩
        case round =>
          clear HG HL2 HBL
          obtain ⟨j, hj, rfl, zs, HG, HBL⟩ := hrel
          by_cases hjlt : j < n4
          · obtain ⟨g, n', c', x, hv, hgB, hglt, -, cg, fg⟩ := HG.out.1.cell (i := j) (by rw [HG.out.2]; exact hjlt)
            injection hv with hv
            subst hv
            have k0 : (0 : Int) ≤ (j : Int) := by omega
            have k1 : (j : Int) < (n4 : Int) := by omega
            go_wp2
            go_roundw
            case rel => exact ⟨j + 1, by omega, by go_num, zs.set j 77, (⟨HG.out.1.store rfl 77, by rw [List.length_set]; exact HG.out.2⟩ : _ ∧ _), (HBL.out.setCell (p := ⟨g, j, none⟩) (Nat.le_trans HB1.out.size hgB) _ : Below _ _ _)⟩
            case measure => simp [intOf]; omega
          · obtain ⟨b0, b1, -, -⟩ := (HST.out.box.below HBL.out HST.out.box.lt).two
            obtain ⟨o0, o1, -, -⟩ := (HST.out.own.below HBL.out HST.out.own.lt).two
            go_wp2_with fail
            refine (spread_all log _ xs _ (HST.out.ints.below HBL.out (Nat.le_refl _)) HW.out).mono ?_
            rintro e w3 ⟨sv3, l3, r3, rfl, hl3, hsp3, hb3⟩
            have HBM := Lib.hid (HBL.out.trans (hb3.mono HBL.out.size))
            have HL3 := Lib.hid hl3.ints
            have HSP3 := Lib.hid hsp3
            clear hb3 hl3 hsp3 b0 b1 o0 o1
            obtain ⟨b0, b1, -, -⟩ := (HST.out.box.below HBM.out HST.out.box.lt).two
            obtain ⟨o0, o1, -, -⟩ := (HST.out.own.below HBM.out HST.out.own.lt).two
            have HBT := Lib.hid (HB3.out.trans (HBM.out.mono HB3.out.size))
            go_wp2_with fail
            refine (of_all log _ xs _ (HI.out.below HBT.out (Nat.le_refl _)) HW.out).mono ?_
            rintro e w4 ⟨sv4, l4, r4, rfl, hl4, hsp4, hb4⟩
            obtain rfl := HSP3.out.unique hsp4
            have HBN := Lib.hid (HBM.out.trans (hb4.mono HBM.out.size))
            have HL4 := Lib.hid hl4.ints
            have HL5 := Lib.hid (HL3.out.below hb4 (Nat.le_refl _))
            clear hb4 hl4 hsp4 b0 b1 o0 o1
            obtain ⟨b0, b1, -, -⟩ := (HST.out.box.below HBN.out HST.out.box.lt).two
            obtain ⟨o0, o1, -, -⟩ := (HST.out.own.below HBN.out HST.out.own.lt).two
            have HBU := Lib.hid (HB3.out.trans (HBN.out.mono HB3.out.size))
            go_wp2_with fail
            refine (same_true log _ _ xs _ (HST.out.ints.below HBN.out (Nat.le_refl _)) (HI.out.below HBU.out (Nat.le_refl _))).mono ?_
            rintro e w5 ⟨rfl, hb5⟩
            have HB5 := Lib.hid (HBU.out.trans (hb5.mono HBU.out.size))
            have HL6 := Lib.hid (HL5.out.below hb5 (Nat.le_refl _))
            have HL7 := Lib.hid (HL4.out.below hb5 (Nat.le_refl _))
            clear hb5
            go_wp2_with (first | (go_at_call 14; refine (same08_any _ _ l3 l3 _ HL6.out HL7.out).mono ?_; rw [show lEq l3 l3 = true from decide_eq_true rfl]; rintro e w6 ⟨rfl, hb⟩; have HB6 := Lib.hid (HB5.out.trans (hb.mono HB5.out.size)); clear hb) | (go_at_call 11; refine (known_any _).mono ?_; rintro e w7 ⟨rfl, hb⟩; have HB7 := Lib.hid (HB6.out.trans (hb.mono HB6.out.size)); clear hb))
            go_ret
            exact ⟨rfl, HB7.out⟩
end Go.Proofs.Ytmoolloeldogcaa
