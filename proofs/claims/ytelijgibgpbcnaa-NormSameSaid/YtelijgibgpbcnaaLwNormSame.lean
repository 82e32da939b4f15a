/-
  NormSame: the law's walk.
-/
import Derived.Test.YtelijgibgpbcnaaNmSt
import Derived.Test.YtelijgibgpbcnaaNormEq
namespace Go.Proofs.Ytelijgibgpbcnaa
open Go.RowKit

/-- Both tables in their boxes, the counts. -/
structure SameSt (w W : World) (la lb : Int) (va vb vc : Value) (xs ys cs : List Int) : Prop where
  below : Below w.heap.size w W
  boxA : Blk W w.heap.size 25 #[.int .i64 la, va]
  boxB : Blk W (w.heap.size + 1) 25 #[.int .i64 lb, vb]
  ia : Ints W .i64 va xs
  ib : Ints W .i64 vb ys
  ic : Ints W .i64 vc cs
section
variable {w W W' : World} {la lb : Int} {va vb vc : Value} {xs ys cs : List Int}
theorem SameSt.start (ha : Ints w .i64 va xs) (hb : Ints w .i64 vb ys) (hc : Ints w .i64 vc cs) :
    SameSt w ((w.alloc (.cells #[.int .i64 la, va] 25)).alloc (.cells #[.int .i64 lb, vb] 25)) la lb va vb vc xs ys cs :=
  ⟨((Below.refl _ _).alloc (Nat.le_refl _) _).alloc (by simp) _, (Blk.new _ _ _).alloc _, Blk.new1 _ _ _ _, ha.alloc2 _ _, hb.alloc2 _ _, hc.alloc2 _ _⟩
theorem SameSt.drew (h : SameSt w W la lb va vb vc xs ys cs) : SameSt w W.drew la lb va vb vc xs ys cs := ⟨h.below.drew, h.boxA, h.boxB, h.ia, h.ib, h.ic⟩
theorem SameSt.next (h : SameSt w W la lb va vb vc xs ys cs) (hb : Below W.heap.size W W') : SameSt w W' la lb va vb vc xs ys cs :=
  ⟨h.below.trans (hb.mono h.below.size), h.boxA.below hb h.boxA.lt, h.boxB.below hb h.boxB.lt, h.ia.below hb (Nat.le_refl _), h.ib.below hb (Nat.le_refl _), h.ic.below hb (Nat.le_refl _)⟩
theorem SameSt.cells (h : SameSt w W la lb va vb vc xs ys cs) : W.cell? ⟨w.heap.size, 0, none⟩ = some (.int .i64 la) ∧ W.cell? ⟨w.heap.size, 1, none⟩ = some va ∧ W.cell? ⟨w.heap.size + 1, 0, none⟩ = some (.int .i64 lb) ∧ W.cell? ⟨w.heap.size + 1, 1, none⟩ = some vb :=
  ⟨h.boxA.two.1, h.boxA.two.2.1, h.boxB.two.1, h.boxB.two.2.1⟩
end
/-- The table that Normalize has left, in its own block, or none. -/
def NmOwn (W : World) (e : Ending) (W' : World) : Prop :=
  ∃ (L : Int) (A : Option Addr) (l c : Nat) (zs : List Int) (r : Int), e = .returned (.tuple #[.agg #[.int .i64 L, .slice A l c], .int .i64 r]) ∧ l ≤ zs.length ∧ l ≤ 1000 ∧ l ≤ c ∧ c ≤ 1000 ∧ Below W.heap.size W W' ∧ (0 < l → ∃ g, A = some ⟨g, 0, none⟩ ∧ W.heap.size ≤ g ∧ Blk W' g 3 (zs.map (Value.int .i64)).toArray)
theorem normalize_own (v : Value) (cs : List Int) (log : Int) (w : World) (hx : Ints w .i64 v cs) (hlen : cs.length ≤ 1000) :
    Calls Try.prog 13 #[v, .int .i64 log] w fun e w' => NmOwn w e w' := by
  by_cases hok : NOk cs log
  · refine (normalize_ok v cs log w hx hok hlen).mono ?_
    rintro e w' ⟨g, l, zs, rfl, hg, hb, hz, ht, hl, hlc, hbel⟩
    exact ⟨_, _, l, _, zs, 0, rfl, by omega, by omega, hlc, hlen, hbel, fun _ => ⟨g, rfl, hg, hb⟩⟩
  · refine (normalize_bad v cs log w hx hok).mono ?_
    rintro e w' ⟨rfl, hb⟩
    exact ⟨0, none, 0, 0, [], 2, rfl, Nat.le_refl _, by omega, Nat.le_refl _, by omega, hb, fun h => absurd h (by omega)⟩

set_option maxHeartbeats 6400000 in
theorem normSame_walk (la : Int) (va : Value) (xs : List Int) (_ : (Lit.int .i64 la).wf = true) {w : World} (hI : Ints w .i64 va xs ∧ ∀ z ∈ xs, (Lit.int .i64 z).wf = true)
    (lb : Int) (vb : Value) (ys : List Int) (_ : (Lit.int .i64 lb).wf = true) (hJ : Ints w .i64 vb ys ∧ ∀ z ∈ ys, (Lit.int .i64 z).wf = true)
    (vc : Value) (cs : List Int) (hK : Ints w .i64 vc cs ∧ ∀ z ∈ cs, (Lit.int .i64 z).wf = true) (log : Int) (_ : (Lit.int .i64 log).wf = true) :
    Calls Try.prog 9 #[.agg #[.int .i64 la, va], .agg #[.int .i64 lb, vb], vc, .int .i64 log] w fun e w' => e = .returned (.bool true) ∧ Below w.heap.size w w' := by
  obtain ⟨hI, -⟩ := hI
  obtain ⟨hJ, -⟩ := hJ
  obtain ⟨hK, -⟩ := hK
  have HST := Lib.hid (SameSt.start (la := la) (lb := lb) hI hJ hK)
  obtain ⟨A, n, c, rfl, hc, hmx, -⟩ := hI.get
  obtain ⟨A2, n2, c2, rfl, hc2, hmx2, -⟩ := hJ.get
  obtain ⟨A3, n3, c3, rfl, hc3, hmx3, hx3⟩ := hK.get
  have HCL : Hid (cs.length = n3) := (hx3.1 : cs.length = n3)
  clear hI hJ hK hx3
  obtain ⟨i0, hi, hz0, hz1, hz2⟩ := info_parts infoInt
  by_cases h6 : 600 < (n : Int)
  · go_enter Try.func9, Try.ntmps9
    go_wp2_with (go_at_call 12; refine (known_any _).mono ?_; rintro e w2 ⟨rfl, hb⟩; have HB := Lib.hid (HST.out.next hb).below; clear hb)
    go_ret
    exact ⟨rfl, HB.out⟩
  by_cases h62 : 600 < (n2 : Int)
  · go_enter Try.func9, Try.ntmps9
    go_wp2_with (go_at_call 12; refine (known_any _).mono ?_; rintro e w2 ⟨rfl, hb⟩; have HB := Lib.hid (HST.out.next hb).below; clear hb)
    go_ret
    exact ⟨rfl, HB.out⟩
  by_cases h63 : 300 < (n3 : Int)
  · go_enter Try.func9, Try.ntmps9
    go_wp2_with (go_at_call 12; refine (known_any _).mono ?_; rintro e w2 ⟨rfl, hb⟩; have HB := Lib.hid (HST.out.next hb).below; clear hb)
    go_ret
    exact ⟨rfl, HB.out⟩
  obtain ⟨tb, htb⟩ : ∃ tb, tabEq la lb xs ys = tb := ⟨_, rfl⟩
  have HTB := Lib.hid htb
  clear htb
  go_enter Try.func9, Try.ntmps9
  go_wp2_with fail
  go_region_held3 (fun w' => Hid (SameSt w w' la lb (.slice A n c) (.slice A2 n2 c2) (.slice A3 n3 c3) xs ys cs) ∧ w'.cell? ⟨w.heap.size, 0, none⟩ = some (.int .i64 la) ∧ w'.cell? ⟨w.heap.size, 1, none⟩ = some (.slice A n c) ∧ w'.cell? ⟨w.heap.size + 1, 0, none⟩ = some (.int .i64 lb) ∧ w'.cell? ⟨w.heap.size + 1, 1, none⟩ = some (.slice A2 n2 c2))
    (first | (exact ⟨HST.out.drew, HST.out.cells⟩) | (exact ⟨HS3.out, HS3.out.cells⟩) | (exact ⟨HS2.out, HS2.out.cells⟩) | (exact ⟨HS1.out, HS1.out.cells⟩))
    (first
      | (go_at_call 22; first
          | ((with_reducible refine (normEq_any la lb _ _ xs ys _ (HST.out.drew.ia) (HST.out.drew.ib)).mono ?_); rw [HTB.out]; rintro e w2 ⟨rfl, hb⟩; have HS1 := Lib.hid (HST.out.drew.next hb); clear hb)
          | ((with_reducible refine (normEq_any la lb _ _ xs ys _ (HS1.out.ia) (HS1.out.ib)).mono ?_); rw [HTB.out]; rintro e w2 ⟨rfl, hb⟩; have HS2 := Lib.hid (HS1.out.next hb); clear hb)
          | ((with_reducible refine (normEq_true la _ _ xs _ (HS2.out.ia) (HS2.out.ia)).mono ?_); rintro e w2 ⟨rfl, hb⟩; have HS3 := Lib.hid (HS2.out.next hb); clear hb))
      | (go_at_call 15; first
          | ((with_reducible refine (same_any la lb _ _ xs ys _ (HST.out.drew.ia) (HST.out.drew.ib)).mono ?_); rw [HTB.out]; rintro e w2 ⟨rfl, hb⟩; have HS1 := Lib.hid (HST.out.drew.next hb); clear hb)
          | ((with_reducible refine (same_any la lb _ _ xs ys _ (HS1.out.ia) (HS1.out.ib)).mono ?_); rw [HTB.out]; rintro e w2 ⟨rfl, hb⟩; have HS2 := Lib.hid (HS1.out.next hb); clear hb)))
  have hicl := HS3.out.ic.get
  obtain ⟨_, _, _, hcv, hnc, hcm, hat⟩ := hicl
  injection hcv with h1 h2 h3
  subst h1 h2 h3
  have HAT := Lib.hid hat
  have HS := HS3
  clear hat hnc hcm HS1 HS2 HS3
  go_wp2_with (at_builtin; refine wpList_append_ints _ rfl _ _ _ rfl w.heap.size 3 i0 (.int .i64 0) 8 Try.underlying22 hi hz0 hz1 hz2 rfl .i64 (.slice none 0 0) [] cs rfl (Grow.nil _ _ _ _) A3 n3 c3 rfl HAT.out (by simp [maxLen]; omega) (by simp; omega) HS.out.below.size n3 (by simp) ?_; intro A4 c4 w5 hown hgrow; have HG := Lib.hid hown; have HS5 := Lib.hid (HS.out.next ⟨hgrow.os, hgrow.tape, hgrow.output, hgrow.size, fun k hk => hgrow.block k hk (by simp [Value.ownBlock])⟩); clear hown hgrow)
  have hoi : Ints w5 .i64 (.slice A4 n3 c4) cs := by have := HG.out.ints; simpa using this
  have HOI := Lib.hid hoi
  have HOA := Lib.hid hoi.at__
  have HCA := Lib.hid HS5.out.ic.at__
  clear hoi
  refine (normalize_own _ cs log _ HOI.out (by rw [HCL.out]; omega)).mono ?_
  rintro e w6 ⟨L, A5, l, c5, zs, r, rfl, hlz, hl, hlc, hc5, hb, hown⟩
  have HB6 := Lib.hid hb
  have HBX := Lib.hid (Blk.new w6 25 #[.int .i64 L, .slice A5 l c5])
  have HZ0 : Hid (zs.length = zs.length ∧ (0 < l → ∃ g, A5 = some ⟨g, 0, none⟩ ∧ w5.heap.size ≤ g ∧ g < w6.heap.size ∧ Blk (w6.alloc (.cells #[.int .i64 L, .slice A5 l c5] 25)) g 3 (zs.map (Value.int .i64)).toArray)) := (by
    refine ⟨rfl, fun h => ?_⟩
    obtain ⟨g, h1, h2, h3⟩ := hown h
    exact ⟨g, h1, h2, h3.lt, h3.alloc _⟩ : _ ∧ _)
  have hzl : Hid (l ≤ zs.length) := hlz
  clear hb hown hlz
  go_wp2
  go_loopw [12] (fun i wr => ∃ k : Nat, k ≤ l ∧ i = .int .i64 k ∧ ∃ zs' : List Int, Hid (zs'.length = zs.length ∧ (0 < l → ∃ g, A5 = some ⟨g, 0, none⟩ ∧ w5.heap.size ≤ g ∧ g < w6.heap.size ∧ Blk wr g 3 (zs'.map (Value.int .i64)).toArray)) ∧ Hid (Blk wr w6.heap.size 25 #[.int .i64 L, .slice A5 l c5]) ∧ Hid (Below w5.heap.size w5 wr)) (fun i _ => l - (intOf i).toNat)
  case atStart => exact ⟨0, Nat.zero_le _, rfl, zs, (⟨rfl, HZ0.out.2⟩ : _ ∧ _), HBX, (HB6.out.alloc HB6.out.size _ : Below _ _ _)⟩
  case round =>
    clear HZ0 HBX
    obtain ⟨k, hk, rfl, zs', HZ, HBX, HBL⟩ := hrel
    have k0 : (0 : Int) ≤ (k : Int) := by omega
    obtain ⟨b0, b1, -, -⟩ := HBX.out.two
    by_cases hlt : k < l
    · have k1 : (k : Int) < (l : Int) := by omega
      obtain ⟨g, rfl, hg5, hg6, hz⟩ := HZ.out.2 (by omega)
      have hzi : zs'[k]? = some (gt zs' k) := gt_of (by rw [HZ.out.1]; have := hzl.out; omega)
      have cg := hz.int_at hzi
      have fg := hz.frozen k
      have HZZ := Lib.hid hz
      clear hz hzi
      go_wp2
      go_roundw
      case rel => exact ⟨k + 1, by omega, by go_num, zs'.set k 77, (⟨by rw [List.length_set]; exact HZ.out.1, fun _ => ⟨g, rfl, hg5, hg6, HZZ.out.set_ints k 77⟩⟩ : _ ∧ _), (HBX.out.far (p := ⟨g, k, none⟩) (by simp <;> omega) _ : Blk _ _ _ _), (HBL.out.setCell (p := ⟨g, k, none⟩) hg5 _ : Below _ _ _)⟩
      case measure => simp [intOf]; omega
    · go_wp2
      go_loopw [13] (fun i wr => ∃ j : Nat, j ≤ n3 ∧ i = .int .i64 j ∧ Hid (Below w5.heap.size w5 wr)) (fun i _ => n3 - (intOf i).toNat)
      case atStart => exact ⟨0, Nat.zero_le _, rfl, HBL⟩
      case round =>
        clear HZ HBX HBL b0 b1
        obtain ⟨j, hj, rfl, HBL⟩ := hrel
        have j0 : (0 : Int) ≤ (j : Int) := by omega
        by_cases hjl : j < n3
        · have j1 : (j : Int) < (n3 : Int) := by omega
          obtain ⟨b, off, rfl, cx⟩ := HOA.out.one hjl
          obtain ⟨b', off', rfl, cy⟩ := HCA.out.one hjl
          replace cx := (HBL.out.cell (World.block_lt_of_cell? _ _ cx)).trans cx
          replace cy := (HBL.out.cell (World.block_lt_of_cell? _ _ cy)).trans cy
          go_wp2
          go_quiet (fail)
          go_wp2
          go_roundw
          case rel => exact ⟨j + 1, by omega, by go_num, (below_drewN HBL.out _ : Below _ _ _)⟩
          case measure => simp [intOf]; omega
        · have HBZ := Lib.hid (HS5.out.below.trans (HBL.out.mono HS5.out.below.size))
          go_wp2_with (go_at_call 12; refine (known_any _).mono ?_; rintro e w8 ⟨rfl, hb⟩; have HB9 := Lib.hid (HBZ.out.trans (hb.mono HBZ.out.size)); clear hb)
          go_ret
          exact ⟨rfl, HB9.out⟩
end Go.Proofs.Ytelijgibgpbcnaa
