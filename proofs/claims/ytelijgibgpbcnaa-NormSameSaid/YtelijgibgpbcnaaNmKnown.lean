/-
  The reference's Normal if it finds no table; the law package's normal and known.
-/
import Derived.Test.YtelijgibgpbcnaaNmRef
import Derived.Test.YtelijgibgpbcnaaNmLogR
namespace Go.Proofs.Ytelijgibgpbcnaa
open Go.RowKit
set_option linter.unusedSimpArgs false

set_option maxRecDepth 100000 in
set_option maxHeartbeats 3200000 in
theorem refNormal_bad (v : Value) (cs : List Int) (log : Int) (w : World) (hx : Ints w .i64 v cs) (hbad : ¬ NOk cs log) :
    Calls Try.prog 14 #[v, .int .i64 log] w fun e w' => NmBad w e w' := by
  have HI := Lib.hid hx
  obtain ⟨A, n, c, rfl, hc, hmx, hx⟩ := hx.get
  clear hx
  obtain ⟨T, U, b, hres, hb, hb'⟩ := cres_some cs
  have HRES := Lib.hid hres
  clear hres hb'
  have HBEL : Hid (∀ o1, Below w.heap.size w (w.alloc o1)) := (fun o1 => (Below.refl _ w).alloc (Nat.le_refl _) _ : ∀ o1, _)
  cases b with
  | false =>
    clear hb hbad
    go_enter Try.func14, Try.ntmps14
    go_wp2_with (go_at_call 19; refine (counts_any _ cs _ (HI.out.alloc _)).mono ?_; rw [HRES.out]; rintro e w' ⟨rfl, rfl⟩)
    refine bodyPost_ret (v := .tuple #[.agg #[.int .i64 0, .slice none 0 0], .int .i64 2]) (by simp [results, Try.results14, go_sem]) rfl ?_
    exact ⟨rfl, HBEL.out _⟩
  | true =>
    obtain ⟨h1, h2, rfl, hTe⟩ := hb rfl
    clear hb hTe
    obtain ⟨U, hU⟩ : ∃ U, usedOf cs = U := ⟨_, rfl⟩
    rw [hU] at HRES
    by_cases l0 : log < 0
    · clear h1 h2 hbad hU
      go_enter Try.func14, Try.ntmps14
      go_wp2_with (go_at_call 19; refine (counts_any _ cs _ (HI.out.alloc _)).mono ?_; rw [HRES.out]; rintro e w' ⟨rfl, rfl⟩)
      refine bodyPost_ret (v := .tuple #[.agg #[.int .i64 0, .slice none 0 0], .int .i64 2]) (by simp [results, Try.results14, go_sem]) rfl ?_
      exact ⟨rfl, HBEL.out _⟩
    · by_cases l9 : 9 < log
      · clear h1 h2 hbad hU
        go_enter Try.func14, Try.ntmps14
        go_wp2_with (go_at_call 19; refine (counts_any _ cs _ (HI.out.alloc _)).mono ?_; rw [HRES.out]; rintro e w' ⟨rfl, rfl⟩)
        refine bodyPost_ret (v := .tuple #[.agg #[.int .i64 0, .slice none 0 0], .int .i64 2]) (by simp [results, Try.results14, go_sem]) rfl ?_
        exact ⟨rfl, HBEL.out _⟩
      · have hS := two_pow_le (log := log) (by omega) (by omega)
        have hsz := fun W => size_in log (by omega) (by omega) W
        have hus : ¬ (U : Int) ≤ 2 ^ log.toNat := fun h => hbad ⟨h1, h2, by omega, by omega, by rw [hU]; exact h⟩
        obtain ⟨S, hSe⟩ : ∃ S, (2 : Int) ^ log.toNat = S := ⟨_, rfl⟩
        rw [hSe] at hS hus hsz
        have hus' : S < (U : Int) := by omega
        have HSZ := Lib.hid hsz
        clear h1 h2 hbad hU hus hsz hSe
        go_enter Try.func14, Try.ntmps14
        go_wp2_with fail
        refine (counts_any _ cs _ (HI.out.alloc _)).mono ?_
        rw [HRES.out]
        rintro e w' ⟨rfl, rfl⟩
        go_wp2_with fail
        refine (HSZ.out _).mono ?_
        rintro e w' ⟨rfl, rfl⟩
        go_wp2
        refine bodyPost_ret (v := .tuple #[.agg #[.int .i64 0, .slice none 0 0], .int .i64 2]) (by simp [results, Try.results14, go_sem]) rfl ?_
        exact ⟨rfl, HBEL.out _⟩

theorem ints_take {w : World} {g : Nat} {t : TypeId} {k : IntKind} {zs : List Int} {l c : Nat} (h : Blk w g t (zs.map (Value.int k)).toArray) (hl : l ≤ zs.length) (hc : l ≤ c) (hm : c ≤ maxLen) : Ints w k (.slice (some ⟨g, 0, none⟩) l c) (zs.take l) := by
  refine ⟨_, c, ?_, by simp, ?_, hm, fun _ => ⟨g, 0, rfl, fun j u hu => ?_⟩⟩
  · rw [List.length_take, Nat.min_eq_left hl]
  · rw [List.length_take]; omega
  · rw [h.cell]
    have hj := (List.getElem?_eq_some_iff.1 hu).1
    simp at hj
    rw [List.getElem?_map, List.getElem?_take, if_pos (by omega)] at hu
    simpa using hu
theorem ints_lit {w : World} {g n : Nat} {t : TypeId} {cs : Array Value} (h : Blk w g t cs) (xs : List Int) (e : cs = (xs.map (Value.int .i64)).toArray) (hn : n = xs.length) (hm : n ≤ 600) : Ints w .i64 (.slice (some ⟨g, 0, none⟩) n n) xs := by
  subst e
  exact Ints.of_blk h hn (Nat.le_refl _) (by unfold maxLen; omega)
/-- The table that Normalize has found, as an argument. -/
theorem NmPost.get {w w' : World} {cs : List Int} {log : Int} {e : Ending} (h : NmPost w cs log e w') (hlen : cs.length ≤ 1000) :
    ∃ (g l c : Nat), e = .returned (.tuple #[.agg #[.int .i64 log, .slice (some ⟨g, 0, none⟩) l c], .int .i64 0]) ∧ w.heap.size ≤ g ∧ Hid (Ints w' .i64 (.slice (some ⟨g, 0, none⟩) l c) (normsOf cs (2 ^ log.toNat))) ∧ Below w.heap.size w w' ∧
      Hid ((normsOf cs (2 ^ log.toNat)).length = l) ∧ l ≤ 1000 := by
  obtain ⟨g, l, zs, rfl, hg, hb, hz, ht, hl, hlc, hbel⟩ := h
  refine ⟨g, l, cs.length, rfl, hg, ?_, hbel, hl, by omega⟩
  rw [← ht]
  exact (ints_take hb (by omega) hlc (by unfold maxLen; omega) : Ints _ _ _ _)

theorem normal_true (v u : Value) (cs want : List Int) (log : Int) (w : World) (hx : Ints w .i64 v cs) (hu : Ints w .i64 u want) (hok : NOk cs log) (hlen : cs.length ≤ 1000) (hw : normsOf cs (2 ^ log.toNat) = want) :
    Calls Try.prog 24 #[v, .int .i64 log, u] w fun e w' => e = .returned (.bool true) ∧ Below w.heap.size w w' := by
  have HX := Lib.hid hx
  have HU := Lib.hid hu
  have HOK := Lib.hid hok
  have HW := Lib.hid hw
  have HLEN := Lib.hid hlen
  obtain ⟨A, n, c, rfl, -, -, -⟩ := hx.get
  obtain ⟨A2, n2, c2, rfl, -, -, -⟩ := hu.get
  clear hx hu hok hw hlen
  go_enter Try.func24, Try.ntmps24
  go_wp2_with fail
  refine (normalize_ok _ cs log _ HX.out HOK.out HLEN.out).mono ?_
  intro e w1 hp
  obtain ⟨g, l, c1, rfl, hg, HI, hb, HL, hl⟩ := hp.get HLEN.out
  rw [HW.out] at HI
  have HB := Lib.hid hb
  have HU1 := Lib.hid (HU.out.below hb (Nat.le_refl _))
  clear hp hb HL
  go_wp2_with (go_at_call 15; refine (same_true log _ _ want _ (HI.out.alloc _) (HU1.out.alloc _)).mono ?_; rintro e w2 ⟨rfl, hb2⟩; have HB2 := Lib.hid ((HB.out.alloc HB.out.size _).trans (hb2.mono (by have := HB.out.size; simp; omega))); clear hb2)
  go_ret
  exact ⟨rfl, HB2.out⟩

theorem kn1 : normsOf [3, 1] 4 = [3, 1] := by decide +kernel
theorem kn2 : normsOf [5, 1, 1] 4 = [2, -1, -1] := by decide +kernel
theorem kn3 : normsOf [100, 1, 0] 2 = [1, -1] := by decide +kernel
theorem kl1 : logOf [4, 4] 9 = 2 := by decide +kernel
theorem kl2 : logOf [0, 7] 9 = 0 := by decide +kernel
theorem kl3 : logOf [1, 1, 1] 9 = 2 := by decide +kernel

set_option maxHeartbeats 3200000 in
theorem known_any (w : World) : Calls Try.prog 12 #[] w fun e w' => e = .returned (.bool true) ∧ Below w.heap.size w w' := by
  go_enter Try.func12, Try.ntmps12
  go_wp2_with fail
  refine (normalize_bad _ [1, 1, 1] 1 _ (ints_lit (Blk.new w 3 _) [1, 1, 1] rfl rfl (by decide)) (by decide)).mono ?_
  rintro e w1 ⟨rfl, hb⟩
  have HB1 := Lib.hid (((Below.refl _ w).alloc (Nat.le_refl _) _).trans (hb.mono (by simp)))
  clear hb
  go_wp2_with fail
  refine (normal_true _ _ [3, 1] [3, 1] 2 _ (ints_lit ((Blk.new1 w1 _ 3 _).alloc _) [3, 1] rfl rfl (by decide)) (ints_lit (Blk.new2 w1 _ _ 3 _) [3, 1] rfl rfl (by decide)) (by decide) (by decide) kn1).mono ?_
  rintro e w2 ⟨rfl, hb⟩
  have HB2 := Lib.hid ((((HB1.out.alloc HB1.out.size _).alloc (by have := HB1.out.size; simp; omega) _).alloc (by have := HB1.out.size; simp; omega) _).trans (hb.mono (by have := HB1.out.size; simp; omega)))
  clear hb HB1
  go_wp2_with fail
  refine (normal_true _ _ [5, 1, 1] [2, -1, -1] 2 _ (ints_lit ((Blk.new w2 3 _).alloc _) [5, 1, 1] rfl rfl (by decide)) (ints_lit (Blk.new1 w2 _ 3 _) [2, -1, -1] rfl rfl (by decide)) (by decide) (by decide) kn2).mono ?_
  rintro e w3 ⟨rfl, hb⟩
  have HB3 := Lib.hid (((HB2.out.alloc HB2.out.size _).alloc (by have := HB2.out.size; simp; omega) _).trans (hb.mono (by have := HB2.out.size; simp; omega)))
  clear hb HB2
  go_wp2_with fail
  refine (normal_true _ _ [100, 1, 0] [1, -1] 1 _ (ints_lit ((Blk.new w3 3 _).alloc _) [100, 1, 0] rfl rfl (by decide)) (ints_lit (Blk.new1 w3 _ 3 _) [1, -1] rfl rfl (by decide)) (by decide) (by decide) kn3).mono ?_
  rintro e w4 ⟨rfl, hb⟩
  have HB4 := Lib.hid (((HB3.out.alloc HB3.out.size _).alloc (by have := HB3.out.size; simp; omega) _).trans (hb.mono (by have := HB3.out.size; simp; omega)))
  clear hb HB3
  go_wp2_with fail
  refine (recLog_any _ [4, 4] 9 _ (ints_lit (Blk.new w4 3 _) [4, 4] rfl rfl (by decide))).mono ?_
  rw [kl1]
  rintro e w' ⟨rfl, rfl⟩
  go_wp2_with fail
  refine (recLog_any _ [0, 7] 9 _ (ints_lit (Blk.new1 w4 _ 3 _) [0, 7] rfl rfl (by decide))).mono ?_
  rw [kl2]
  rintro e w' ⟨rfl, rfl⟩
  go_wp2_with fail
  refine (recLog_any _ [1, 1, 1] 9 _ (ints_lit (Blk.new2 w4 _ _ 3 _) [1, 1, 1] rfl rfl (by decide))).mono ?_
  rw [kl3]
  rintro e w' ⟨rfl, rfl⟩
  go_wp2
  go_ret
  exact ⟨rfl, ((HB4.out.alloc HB4.out.size _).alloc (by have := HB4.out.size; simp; omega) _).alloc (by have := HB4.out.size; simp; omega) _⟩
end Go.Proofs.Ytelijgibgpbcnaa
