/-
  RingGoes: the law where its arguments are too great.
-/
import Derived.Test.YtohmkcoodaidcaaRgOver
import Derived.Test.YtohmkcoodaidcaaRnBase
import Derived.Test.YtohmkcoodaidcaaRgActA
namespace Go.Proofs.Ytohmkcoodaidcaa
set_option linter.all false
set_option maxRecDepth 100000
open Go.RowKit Go.Shelf

attribute [local go_sem] Oper.semAt_some eql_func_nil

theorem infoRef : (Try.prog.info? 36).map (fun i => (i.zero, i.size, i.bytes)) = some (some (.agg #[.int .i64 0, .slice none 0 0, .int .i64 0]), 3, 40) := by kernel_rfl

set_option maxHeartbeats 3200000 in
theorem rgo_else {w : World} (size : Int) (v1 v2 : Value) (ah bs : List Int) (h1 : Ints w .u8 v1 ah) (h2 : Ints w .u8 v2 bs) (many : Int) (x : ActD) (hx : x.Ok w)
    (h : size < 1 ∨ (1 ≤ size ∧ (300 < size ∨ (size ≤ 300 ∧ (100 < ah.length ∨ (ah.length ≤ 100 ∧ (300 < bs.length ∨ (bs.length ≤ 300 ∧ ¬fewP [x] 1)))))))) :
    Calls Try.prog 9 #[.int .i64 size, v1, v2, .int .i64 many, .agg #[.int .i64 x.what, x.bv, .int .i64 x.off, .int .i64 x.n]] w fun e w' => e = .returned (.bool true) ∧ Below w.heap.size w w' := by
  obtain ⟨A1, n1, c1, rfl, a1, a2, hat1⟩ := h1.get
  obtain ⟨A2, n2, c2, rfl, b1, b2, hat2⟩ := h2.get
  obtain rfl : ah.length = n1 := hat1.1
  obtain rfl : bs.length = n2 := hat2.1
  have HX := Lib.hid hx
  obtain ⟨xw, xbv, xb, xo, xn⟩ := x
  obtain ⟨Ax, nx, cx, hbx, -⟩ := hx.ints.get
  simp only at hbx
  subst hbx
  obtain ⟨n1, hn1⟩ : ∃ n, ah.length = n := ⟨_, rfl⟩
  obtain ⟨n2, hn2⟩ : ∃ n, bs.length = n := ⟨_, rfl⟩
  rw [hn1, hn2] at h
  rw [hn1] at a1 ⊢
  rw [hn2] at b1 ⊢
  have n1i : (n1 : Int) ≤ 9223372036854775807 := by omega
  have n2i : (n2 : Int) ≤ 9223372036854775807 := by omega
  clear hx h1 h2 hat1 hat2 hn1 hn2
  obtain ⟨i0, hi, hz0, hz1, hz2⟩ := info_parts infoBool
  have hact : ∀ W, Below w.heap.size w W → Calls Try.prog 17 #[.slice (some ⟨W.heap.size, 0, none⟩) 1 1, .int .i64 1] (W.alloc (.cells #[.int .i64 xw, .slice Ax nx cx, .int .i64 xo, .int .i64 xn] 43)) fun e w' => e = .returned (.bool (decide (fewP [⟨xw, .slice Ax nx cx, xb, xo, xn⟩] 1))) ∧ w' = W.alloc (.cells #[.int .i64 xw, .slice Ax nx cx, .int .i64 xo, .int .i64 xn] 43) := fun W hW =>
    few_any _ _ [⟨xw, .slice Ax nx cx, xb, xo, xn⟩] (one_act (t := 43) (Blk.new W _ _) (HX.out.below (hW.trans (((Below.refl _ W).alloc (Nat.le_refl _) _).mono hW.size)) (Nat.le_refl _))) 1
  have HACT := Lib.hid hact
  clear hact
  rcases h with h | ⟨h0, h | ⟨h1, h | ⟨h2, h | ⟨h3, h⟩⟩⟩⟩
  all_goals
    refine (callsIn_wide (n := 20)).1 ?_
    refine callsIn_of_wp_marks Try.func9 rfl trivial ?_ rfl
    simp only [Try.ntmps9, List.size_toArray, List.length_cons, List.length_nil, Nat.reduceAdd, Nat.reduceSub, Array.replicate_succ, Array.replicate_zero, List.push_toArray, List.append_toArray, List.nil_append, List.cons_append]
    gi_wp2
  all_goals refine ⟨trivial, ?_⟩
  rotate_right 1
  · have hd : decide (fewP [⟨xw, .slice Ax nx cx, xb, xo, xn⟩] 1) = false := decide_eq_false h
    have HD := Lib.hid hd
    clear hd h
    have hac := HACT.out _ (((Below.refl w.heap.size w).alloc (Nat.le_refl _) (.cells #[.int .i64 xw, .slice Ax nx cx, .int .i64 xo, .int .i64 xn] 43)).alloc (by simp) (.cells #[.bool false] 4))
    rw [HD.out] at hac
    simp only [World.size_alloc] at hac
    have d1 : decide (size < 1) = false := decide_eq_false (by omega)
    have d2 : decide (300 < size) = false := decide_eq_false (by omega)
    have d3 : decide (100 < (n1 : Int)) = false := decide_eq_false (by omega)
    have d4 : decide (300 < (n2 : Int)) = false := decide_eq_false (by omega)
    refine (callsIn_wide.2 hac).mono ?_
    rintro e wf ⟨rfl, hw⟩
    have hbf : Below w.heap.size w wf := by rw [hw]; exact (((Below.refl w.heap.size w).alloc (Nat.le_refl _) _).alloc (by simp) _).alloc (by simp; omega) _
    have hkf : Blk wf (w.heap.size + 1) 4 #[.bool false] := by
      have h1 := Blk.new (w.alloc (.cells #[.int .i64 xw, .slice Ax nx cx, .int .i64 xo, .int .i64 xn] 43)) 4 #[.bool false]
      rw [World.size_alloc] at h1
      rw [hw]; exact h1.below ((Below.refl _ _).alloc (Nat.le_refl _) _) h1.lt
    have HBF := Lib.hid hbf
    have HKF := Lib.hid hkf
    clear hac hw hbf hkf
    gi_wp2
    refine ⟨trivial, ?_⟩
    refine (callsIn_wide.2 (works_any _)).mono ?_
    rintro e w9 ⟨rfl, hb⟩
    have hk := HKF.out.below hb HKF.out.lt
    have hc9 : w9.cell? ⟨w.heap.size + 1, 0, none⟩ = some (.bool false) := by rw [hk.cell]; rfl
    have hf9 := hk.frozen 0
    have hb9 := HBF.out.trans (hb.mono HBF.out.size)
    clear hb
    gi_wp2
    refine ⟨.bool true, ?_, rfl, hb9.setCell (p := ⟨w.heap.size + 1, 0, none⟩) (Nat.le_succ _) _⟩
    have hc5 := World.cell?_setCell_same' w9 ⟨w.heap.size + 1, 0, none⟩ (.bool true) (by rw [hc9]; rfl)
    simp [results, Try.f9, go_sem, hc5]
  all_goals
    gi_wp2
    refine ⟨trivial, ?_⟩
    refine (callsIn_wide.2 (works_any _)).mono ?_
    rintro e w9 ⟨rfl, hb⟩
    have h1 := Blk.new (w.alloc (.cells #[.int .i64 xw, .slice Ax nx cx, .int .i64 xo, .int .i64 xn] 43)) 4 #[.bool false]
    rw [World.size_alloc] at h1
    have hk := h1.below hb h1.lt
    have hc9 : w9.cell? ⟨w.heap.size + 1, 0, none⟩ = some (.bool false) := by rw [hk.cell]; rfl
    have hf9 := hk.frozen 0
    have hb9 : Below w.heap.size w w9 := (((Below.refl w.heap.size w).alloc (Nat.le_refl _) _).alloc (by simp) _).trans (hb.mono (by simp; omega))
    clear hb h1
    gi_wp2
    refine ⟨.bool true, ?_, rfl, hb9.setCell (p := ⟨w.heap.size + 1, 0, none⟩) (Nat.le_succ _) _⟩
    have hc5 := World.cell?_setCell_same' w9 ⟨w.heap.size + 1, 0, none⟩ (.bool true) (by rw [hc9]; rfl)
    simp [results, Try.f9, go_sem, hc5]
end Go.Proofs.Ytohmkcoodaidcaa
