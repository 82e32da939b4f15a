/-
  RingClones: the law's walk.
-/
import Derived.Test.YtohmkcoodaidcaaLwRingPlays
namespace Go.Proofs.Ytohmkcoodaidcaa
open Go.RowKit

/-- Two calls as an array's cells. -/
abbrev twoVal (x y : ActD) : Value := .agg #[.int .i64 x.what, x.bv, .int .i64 x.off, .int .i64 x.n, .int .i64 y.what, y.bv, .int .i64 y.off, .int .i64 y.n]
/-- The array's box, as a slice of two calls. -/
theorem two_acts {W : World} {b : Nat} {t : TypeId} {x y : ActD} (h : Blk W b t #[.int .i64 x.what, x.bv, .int .i64 x.off, .int .i64 x.n, .int .i64 y.what, y.bv, .int .i64 y.off, .int .i64 y.n]) (hx : x.Ok W) (hy : y.Ok W) : Acts W (.slice (some ⟨b, 0, none⟩) 2 2) [x, y] := by
  refine ⟨⟨_, 2, rfl, Nat.le_refl _, by simp [maxLen], fun _ => ⟨b, 0, rfl, fun i z hz => ?_⟩⟩, fun z hz => ?_⟩
  · match i, hz with
    | 0, hz => simp at hz; subst hz; exact ⟨by rw [h.cell]; rfl, by rw [h.cell]; rfl, by rw [h.cell]; rfl, by rw [h.cell]; rfl⟩
    | 1, hz => simp at hz; subst hz; exact ⟨by rw [h.cell]; rfl, by rw [h.cell]; rfl, by rw [h.cell]; rfl, by rw [h.cell]; rfl⟩
  · simp at hz
    rcases hz with rfl | rfl
    · exact hx
    · exact hy

set_option maxRecDepth 100000 in
set_option maxHeartbeats 1600000 in
theorem rc_else (size : Int) (v1 : Value) (l : List ActD) (x y : ActD) (other : Int) {w : World} (hl : Acts w v1 l) (hx : x.Ok w) (hy : y.Ok w)
    (h : size < 1 ∨ (1 ≤ size ∧ (300 < size ∨ (size ≤ 300 ∧ (¬ fewP l 20 ∨ (fewP l 20 ∧ ¬ fewP [x, y] 2)))))) :
    Calls Try.prog 8 #[.int .i64 size, v1, twoVal x y, .int .i64 other] w fun e w' => e = .returned (.bool true) ∧ Below w.heap.size w w' := by
  have HX := Lib.hid hx
  have HY := Lib.hid hy
  obtain ⟨xw, xbv, xb, xo, xn⟩ := x
  obtain ⟨yw, ybv, yb, yo, yn⟩ := y
  obtain ⟨Ax, nx, cx, hbx, -⟩ := hx.ints.get
  obtain ⟨Ay, ny, cy, hby, -⟩ := hy.ints.get
  simp only at hbx hby
  subst hbx hby
  have HB1 := Lib.hid ((Below.refl w.heap.size w).alloc (Nat.le_refl _) (.cells #[.int .i64 xw, .slice Ax nx cx, .int .i64 xo, .int .i64 xn, .int .i64 yw, .slice Ay ny cy, .int .i64 yo, .int .i64 yn] 53))
  have HL := Lib.hid (hl.below HB1.out (Nat.le_refl _))
  have HT := Lib.hid (two_acts (Blk.new w 53 #[.int .i64 xw, .slice Ax nx cx, .int .i64 xo, .int .i64 xn, .int .i64 yw, .slice Ay ny cy, .int .i64 yo, .int .i64 yn]) (HX.out.below HB1.out (Nat.le_refl _)) (HY.out.below HB1.out (Nat.le_refl _)))
  obtain ⟨⟨A, c, rfl, -, -, -⟩, -⟩ := hl
  clear hx hy
  unfold twoVal
  rcases h with h | ⟨h0, h | ⟨h1, h | ⟨h2, h⟩⟩⟩
  · go_enter Try.func8, Try.ntmps8
    go_wp2_with (go_at_call 12; refine (works_at HB1.out).mono ?_; rintro e w1 ⟨rfl, hb⟩; have HB := Lib.hid hb; clear hb)
    go_ret
    exact ⟨rfl, HB.out⟩
  · go_enter Try.func8, Try.ntmps8
    go_wp2_with (go_at_call 12; refine (works_at HB1.out).mono ?_; rintro e w1 ⟨rfl, hb⟩; have HB := Lib.hid hb; clear hb)
    go_ret
    exact ⟨rfl, HB.out⟩
  · have hd : decide (fewP l 20) = false := decide_eq_false h
    have HD := Lib.hid hd
    clear hd h
    go_enter Try.func8, Try.ntmps8
    go_wp2_with fail
    refine (few_any _ _ _ HL.out 20).mono ?_
    rw [HD.out]
    rintro e w1 ⟨rfl, rfl⟩
    go_wp2_with (go_at_call 12; refine (works_at HB1.out).mono ?_; rintro e w1 ⟨rfl, hb⟩; have HB := Lib.hid hb; clear hb)
    go_ret
    exact ⟨rfl, HB.out⟩
  · have hd : decide (fewP l 20) = true := decide_eq_true h2
    have hd2 : decide (fewP [⟨xw, .slice Ax nx cx, xb, xo, xn⟩, ⟨yw, .slice Ay ny cy, yb, yo, yn⟩] 2) = false := decide_eq_false h
    have HD := Lib.hid hd
    have HD2 := Lib.hid hd2
    clear hd h hd2 h2
    go_enter Try.func8, Try.ntmps8
    go_wp2_with fail
    refine (few_any _ _ _ HL.out 20).mono ?_
    rw [HD.out]
    rintro e w1 ⟨rfl, rfl⟩
    go_wp2_with fail
    refine (few_any _ _ _ HT.out 2).mono ?_
    rw [HD2.out]
    rintro e w1 ⟨rfl, rfl⟩
    go_wp2_with (go_at_call 12; refine (works_at HB1.out).mono ?_; rintro e w1 ⟨rfl, hb⟩; have HB := Lib.hid hb; clear hb)
    go_ret
    exact ⟨rfl, HB.out⟩

theorem PlaySt.start {w W2 W3 W4 : World} {g S : Nat} {v cv : Value} {zs : List Int} (hbel : Below w.heap.size w W2) (hm : Made W2 W3 g v S (keepL S zs) 0) (hb : Below W3.heap.size W3 W4) (hi : Ints W4 .u8 cv (lastN S zs)) (ho : ∀ k, cv.ownBlock = some k → W3.heap.size ≤ k ∧ k < W4.heap.size) :
    PlaySt w (W4.alloc (.cells #[.int .i64 S, cv, .int .i64 0] 36)) W4.heap.size g v S (keepL S zs) 0 cv := by
  have hs1 := hbel.size
  have hs2 := hm.below.size
  have hs3 := hb.size
  have hat := hm.at_
  have hgl := hm.ring.lt
  have ha : Below W4.heap.size W4 (W4.alloc (.cells #[.int .i64 S, cv, .int .i64 0] 36)) := (Below.refl _ W4).alloc (Nat.le_refl _) _
  refine ⟨Blk.new _ _ _, (hm.ring.below hb (Nat.le_refl _)).below ha (Nat.le_refl _), ?_, ?_, ((hbel.trans (hm.below.mono hs1)).trans (hb.mono (by omega))).trans (ha.mono (by omega)), by omega, by omega, ?_, ?_, by omega, ?_, ?_⟩
  · rw [keepL_last]; exact hi.below ha (Nat.le_refl _)
  · intro _ k hk
    have := ho k hk
    exact ⟨by omega, fun e => by have := hm.ring.row.lt k e; omega⟩
  · exact fun k hk => by have := hm.own k hk; omega
  · exact fun k hk => by have := ho k hk; omega
  · intro e; have := hm.ring.row.lt _ e; omega
  · intro e; have := ho _ e; omega

theorem listEq_comm (a b : List Int) : listEq a b = listEq b a := by
  unfold listEq
  by_cases h : a = b
  · subst h; rfl
  · rw [decide_eq_false h, decide_eq_false (fun e => h e.symm)]
theorem same_B {S : Nat} {a b : List Int} {B : Bool} (h : listEq a b = B) : (decide (S = S) && listEq a b) = B := by rw [h]; simp

/-- Two rings, their references and the boxes behind both calls. -/
structure PairSt (w W : World) (S : Nat) (g : Nat) (v : Value) (st : List Int) (T : Nat) (cv : Value) (m : Nat) (g2 : Nat) (v2 : Value) (st2 : List Int) (T2 : Nat) (cv2 : Value) (m2 : Nat) : Prop where
  two : Two w W g v S st T g2 v2 S st2 T2
  i1 : Ints W .u8 cv (lastN S st)
  i2 : Ints W .u8 cv2 (lastN S st2)
  b1 : Blk W m 36 #[.int .i64 S, cv, .int .i64 T]
  b2 : Blk W m2 36 #[.int .i64 S, cv2, .int .i64 T2]
theorem PairSt.below {w W W2 : World} {S g m T g2 m2 T2 : Nat} {v cv v2 cv2 : Value} {st st2 : List Int} (h : PairSt w W S g v st T cv m g2 v2 st2 T2 cv2 m2) (hb : Below W.heap.size W W2) : PairSt w W2 S g v st T cv m g2 v2 st2 T2 cv2 m2 :=
  ⟨h.two.below hb, h.i1.below hb (Nat.le_refl _), h.i2.below hb (Nat.le_refl _), h.b1.below hb h.b1.lt, h.b2.below hb h.b2.lt⟩
theorem PairSt.draws {w W W2 : World} {S g m T g2 m2 T2 : Nat} {v cv v2 cv2 : Value} {st st2 : List Int} (h : PairSt w W S g v st T cv m g2 v2 st2 T2 cv2 m2) (hm : ∃ m, W2 = W.drewN m) : PairSt w W2 S g v st T cv m g2 v2 st2 T2 cv2 m2 := by
  obtain ⟨n, rfl⟩ := hm
  exact h.below (below_drewN (Below.refl _ W) n)

set_option maxRecDepth 100000 in
set_option maxHeartbeats 6400000 in
theorem rc_main (S : Nat) (v1 : Value) (l : List ActD) (x y : ActD) (other : Int) {w : World} (hl : Acts w v1 l) (hx : x.Ok w) (hy : y.Ok w) (h1 : 1 ≤ S) (h2 : S ≤ 300) (hf : fewP l 20) (hf2 : fewP [x, y] 2) :
    Calls Try.prog 8 #[.int .i64 S, v1, twoVal x y, .int .i64 other] w fun e w' => e = .returned (.bool true) ∧ Below w.heap.size w w' := by
  have HS1 : Hid (1 ≤ S) := (h1 : _ ≤ _)
  have HS2 : Hid (S ≤ 134217728) := (by omega : S ≤ _)
  have HX := Lib.hid hx
  have HY := Lib.hid hy
  have HXS := Lib.hid (hf2.2 x (by simp))
  have HYS := Lib.hid (hf2.2 y (by simp))
  have hd : decide (fewP l 20) = true := decide_eq_true hf
  have HD := Lib.hid hd
  have hd2 : decide (fewP [x, y] 2) = true := decide_eq_true hf2
  have HD2 := Lib.hid hd2
  have HF := Lib.hid hf
  obtain ⟨xw, xbv, xb, xo, xn⟩ := x
  obtain ⟨yw, ybv, yb, yo, yn⟩ := y
  obtain ⟨Ax, nx, cx, hbx, -⟩ := hx.ints.get
  obtain ⟨Ay, ny, cy, hby, -⟩ := hy.ints.get
  simp only at hbx hby
  subst hbx hby
  have HB1 := Lib.hid ((Below.refl w.heap.size w).alloc (Nat.le_refl _) (.cells #[.int .i64 xw, .slice Ax nx cx, .int .i64 xo, .int .i64 xn, .int .i64 yw, .slice Ay ny cy, .int .i64 yo, .int .i64 yn] 53))
  have HL := Lib.hid (hl.below HB1.out (Nat.le_refl _))
  have HX1 := Lib.hid (HX.out.below HB1.out (Nat.le_refl _))
  have HY1 := Lib.hid (HY.out.below HB1.out (Nat.le_refl _))
  have HBK := Lib.hid (Blk.new w 53 #[.int .i64 xw, .slice Ax nx cx, .int .i64 xo, .int .i64 xn, .int .i64 yw, .slice Ay ny cy, .int .i64 yo, .int .i64 yn])
  have HT := Lib.hid (two_acts HBK.out HX1.out HY1.out)
  obtain ⟨⟨A2, c2, hv2, hlc, hcm, hat2⟩, hok⟩ := HL.out
  subst hv2
  have hnl : l.length ≤ 9223372036854775807 := by simp only [maxLen] at hcm; omega
  obtain ⟨L, hL⟩ : ∃ L, l.length = L := ⟨_, rfl⟩
  have HLL := Lib.hid hL
  have HL20 : Hid (L ≤ 20) := (by have := hf.1; omega : L ≤ 20)
  have HAT2 := Lib.hid hat2
  rw [hL] at hnl HL HAT2 ⊢
  have HOK := Lib.hid hok
  clear hd hd2 hf hf2 hL hlc hcm hat2 hok hx hy hl HX HY
  unfold twoVal
  go_enter Try.func8, Try.ntmps8
  go_wp2_with fail
  generalize w.alloc (.cells #[.int .i64 xw, .slice Ax nx cx, .int .i64 xo, .int .i64 xn, .int .i64 yw, .slice Ay ny cy, .int .i64 yo, .int .i64 yn] 53) = w1 at HB1 HL HX1 HY1 HBK HT HAT2 HOK ⊢
  obtain ⟨b0, hb0⟩ : ∃ b0, w.heap.size = b0 := ⟨_, rfl⟩
  rw [hb0] at HBK HT ⊢
  have HB0 := Lib.hid hb0
  clear hb0
  refine (few_any _ _ _ HL.out 20).mono ?_
  rw [HD.out]
  rintro e w2 ⟨rfl, rfl⟩
  go_wp2_with fail
  refine (few_any _ _ _ HT.out 2).mono ?_
  rw [HD2.out]
  rintro e w3 ⟨rfl, rfl⟩
  go_wp2_with fail
  refine (new_ok w3 (bs := []) HS1.out HS2.out (Ints.nil _ _) (by decide) (by simp)).mono ?_
  rintro e w4 ⟨g, v, rfl, hm⟩
  have HM := Lib.hid hm
  clear hm
  go_wp2_with fail
  refine (refNew_ok w4 (bs := []) HS1.out HS2.out (Ints.nil _ _) (by simp)).mono ?_
  rintro e w5 ⟨cv, rfl, hi, hb, ho⟩
  obtain ⟨Ac, nc, cc, rfl, -, -, -⟩ := hi.get
  have HP := Lib.hid (PlaySt.start (Below.refl _ w3) HM.out hb hi ho)
  obtain ⟨m, hm⟩ : ∃ m, w5.heap.size = m := ⟨_, rfl⟩
  rw [hm] at HP
  clear hi hb ho HM
  go_wp2
  try rw [hm]
  clear hm
  generalize w5.alloc (.cells #[.int .i64 S, .slice Ac nc cc, .int .i64 0] 36) = w6 at HP ⊢
  go_loopw [9, 13] (fun r i wr => ∃ (k T g : Nat) (v : Value) (st : List Int) (Ac : Option Addr) (nc cc : Nat), k ≤ L ∧ i = .int .i64 k ∧ r = rp g ∧ Hid (T ≤ k * 131072) ∧ Hid (PlaySt w3 wr m g v S st T (.slice Ac nc cc))) (fun _ i _ => L - (intOf i).toNat)
  case atStart => exact ⟨0, 0, g, v, keepL S [], Ac, nc, cc, Nat.zero_le _, rfl, rfl, (Nat.zero_le _ : (0 : Nat) ≤ _), (HP.out : PlaySt _ _ _ _ _ _ _ _ _)⟩
  case round =>
    clear HP
    obtain ⟨k, T, g, v, st, Ac, nc, cc, hk, rfl, rfl, HT2, HP⟩ := hrel
    have k0 : (0 : Int) ≤ (k : Int) := by omega
    by_cases hlt : k < L
    · have k1 : (k : Int) < (L : Int) := by omega
      obtain ⟨b, o, rfl, hcell⟩ := HAT2.out (by omega)
      have hz := List.getElem?_eq_getElem (l := l) (i := k) (by rw [HLL.out]; exact hlt)
      obtain ⟨z, hze⟩ : ∃ z, l[k]'(by rw [HLL.out]; exact hlt) = z := ⟨_, rfl⟩
      rw [hze] at hz
      have hmem := List.mem_of_getElem? hz
      have hzat := (hcell k z hz).below HP.out.bel (Nat.le_refl _)
      obtain ⟨z0, z1, z2, z3⟩ := hzat
      have HZO := Lib.hid ((HOK.out z hmem).below (HP.out.drew.bel) (Nat.le_refl _))
      have HZS := Lib.hid ((HF.out).2 z hmem)
      obtain ⟨Ab, nb, cb, hbv, -⟩ := HZO.out.ints.get
      clear hcell hz hmem hze
      obtain ⟨what, bv, bs, xoff, xn'⟩ := z
      simp only at hbv z0 z1 z2 z3
      subst hbv
      obtain ⟨q0, q1, q2, q3, q4, q5⟩ := HP.out.box.three
      go_wp2
      have HPD := Lib.hid HP.out.drew
      have HTB : Hid (T ≤ 1152921504606846976) := (by have := HT2.out; have := HL20.out; omega : T ≤ _)
      go_region_with (first
        | (go_at_call 20; refine (act_any wr.drew ⟨what, .slice Ab nb cb, bs, xoff, xn'⟩ HPD.out.ring HPD.out.ints HPD.out.far HZO.out HZS.out HTB.out).mono ?_; rintro e w6 ⟨g', v', st', T', cv', rfl, ha⟩; obtain ⟨Ac', nc', cc', rfl, -, -, -⟩ := ha.ref.get; have HAC := Lib.hid ha; have HBM := Lib.hid (HPD.out.box.but ha.but HPD.out.ng HPD.out.nv); obtain ⟨f1, f2, f3, f4, f5, f6⟩ := HBM.out.three; clear ha))
      all_goals
        have HP5 : Hid (PlaySt w3 (((w6.setCell ⟨m, 0, none⟩ (.int .i64 S)).setCell ⟨m, 1, none⟩ (.slice Ac' nc' cc')).setCell ⟨m, 2, none⟩ (.int .i64 T')) m g' v' S st' T' (.slice Ac' nc' cc')) :=
          (HPD.out.act HAC.out ((((But.refl w6 m none).set_ 0 _).set_ 1 _).set_ 2 _) (HBM.out.filled _ _ _) : PlaySt _ _ _ _ _ _ _ _ _)
        have HT7 : Hid (T' ≤ (k + 1) * 131072) := (by have := HAC.out.tot; have := HT2.out; omega : T' ≤ _)
        go_wp2
        go_roundw
        case rel => exact ⟨k + 1, T', g', v', st', Ac', nc', cc', by omega, by go_num, rfl, (HT7.out : T' ≤ _), (HP5.out : PlaySt _ _ _ _ _ _ _ _ _)⟩
        case measure => simp [intOf]; omega
    · obtain rfl : k = L := by omega
      have HTB : Hid (T ≤ 2621440) := (by have h5 := HT2.out; have h6 := HL20.out; omega : T ≤ 2621440)
      clear HAT2 HOK HL
      go_wp2_with fail
      refine (cl_ring wr HP.out.ring).mono ?_
      rintro e w7 ⟨g2, v2, rfl, hm⟩
      have HTW := Lib.hid (Two.made ⟨HP.out.ring, HP.out.hg, HP.out.hv, HP.out.bel⟩ hm)
      have HP7 := Lib.hid (HP.out.below hm.below)
      have HFAR2 : Hid (lastN S st ≠ [] → ∀ j, (Value.slice Ac nc cc).ownBlock = some j → j ≠ g2 ∧ v2.ownBlock ≠ some j) := (fun hne j hj => by
        have h1 := HP.out.ints.own_lt hne hj
        have h2 := hm.at_
        exact ⟨by omega, fun e => by have := hm.own j e; omega⟩ : _ → _)
      have HK7 := Lib.hid (HBK.out.below HP7.out.bel HBK.out.lt)
      clear hm
      obtain ⟨q0, q1, q2, q3, q4, q5⟩ := HP7.out.box.three
      have x0 : w7.cell? ⟨b0, 0, none⟩ = some (.int .i64 xw) := by rw [HK7.out.cell]; rfl
      have x1 : w7.cell? ⟨b0, 1, none⟩ = some (.slice Ax nx cx) := by rw [HK7.out.cell]; rfl
      have x2 : w7.cell? ⟨b0, 2, none⟩ = some (.int .i64 xo) := by rw [HK7.out.cell]; rfl
      have x3 : w7.cell? ⟨b0, 3, none⟩ = some (.int .i64 xn) := by rw [HK7.out.cell]; rfl
      go_wp2_with fail
      refine (act_any w7 ⟨xw, .slice Ax nx cx, xb, xo, xn⟩ HP7.out.ring HP7.out.ints HP7.out.far (HX1.out.below HP7.out.bel (Nat.le_refl _)) HXS.out (by have := HTB.out; omega)).mono ?_
      rintro e w8 ⟨g', v', st1, T1, cv1, rfl, ha⟩
      obtain ⟨A1', n1', c1', rfl, -, -, -⟩ := ha.ref.get
      have HTW8 := Lib.hid (HTW.out.act ha)
      have HA8 := Lib.hid ha
      have HM8 := Lib.hid (HP7.out.box.but ha.but HP7.out.ng HP7.out.nv)
      have HI8 := Lib.hid (HP7.out.ints.but ha.but (fun hne j hj => HP7.out.far hne j hj))
      have HT1 : Hid (T1 ≤ 2752512) := (by have h5 := ha.tot; have h6 := HTB.out; omega : T1 ≤ 2752512)
      clear ha q0 q1 q2 q3 q4 q5 x0 x1 x2 x3
      have hal : Below w8.heap.size w8 (w8.alloc (.cells #[.int .i64 S, .slice A1' n1' c1', .int .i64 T1] 36)) := (Below.refl _ w8).alloc (Nat.le_refl _) _
      have HTW9 := Lib.hid (HTW8.out.below hal)
      have HM9 := Lib.hid (HM8.out.below hal HM8.out.lt)
      have HI9 := Lib.hid (HI8.out.below hal (Nat.le_refl _))
      have HR9 := Lib.hid (HA8.out.ref.below hal (Nat.le_refl _))
      have HN9 := Lib.hid (Blk.new w8 36 #[.int .i64 S, .slice A1' n1' c1', .int .i64 T1])
      have HK9 := Lib.hid (HBK.out.below HTW9.out.bel HBK.out.lt)
      have HS8 : Hid (w7.heap.size ≤ w8.heap.size) := (HA8.out.but.size : _ ≤ _)
      clear hal
      obtain ⟨n15, hn15⟩ : ∃ n15, w8.heap.size = n15 := ⟨_, rfl⟩
      rw [hn15] at HN9 HS8
      obtain ⟨q0, q1, q2, q3, q4, q5⟩ := HM9.out.three
      have x0 : (w8.alloc (.cells #[.int .i64 S, .slice A1' n1' c1', .int .i64 T1] 36)).cell? ⟨b0, 4, none⟩ = some (.int .i64 yw) := by rw [HK9.out.cell]; rfl
      have x1 : (w8.alloc (.cells #[.int .i64 S, .slice A1' n1' c1', .int .i64 T1] 36)).cell? ⟨b0, 5, none⟩ = some (.slice Ay ny cy) := by rw [HK9.out.cell]; rfl
      have x2 : (w8.alloc (.cells #[.int .i64 S, .slice A1' n1' c1', .int .i64 T1] 36)).cell? ⟨b0, 6, none⟩ = some (.int .i64 yo) := by rw [HK9.out.cell]; rfl
      have x3 : (w8.alloc (.cells #[.int .i64 S, .slice A1' n1' c1', .int .i64 T1] 36)).cell? ⟨b0, 7, none⟩ = some (.int .i64 yn) := by rw [HK9.out.cell]; rfl
      have l1 : m < n15 := by have := HM8.out.lt; omega
      have l2 : b0 < n15 := by have := HBK.out.lt; have := HTW8.out.bel.size; omega
      have p0 : w8.cell? ⟨m, 0, none⟩ = some (.int .i64 S) := HM8.out.three.1
      have p1 : w8.cell? ⟨m, 1, none⟩ = some (.slice Ac nc cc) := HM8.out.three.2.1
      have p2 : w8.cell? ⟨m, 2, none⟩ = some (.int .i64 T) := HM8.out.three.2.2.1
      have HK8 := Lib.hid (HBK.out.below HTW8.out.bel HBK.out.lt)
      have y0 : w8.cell? ⟨b0, 4, none⟩ = some (.int .i64 yw) := by rw [HK8.out.cell]; rfl
      have y1 : w8.cell? ⟨b0, 5, none⟩ = some (.slice Ay ny cy) := by rw [HK8.out.cell]; rfl
      have y2 : w8.cell? ⟨b0, 6, none⟩ = some (.int .i64 yo) := by rw [HK8.out.cell]; rfl
      have y3 : w8.cell? ⟨b0, 7, none⟩ = some (.int .i64 yn) := by rw [HK8.out.cell]; rfl
      clear q0 q1 q2 q3 q4 q5 x0 x1 x2 x3
      go_wp2_with fail
      try rw [hn15]
      generalize w8.alloc (.cells #[.int .i64 S, .slice A1' n1' c1', .int .i64 T1] 36) = w9 at HTW9 HM9 HI9 HR9 HN9 HK9 ⊢
      clear p0 p1 p2 y0 y1 y2 y3 l1 l2 hn15 HK8 HM8 HI8 HTW8 HK9 HM9
      refine (act_any w9 ⟨yw, .slice Ay ny cy, yb, yo, yn⟩ HTW9.out.r2 HI9.out HFAR2.out (HY1.out.below HTW9.out.bel (Nat.le_refl _)) HYS.out (by have h5 := HTB.out; omega)).mono ?_
      rintro e w10 ⟨g2', v2', st2, T2, cv2, rfl, ha⟩
      obtain ⟨A2', n2', c2', rfl, -, -, -⟩ := ha.ref.get
      have hg2 := HTW.out.r2.lt
      have hv2 := fun j => HTW.out.r2.row.lt j
      have hs8 := HS8.out
      have hi10 : Ints w10 .u8 (.slice A1' n1' c1') (lastN S st1) := HR9.out.but ha.but (fun hne j hj => by
        rcases HA8.out.refOwn with ⟨e1, e2⟩ | h
        · rw [e1] at hj; rw [e2] at hne; exact HFAR2.out hne j hj
        · have h5 := h j hj; exact ⟨by omega, fun e => by have := hv2 j e; omega⟩)
      have hn10 := HN9.out.but ha.but (by omega) (fun e => by have := hv2 _ e; omega)
      have hal : Below w10.heap.size w10 (w10.alloc (.cells #[.int .i64 S, .slice A2' n2' c2', .int .i64 T2] 36)) := (Below.refl _ w10).alloc (Nat.le_refl _) _
      have HPS : Hid (PairSt w3 (w10.alloc (.cells #[.int .i64 S, .slice A2' n2' c2', .int .i64 T2] 36)) S g' v' st1 T1 (.slice A1' n1' c1') n15 g2' v2' st2 T2 (.slice A2' n2' c2') w10.heap.size) :=
        (⟨((HTW9.out.symm.act ha).symm).below hal, hi10.below hal (Nat.le_refl _), ha.ref.below hal (Nat.le_refl _), hn10.below hal hn10.lt, Blk.new _ _ _⟩ : PairSt _ _ _ _ _ _ _ _ _ _ _ _ _ _ _)
      obtain ⟨n17, hn17⟩ : ∃ n17, w10.heap.size = n17 := ⟨_, rfl⟩
      rw [hn17] at HPS
      have l1 : n15 < n17 := by have := hn10.lt; omega
      obtain ⟨p0, p1, p2, -, -, -⟩ := hn10.three
      have HU1 := Lib.hid (HPS.out.two.r1.u8.last (S := S))
      have HU2 := Lib.hid (HPS.out.two.r2.u8.last (S := S))
      obtain ⟨B, hB⟩ : ∃ B, listEq (lastN S st1) (lastN S st2) = B := ⟨_, rfl⟩
      have HB := Lib.hid hB
      have HB2 : Hid (listEq (lastN S st2) (lastN S st1) = B) := (by rw [listEq_comm]; exact hB : _ = _)
      clear ha hg2 hv2 hs8 hi10 hn10 hal hB HTW9 HI9 HR9 HN9 HFAR2 HTW HA8 HP7 HP HK7
      go_wp2_with fail
      try rw [hn17]
      clear hn17 l1 p0 p1 p2
      generalize w10.alloc (.cells #[.int .i64 S, .slice A2' n2' c2', .int .i64 T2] 36) = w11 at HPS ⊢
      refine (refSame_any w11 S S _ _ T1 T2 _ _ HPS.out.i1 HPS.out.i2 HU1.out HU2.out).mono ?_
      rw [same_B HB.out]
      rintro e w12 ⟨rfl, hb⟩
      have HPS12 := Lib.hid (HPS.out.below hb)
      clear hb HPS
      go_wp2_with fail
      refine (num_any w12 _).mono ?_
      rintro e w13 ⟨rfl, rfl⟩
      obtain ⟨p0, p1, p2, -, -, -⟩ := HPS12.out.b1.three
      go_wp2_with fail
      refine (is_any w13 HPS12.out.two.r1 HPS12.out.i1 1).mono ?_
      rintro e w14 ⟨rfl, hb⟩
      have HPS14 := Lib.hid (HPS12.out.below hb)
      clear hb HPS12 p0 p1 p2
      obtain ⟨p0, p1, p2, -, -, -⟩ := HPS14.out.b2.three
      go_wp2_with fail
      refine (is_any w14 HPS14.out.two.r2 HPS14.out.i2 1).mono ?_
      rintro e w15 ⟨rfl, hb⟩
      have HPS15 := Lib.hid (HPS14.out.below hb)
      clear hb HPS14 p0 p1 p2
      go_wp2_with fail
      refine (eq_ring w15 HPS15.out.two.r1 HPS15.out.two.r2).mono ?_
      rw [same_B HB.out]
      rintro e w16 ⟨rfl, hm⟩
      have HPS16 := Lib.hid (HPS15.out.draws hm)
      clear hm HPS15
      go_wp2_with fail
      refine (eq_ring w16 HPS16.out.two.r2 HPS16.out.two.r1).mono ?_
      rw [same_B HB2.out]
      rintro e w17 ⟨rfl, hm⟩
      have HPS17 := Lib.hid (HPS16.out.draws hm)
      clear hm HPS16
      go_wp2_with fail
      refine (last_some w17 HPS17.out.two.r1 S HS1.out).mono ?_
      rw [lastN_lastN st1 (Nat.le_refl S)]
      rintro e w18 ⟨lv, rfl, hcl⟩
      have HPS18 := Lib.hid (HPS17.out.below hcl.below)
      have HLV := Lib.hid hcl.row.ints
      obtain ⟨A8, n8, c8, rfl, -, -, -⟩ := hcl.row.ints.get
      have HLL18 : Hid ((lastN S st1).length ≤ 100000000000000) := (by rw [lastN_length]; omega : _ ≤ _)
      have HBW := Lib.hid (HB1.out.trans (HPS18.out.two.bel.mono HB1.out.size))
      clear hcl HPS17
      by_cases ho : other < 1 ∨ 134217728 < other
      · go_wp2_with fail
        refine (new_bad w18 other _ ho).mono ?_
        rintro e w19 ⟨rfl, hb⟩
        have HB19 := Lib.hid (HBW.out.trans (hb.mono HBW.out.size))
        clear hb
        go_wp2_with fail
        refine (num_any w19 _).mono ?_
        rintro e w20 ⟨rfl, rfl⟩
        go_wp2_with (go_at_call 12; refine (works_at HB19.out).mono ?_; rintro e w21 ⟨rfl, hb⟩; have HBE := Lib.hid hb; clear hb)
        go_ret
        exact ⟨rfl, HBE.out⟩
      · obtain ⟨S', rfl⟩ : ∃ S' : Nat, other = (S' : Int) := ⟨other.toNat, by omega⟩
        have HO1 : Hid (1 ≤ S') := (by omega : 1 ≤ S')
        have HO2 : Hid (S' ≤ 134217728) := (by omega : S' ≤ _)
        clear ho
        go_wp2_with fail
        refine (new_ok w18 HO1.out HO2.out HLV.out HU1.out HLL18.out).mono ?_
        rintro e w19 ⟨gp, vp, rfl, hm⟩
        have HPS19 := Lib.hid (HPS18.out.below hm.below)
        have HM19 := Lib.hid hm
        have HB19 := Lib.hid (HBW.out.trans (hm.below.mono HBW.out.size))
        clear hm HPS18
        go_wp2_with fail
        refine (num_any w19 _).mono ?_
        rintro e w20 ⟨rfl, rfl⟩
        by_cases hSS : S' = S
        · subst hSS
          go_wp2_with fail
          refine (eq_ring w20 HM19.out.ring HPS19.out.two.r1).mono ?_
          rw [eq_true_of (show lastN S' (keepL S' (lastN S' st1)) = lastN S' st1 by rw [keepL_last]; exact lastN_lastN st1 (Nat.le_refl S'))]
          rintro e w21 ⟨rfl, hm⟩
          have HB21 := Lib.hid (below_next3 HB19.out hm)
          clear hm
          go_wp2_with (go_at_call 12; refine (works_at HB21.out).mono ?_; rintro e w22 ⟨rfl, hb⟩; have HBE := Lib.hid hb; clear hb)
          go_ret
          exact ⟨rfl, HBE.out⟩
        · have hne : ((S' : Int) == (S : Int)) = false := by simp; omega
          have HD3 : Hid (decide (S' = S) = false) := (decide_eq_false hSS : _ = _)
          clear hSS
          go_wp2_with fail
          refine (eq_ring w20 HM19.out.ring HPS19.out.two.r1).mono ?_
          rw [HD3.out, Bool.false_and]
          rintro e w21 ⟨rfl, hm⟩
          have HB21 := Lib.hid (below_next3 HB19.out hm)
          clear hm
          go_wp2_with (go_at_call 12; refine (works_at HB21.out).mono ?_; rintro e w22 ⟨rfl, hb⟩; have HBE := Lib.hid hb; clear hb)
          go_ret
          exact ⟨rfl, HBE.out⟩

theorem ringClones_walk (size : Int) (_ : (Lit.int .i64 size).wf = true) (v1 : Value) (l : List ActD) {w : World} (w1 : Acts w v1 l) (x y : ActD) (hx : x.Ok w) (hy : y.Ok w) (other : Int) (_ : (Lit.int .i64 other).wf = true) :
    Calls Try.prog 8 #[.int .i64 size, v1, twoVal x y, .int .i64 other] w fun e w' => e = .returned (.bool true) ∧ Below w.heap.size w w' := by
  by_cases h : size < 1 ∨ (1 ≤ size ∧ (300 < size ∨ (size ≤ 300 ∧ (¬ fewP l 20 ∨ (fewP l 20 ∧ ¬ fewP [x, y] 2)))))
  · exact rc_else size v1 l x y other w1 hx hy h
  · have h1 : 1 ≤ size := by omega
    have h2 : size ≤ 300 := by omega
    have h3 : fewP l 20 := Classical.byContradiction fun hn => h (.inr ⟨h1, .inr ⟨h2, .inl hn⟩⟩)
    have h4 : fewP [x, y] 2 := Classical.byContradiction fun hn => h (.inr ⟨h1, .inr ⟨h2, .inr ⟨h3, hn⟩⟩⟩)
    obtain ⟨S, rfl⟩ : ∃ S : Nat, size = (S : Int) := ⟨size.toNat, by omega⟩
    exact rc_main S v1 l x y other w1 hx hy (by omega) (by omega) h3 h4
end Go.Proofs.Ytohmkcoodaidcaa
