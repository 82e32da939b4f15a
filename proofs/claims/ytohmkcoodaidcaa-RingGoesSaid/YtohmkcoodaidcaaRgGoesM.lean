/-
  RingGoes: the law's walk.
-/
import Derived.Test.YtohmkcoodaidcaaRgGoesE
namespace Go.Proofs.Ytohmkcoodaidcaa
set_option linter.all false
set_option maxRecDepth 100000
open Go.RowKit Go.Shelf

attribute [local go_sem] Oper.semAt_some eql_func_nil

/-- The law's state ahead of the iteration: its boxes, the ring, the reference. -/
structure GoSt (w W : World) (q g : Nat) (v : Value) (S : Nat) (st : List Int) (T : Nat) (cv : Value) (xw xo xn : Int) (xb : Value) : Prop where
  below : Below w.heap.size w W
  kr : Blk W (w.heap.size + 1) 4 #[.bool false]
  ka : Blk W w.heap.size 43 #[.int .i64 xw, xb, .int .i64 xo, .int .i64 xn]
  kq : Blk W q 36 #[.int .i64 S, cv, .int .i64 T]
  ring : Ring W g v S st T
  ref : Ints W .u8 cv (lastN S st)
  hg : w.heap.size + 1 < g ∧ g ≠ q
  hq : w.heap.size + 1 < q
  hv : ∀ k, v.ownBlock = some k → w.heap.size + 1 < k ∧ k ≠ q
  hc : ∀ k, cv.ownBlock = some k → k ≠ g ∧ v.ownBlock ≠ some k
theorem GoSt.next {w W W' : World} {q g : Nat} {v : Value} {S : Nat} {st : List Int} {T : Nat} {cv : Value} {xw xo xn : Int} {xb : Value} (h : GoSt w W q g v S st T cv xw xo xn xb) (hb : Below W.heap.size W W') : GoSt w W' q g v S st T cv xw xo xn xb :=
  { h with below := h.below.trans (hb.mono h.below.size), kr := h.kr.below hb h.kr.lt, ka := h.ka.below hb h.ka.lt, kq := h.kq.below hb h.kq.lt, ring := h.ring.below hb (Nat.le_refl _), ref := h.ref.below hb (Nat.le_refl _) }

set_option maxHeartbeats 6400000 in
theorem rgo_main {w : World} (S : Nat) (v1 v2 : Value) (ah bs : List Int) (h1 : Ints w .u8 v1 ah) (h2 : Ints w .u8 v2 bs) (hu1 : U8s ah) (hu2 : U8s bs) (many : Int) (hmany : -9223372036854775808 ≤ many ∧ many ≤ 9223372036854775807) (x : ActD) (hx : x.Ok w)
    (s1 : 1 ≤ S) (s2 : S ≤ 300) (s3 : ah.length ≤ 100) (s4 : bs.length ≤ 300) (hf : fewP [x] 1) :
    Calls Try.prog 9 #[.int .i64 S, v1, v2, .int .i64 many, .agg #[.int .i64 x.what, x.bv, .int .i64 x.off, .int .i64 x.n]] w fun e w' => e = .returned (.bool true) ∧ Below w.heap.size w w' := by
  have HI1 := Lib.hid h1
  have HI2 := Lib.hid h2
  obtain ⟨A1, n1, c1, rfl, a1, a2, hat1⟩ := h1.get
  obtain ⟨A2, n2, c2, rfl, b1, b2, hat2⟩ := h2.get
  have HN1 : Hid (ah.length = n1) := (hat1.1 : _ = _)
  have HN2 : Hid (bs.length = n2) := (hat2.1 : _ = _)
  have HX := Lib.hid hx
  have HU1 := Lib.hid hu1
  have HU2 := Lib.hid hu2
  have HMANY := Lib.hid hmany
  obtain ⟨xw, xbv, xb, xo, xn⟩ := x
  obtain ⟨Ax, nx, cx, hbx, -⟩ := hx.ints.get
  simp only at hbx
  subst hbx
  have m1 : n1 ≤ 100 := by have := HN1.out; omega
  have m2 : n2 ≤ 300 := by have := HN2.out; omega
  have HB1 : Hid (1 ≤ S ∧ S ≤ 134217728 ∧ n1 ≤ 100 ∧ n2 ≤ 300) := (by omega : _ ∧ _)
  have HSM := Lib.hid (hf.2 _ (List.mem_singleton_self _))
  have HD : Hid (decide (fewP [⟨xw, .slice Ax nx cx, xb, xo, xn⟩] 1) = true) := (decide_eq_true hf : _ = _)
  have d1 : decide ((S : Int) < 1) = false := decide_eq_false (by omega)
  have d2 : decide (300 < (S : Int)) = false := decide_eq_false (by omega)
  have d3 : decide (100 < (n1 : Int)) = false := decide_eq_false (by omega)
  have d4 : decide (300 < (n2 : Int)) = false := decide_eq_false (by omega)
  have n1i : (n1 : Int) ≤ 9223372036854775807 := by omega
  have n2i : (n2 : Int) ≤ 9223372036854775807 := by omega
  clear hx h1 h2 hat1 hat2 hu1 hu2 hf s3 s4 m1 m2 hmany
  obtain ⟨i0, hi, hz0, hz1, hz2⟩ := info_parts infoBool
  obtain ⟨i1, hi1, hz3, hz4, hz5⟩ := info_parts infoInt
  obtain ⟨i2, hi2, hz6, hz7, hz8⟩ := info_parts infoRef
  obtain ⟨wf, hwf⟩ : ∃ wf, ((w.alloc (.cells #[.int .i64 xw, .slice Ax nx cx, .int .i64 xo, .int .i64 xn] 43)).alloc (.cells #[.bool false] 4)).alloc (.cells #[.int .i64 xw, .slice Ax nx cx, .int .i64 xo, .int .i64 xn] 43) = wf := ⟨_, rfl⟩
  have hbf : Below w.heap.size w wf := by rw [← hwf]; exact (((Below.refl w.heap.size w).alloc (Nat.le_refl _) _).alloc (by simp) _).alloc (by simp; omega) _
  have hsf : wf.heap.size = w.heap.size + 1 + 1 + 1 := by rw [← hwf]; simp
  have hka : Blk wf w.heap.size 43 #[.int .i64 xw, .slice Ax nx cx, .int .i64 xo, .int .i64 xn] := by
    rw [← hwf]
    exact (Blk.new w _ _).below (((Below.refl _ _).alloc (Nat.le_refl _) _).alloc (by simp) _) (by simp)
  have hkr : Blk wf (w.heap.size + 1) 4 #[.bool false] := by
    have h1 := Blk.new (w.alloc (.cells #[.int .i64 xw, .slice Ax nx cx, .int .i64 xo, .int .i64 xn] 43)) 4 #[.bool false]
    rw [World.size_alloc] at h1
    rw [← hwf]; exact h1.below ((Below.refl _ _).alloc (Nat.le_refl _) _) h1.lt
  have hkb : Blk wf (w.heap.size + 1 + 1) 43 #[.int .i64 xw, .slice Ax nx cx, .int .i64 xo, .int .i64 xn] := by
    have h1 := Blk.new ((w.alloc (.cells #[.int .i64 xw, .slice Ax nx cx, .int .i64 xo, .int .i64 xn] 43)).alloc (.cells #[.bool false] 4)) 43 #[.int .i64 xw, .slice Ax nx cx, .int .i64 xo, .int .i64 xn]
    rw [World.size_alloc, World.size_alloc] at h1
    rw [← hwf]; exact h1
  have hfew := few_any wf (.slice (some ⟨w.heap.size + 1 + 1, 0, none⟩) 1 1) [⟨xw, .slice Ax nx cx, xb, xo, xn⟩] (one_act hkb (HX.out.below hbf (Nat.le_refl _))) 1
  rw [HD.out] at hfew
  have HFEW := Lib.hid hfew
  have HBF := Lib.hid hbf
  have HKA := Lib.hid hka
  have HKR := Lib.hid hkr
  clear hfew hka hkr hkb hbf
  refine (callsIn_wide (n := 20)).1 ?_
  refine callsIn_of_wp_marks Try.func9 rfl trivial ?_ rfl
  simp only [Try.ntmps9, List.size_toArray, List.length_cons, List.length_nil, Nat.reduceAdd, Nat.reduceSub, Array.replicate_succ, Array.replicate_zero, List.push_toArray, List.append_toArray, List.nil_append, List.cons_append]
  gi_wp2
  refine ⟨trivial, ?_⟩
  refine (callsIn_wide.2 HFEW.out).mono ?_
  rintro e wf' ⟨rfl, hw⟩
  obtain rfl : wf = wf' := hw.symm
  clear d1 d2 d3 d4
  gi_wp2
  refine ⟨trivial, ?_⟩
  refine (callsIn_wide.2 (new_ok wf (S := S) HB1.out.1 HB1.out.2.1 (HI1.out.below HBF.out (Nat.le_refl _)) HU1.out (by have := HN1.out; have := HB1.out; omega))).mono ?_
  rintro e w1 ⟨g, v, rfl, hm⟩
  have HM := Lib.hid hm
  have HBF1 := Lib.hid (HBF.out.trans (hm.below.mono HBF.out.size))
  have HKR1 := Lib.hid (HKR.out.below hm.below HKR.out.lt)
  have HKA1 := Lib.hid (HKA.out.below hm.below HKA.out.lt)
  clear hm
  gi_wp2
  refine ⟨trivial, ?_⟩
  refine (callsIn_wide.2 (refNew_ok w1 (S := S) HB1.out.1 HB1.out.2.1 (HI1.out.below HBF1.out (Nat.le_refl _)) (by have := HN1.out; have := HB1.out; omega))).mono ?_
  rintro e w2 ⟨bv2, rfl, hi2, hb2, hk2⟩
  obtain ⟨Ab, nb, cb, rfl, -⟩ := hi2.get
  unfold rv
  have HI3 := Lib.hid hi2
  have HB2 := Lib.hid hb2
  have HK2 := Lib.hid hk2
  clear hi2 hb2 hk2
  gi_wp2
  refine ⟨trivial, ?_⟩
  obtain ⟨w3, hw3⟩ : ∃ w3, w2.alloc (.cells #[.int .i64 S, .slice Ab nb cb, .int .i64 0] 36) = w3 := ⟨_, rfl⟩
  have hb23 : Below w2.heap.size w2 w3 := by rw [← hw3]; exact (Below.refl _ _).alloc (Nat.le_refl _) _
  have hq3 : Blk w3 w2.heap.size 36 #[.int .i64 S, .slice Ab nb cb, .int .i64 0] := by rw [← hw3]; exact Blk.new w2 _ _
  have hs3 : w3.heap.size = w2.heap.size + 1 := by rw [← hw3]; simp
  have hb13 := HB2.out.trans (hb23.mono HB2.out.size)
  have HB13 := Lib.hid hb13
  have HQ3 := Lib.hid hq3
  have HBW3 := Lib.hid (HBF1.out.trans (hb13.mono HBF1.out.size))
  have HR3 := Lib.hid (HM.out.ring.below hb13 (Nat.le_refl _))
  have HS3 := Lib.hid hs3
  have HS2 := Lib.hid HB2.out.size
  clear hb23 hq3 hs3 hb13
  rw [hw3]
  refine (callsIn_wide.2 (add_any w3 HR3.out (HI2.out.below HBW3.out (Nat.le_refl _)) HU2.out (by have := HN2.out; have := HB1.out; omega) (by have := HN2.out; have := HB1.out; omega))).mono ?_
  rintro e w4 ⟨rfl, v4, hp⟩
  have hown1 := HM.out.ring.row.lt
  have hat1 := HM.out.at_
  have hgl1 := HM.out.ring.lt
  have hs23 : w1.heap.size ≤ w2.heap.size := HS2.out
  have hs3e := HS3.out
  have hq4 := HQ3.out.but hp.but (by omega) (fun e => by have := hown1 _ e; omega)
  obtain ⟨q0, q1, q2, q3, q4, q5⟩ := hq4.three
  have HQ4 := Lib.hid hq4
  have HP := Lib.hid hp
  have hi4 : Ints w4 .u8 (.slice Ab nb cb) (lastN S ah) := by
    refine Ints.keep HI3.out fun k _ hk hlt => ?_
    have := HK2.out k hk
    have e1 : w3.heap[k]? = w2.heap[k]? := by rw [← hw3]; exact Below.heap_alloc w2 _ k hlt
    exact (hp.but.block k (by omega) (by omega) (fun e => by have := hown1 _ e.symm; omega)).trans e1
  have hbw4 : Below w.heap.size w w4 := HBW3.out.trans (hp.but.below HBW3.out.size (by have := HBF1.out.size; omega) (fun k hk => by have := HM.out.own k hk; have := HBF.out.size; omega))
  have ha5 := refAdd_any w4 S (.slice Ab nb cb) (.slice A2 n2 c2) 0 _ _ hi4 (HI2.out.below hbw4 (Nat.le_refl _)) (by have := HB1.out; omega) (by rw [lastN_length]; have := HN2.out; have := HB1.out; omega) (by have := HN2.out; have := HB1.out; omega)
  rw [Nat.zero_add, HN2.out] at ha5
  have HA5 := Lib.hid ha5
  have HBW4 := Lib.hid hbw4
  clear hq4 hp hown1 hat1 hgl1 hs23 hs3e hi4 hbw4 ha5
  gi_wp2
  refine ⟨trivial, ?_⟩
  refine (callsIn_wide.2 HA5.out).mono ?_
  rintro e w5 ⟨bv5, rfl, hi5, hb5, hk5⟩
  obtain ⟨Ac, nc, cc, rfl, -⟩ := hi5.get
  unfold rv
  have hown1 := HM.out.ring.row.lt
  have hat1 := HM.out.at_
  have hgl1 := HM.out.ring.lt
  have hs23 : w1.heap.size ≤ w2.heap.size := HS2.out
  have hs3e := HS3.out
  have hsf' := hsf
  have hs4 := HP.out.but.size
  have hs5 := hb5.size
  have hq5 := HQ4.out.below hb5 HQ4.out.lt
  have hr5 := HP.out.ring.below hb5 (Nat.le_refl _)
  rw [Nat.zero_add, HN2.out] at hr5
  have hown4 : ∀ k, v4.ownBlock = some k → w.heap.size + 1 < k ∧ k ≠ w2.heap.size ∧ k < w4.heap.size := fun k hk => by
    have h9 := HP.out.ring.row.lt k hk
    rcases HP.out.own with e | e
    · rw [e] at hk
      have := HM.out.own k hk
      have := hown1 k hk
      omega
    · have := e k hk
      omega
  have hst6 : GoSt w (((w5.setCell ⟨w2.heap.size, 0, none⟩ (.int .i64 S)).setCell ⟨w2.heap.size, 1, none⟩ (.slice Ac nc cc)).setCell ⟨w2.heap.size, 2, none⟩ (.int .i64 n2)) w2.heap.size g v4 S (keepL S (keepL S ah ++ bs)) n2 (.slice Ac nc cc) xw xo xn (.slice Ax nx cx) := by
    have hA : Blk (w5.setCell ⟨w2.heap.size, 0, none⟩ (.int .i64 S)) w2.heap.size 36 #[.int .i64 S, .slice Ab nb cb, .int .i64 0] := (hq5.set_ 0 (.int .i64 S)).congr rfl
    have hB : Blk ((w5.setCell ⟨w2.heap.size, 0, none⟩ (.int .i64 S)).setCell ⟨w2.heap.size, 1, none⟩ (.slice Ac nc cc)) w2.heap.size 36 #[.int .i64 S, .slice Ac nc cc, .int .i64 0] := (hA.set_ 1 (.slice Ac nc cc)).congr rfl
    have hbut : But w5 (((w5.setCell ⟨w2.heap.size, 0, none⟩ (.int .i64 S)).setCell ⟨w2.heap.size, 1, none⟩ (.slice Ac nc cc)).setCell ⟨w2.heap.size, 2, none⟩ (.int .i64 n2)) w2.heap.size none := (((But.refl w5 w2.heap.size none).set_ 0 (.int .i64 S)).set_ 1 (.slice Ac nc cc)).set_ 2 (.int .i64 n2)
    have hb35 : ∀ {b : Nat} {t : TypeId} {cs : Array Value}, Blk w1 b t cs → b ≤ w.heap.size + 1 → Blk w5 b t cs := fun {b t cs} hk hle => by
      have h3 := hk.below HB13.out hk.lt
      exact (h3.but HP.out.but (by omega) (fun e => by have := HM.out.own _ e; omega)).below hb5 (by omega)
    refine ⟨?_, ?_, ?_, (hB.set_ 2 (.int .i64 n2)).congr rfl, hr5.but hbut (by omega) (by simp) (fun e => (hown4 _ e).2.1 rfl) (by simp), ?_, by omega, by omega, fun k hk => ⟨(hown4 k hk).1, (hown4 k hk).2.1⟩, fun k hk => ?_⟩
    · exact ((HBW4.out.trans (hb5.mono HBW4.out.size))).trans (hbut.below (by omega) (by omega) (by simp))
    · exact (hb35 HKR1.out (Nat.le_refl _)).but hbut (by omega) (by simp)
    · exact (hb35 HKA1.out (by omega)).but hbut (by omega) (by simp)
    · have e9 : lastN S (keepL S (keepL S ah ++ bs)) = lastN S (lastN S ah ++ bs) := by rw [keepL_last, ← lastN_append, keepL_last]
      rw [e9]
      exact ints_res hi5 hq5 (fun x e => by cases e) _ _ _
    · have := hk5 k hk
      exact ⟨by omega, fun e => by have := (hown4 k e).2.2; omega⟩
  have HST6 := Lib.hid hst6
  obtain ⟨q0, q1, q2, q3, q4, q5⟩ := hq5.three
  clear hown1 hat1 hgl1 hs23 hs3e hsf' hs4 hs5 hq5 hr5 hown4 hst6 hi5 hb5 hk5 HA5 HQ4 HP
  gi_wp2
  refine ⟨trivial, ?_⟩
  clear q0 q1 q2 q3 q4 q5
  generalize ((w5.setCell ⟨w2.heap.size, 0, none⟩ (.int .i64 S)).setCell ⟨w2.heap.size, 1, none⟩ (.slice Ac nc cc)).setCell ⟨w2.heap.size, 2, none⟩ (.int .i64 n2) = w6 at HST6 ⊢
  obtain ⟨st, hst⟩ : ∃ st, keepL S (keepL S ah ++ bs) = st := ⟨_, rfl⟩
  rw [hst] at HST6
  clear hst
  refine (callsIn_wide.2 (all_any w6 HST6.out.ring)).mono ?_
  rintro e w7 ⟨B, bv7, rfl, hBc, hI7, hb7, hB, hk7⟩
  have HST7 := Lib.hid (HST6.out.next hb7)
  have HBC := Lib.hid hBc
  have HI7 := Lib.hid hI7
  have hlB := World.block_lt_of_cell? _ _ hBc
  simp only at hlB
  have HFAR : Hid ((B ≠ g ∧ v4.ownBlock ≠ some B ∧ B < w7.heap.size) ∧ ∀ k, bv7.ownBlock = some k → k ≠ g ∧ v4.ownBlock ≠ some k) := (by
    have h1 := HST6.out.ring.lt
    have h2 := HST6.out.ring.row.lt
    refine ⟨⟨by omega, fun e => by have := h2 _ e; omega, hlB⟩, fun k hk => ?_⟩
    have := hk7 k hk
    exact ⟨by omega, fun e => by have := h2 _ e; omega⟩ : _ ∧ _)
  clear hBc hI7 hb7 hB hk7 hlB HST6
  gi_wp2
  refine ⟨trivial, ?_⟩
  refine (callsIn_wide.2 (num_any _ _)).mono ?_
  rintro e wn ⟨rfl, hw⟩
  obtain rfl : w7 = wn := hw.symm
  gi_wp2
  refine ⟨trivial, ?_⟩
  refine (callsIn_wide.2 (num_any _ _)).mono ?_
  rintro e wn ⟨rfl, hw⟩
  obtain rfl : w7 = wn := hw.symm
  obtain ⟨q0, q1, q2, -⟩ := HST7.out.kq.three
  gi_wp2
  refine ⟨trivial, ?_⟩
  refine (callsIn_wide.2 (over_any w7 HST7.out.ring _ HST7.out.ref many HMANY.out)).mono ?_
  rintro e w8 ⟨rfl, hb8⟩
  have HST8 := Lib.hid (HST7.out.next hb8)
  have HBC8 := Lib.hid ((hb8.cell (p := ⟨B, 0, none⟩) HFAR.out.1.2.2).trans HBC.out)
  have HI8 := Lib.hid (HI7.out.below hb8 (Nat.le_refl _))
  clear hb8 q0 q1 q2 HST7 HBC HI7
  obtain ⟨q0, q1, q2, -⟩ := HST8.out.kq.three
  obtain ⟨x0, x1, x2, x3⟩ := blk4 HST8.out.ka
  have hact := act_any w8 ⟨xw, .slice Ax nx cx, xb, xo, xn⟩ HST8.out.ring HST8.out.ref (fun _ => HST8.out.hc) (HX.out.below HST8.out.below (Nat.le_refl _)) HSM.out (by have := HB1.out; omega)
  have HACT := Lib.hid hact
  clear hact
  gi_wp2
  refine ⟨trivial, ?_⟩
  refine (callsIn_wide.2 HACT.out).mono ?_
  rintro e w9 ⟨g', v', st', T', cv', rfl, ha⟩
  have HA := Lib.hid ha.but
  clear ha HACT q0 q1 q2 x0 x1 x2 x3
  have hS := HST8.out
  obtain ⟨⟨f1, f2, f3⟩, f4⟩ := HFAR.out
  have hlt8 := hS.ring.lt
  have hs89 := HA.out.size
  have hk9 : Blk w9 w2.heap.size 36 #[.int .i64 S, .slice Ac nc cc, .int .i64 n2] := hS.kq.but HA.out (by have := hS.hg; omega) (fun e => (hS.hv _ e).2 rfl)
  have hr9 : Blk w9 (w.heap.size + 1) 4 #[.bool false] := hS.kr.but HA.out (by have := hS.hg; omega) (fun e => by have := (hS.hv _ e).1; omega)
  have hb9 : Below w.heap.size w w9 := hS.below.trans (HA.out.below hS.below.size (by have := hS.hg; omega) (fun k hk => by have := (hS.hv k hk).1; omega))
  have hBc9 : w9.cell? ⟨B, 0, none⟩ = some bv7 := by
    have h1 := HBC8.out
    have h2 := HA.out.block B (World.block_lt_of_cell? _ _ h1) f1 (fun e => f2 e.symm)
    unfold World.cell? at h1 ⊢
    rw [h2]; exact h1
  obtain ⟨bs9, hbs9⟩ : ∃ b, lastN S st = b := ⟨_, rfl⟩
  have hI9 : Ints w9 .u8 bv7 bs9 := by
    rw [← hbs9]
    exact Ints.keep HI8.out fun k _ hk hlt => HA.out.block k hlt (f4 k hk).1 (fun e => (f4 k hk).2 e.symm)
  have hW9 : Ints w9 .u8 (.slice Ac nc cc) bs9 := by
    rw [← hbs9]
    exact Ints.keep hS.ref fun k _ hk hlt => HA.out.block k hlt (hS.hc k hk).1 (fun e => (hS.hc k hk).2 e.symm)
  obtain ⟨Ac', nc', cc', he, hcl, hcm, hcat⟩ := hW9.get
  injection he with e1 e2 e3
  subst e1 e2 e3
  have HNC : Hid (bs9.length = nc) := (hcat.1 : _ = _)
  have hnci : (nc : Int) ≤ 9223372036854775807 := by omega
  have HK9 := Lib.hid hk9
  have HR9 := Lib.hid hr9
  have HB9 := Lib.hid hb9
  have HBC9 := Lib.hid hBc9
  have HI9 := Lib.hid hI9
  have HW9 := Lib.hid hW9
  clear hS f1 f2 f3 f4 hlt8 hs89 hk9 hr9 hb9 hBc9 hI9 hW9 hcat hbs9
  gi_wp2
  obtain ⟨w10, hw10⟩ : ∃ w10, w9.alloc (.cells #[.int .i64 0] 3) = w10 := ⟨_, rfl⟩
  have hb10 : Below w9.heap.size w9 w10 := by rw [← hw10]; exact (Below.refl _ _).alloc (Nat.le_refl _) _
  have hs10 : w10.heap.size = w9.heap.size + 1 := by rw [← hw10]; simp
  have hcn : Blk w10 w9.heap.size 3 #[.int .i64 0] := by rw [← hw10]; exact Blk.new w9 3 #[.int .i64 0]
  have hlB := World.block_lt_of_cell? _ _ HBC9.out
  simp only at hlB
  rw [hw10]
  have hqlt := HK9.out.lt
  have hrlt := HR9.out.lt
  refine rangeFunc_yield (by omega) (gf := 43) (lb := #[.pointer (some ⟨B, 0, none⟩)]) rfl (enters_of Try.func43 (by kernel_rfl) rfl)
    (ringAll1_yields w9 B bv7 bs9 HI9.out HBC9.out) hb10 (fun k hk => ?_) (fun _ => rfl)
    (fun pre X => Below w9.heap.size w9 X ∧ Blk X w9.heap.size 3 #[.int .i64 pre.length])
    (fun _ _ _ => False) ?_ ?_ ?_ ?round ?done ?stop
  · rcases hk with rfl | ⟨h0, hk⟩
    · omega
    · have := Ints.own_lt0 HI9.out h0 hk; omega
  · rintro pre X Y ⟨h1, h2⟩ hX hXY
    exact ⟨h1.trans (hXY.mono (by omega)), h2.below hXY (by omega)⟩
  · exact fun _ _ _ _ h => h.elim
  · exact ⟨hb10, hcn⟩
  case round =>
    rintro l' pre ⟨x1, x2⟩ W0' K hl' - hpre hK
    obtain ⟨p1, p2, p3⟩ := offsL_at hpre
    simp only at p2 p3
    have e1 : (x1 : Int) = (nc : Int) - pre.length := by have := HNC.out; omega
    have HLEN : Hid ((pre ++ [(x1, x2)]).length = pre.length + 1) := (by simp : _ = _)
    obtain ⟨m, hm⟩ : ∃ m, pre.length = m := ⟨_, rfl⟩
    rw [hm] at e1 p1 p3
    have HM2 := Lib.hid hm
    have g1 : (m : Int) < (nc : Int) := by have := HNC.out; omega
    have g0 : (0 : Int) ≤ (m : Int) := by omega
    clear hm hpre p1 p2
    dsimp only
    rw [e1]
    clear e1
    gi_wp2
    rintro W' hW' ⟨h1, h2⟩
    rw [HM2.out] at h2
    obtain ⟨b, off, rfl, q0⟩ := Ints.cell_at (HW9.out.below h1 (Nat.le_refl _)) p3
    obtain ⟨c0, c1, c2, -⟩ := (HK9.out.below h1 HK9.out.lt).three
    have c4 : W'.cell? ⟨w9.heap.size, 0, none⟩ = some (.int .i64 m) := by rw [h2.cell]; rfl
    have c5 := h2.frozen 0
    have H1 := Lib.hid h1
    have H2 := Lib.hid h2
    have hne1 : w9.heap.size ≠ w2.heap.size := by omega
    clear h1 h2 p3
    gi_wp2
    refine ⟨KeptL.setCell _ _ _ (fun h => ?_), H1.out.setCell (p := ⟨w9.heap.size, 0, none⟩) (Nat.le_refl _) _, ?_⟩
    · rcases h with (h | ⟨h, h'⟩) | h
      · simp only at h; omega
      · have := Ints.own_lt0 HI9.out h h'; simp only at this; omega
      · simp only at h; omega
    · rw [HLEN.out, HM2.out]
      exact (H2.out.set_ 0 (.int .i64 ((m : Int) + 1))).congr (by simp)
  case done =>
    rintro D W' hD hW' ⟨h1, h2⟩ hK
    rw [offsL_length, HNC.out] at h2
    obtain ⟨c0, c1, c2, -⟩ := (HK9.out.below h1 HK9.out.lt).three
    have c4 : W'.cell? ⟨w9.heap.size, 0, none⟩ = some (.int .i64 nc) := by rw [h2.cell]; rfl
    have hr' := HR9.out.below h1 HR9.out.lt
    have hb' := HB9.out.trans (h1.mono HB9.out.size)
    have HR' := Lib.hid hr'
    have HB' := Lib.hid hb'
    clear h1 h2 hr' hb'
    gi_wp2
    refine ⟨trivial, ?_⟩
    refine (callsIn_wide.2 (works_any _)).mono ?_
    rintro e w12 ⟨rfl, hb⟩
    have hDlt : D < W'.heap.size := (Array.getElem?_eq_some_iff.1 hK).1
    have hk12 : w12.heap[D]? = some (.deferred (some [])) := (hb.block _ hDlt).trans hK
    have hr12 := HR'.out.below hb HR'.out.lt
    have hb12 := HB'.out.trans (hb.mono HB'.out.size)
    have hc12 : w12.cell? ⟨w.heap.size + 1, 0, none⟩ = some (.bool false) := by rw [hr12.cell]; rfl
    have hf12 := hr12.frozen 0
    have HR12 := Lib.hid hr12
    have HB12 := Lib.hid hb12
    clear hb hr12 hb12
    gi_wp2
    have hws := HB9.out.size
    obtain ⟨e1, e2, e3⟩ := mark_end HR12.out HB12.out (Nat.le_succ _) hk12 (by omega) (.bool true)
    refine ⟨by simp, .inl ⟨_, _, rfl, run_takeDeferred e1, ?_⟩⟩
    refine ⟨.bool true, ?_, rfl, e3⟩
    simp [results, Try.f9, go_sem, e2]
  case stop =>
    exact fun _ _ _ _ _ _ _ h => h.elim
end Go.Proofs.Ytohmkcoodaidcaa
