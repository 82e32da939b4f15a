/-
  The ring's laws: act, by Copy.
-/
import Derived.Test.YtohmkcoodaidcaaRgAct
namespace Go.Proofs.Ytohmkcoodaidcaa
open Go.RowKit

/-- What the reference's Copy does at a call. -/
def RefCopies (S : Nat) (cv : Value) (T : Nat) (C : List Int) (off n : Int) (T' : Nat) (C' out : List Int) (no : Int) : Prop :=
  ∀ W : World, Ints W .u8 cv C → Calls Try.prog 39 #[rv S cv T, .int .i64 off, .int .i64 n] W fun e w' => ∃ bv' ov, e = .returned (.tuple #[rv S bv' T', ov, .int .i64 no]) ∧
    Ints w' .u8 bv' C' ∧ Ints w' .u8 ov out ∧ Below W.heap.size W w' ∧ ((bv' = cv ∧ C' = C) ∨ ∀ k, bv'.ownBlock = some k → W.heap.size ≤ k) ∧ ∀ k, ov.ownBlock = some k → W.heap.size ≤ k
/-- What the ring's Copy does at a call. -/
def RingCopies (g : Nat) (v : Value) (S : Nat) (st : List Int) (T : Nat) (off n : Int) (st' : List Int) (T' : Nat) (out : List Int) (no : Int) : Prop :=
  ∀ W : World, Ring W g v S st T → Calls Try.prog 14 #[rp g, .int .i64 off, .int .i64 n] W fun e w' => ∃ ov v', e = .returned (.tuple #[ov, .int .i64 no]) ∧
    Put W w' g v v' S st' T' ∧ Ints w' .u8 ov out ∧ ∀ k, ov.ownBlock = some k → W.heap.size ≤ k

theorem Put.same {w w' : World} {g : Nat} {v : Value} {S : Nat} {st : List Int} {T : Nat} (h : Ring w g v S st T) (hb : Below w.heap.size w w') : Put w w' g v v S st T :=
  ⟨h.below hb (Nat.le_refl _), .inl rfl, But.of_below hb g _⟩

theorem refCopies_arg {S : Nat} {cv : Value} {T : Nat} {C : List Int} {off n : Int} (hn : n < 0 ∨ 131072 < n) : RefCopies S cv T C off n T C [] 2 := fun W hC => by
  obtain ⟨A, N, c, rfl, -, -, -⟩ := hC.get
  refine (refCopy_arg W S A N c T off n hn).mono fun e w' ⟨he, hb⟩ => ⟨_, _, he, hC.below hb (Nat.le_refl _), Ints.nil _ _, hb, .inl ⟨rfl, rfl⟩, fun k hk => by cases hk⟩
theorem refCopies_seq {S : Nat} {cv : Value} {T : Nat} {C : List Int} {off n : Int} (h0 : 0 ≤ n) (hn : n ≤ 131072) (ho : off < 1 ∨ (C.length : Int) < off) : RefCopies S cv T C off n T C [] 15 := fun W hC => by
  obtain ⟨A, N, c, rfl, -, -, hat⟩ := hC.get
  rw [hat.1] at ho
  refine (refCopy_seq W S A N c T off n h0 hn ho).mono fun e w' ⟨he, hb⟩ => ⟨_, _, he, hC.below hb (Nat.le_refl _), Ints.nil _ _, hb, .inl ⟨rfl, rfl⟩, fun k hk => by cases hk⟩
theorem refCopies_ok {S : Nat} {cv : Value} {T : Nat} {C : List Int} {off n : Nat} (hS : S ≤ 134217728) (hCS : C.length ≤ S) (hn : n ≤ 131072) (h1 : 1 ≤ off) (h2 : off ≤ C.length) (hT : T + n ≤ 9223372036854775807) :
    RefCopies S cv T C off n (T + n) (lastN S (C ++ copied (lastN off C) off n)) (copied (lastN off C) off n) 0 := fun W hC =>
  (refCopy_ok W S cv T C hC hS hCS off n hn h1 h2 hT).mono fun _ _ ⟨bv', ov, he, hi, ho, hb, h3, h4⟩ => ⟨bv', ov, he, hi, ho, hb, .inr h3, h4⟩
theorem ringCopies_arg {g : Nat} {v : Value} {S : Nat} {st : List Int} {T : Nat} {off n : Int} (hn : n < 0 ∨ 131072 < n) : RingCopies g v S st T off n st T [] 2 := fun W h =>
  (copy_arg W h off n hn).mono fun _ _ ⟨he, hb⟩ => ⟨_, _, he, Put.same h hb, Ints.nil _ _, fun k hk => by cases hk⟩
theorem ringCopies_seq {g : Nat} {v : Value} {S : Nat} {st : List Int} {T : Nat} {off n : Int} (h0 : 0 ≤ n) (hn : n ≤ 131072) (ho : off < 1 ∨ ((min S st.length : Nat) : Int) < off) : RingCopies g v S st T off n st T [] 15 := fun W h =>
  (copy_seq W h off n h0 hn ho).mono fun _ _ ⟨he, hb⟩ => ⟨_, _, he, Put.same h hb, Ints.nil _ _, fun k hk => by cases hk⟩
theorem ringCopies_ok {g : Nat} {v : Value} {S : Nat} {st : List Int} {T : Nat} {off n : Nat} (h1 : n ≤ 131072) (ho : 1 ≤ off) (ho2 : off ≤ min S st.length) (hT : T + n ≤ 9223372036854775807) :
    RingCopies g v S st T off n (keepL S (st ++ copied (lastN off st) off n)) (T + n) (copied (lastN off st) off n) 0 := fun W h =>
  (copy_ok W h off n h1 ho ho2 hT).mono fun _ _ ⟨ov, v', he, hp⟩ => ⟨ov, v', he, hp.put, hp.row.ints, hp.own⟩

/-- A box of three cells is made and filled. -/
theorem box_made (W : World) (t : TypeId) (a b c : Value) (z : Array Value) (hz : z.size = 3) :
    Blk ((((W.alloc (.cells z t)).setCell ⟨W.heap.size, 0, none⟩ a).setCell ⟨W.heap.size, 1, none⟩ b).setCell ⟨W.heap.size, 2, none⟩ c) W.heap.size t #[a, b, c] := by
  have h := (((Blk.new W t z).set_ 0 a).set_ 1 b).set_ 2 c
  refine h.congr ?_
  match z, hz with
  | ⟨[x, y, u]⟩, _ => rfl
theorem box_below (W : World) (t : TypeId) (a b c : Value) (z : Array Value) :
    Below W.heap.size W ((((W.alloc (.cells z t)).setCell ⟨W.heap.size, 0, none⟩ a).setCell ⟨W.heap.size, 1, none⟩ b).setCell ⟨W.heap.size, 2, none⟩ c) :=
  ((((Below.refl _ W).alloc (Nat.le_refl _) _).setCell (p := ⟨W.heap.size, 0, none⟩) (Nat.le_refl _) a).setCell (p := ⟨W.heap.size, 1, none⟩) (Nat.le_refl _) b).setCell (p := ⟨W.heap.size, 2, none⟩) (Nat.le_refl _) c

/-- What the last region of act reads. -/
def K10 (n9 : Nat) (S : Nat) (b : Value) (T' : Nat) (v7 v4 : Value) (out : List Int) (W : World) : Prop :=
  W.cell? ⟨n9, 0, none⟩ = some (.int .i64 S) ∧ W.cell? ⟨n9, 1, none⟩ = some b ∧ W.cell? ⟨n9, 2, none⟩ = some (.int .i64 T') ∧
    (convert 27 9 v7).run Try.prog W = .ok (.string (strOfNums out)) W ∧ (convert 27 9 v4).run Try.prog W = .ok (.string (strOfNums out)) W
theorem K10.mk {W : World} {n9 S T' n7 c7 n4 c4 : Nat} {A7 A4 : Option Addr} {b : Value} {out : List Int} (h : Blk W n9 36 #[.int .i64 S, b, .int .i64 T']) (h7 : Ints W .u8 (.slice A7 n7 c7) out) (h4 : Ints W .u8 (.slice A4 n4 c4) out) :
    K10 n9 S b T' (.slice A7 n7 c7) (.slice A4 n4 c4) out W := ⟨h.three.1, h.three.2.1, h.three.2.2.1, conv_str h7, conv_str h4⟩

theorem K10.stores {W : World} {n9 S T' n7 c7 n4 c4 m : Nat} {A7 A4 : Option Addr} {b : Value} {out : List Int} (h : Blk W n9 36 #[.int .i64 S, b, .int .i64 T']) (h7 : Ints W .u8 (.slice A7 n7 c7) out) (h4 : Ints W .u8 (.slice A4 n4 c4) out)
    (hm : m < n9) (h5 : ∀ k, (Value.slice A7 n7 c7).ownBlock = some k → m < k) (h6 : ∀ k, (Value.slice A4 n4 c4).ownBlock = some k → m < k) (u0 u1 u2 : Value) :
    K10 n9 S b T' (.slice A7 n7 c7) (.slice A4 n4 c4) out (((W.setCell ⟨m, 0, none⟩ u0).setCell ⟨m, 1, none⟩ u1).setCell ⟨m, 2, none⟩ u2) := by
  have hb : But W (((W.setCell ⟨m, 0, none⟩ u0).setCell ⟨m, 1, none⟩ u1).setCell ⟨m, 2, none⟩ u2) m none := (((But.refl W _ _).set_ 0 u0).set_ 1 u1).set_ 2 u2
  exact K10.mk (h.but hb (by omega) (by simp)) (h7.but hb (fun _ k hk => ⟨by have := h5 k hk; omega, by simp⟩)) (h4.but hb (fun _ k hk => ⟨by have := h6 k hk; omega, by simp⟩))

set_option maxHeartbeats 3200000 in
set_option maxRecDepth 100000 in
theorem act_copy (w : World) {g : Nat} {v cv : Value} {S T : Nat} {st : List Int} (x : ActD) (hr : Ring w g v S st T) (hC : Ints w .u8 cv (lastN S st)) (hfar : lastN S st ≠ [] → ∀ k, cv.ownBlock = some k → k ≠ g ∧ v.ownBlock ≠ some k) (hok : x.Ok w) (hwhat : x.what = 3 ∨ x.what = 4)
    {T' : Nat} {st' C' out : List Int} {no : Int} (h1 : RefCopies S cv T (lastN S st) x.off x.n T' C' out no) (h2 : RingCopies g v S st T x.off x.n st' T' out no) (hCC : C' = lastN S st') (hT : T' ≤ T + 131072) :
    Calls Try.prog 20 #[rp g, rv S cv T, x.val] w fun e w' => ∃ g' v' st' T' cv', e = .returned (.tuple #[rp g', rv S cv' T', .bool true]) ∧ Acted w w' g g' v v' S st st' T T' cv cv' := by
  obtain ⟨what, bv, b, off, n⟩ := x
  simp only at hwhat h1 h2
  obtain ⟨hx, -, -⟩ := hok
  simp only at hx
  have HFAR := Lib.hid hfar
  have HTT : Hid (T' ≤ T + 131072) := (hT : _ ≤ _)
  have HCC : Hid (C' = lastN S st') := (hCC : _ = _)
  have H1 := Lib.hid h1
  have H2 := Lib.hid h2
  have HCW := Lib.hid hC
  have hg := hr.lt
  have hv := hr.row.lt
  obtain ⟨A, N, c, rfl, -, -, -⟩ := hC.get
  obtain ⟨Ab, nb, cb, rfl, -, -, -⟩ := hx.get
  have hbx : ActBx w (((w.alloc (.cells #[.int .i64 S, .slice A N c, .int .i64 T] 36)).alloc (.cells #[.int .i64 what, .slice Ab nb cb, .int .i64 off, .int .i64 n] 43)).alloc (.cells #[.int .i64 0, .slice none 0 0, .int .i64 0] 36)) g v S (.slice A N c) T ⟨what, .slice Ab nb cb, b, off, n⟩ :=
    ActBx.start rfl rfl rfl hg hv
  have hbl : Below w.heap.size w (((w.alloc (.cells #[.int .i64 S, .slice A N c, .int .i64 T] 36)).alloc (.cells #[.int .i64 what, .slice Ab nb cb, .int .i64 off, .int .i64 n] 43)).alloc (.cells #[.int .i64 0, .slice none 0 0, .int .i64 0] 36)) :=
    (((Below.refl w.heap.size w).alloc (Nat.le_refl _) _).alloc (by simp) _).alloc (by simp; omega) _
  have HBX := Lib.hid hbx
  have HC0 := Lib.hid (hC.below hbl (Nat.le_refl _))
  have HR0 := Lib.hid (hr.below hbl (Nat.le_refl _))
  have HV := Lib.hid hv
  clear hbx hbl hC hx hr hv h1 h2 hfar hT hCC
  unfold rp rv ActD.val
  rcases hwhat with rfl | rfl
  all_goals
    go_enter Try.func20, Try.ntmps20
    go_wp2_with fail
    generalize ((w.alloc (.cells #[.int .i64 S, .slice A N c, .int .i64 T] 36)).alloc (.cells #[.int .i64 _, .slice Ab nb cb, .int .i64 off, .int .i64 n] 43)).alloc (.cells #[.int .i64 0, .slice none 0 0, .int .i64 0] 36) = W0 at HBX HC0 HR0 ⊢
    refine (H1.out W0 HC0.out).mono ?_
    rintro e w3 ⟨bv', ov, rfl, hi, hio, hb, hbo, hoo⟩
    obtain ⟨A3, n3, c3, rfl, -, -, -⟩ := hi.get
    obtain ⟨A4, n4, c4, rfl, -, -, -⟩ := hio.get
    have HBX3 := Lib.hid (HBX.out.below hb)
    have HR3 := Lib.hid (HR0.out.below hb (Nat.le_refl _))
    have HI3 := Lib.hid hi
    have HIO3 := Lib.hid hio
    have HBO := Lib.hid hbo
    have HOO := Lib.hid hoo
    have HS9 := Lib.hid hb.size
    clear hi hio hb hbo hoo
    obtain ⟨q0, q1, q2, q3, q4, q5, q6⟩ := HBX3.out.cells
    have l1 : w.heap.size < w3.heap.size := by have := HBX3.out.size; omega
    have l2 : w.heap.size + 1 < w3.heap.size := by have := HBX3.out.size; omega
    go_wp2_with fail
    clear l1 l2
    have hb9 := Blk.new w3 36 #[.int .i64 S, .slice A3 n3 c3, .int .i64 T']
    have hbl9 := (Below.refl w3.heap.size w3).alloc (Nat.le_refl _) (.cells #[.int .i64 S, .slice A3 n3 c3, .int .i64 T'] 36)
    generalize w3.alloc (.cells #[.int .i64 S, .slice A3 n3 c3, .int .i64 T'] 36) = W6 at hb9 hbl9 ⊢
    have HBX6 := Lib.hid (HBX3.out.below hbl9)
    have HI6 := Lib.hid (HI3.out.below hbl9 (Nat.le_refl _))
    have HIO6 := Lib.hid (HIO3.out.below hbl9 (Nat.le_refl _))
    have HR6 := Lib.hid (HR3.out.below hbl9 (Nat.le_refl _))
    have HB9 := Lib.hid hb9
    clear hb9 hbl9
    refine (H2.out W6 HR6.out).mono ?_
    rintro e w7 ⟨ov7, v', rfl, hp, hi7, ho7⟩
    obtain ⟨A7, n7, c7, rfl, -, -, -⟩ := hi7.get
    have hn9 : w.heap.size + 1 + 1 < w3.heap.size := HBX3.out.size
    have hn0 : w.heap.size + 1 + 1 < W0.heap.size := HBX.out.size
    have hglt : g < w.heap.size := HBX3.out.hg
    have HBX7 := Lib.hid (HBX6.out.next hp.but)
    have H97 := Lib.hid (HB9.out.but hp.but (by omega) (fun e => by have := HV.out _ e; omega))
    have HIO7 := Lib.hid (HIO6.out.but hp.but (fun _ k hk => ⟨by have := HOO.out k hk; omega, fun e => by have := HOO.out k hk; have := HV.out k e; omega⟩))
    have HI7 := Lib.hid (HI6.out.but hp.but (fun hne k hk => by
      rcases HBO.out with ⟨e1, e2⟩ | h
      · rw [e1] at hk; rw [e2] at hne; exact HFAR.out hne k hk
      · exact ⟨by have := h k hk; omega, fun e => by have := h k hk; have := HV.out k e; omega⟩))
    have HP := Lib.hid hp
    have HI77 := Lib.hid hi7
    have HN9 := Lib.hid hn9
    have HN0 := Lib.hid hn0
    have HGL := Lib.hid hglt
    have HO7 : Hid (∀ b, (Value.slice A7 n7 c7).ownBlock = some b → w.heap.size + 1 + 1 < b) := (fun b hb => by have := ho7 b hb; have := HBX6.out.size; omega : ∀ b, _)
    have HO4 : Hid (∀ b, (Value.slice A4 n4 c4).ownBlock = some b → w.heap.size + 1 + 1 < b) := (fun b hb => by have := HOO.out b hb; omega : ∀ b, _)
    clear hp hi7 hn9 hn0 hglt ho7
    have K7 : Hid (K10 w3.heap.size S (.slice A3 n3 c3) T' (.slice A7 n7 c7) (.slice A4 n4 c4) out w7.drew) := (K10.mk (W := w7.drew) (H97.out : Blk w7 _ _ _) (HI77.out : Ints w7 _ _ _) (HIO7.out : Ints w7 _ _ _) : K10 _ _ _ _ _ _ _ _)
    go_wp2
    go_region_held3 (fun w' => w'.cell? ⟨w3.heap.size, 0, none⟩ = some (.int .i64 S) ∧ w'.cell? ⟨w3.heap.size, 1, none⟩ = some (.slice A3 n3 c3) ∧ w'.cell? ⟨w3.heap.size, 2, none⟩ = some (.int .i64 T') ∧
        (convert 27 9 (.slice A7 n7 c7)).run Try.prog w' = .ok (.string (strOfNums out)) w' ∧ (convert 27 9 (.slice A4 n4 c4)).run Try.prog w' = .ok (.string (strOfNums out)) w')
      (first | exact K7.out | exact K8.out | exact K9.out _ _ _)
      (first
        | (go_at_call 19; refine (num_any w7.drew _).mono ?_; rintro e w8 ⟨rfl, hw⟩; have HW8 := Lib.hid hw; have HBX8 : Hid (ActBx w w8 g v S (.slice A N c) T ⟨_, .slice Ab nb cb, b, off, n⟩) := (by rw [hw]; exact HBX7.out.drew : ActBx _ _ _ _ _ _ _ _); have K8 : Hid (K10 w3.heap.size S (.slice A3 n3 c3) T' (.slice A7 n7 c7) (.slice A4 n4 c4) out w8) := (by rw [hw]; exact K7.out : K10 _ _ _ _ _ _ _ _); have K9 : Hid (∀ u0 u1 u2 : Value, K10 w3.heap.size S (.slice A3 n3 c3) T' (.slice A7 n7 c7) (.slice A4 n4 c4) out (((w8.setCell ⟨w.heap.size + 1 + 1, 0, none⟩ u0).setCell ⟨w.heap.size + 1 + 1, 1, none⟩ u1).setCell ⟨w.heap.size + 1 + 1, 2, none⟩ u2)) := (by rw [hw]; exact K10.stores (W := w7.drew) (H97.out : Blk w7 _ _ _) (HI77.out : Ints w7 _ _ _) (HIO7.out : Ints w7 _ _ _) HN9.out HO7.out HO4.out : ∀ u0 u1 u2 : Value, _); obtain ⟨j1, j2, j3, j4, j5, j6⟩ := HBX8.out.b7.three; clear hw))
    all_goals
      go_wp2
      refine bodyPost_ret (v := .tuple #[.pointer (some ⟨g, 0, none⟩), .agg #[.int .i64 S, .slice A3 n3 c3, .int .i64 T'], .bool true]) (by simp [results, Try.results20, go_sem, j1, j2, j3]) rfl ?_
      have hp : Put W6 w8 g v v' S st' T' := by rw [HW8.out]; exact ⟨HP.out.ring.drewN 1, HP.out.own, HP.out.but.drewN 1⟩
      have hi8 : Ints w8 .u8 (.slice A3 n3 c3) (lastN S st') := by rw [HW8.out, ← HCC.out]; exact (HI7.out : Ints w7 _ _ _)
      have h0 := HN0.out
      have h9 := HN9.out
      have h6 := HBX6.out.size
      refine ⟨g, v', st', T', .slice A3 n3 c3, rfl, Acted.fin HBX8.out hp.ring (.inl rfl) ?_ hi8 ?_ ?_ HTT.out _ _ _⟩
      · rcases hp.own with e | e
        · exact .inl e
        · exact .inr fun k hk => by have := e k hk; omega
      · rcases HBO.out with ⟨e1, e2⟩ | h
        · refine .inl ⟨e1, by rw [← HCC.out, e2], fun hne k hk => HCW.out.own_lt ?_ hk⟩
          rw [← HCC.out, e2] at hne; exact hne
        · exact .inr fun k hk => by have := h k hk; omega
      · intro hne k hk
        rw [← HCC.out] at hne
        have hk6 := HI6.out.own_lt hne hk
        rcases HBO.out with ⟨e1, e2⟩ | h
        · rw [e1] at hk
          rw [e2] at hne
          have hk1 := HCW.out.own_lt hne hk
          have hk2 := HFAR.out hne k hk
          refine ⟨hk2.1, fun e => ?_⟩
          rcases hp.own with h | h
          · rw [h] at e; exact hk2.2 e
          · have := h k e; omega
        · have := h k hk
          refine ⟨by have := HGL.out; omega, fun e => ?_⟩
          rcases hp.own with h5 | h5
          · rw [h5] at e; have := HV.out k e; omega
          · have := h5 k e; omega
end Go.Proofs.Ytohmkcoodaidcaa
