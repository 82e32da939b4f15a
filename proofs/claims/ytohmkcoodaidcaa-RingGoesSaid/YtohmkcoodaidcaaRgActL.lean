/-
  The ring's laws: act, by Clone and by Last.
-/
import Derived.Test.YtohmkcoodaidcaaRgActC
namespace Go.Proofs.Ytohmkcoodaidcaa
open Go.RowKit

/-- The box's three cells, as the region's condition. -/
theorem ActBx.box {w W : World} {g : Nat} {v : Value} {S : Nat} {cv : Value} {T : Nat} {x : ActD} (h : ActBx w W g v S cv T x) :
    W.cell? ⟨w.heap.size, 0, none⟩ = some (.int .i64 S) ∧ W.cell? ⟨w.heap.size, 1, none⟩ = some cv ∧ W.cell? ⟨w.heap.size, 2, none⟩ = some (.int .i64 T) := ⟨h.cells.1, h.cells.2.1, h.cells.2.2.1⟩
theorem ActBx.boxes {w W : World} {g : Nat} {v : Value} {S : Nat} {cv : Value} {T : Nat} {x : ActD} (h : ActBx w W g v S cv T x) (u0 u1 u2 : Value) :
    (((W.setCell ⟨w.heap.size + 1 + 1, 0, none⟩ u0).setCell ⟨w.heap.size + 1 + 1, 1, none⟩ u1).setCell ⟨w.heap.size + 1 + 1, 2, none⟩ u2).cell? ⟨w.heap.size, 0, none⟩ = some (.int .i64 S) ∧
    (((W.setCell ⟨w.heap.size + 1 + 1, 0, none⟩ u0).setCell ⟨w.heap.size + 1 + 1, 1, none⟩ u1).setCell ⟨w.heap.size + 1 + 1, 2, none⟩ u2).cell? ⟨w.heap.size, 1, none⟩ = some cv ∧
    (((W.setCell ⟨w.heap.size + 1 + 1, 0, none⟩ u0).setCell ⟨w.heap.size + 1 + 1, 1, none⟩ u1).setCell ⟨w.heap.size + 1 + 1, 2, none⟩ u2).cell? ⟨w.heap.size, 2, none⟩ = some (.int .i64 T) :=
  ⟨(h.cells.stores u0 u1 u2).1, (h.cells.stores u0 u1 u2).2.1, (h.cells.stores u0 u1 u2).2.2.1⟩

set_option maxHeartbeats 3200000 in
set_option maxRecDepth 100000 in
theorem act_clone (w : World) {g : Nat} {v cv : Value} {S T : Nat} {st : List Int} (x : ActD) (hr : Ring w g v S st T) (hC : Ints w .u8 cv (lastN S st)) (hok : x.Ok w)
    (hw0 : x.what ≠ 0) (hw1 : x.what ≠ 1) (hw2 : x.what ≠ 2) (hw3 : x.what ≠ 3) (hw4 : x.what ≠ 4) (hw5 : x.what ≠ 5) :
    Calls Try.prog 20 #[rp g, rv S cv T, x.val] w fun e w' => ∃ g' v' st' T' cv', e = .returned (.tuple #[rp g', rv S cv' T', .bool true]) ∧ Acted w w' g g' v v' S st st' T T' cv cv' := by
  obtain ⟨what, bv, b, off, n⟩ := x
  simp only at hw0 hw1 hw2 hw3 hw4 hw5
  obtain ⟨hx, -, -⟩ := hok
  simp only at hx
  have b0 : (what == 0) = false := by simpa using hw0
  have b1 : (what == 1) = false := by simpa using hw1
  have b2 : (what == 2) = false := by simpa using hw2
  have b3 : (what == 3) = false := by simpa using hw3
  have b4 : (what == 4) = false := by simpa using hw4
  have b5 : (what == 5) = false := by simpa using hw5
  have HCW := Lib.hid hC
  have hg := hr.lt
  have hv := hr.row.lt
  obtain ⟨A, N, c, rfl, -, -, -⟩ := hC.get
  obtain ⟨Ab, nb, cb, rfl, -, -, -⟩ := hx.get
  have hbx : ActBx w (((w.alloc (.cells #[.int .i64 S, .slice A N c, .int .i64 T] 36)).alloc (.cells #[.int .i64 what, .slice Ab nb cb, .int .i64 off, .int .i64 n] 43)).alloc (.cells #[.int .i64 0, .slice none 0 0, .int .i64 0] 36)) g v S (.slice A N c) T ⟨what, .slice Ab nb cb, b, off, n⟩ :=
    ActBx.start rfl rfl rfl hg hv
  have hbl : Below w.heap.size w (((w.alloc (.cells #[.int .i64 S, .slice A N c, .int .i64 T] 36)).alloc (.cells #[.int .i64 what, .slice Ab nb cb, .int .i64 off, .int .i64 n] 43)).alloc (.cells #[.int .i64 0, .slice none 0 0, .int .i64 0] 36)) :=
    (((Below.refl w.heap.size w).alloc (Nat.le_refl _) _).alloc (by simp) _).alloc (by simp; omega) _
  have HBX := Lib.hid hbx.drew
  have HC0 := Lib.hid (hC.below hbl.drew (Nat.le_refl _))
  have HR0 := Lib.hid (hr.below hbl.drew (Nat.le_refl _))
  have HV := Lib.hid hv
  clear hbx hbl hC hx hr hv hw0 hw1 hw2 hw3 hw4 hw5
  unfold rp rv ActD.val
  go_enter Try.func20, Try.ntmps20
  go_wp2
  generalize ((w.alloc (.cells #[.int .i64 S, .slice A N c, .int .i64 T] 36)).alloc (.cells #[.int .i64 _, .slice Ab nb cb, .int .i64 off, .int .i64 n] 43)).alloc (.cells #[.int .i64 0, .slice none 0 0, .int .i64 0] 36) = W0 at HBX HC0 HR0 ⊢
  go_region_held3 (fun w' => w'.cell? ⟨w.heap.size, 0, none⟩ = some (.int .i64 S) ∧ w'.cell? ⟨w.heap.size, 1, none⟩ = some (.slice A N c) ∧ w'.cell? ⟨w.heap.size, 2, none⟩ = some (.int .i64 T))
    (first | exact HBX.out.box | exact HBX3.out.box | exact HBX3.out.boxes _ _ _)
    (first
      | (go_at_call 24; refine (cl_ring W0.drew HR0.out).mono ?_; rintro e w3 ⟨g', v', rfl, hm⟩; have HM := Lib.hid hm; have HBX3 := Lib.hid (HBX.out.below hm.below); have HC3 := Lib.hid (HC0.out.below hm.below (Nat.le_refl _)); obtain ⟨j1, j2, j3, j4, j5, j6⟩ := HBX3.out.b7.three; clear hm))
  all_goals
    go_wp2
    refine bodyPost_ret (v := .tuple #[.pointer (some ⟨g', 0, none⟩), .agg #[.int .i64 S, .slice A N c, .int .i64 T], .bool true]) (by simp [results, Try.results20, go_sem, j1, j2, j3]) rfl ?_
    have h0 := HBX.out.size
    have hm := HM.out
    have hat := hm.at_
    refine ⟨g', v', st, T, .slice A N c, rfl, Acted.fin HBX3.out hm.ring (.inr (by omega)) (.inr fun k hk => by have := hm.own k hk; omega) HC3.out (.inl ⟨rfl, rfl, fun hne k hk => HCW.out.own_lt hne hk⟩) (fun hne k hk => ?_) (by omega) _ _ _⟩
    have hk1 := HCW.out.own_lt hne hk
    exact ⟨by omega, fun e => by have := hm.own k e; omega⟩

/-- The condition that a region keeps may grow. -/
theorem wpAnyH_mono {P : Program} {md : Region.Mode} {ops : Array Oper} {Q : Exit → Act → World → Prop} {S S' : World → Prop} (h : ∀ w, S' w → S w) :
    ∀ (fuel : Nat) (listed : Array Bool) (a : Act) (w : World), wpAnyH P md ops Q S' fuel listed a w → wpAnyH P md ops Q S fuel listed a w
  | 0, _, _, _, h' => h'
  | fuel + 1, _, _, _, h' => ⟨h'.1, fun i hi => wpOp_mono (fun a' w' h2 => ⟨h w' h2.1, wpAnyH_mono h fuel _ a' w' h2.2⟩) (h'.2 i hi)⟩

/-- Take an operation first, its slot written out. -/
theorem wpAnyH_take2 {P : Program} {md : Region.Mode} {ops : Array Oper} {Q : Exit → Act → World → Prop} {S : World → Prop} {i : Nat} {oi : Oper} {d : Option Tmp} {v : Value} {fuel : Nat} {listed : Array Bool} {a : Act} {w : World} (hi : ops[i]? = some oi) (hd : oi.dst = d)
    (hs : Region.noSelect ops = true) (hf : Region.free md ops listed i = true) (hr : (Region.ready md ops listed).contains i = true)
    (hQ : ∀ c a w, Q (.panic c) (a.put d v) w → Q (.panic c) a w) (hy : YieldsIf P ops S oi v a) (hS : S w)
    (h : wpAnyH P md ops Q S fuel (listed.setIfInBounds i true) (a.put d v) w) : wpAnyH P md ops Q S (fuel + 1) listed a w := by
  subst hd
  exact wpAnyH_take hi hs hf hr hQ hy hS h

/-- What Last does, on both sides. -/
def RefLasts (S : Nat) (cv : Value) (T : Nat) (C : List Int) (n : Int) (out : List Int) : Prop :=
  ∀ W : World, Ints W .u8 cv C → Calls Try.prog 40 #[rv S cv T, .int .i64 n] W fun e w' => ∃ v', e = .returned v' ∧ Ints w' .u8 v' out ∧ Below W.heap.size W w' ∧ ∀ k, v'.ownBlock = some k → cv.ownBlock = some k
def RingLasts (g : Nat) (v : Value) (S : Nat) (st : List Int) (T : Nat) (n : Int) (out : List Int) : Prop :=
  ∀ W : World, Ring W g v S st T → Calls Try.prog 16 #[rp g, .int .i64 n] W fun e w' => ∃ v', e = .returned v' ∧ Cloned W w' v' out

theorem conv_stores {W : World} {n c m : Nat} {A : Option Addr} {xs : List Int} (h : Ints W .u8 (.slice A n c) xs) (h5 : xs ≠ [] → ∀ k, (Value.slice A n c).ownBlock = some k → k ≠ m) (u0 u1 u2 : Value) :
    (convert 27 9 (.slice A n c)).run Try.prog (((W.setCell ⟨m, 0, none⟩ u0).setCell ⟨m, 1, none⟩ u1).setCell ⟨m, 2, none⟩ u2) = .ok (.string (strOfNums xs)) (((W.setCell ⟨m, 0, none⟩ u0).setCell ⟨m, 1, none⟩ u1).setCell ⟨m, 2, none⟩ u2) := by
  have hb : But W (((W.setCell ⟨m, 0, none⟩ u0).setCell ⟨m, 1, none⟩ u1).setCell ⟨m, 2, none⟩ u2) m none := (((But.refl W _ _).set_ 0 u0).set_ 1 u1).set_ 2 u2
  exact conv_str (h.but hb (fun hne k hk => ⟨h5 hne k hk, by simp⟩))

set_option linter.unusedSimpArgs false
set_option maxHeartbeats 3200000 in
set_option maxRecDepth 100000 in
theorem act_last (w : World) {g : Nat} {v cv : Value} {S T : Nat} {st out : List Int} (x : ActD) (hr : Ring w g v S st T) (hC : Ints w .u8 cv (lastN S st)) (hfar : lastN S st ≠ [] → ∀ k, cv.ownBlock = some k → k ≠ g ∧ v.ownBlock ≠ some k) (hok : x.Ok w)
    (hwhat : x.what = 5) (hout : out ≠ [] → lastN S st ≠ []) (h1 : RingLasts g v S st T x.n out) (h2 : RefLasts S cv T (lastN S st) x.n out) :
    Calls Try.prog 20 #[rp g, rv S cv T, x.val] w fun e w' => ∃ g' v' st' T' cv', e = .returned (.tuple #[rp g', rv S cv' T', .bool true]) ∧ Acted w w' g g' v v' S st st' T T' cv cv' := by
  obtain ⟨what, bv, b, off, n⟩ := x
  simp only at hwhat h1 h2
  obtain rfl := hwhat
  obtain ⟨hx, -, -⟩ := hok
  simp only at hx
  have HCW := Lib.hid hC
  have HFAR := Lib.hid hfar
  have H1 := Lib.hid h1
  have H2 := Lib.hid h2
  have HOUT := Lib.hid hout
  have hg := hr.lt
  have hv := hr.row.lt
  obtain ⟨A, N, c, rfl, -, -, -⟩ := hC.get
  obtain ⟨Ab, nb, cb, rfl, -, -, -⟩ := hx.get
  have hbx : ActBx w (((w.alloc (.cells #[.int .i64 S, .slice A N c, .int .i64 T] 36)).alloc (.cells #[.int .i64 5, .slice Ab nb cb, .int .i64 off, .int .i64 n] 43)).alloc (.cells #[.int .i64 0, .slice none 0 0, .int .i64 0] 36)) g v S (.slice A N c) T ⟨5, .slice Ab nb cb, b, off, n⟩ :=
    ActBx.start rfl rfl rfl hg hv
  have hbl : Below w.heap.size w (((w.alloc (.cells #[.int .i64 S, .slice A N c, .int .i64 T] 36)).alloc (.cells #[.int .i64 5, .slice Ab nb cb, .int .i64 off, .int .i64 n] 43)).alloc (.cells #[.int .i64 0, .slice none 0 0, .int .i64 0] 36)) :=
    (((Below.refl w.heap.size w).alloc (Nat.le_refl _) _).alloc (by simp) _).alloc (by simp; omega) _
  have HBX := Lib.hid hbx.drew
  have HC0 := Lib.hid (hC.below hbl.drew (Nat.le_refl _))
  have HR0 := Lib.hid (hr.below hbl.drew (Nat.le_refl _))
  have HV := Lib.hid hv
  clear hbx hbl hC hx hr hv h1 h2 hfar hout
  unfold rp rv ActD.val
  go_enter Try.func20, Try.ntmps20
  go_wp2
  generalize ((w.alloc (.cells #[.int .i64 S, .slice A N c, .int .i64 T] 36)).alloc (.cells #[.int .i64 _, .slice Ab nb cb, .int .i64 off, .int .i64 n] 43)).alloc (.cells #[.int .i64 0, .slice none 0 0, .int .i64 0] 36) = W0 at HBX HC0 HR0 ⊢
  refine wp_region_noPanic ?_
  refine wp_region_held_drew (S := (fun w' => w'.cell? ⟨w.heap.size, 0, none⟩ = some (.int .i64 S) ∧ w'.cell? ⟨w.heap.size, 1, none⟩ = some (.slice A N c) ∧ w'.cell? ⟨w.heap.size, 2, none⟩ = some (.int .i64 T) ∧ w'.cell? ⟨w.heap.size + 1, 3, none⟩ = some (.int .i64 n))) (by kernel_rfl) ?_ (fun hHeld => ?_)
  · (try dsimp only); exact ⟨HBX.out.box.1, HBX.out.box.2.1, HBX.out.box.2.2, HBX.out.cells.2.2.2.2.2.2⟩
  refine wpAnyH_take2 (i := 0) (oi := _) (d := some 68) (v := ?_) rfl rfl (by kernel_rfl) (by kernel_rfl) (by kernel_rfl) (fun _ _ _ h => h) (Or.inl ⟨by rfl, ?_⟩) (by assumption) ?_
  rotate_left 1
  · (intro w' hSw; (try dsimp only at hSw); go_simp; try with_reducible rfl)
  try simp only [Act.put, List.setIfInBounds_toArray, List.set_cons_zero, List.set_cons_succ]
  refine wpAnyH_take2 (i := 1) (oi := _) (d := some 69) (v := ?_) rfl rfl (by kernel_rfl) (by kernel_rfl) (by kernel_rfl) (fun _ _ _ h => h) (Or.inl ⟨by rfl, ?_⟩) (by assumption) ?_
  rotate_left 1
  · (intro w' hSw; (try dsimp only at hSw); go_simp; try with_reducible rfl)
  try simp only [Act.put, List.setIfInBounds_toArray, List.set_cons_zero, List.set_cons_succ]
  refine wpAnyH_take2 (i := 2) (oi := _) (d := some 70) (v := ?_) rfl rfl (by kernel_rfl) (by kernel_rfl) (by kernel_rfl) (fun _ _ _ h => h) (Or.inl ⟨by rfl, ?_⟩) (by assumption) ?_
  rotate_left 1
  · (intro w' hSw; (try dsimp only at hSw); go_simp; try with_reducible rfl)
  try simp only [Act.put, List.setIfInBounds_toArray, List.set_cons_zero, List.set_cons_succ]
  refine wpAnyH_take2 (i := 3) (oi := _) (d := some 71) (v := ?_) rfl rfl (by kernel_rfl) (by kernel_rfl) (by kernel_rfl) (fun _ _ _ h => h) (Or.inl ⟨by rfl, ?_⟩) (by assumption) ?_
  rotate_left 1
  · (intro w' hSw; (try dsimp only at hSw); go_simp; try with_reducible rfl)
  try simp only [Act.put, List.setIfInBounds_toArray, List.set_cons_zero, List.set_cons_succ]
  refine wpAnyH_take2 (i := 4) (oi := _) (d := some 72) (v := ?_) rfl rfl (by kernel_rfl) (by kernel_rfl) (by kernel_rfl) (fun _ _ _ h => h) (Or.inl ⟨by rfl, ?_⟩) (by assumption) ?_
  rotate_left 1
  · (intro w' hSw; (try dsimp only at hSw); go_simp; try with_reducible rfl)
  try simp only [Act.put, List.setIfInBounds_toArray, List.set_cons_zero, List.set_cons_succ]
  refine wpAnyH_take2 (i := 7) (oi := _) (d := some 75) (v := ?_) rfl rfl (by kernel_rfl) (by kernel_rfl) (by kernel_rfl) (fun _ _ _ h => h) (Or.inl ⟨by rfl, ?_⟩) (by assumption) ?_
  rotate_left 1
  · (intro w' hSw; (try dsimp only at hSw); go_simp; try with_reducible rfl)
  try simp only [Act.put, List.setIfInBounds_toArray, List.set_cons_zero, List.set_cons_succ]
  refine wpAnyH_take2 (i := 8) (oi := _) (d := some 76) (v := ?_) rfl rfl (by kernel_rfl) (by kernel_rfl) (by kernel_rfl) (fun _ _ _ h => h) (Or.inl ⟨by rfl, ?_⟩) (by assumption) ?_
  rotate_left 1
  · (intro w' hSw; (try dsimp only at hSw); go_simp; try with_reducible rfl)
  try simp only [Act.put, List.setIfInBounds_toArray, List.set_cons_zero, List.set_cons_succ]
  refine wpAnyH_take2 (i := 9) (oi := _) (d := some 77) (v := ?_) rfl rfl (by kernel_rfl) (by kernel_rfl) (by kernel_rfl) (fun _ _ _ h => h) (Or.inl ⟨by rfl, ?_⟩) (by assumption) ?_
  rotate_left 1
  · (intro w' hSw; (try dsimp only at hSw); go_simp; try with_reducible rfl)
  try simp only [Act.put, List.setIfInBounds_toArray, List.set_cons_zero, List.set_cons_succ]
  refine wpAnyH_ready (rs := [5]) (by kernel_rfl) (by simp) ?_
  refine AllReadyH.cons (o := _) rfl (fun K hK => ?_) ?_
  rotate_left
  · exact AllReadyH.nil
  go_simp
  refine (H1.out W0.drew HR0.out).mono ?_; rintro e w3 ⟨lv, rfl, hcl⟩; obtain ⟨A3, n3, c3, rfl, -, -, -⟩ := hcl.row.ints.get; have q3 : (convert 27 9 (.slice A3 n3 c3)).run Try.prog w3 = .ok (.string (strOfNums out)) w3 := conv_str hcl.row.ints; have HBX3 := Lib.hid (HBX.out.below hcl.below); have HC3 := Lib.hid (HC0.out.below hcl.below (Nat.le_refl _)); have HR3 := Lib.hid (HR0.out.below hcl.below (Nat.le_refl _)); have HI3 := Lib.hid hcl.row; have HO3 := Lib.hid hcl.own; clear hcl
  refine hK.out _ _ ?_ (fun hHeld => ?_)
  · (try dsimp only); exact ⟨HBX3.out.box.1, HBX3.out.box.2.1, HBX3.out.box.2.2, HBX3.out.cells.2.2.2.2.2.2⟩
  clear hK K
  try simp only [Act.put, List.setIfInBounds_toArray, List.set_cons_zero, List.set_cons_succ]
  refine wpAnyH_mono (S' := fun w' => w'.cell? ⟨w.heap.size, 0, none⟩ = some (.int .i64 S) ∧ w'.cell? ⟨w.heap.size, 1, none⟩ = some (.slice A N c) ∧ w'.cell? ⟨w.heap.size, 2, none⟩ = some (.int .i64 T) ∧ w'.cell? ⟨w.heap.size + 1, 3, none⟩ = some (.int .i64 n) ∧ (convert 27 9 (.slice A3 n3 c3)).run Try.prog w' = .ok (.string (strOfNums out)) w') (fun w' h => ⟨h.1, h.2.1, h.2.2.1, h.2.2.2.1⟩) _ _ _ _ ?_
  have hHeld2 : (fun w' => w'.cell? ⟨w.heap.size, 0, none⟩ = some (.int .i64 S) ∧ w'.cell? ⟨w.heap.size, 1, none⟩ = some (.slice A N c) ∧ w'.cell? ⟨w.heap.size, 2, none⟩ = some (.int .i64 T) ∧ w'.cell? ⟨w.heap.size + 1, 3, none⟩ = some (.int .i64 n) ∧ (convert 27 9 (.slice A3 n3 c3)).run Try.prog w' = .ok (.string (strOfNums out)) w') _ := ⟨hHeld.1, hHeld.2.1, hHeld.2.2.1, hHeld.2.2.2, q3⟩
  refine wpAnyH_take2 (i := 6) (oi := _) (d := some 74) (v := ?_) rfl rfl (by kernel_rfl) (by kernel_rfl) (by kernel_rfl) (fun _ _ _ h => h) (Or.inl ⟨by rfl, ?_⟩) (by assumption) ?_
  rotate_left 1
  · (intro w' hSw; (try dsimp only at hSw); go_simp; try with_reducible rfl)
  try simp only [Act.put, List.setIfInBounds_toArray, List.set_cons_zero, List.set_cons_succ]
  refine wpAnyH_ready (rs := [10]) (by kernel_rfl) (by simp) ?_
  refine AllReadyH.cons (o := _) rfl (fun K hK => ?_) ?_
  rotate_left
  · exact AllReadyH.nil
  go_simp
  refine (H2.out w3 HC3.out).mono ?_; rintro e w4 ⟨rv4, rfl, hi, hb, ho⟩; obtain ⟨A4, n4, c4, rfl, -, -, -⟩ := hi.get; have q4 : (convert 27 9 (.slice A4 n4 c4)).run Try.prog w4 = .ok (.string (strOfNums out)) w4 := conv_str hi; have q34 : (convert 27 9 (.slice A3 n3 c3)).run Try.prog w4 = .ok (.string (strOfNums out)) w4 := conv_str (HI3.out.ints.below hb (Nat.le_refl _)); have HBX4 := Lib.hid (HBX3.out.below hb); have HC4 := Lib.hid (HC3.out.below hb (Nat.le_refl _)); have HR4 := Lib.hid (HR3.out.below hb (Nat.le_refl _)); have HI4 := Lib.hid hi; have HO4 := Lib.hid ho; have HI34 := Lib.hid (HI3.out.ints.below hb (Nat.le_refl _)); have K4 := Lib.hid (fun (u0 u1 u2 : Value) => conv_stores (m := w.heap.size + 1 + 1) HI4.out (fun hne k hk => by have := HCW.out.own_lt (HOUT.out hne) (HO4.out k hk); omega) u0 u1 u2); have K3 := Lib.hid (fun (u0 u1 u2 : Value) => conv_stores (m := w.heap.size + 1 + 1) HI34.out (fun _ k hk => by have := HO3.out k hk; have := HBX.out.size; omega) u0 u1 u2); obtain ⟨j1, j2, j3, j4, j5, j6⟩ := HBX4.out.b7.three; clear hb hi ho
  refine hK.out _ _ ?_ (fun hHeld => ?_)
  · (try dsimp only); exact ⟨HBX4.out.box.1, HBX4.out.box.2.1, HBX4.out.box.2.2, HBX4.out.cells.2.2.2.2.2.2, q34⟩
  clear hK K
  try simp only [Act.put, List.setIfInBounds_toArray, List.set_cons_zero, List.set_cons_succ]
  refine wpAnyH_mono (S' := fun w' => w'.cell? ⟨w.heap.size, 0, none⟩ = some (.int .i64 S) ∧ w'.cell? ⟨w.heap.size, 1, none⟩ = some (.slice A N c) ∧ w'.cell? ⟨w.heap.size, 2, none⟩ = some (.int .i64 T) ∧ w'.cell? ⟨w.heap.size + 1, 3, none⟩ = some (.int .i64 n) ∧ (convert 27 9 (.slice A3 n3 c3)).run Try.prog w' = .ok (.string (strOfNums out)) w' ∧ (convert 27 9 (.slice A4 n4 c4)).run Try.prog w' = .ok (.string (strOfNums out)) w') (fun w' h => ⟨h.1, h.2.1, h.2.2.1, h.2.2.2.1, h.2.2.2.2.1⟩) _ _ _ _ ?_
  have hHeld2 : (fun w' => w'.cell? ⟨w.heap.size, 0, none⟩ = some (.int .i64 S) ∧ w'.cell? ⟨w.heap.size, 1, none⟩ = some (.slice A N c) ∧ w'.cell? ⟨w.heap.size, 2, none⟩ = some (.int .i64 T) ∧ w'.cell? ⟨w.heap.size + 1, 3, none⟩ = some (.int .i64 n) ∧ (convert 27 9 (.slice A3 n3 c3)).run Try.prog w' = .ok (.string (strOfNums out)) w' ∧ (convert 27 9 (.slice A4 n4 c4)).run Try.prog w' = .ok (.string (strOfNums out)) w') _ := ⟨hHeld.1, hHeld.2.1, hHeld.2.2.1, hHeld.2.2.2.1, q34, q4⟩
  refine wpAnyH_take2 (i := 11) (oi := _) (d := some 79) (v := ?_) rfl rfl (by kernel_rfl) (by kernel_rfl) (by kernel_rfl) (fun _ _ _ h => h) (Or.inl ⟨by rfl, ?_⟩) (by assumption) ?_
  rotate_left 1
  · (intro w' hSw; (try dsimp only at hSw); go_simp; try with_reducible rfl)
  try simp only [Act.put, List.setIfInBounds_toArray, List.set_cons_zero, List.set_cons_succ]
  refine wpAnyH_take2 (i := 12) (oi := _) (d := some 80) (v := ?_) rfl rfl (by kernel_rfl) (by kernel_rfl) (by kernel_rfl) (fun _ _ _ h => h) (Or.inl ⟨by rfl, ?_⟩) (by assumption) ?_
  rotate_left 1
  · (intro w' hSw; (try dsimp only at hSw); go_simp; try with_reducible rfl)
  try simp only [Act.put, List.setIfInBounds_toArray, List.set_cons_zero, List.set_cons_succ]
  refine wpAnyH_take2 (i := 13) (oi := _) (d := some 6) (v := ?_) rfl rfl (by kernel_rfl) (by kernel_rfl) (by kernel_rfl) (fun _ _ _ h => h) (Or.inl ⟨by rfl, ?_⟩) (by assumption) ?_
  rotate_left 1
  · (intro w' hSw; (try dsimp only at hSw); go_simp; try with_reducible rfl)
  try simp only [Act.put, List.setIfInBounds_toArray, List.set_cons_zero, List.set_cons_succ]
  refine wpAnyH_ready (rs := [14]) (by kernel_rfl) (by simp) ?_
  refine AllReadyH.cons (o := _) rfl (fun K hK => ?_) ?_
  rotate_left
  · exact AllReadyH.nil
  go_simp
  refine hK.out _ _ ?_ (fun hHeld => ?_)
  · (try dsimp only); exact ⟨(HBX4.out.boxes _ _ _).1, (HBX4.out.boxes _ _ _).2.1, (HBX4.out.boxes _ _ _).2.2, (HBX4.out.cells.stores _ _ _).2.2.2.2.2.2, K3.out _ _ _, K4.out _ _ _⟩
  clear hK K
  try simp only [Act.put, List.setIfInBounds_toArray, List.set_cons_zero, List.set_cons_succ]
  refine wpAnyH_take2 (i := 15) (oi := _) (d := some 8) (v := ?_) rfl rfl (by kernel_rfl) (by kernel_rfl) (by kernel_rfl) (fun _ _ _ h => h) (Or.inl ⟨by rfl, ?_⟩) (by assumption) ?_
  rotate_left 1
  · (intro w' hSw; (try dsimp only at hSw); go_simp; try with_reducible rfl)
  try simp only [Act.put, List.setIfInBounds_toArray, List.set_cons_zero, List.set_cons_succ]
  refine wpAnyH_done (by kernel_rfl) ?_ _
  refine NoPanic.normal ?_
  all_goals
    go_wp2
    refine bodyPost_ret (v := .tuple #[.pointer (some ⟨g, 0, none⟩), .agg #[.int .i64 S, .slice A N c, .int .i64 T], .bool true]) (by simp [results, Try.results20, go_sem, j1, j2, j3]) rfl ?_
    exact ⟨g, v, st, T, .slice A N c, rfl, Acted.fin HBX4.out HR4.out (.inl rfl) (.inl rfl) HC4.out (.inl ⟨rfl, rfl, fun hne k hk => HCW.out.own_lt hne hk⟩) HFAR.out (by omega) _ _ _⟩
end Go.Proofs.Ytohmkcoodaidcaa
