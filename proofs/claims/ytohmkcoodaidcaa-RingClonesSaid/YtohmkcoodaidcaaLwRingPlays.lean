/-
  RingPlays: the law's walk.
-/
import Derived.Test.YtohmkcoodaidcaaRgTwo
import Derived.Test.YtohmkcoodaidcaaArgActs
namespace Go.Proofs.Ytohmkcoodaidcaa
open Go.RowKit

/-- The ring, its reference and the reference's box during the law. -/
structure PlaySt (w W : World) (m g : Nat) (v : Value) (S : Nat) (st : List Int) (T : Nat) (cv : Value) : Prop where
  box : Blk W m 36 #[.int .i64 S, cv, .int .i64 T]
  ring : Ring W g v S st T
  ints : Ints W .u8 cv (lastN S st)
  far : lastN S st ≠ [] → ∀ k, cv.ownBlock = some k → k ≠ g ∧ v.ownBlock ≠ some k
  bel : Below w.heap.size w W
  hm : w.heap.size ≤ m
  hg : w.heap.size ≤ g
  hv : ∀ k, v.ownBlock = some k → w.heap.size ≤ k
  hc : ∀ k, cv.ownBlock = some k → w.heap.size ≤ k
  ng : m ≠ g
  nv : v.ownBlock ≠ some m
  nc : cv.ownBlock ≠ some m
section
variable {w W W2 W5 : World} {m g g' : Nat} {v v' : Value} {S T T' : Nat} {st st' : List Int} {cv cv' : Value}
theorem PlaySt.below (h : PlaySt w W m g v S st T cv) (hb : Below W.heap.size W W2) : PlaySt w W2 m g v S st T cv :=
  { h with box := h.box.below hb h.box.lt, ring := h.ring.below hb (Nat.le_refl _), ints := h.ints.below hb (Nat.le_refl _), bel := h.bel.trans (hb.mono h.bel.size) }
theorem PlaySt.drew (h : PlaySt w W m g v S st T cv) : PlaySt w W.drew m g v S st T cv := h.below (Below.refl _ W).drew
/-- A store elsewhere. -/
theorem PlaySt.other (h : PlaySt w W m g v S st T cv) {b : Nat} (i : Nat) (u : Value) (hb : w.heap.size ≤ b) (h1 : b ≠ m) (h2 : b ≠ g) (h3 : v.ownBlock ≠ some b) (h4 : lastN S st ≠ [] → cv.ownBlock ≠ some b) : PlaySt w (W.setCell ⟨b, i, none⟩ u) m g v S st T cv := by
  have hbut : But W (W.setCell ⟨b, i, none⟩ u) b none := (But.refl W b none).set_ i u
  exact { h with box := h.box.far (fun e => h1 e.symm) u, ring := h.ring.but hbut (fun e => h2 e.symm) (by simp) h3 (by simp), ints := h.ints.but hbut (fun hne k hk => ⟨fun e => h4 hne (by rw [hk, e]), by simp⟩), bel := h.bel.setCell hb u }
/-- A call, then the stores into the box. -/
theorem PlaySt.act (h : PlaySt w W m g v S st T cv) (ha : Acted W W2 g g' v v' S st st' T T' cv cv') (hb : But W2 W5 m none) (hk : Blk W5 m 36 #[.int .i64 S, cv', .int .i64 T']) : PlaySt w W5 m g' v' S st' T' cv' := by
  have hml := h.box.lt
  have hgl := h.ring.lt
  have hng : m ≠ g' := by
    rcases ha.at_ with e | e
    · rw [e]; exact h.ng
    · omega
  have hnv : v'.ownBlock ≠ some m := by
    rcases ha.own with e | e
    · rw [e]; exact h.nv
    · intro e2; have := e _ e2; omega
  have hnc : cv'.ownBlock ≠ some m := by
    rcases ha.refOwn with ⟨e, -⟩ | e
    · rw [e]; exact h.nc
    · intro e2; have := e _ e2; omega
  have hs := h.bel.size
  have hb2 : Below w.heap.size w W2 := h.bel.trans (ha.but.below hs h.hg h.hv)
  refine ⟨hk, ha.ring.but hb (fun e => hng e.symm) (by simp) hnv (by simp), ha.ref.but hb (fun _ k hk2 => ⟨fun e => hnc (by rw [hk2, e]), by simp⟩), ha.far, hb2.trans (hb.below hb2.size h.hm (by simp)), h.hm, ?_, ?_, ?_, hng, hnv, hnc⟩
  · rcases ha.at_ with e | e
    · rw [e]; exact h.hg
    · omega
  · rcases ha.own with e | e
    · rw [e]; exact h.hv
    · exact fun k hk2 => by have := e k hk2; omega
  · rcases ha.refOwn with ⟨e, -⟩ | e
    · rw [e]; exact h.hc
    · exact fun k hk2 => by have := e k hk2; omega
end

/-- The result's box is made behind the call, or ahead of it. -/
theorem Acted.after {W W2 : World} {g g' : Nat} {v v' : Value} {S T T' : Nat} {st st' : List Int} {cv cv' : Value} (ha : Acted W W2 g g' v v' S st st' T T' cv cv') {W3 : World} (hb : Below W2.heap.size W2 W3) : Acted W W3 g g' v v' S st st' T T' cv cv' :=
  { ha with ring := ha.ring.below hb (Nat.le_refl _), but := ha.but.trans (But.of_below hb g v.ownBlock) (.inl rfl), ref := ha.ref.below hb (Nat.le_refl _) }
theorem Acted.ahead {W W2 : World} {z : Obj} {g g' : Nat} {v v' : Value} {S T T' : Nat} {st st' : List Int} {cv cv' : Value} (ha : Acted (W.alloc z) W2 g g' v v' S st st' T T' cv cv') (hr : Ring W g v S st T) (hi : Ints W .u8 cv (lastN S st)) (u0 u1 u2 : Value) :
    Acted W (((W2.setCell ⟨W.heap.size, 0, none⟩ u0).setCell ⟨W.heap.size, 1, none⟩ u1).setCell ⟨W.heap.size, 2, none⟩ u2) g g' v v' S st st' T T' cv cv' := by
  have hb : But W2 (((W2.setCell ⟨W.heap.size, 0, none⟩ u0).setCell ⟨W.heap.size, 1, none⟩ u1).setCell ⟨W.heap.size, 2, none⟩ u2) W.heap.size none := (((But.refl W2 _ _).set_ 0 u0).set_ 1 u1).set_ 2 u2
  have hg := hr.lt
  have hv := hr.row.lt
  have hsz : (W.alloc z).heap.size = W.heap.size + 1 := by simp
  have hb0 : But W W2 g v.ownBlock := ((But.refl W g v.ownBlock).alloc z).trans ha.but (.inl rfl)
  refine ⟨ha.ring.but hb ?_ (by simp) ?_ (by simp), ?_, ?_, ((hb0.far (Nat.le_refl _) 0 u0).far (Nat.le_refl _) 1 u1).far (Nat.le_refl _) 2 u2, ha.ref.but hb ?_, ?_, ha.far, ha.tot⟩
  · rcases ha.at_ with e | e <;> omega
  · intro e
    rcases ha.own with h1 | h1
    · rw [h1] at e; have := hv _ e; omega
    · have := h1 _ e; omega
  · rcases ha.at_ with e | e
    · exact .inl e
    · exact .inr (by omega)
  · rcases ha.own with h1 | h1
    · exact .inl h1
    · exact .inr fun k hk => by have := h1 k hk; omega
  · intro hne k hk
    refine ⟨?_, by simp⟩
    rcases ha.refOwn with ⟨h1, h2⟩ | h1
    · rw [h1] at hk; rw [h2] at hne; have := hi.own_lt hne hk; omega
    · have := h1 k hk; omega
  · rcases ha.refOwn with h1 | h1
    · exact .inl h1
    · exact .inr fun k hk => by have := h1 k hk; omega
theorem Acted.box {W W2 : World} {z : Array Value} {t : TypeId} {g g' : Nat} {v v' : Value} {S T T' : Nat} {st st' : List Int} {cv cv' : Value} (ha : Acted (W.alloc (.cells z t)) W2 g g' v v' S st st' T T' cv cv') (hr : Ring W g v S st T) : Blk W2 W.heap.size t z :=
  (Blk.new W t z).but ha.but (by have := hr.lt; omega) (fun e => by have := hr.row.lt _ e; omega)

theorem Row.own_row {w : World} {A : Option Addr} {n c : Nat} {xs : List Int} (h : Row w (.slice A n c) xs) (h0 : 0 < n) : ∃ b, A = some ⟨b, 0, none⟩ := by
  rcases h.2 with ⟨h1, h2⟩ | ⟨b, cap, cur, h1, -⟩
  · injection h1 with h1 h3 h4; omega
  · injection h1 with h1; exact ⟨b, h1⟩

/-- What few lets through, and the law's own bytes. -/
theorem rp_few (size : Int) (v1 : Value) (zs : List Int) (v2 : Value) (l : List ActD) (off : Int) {w : World} (hz : Ints w .u8 v1 zs) (hl : Acts w v2 l) (h : 100 < zs.length ∨ (zs.length ≤ 100 ∧ ¬ fewP l 40)) :
    Calls Try.prog 4 #[.int .i64 size, v1, v2, .int .i64 off] w fun e w' => e = .returned (.bool true) ∧ Below w.heap.size w w' := by
  obtain ⟨A, n, c, rfl, -, -, hat⟩ := hz.get
  rw [hat.1] at h
  clear hat
  have HL := Lib.hid hl
  rcases h with h | ⟨h, hf⟩
  · go_enter Try.func4, Try.ntmps4
    go_wp2_with (go_at_call 12; refine (works_at (Below.refl _ w)).mono ?_; rintro e w1 ⟨rfl, hb⟩; have HB := Lib.hid hb; clear hb)
    go_ret
    exact ⟨rfl, HB.out⟩
  · have hd : decide (fewP l 40) = false := decide_eq_false hf
    have HD := Lib.hid hd
    clear hd hf
    go_enter Try.func4, Try.ntmps4
    go_wp2_with fail
    refine (few_any _ _ _ HL.out 40).mono ?_
    rw [HD.out]
    rintro e w1 ⟨rfl, rfl⟩
    go_wp2_with (go_at_call 12; refine (works_at (Below.refl _ w1)).mono ?_; rintro e w1 ⟨rfl, hb⟩; have HB := Lib.hid hb; clear hb)
    go_ret
    exact ⟨rfl, HB.out⟩

theorem GivenSt.put {w W : World} {b N c k : Nat} {ys : List Int} (h : GivenSt w W (some ⟨b, 0, none⟩) N c ys) (x : Int) : GivenSt w (W.setCell ⟨b, k, none⟩ (.int .u8 x)) (some ⟨b, 0, none⟩) N c (ys.set k x) :=
  ⟨Grow.store h.row rfl x, by rw [List.length_set]; exact h.len, h.own, h.bel.setCell (h.own b rfl) _⟩

set_option maxRecDepth 100000 in
set_option maxHeartbeats 1600000 in
/-- No size of a ring. -/
theorem rp_bad (size : Int) (v1 : Value) (zs : List Int) (v2 : Value) (l : List ActD) (off : Int) {w : World} (hz : Ints w .u8 v1 zs) (hl : Acts w v2 l) (h : zs.length ≤ 100) (hf : fewP l 40) (hs : size < 1 ∨ 134217728 < size) :
    Calls Try.prog 4 #[.int .i64 size, v1, v2, .int .i64 off] w fun e w' => e = .returned (.bool true) ∧ Below w.heap.size w w' := by
  obtain ⟨A, N, c, rfl, -, -, hat⟩ := hz.get
  have HLEN := Lib.hid hat.1
  rw [hat.1] at h
  have HA := Lib.hid hat
  clear hat hz
  have hd : decide (fewP l 40) = true := decide_eq_true hf
  have HD := Lib.hid hd
  have HL := Lib.hid hl
  obtain ⟨⟨A2, c2, hv2, hlc, hcm, -⟩, -⟩ := hl
  subst hv2
  have hnl : l.length ≤ 9223372036854775807 := by simp only [maxLen] at hcm; omega
  obtain ⟨L, hL⟩ : ∃ L, l.length = L := ⟨_, rfl⟩
  rw [hL] at hnl HL ⊢
  have HS := Lib.hid hs
  clear hd hf hL hlc hcm hs
  go_enter Try.func4, Try.ntmps4
  have HB0 := Lib.hid ((Below.refl w.heap.size w).alloc (Nat.le_refl _) (.cells #[] 5))
  go_wp2_with fail
  refine (few_any _ _ _ HL.out 40).mono ?_
  rw [HD.out]
  rintro e w1 ⟨rfl, rfl⟩
  go_wp2_with (at_builtin; refine wpList_append_row rfl _ _ rfl _ [] zs rfl (row_empty w1) A N c rfl (HA.out.below HB0.out (Nat.le_refl _)) (by simp; omega) N (by simp) ?_; intro A3 c3 w2 hrow hgrow hown; have HG : Hid (GivenSt w1 w2 A3 N c3 zs) := (⟨hrow, HLEN.out, own_ge (B := w1.heap.size) hown rfl (Nat.le_refl _) (by simp), HB0.out.grown hgrow (by simp) fun r hr => by have : w1.heap.size = r := Option.some.inj hr; omega⟩ : GivenSt _ _ _ _ _ _); clear hrow hgrow hown)
  refine (new_bad w2 size _ HS.out).mono ?_
  rintro e w3 ⟨rfl, hb⟩
  have HG3 := Lib.hid (HG.out.next hb)
  clear hb HG
  go_wp2_with fail
  refine (refNew_bad w3 size _ HS.out).mono ?_
  rintro e w4 ⟨rfl, hb⟩
  have HG4 := Lib.hid ((HG3.out.next hb).next ((Below.refl _ w4).alloc (Nat.le_refl _) (.cells #[.int .i64 0, .slice none 0 0, .int .i64 0] 36)))
  clear hb HG3
  go_wp2_with fail
  refine (num_any _ _).mono ?_
  rintro e w5 ⟨rfl, hw⟩
  have HG5 : Hid (GivenSt w1 w5 A3 N c3 zs) := (by rw [hw]; exact HG4.out : GivenSt _ _ _ _ _ _)
  clear HG4 hw
  go_wp2
  go_loopw [14] (fun i wr => ∃ (k : Nat) (ys : List Int), k ≤ N ∧ i = .int .i64 k ∧ Hid (GivenSt w1 wr A3 N c3 ys)) (fun i _ => N - (intOf i).toNat)
  case atStart => exact ⟨0, zs, Nat.zero_le _, rfl, (HG5.out : GivenSt _ _ _ _ _ _)⟩
  case round =>
    clear HG5
    obtain ⟨k, ys, hk, rfl, HG⟩ := hrel
    have k0 : (0 : Int) ≤ (k : Int) := by omega
    by_cases hlt : k < N
    · have k1 : (k : Int) < (N : Int) := by omega
      obtain ⟨b, rfl⟩ := HG.out.row.own_row (by omega)
      obtain ⟨b', n', c', x, he, -, hbl, -, hcell, hfr⟩ := Grow.cell HG.out.row (i := k) (by rw [HG.out.len]; exact hlt)
      injection he with he1 he2 he3
      injection he1 with he1
      injection he1 with he1
      subst he1 he2 he3
      go_wp2
      go_roundw
      case rel => exact ⟨k + 1, _, by omega, by go_num, (HG.out.put _ : GivenSt _ _ _ _ _ _)⟩
      case measure => simp [intOf]; omega
    · obtain rfl : k = N := by omega
      have HBW := Lib.hid HG.out.bel
      clear HG
      go_wp2
      go_loopw [15] (fun i wr' => ∃ k : Nat, k ≤ L ∧ i = .int .i64 k ∧ wr' = wr) (fun i _ => L - (intOf i).toNat)
      case atStart => exact ⟨0, Nat.zero_le _, rfl, rfl⟩
      case round =>
        obtain ⟨k, hk, rfl, rfl⟩ := hrel
        have k0 : (0 : Int) ≤ (k : Int) := by omega
        by_cases hlt : k < L
        · have k1 : (k : Int) < (L : Int) := by omega
          go_wp2_with (go_at_call 12; refine (works_at HBW.out).mono ?_; rintro e w9 ⟨rfl, hb⟩; have HB := Lib.hid hb; clear hb)
          go_ret
          exact ⟨rfl, HB.out⟩
        · go_wp2_with (go_at_call 12; refine (works_at HBW.out).mono ?_; rintro e w9 ⟨rfl, hb⟩; have HB := Lib.hid hb; clear hb)
          go_ret
          exact ⟨rfl, HB.out⟩

/-- What a round's first region reads. -/
def PlayK (m : Nat) (S : Nat) (cv : Value) (T : Nat) (b o : Nat) (x : ActD) (W : World) : Prop :=
  W.cell? ⟨m, 0, none⟩ = some (.int .i64 S) ∧ W.cell? ⟨m, 1, none⟩ = some cv ∧ W.cell? ⟨m, 2, none⟩ = some (.int .i64 T) ∧
    W.cell? ⟨b, o, none⟩ = some (.int .i64 x.what) ∧ W.cell? ⟨b, o + 1, none⟩ = some x.bv ∧ W.cell? ⟨b, o + 2, none⟩ = some (.int .i64 x.off) ∧ W.cell? ⟨b, o + 3, none⟩ = some (.int .i64 x.n)
theorem PlayK.mk {m S T b o : Nat} {cv : Value} {x : ActD} {W : World} (h : Blk W m 36 #[.int .i64 S, cv, .int .i64 T]) (hx : x.At W b o) : PlayK m S cv T b o x W :=
  ⟨h.three.1, h.three.2.1, h.three.2.2.1, hx.c0, hx.c1, hx.c2, hx.c3⟩
theorem PlayK.same {m S T b o : Nat} {cv : Value} {x : ActD} {W W2 : World} (h : PlayK m S cv T b o x W) (hw : ∀ p, (W.cell? p).isSome = true → W2.cell? p = W.cell? p) : PlayK m S cv T b o x W2 := by
  obtain ⟨h0, h1, h2, h3, h4, h5, h6⟩ := h
  exact ⟨(hw _ (by rw [h0]; rfl)).trans h0, (hw _ (by rw [h1]; rfl)).trans h1, (hw _ (by rw [h2]; rfl)).trans h2, (hw _ (by rw [h3]; rfl)).trans h3, (hw _ (by rw [h4]; rfl)).trans h4, (hw _ (by rw [h5]; rfl)).trans h5, (hw _ (by rw [h6]; rfl)).trans h6⟩

theorem PlayK.far {m S T b o n : Nat} {cv : Value} {x : ActD} {W : World} (h : PlayK m S cv T b o x W) (h1 : m ≠ n) (h2 : b ≠ n) (u0 u1 u2 : Value) :
    PlayK m S cv T b o x (((W.setCell ⟨n, 0, none⟩ u0).setCell ⟨n, 1, none⟩ u1).setCell ⟨n, 2, none⟩ u2) := by
  have hs : ∀ (p : Addr) (y : Value), p.block ≠ n → W.cell? p = some y → (((W.setCell ⟨n, 0, none⟩ u0).setCell ⟨n, 1, none⟩ u1).setCell ⟨n, 2, none⟩ u2).cell? p = some y := by
    intro p y hp hy
    have hne : ∀ i, (⟨n, i, none⟩ : Addr) ≠ p := fun i e => hp (by rw [← e])
    rw [World.cell?_setCell_other _ _ _ _ (hne 2), World.cell?_setCell_other _ _ _ _ (hne 1), World.cell?_setCell_other _ _ _ _ (hne 0)]
    exact hy
  obtain ⟨k0, k1, k2, k3, k4, k5, k6⟩ := h
  exact ⟨hs _ _ h1 k0, hs _ _ h1 k1, hs _ _ h1 k2, hs _ _ h2 k3, hs _ _ h2 k4, hs _ _ h2 k5, hs _ _ h2 k6⟩
theorem PlayK.alloc {m S T b o : Nat} {cv : Value} {x : ActD} {W : World} (h : PlayK m S cv T b o x W) (z : Obj) : PlayK m S cv T b o x (W.alloc z) := h.same fun p hp => World.cell?_alloc_some W p z hp
/-- A filled box. -/
theorem Blk.filled {W : World} {n : Nat} {t : TypeId} {a b c : Value} (h : Blk W n t #[a, b, c]) (u0 u1 u2 : Value) : Blk (((W.setCell ⟨n, 0, none⟩ u0).setCell ⟨n, 1, none⟩ u1).setCell ⟨n, 2, none⟩ u2) n t #[u0, u1, u2] :=
  (((h.set_ 0 u0).set_ 1 u1).set_ 2 u2).congr rfl
theorem filled_below {W : World} {n : Nat} (z : Obj) (hn : n = W.heap.size) (u0 u1 u2 : Value) : Below W.heap.size W ((((W.alloc z).setCell ⟨n, 0, none⟩ u0).setCell ⟨n, 1, none⟩ u1).setCell ⟨n, 2, none⟩ u2) := by
  subst hn
  exact ((((Below.refl _ W).alloc (Nat.le_refl _) _).setCell (p := ⟨W.heap.size, 0, none⟩) (Nat.le_refl _) u0).setCell (p := ⟨W.heap.size, 1, none⟩) (Nat.le_refl _) u1).setCell (p := ⟨W.heap.size, 2, none⟩) (Nat.le_refl _) u2

set_option maxRecDepth 100000 in
set_option maxHeartbeats 3200000 in
/-- A ring. -/
theorem rp_ok (S : Nat) (v1 : Value) (zs : List Int) (v2 : Value) (l : List ActD) (off : Int) {w : World} (hz : Ints w .u8 v1 zs) (hu : U8s zs) (hl : Acts w v2 l) (h : zs.length ≤ 100) (hf : fewP l 40) (h1 : 1 ≤ S) (h2 : S ≤ 134217728) :
    Calls Try.prog 4 #[.int .i64 S, v1, v2, .int .i64 off] w fun e w' => e = .returned (.bool true) ∧ Below w.heap.size w w' := by
  have HZ := Lib.hid hz
  have HU := Lib.hid hu
  have HZL : Hid (zs.length ≤ 100000000000000) := (by omega : _ ≤ _)
  have HS1 : Hid (1 ≤ S) := (h1 : _ ≤ _)
  have HS2 : Hid (S ≤ 134217728) := (h2 : _ ≤ _)
  obtain ⟨A, N, c, rfl, -, -, hat⟩ := hz.get
  have HLEN := Lib.hid hat.1
  rw [hat.1] at h
  have HA := Lib.hid hat
  clear hat hz hu h1 h2
  have hd : decide (fewP l 40) = true := decide_eq_true hf
  have HD := Lib.hid hd
  have HF := Lib.hid hf
  have HL := Lib.hid hl
  obtain ⟨⟨A2, c2, hv2, hlc, hcm, hat2⟩, hok⟩ := hl
  subst hv2
  have hnl : l.length ≤ 9223372036854775807 := by simp only [maxLen] at hcm; omega
  obtain ⟨L, hL⟩ : ∃ L, l.length = L := ⟨_, rfl⟩
  have HLL := Lib.hid hL
  have HL40 : Hid (L ≤ 40) := (by have := hf.1; omega : L ≤ 40)
  have HAT2 := Lib.hid hat2
  rw [hL] at hnl HL HAT2 ⊢
  have HOK := Lib.hid hok
  clear hd hf hL hlc hcm hat2 hok
  go_enter Try.func4, Try.ntmps4
  have HB0 := Lib.hid ((Below.refl w.heap.size w).alloc (Nat.le_refl _) (.cells #[] 5))
  go_wp2_with fail
  refine (few_any _ _ _ HL.out 40).mono ?_
  rw [HD.out]
  rintro e w1 ⟨rfl, rfl⟩
  go_wp2_with (at_builtin; refine wpList_append_row rfl _ _ rfl _ [] zs rfl (row_empty w1) A N c rfl (HA.out.below HB0.out (Nat.le_refl _)) (by simp; omega) N (by simp) ?_; intro A3 c3 w2 hrow hgrow hown; have HG : Hid (GivenSt w1 w2 A3 N c3 zs) := (⟨hrow, HLEN.out, own_ge (B := w1.heap.size) hown rfl (Nat.le_refl _) (by simp), HB0.out.grown hgrow (by simp) fun r hr => by have : w1.heap.size = r := Option.some.inj hr; omega⟩ : GivenSt _ _ _ _ _ _); clear hrow hgrow hown)
  refine (new_ok w2 HS1.out HS2.out HG.out.row.ints HU.out HZL.out).mono ?_
  rintro e w3 ⟨g, v, rfl, hm⟩
  have HG3 := Lib.hid (HG.out.next hm.below)
  have HM := Lib.hid hm
  clear hm
  go_wp2_with fail
  refine (refNew_ok w3 HS1.out HS2.out (HZ.out.below HG3.out.bel (Nat.le_refl _)) HZL.out).mono ?_
  rintro e w4 ⟨cv, rfl, hi, hb, ho⟩
  obtain ⟨Ac, nc, cc, rfl, -, -, -⟩ := hi.get
  have hp : PlaySt w1 (w4.alloc (.cells #[.int .i64 S, .slice Ac nc cc, .int .i64 0] 36)) w4.heap.size g v S (keepL S zs) 0 (.slice Ac nc cc) := by
    have hm := HM.out
    have hbel := HG.out.bel
    have hs1 := hbel.size
    have hs2 := hm.below.size
    have hs3 := hb.size
    have hat := hm.at_
    have hgl := hm.ring.lt
    have ha : Below w4.heap.size w4 (w4.alloc (.cells #[.int .i64 S, .slice Ac nc cc, .int .i64 0] 36)) := (Below.refl _ w4).alloc (Nat.le_refl _) _
    refine ⟨Blk.new _ _ _, (hm.ring.below hb (Nat.le_refl _)).below ha (Nat.le_refl _), ?_, ?_, ((hbel.trans (hm.below.mono hs1)).trans (hb.mono (by omega))).trans (ha.mono (by omega)), by omega, by omega, ?_, ?_, by omega, ?_, ?_⟩
    · rw [keepL_last]; exact hi.below ha (Nat.le_refl _)
    · intro _ k hk
      have := ho k hk
      exact ⟨by omega, fun e => by have := hm.ring.row.lt k e; omega⟩
    · exact fun k hk => by have := hm.own k hk; omega
    · exact fun k hk => by have := ho k hk; omega
    · intro e; have := hm.ring.row.lt _ e; omega
    · intro e; have := ho _ e; omega
  have HP := Lib.hid hp
  have HSEP : Hid (∀ b, (Value.slice A3 N c3).ownBlock = some b → b ≠ w4.heap.size ∧ b ≠ g ∧ v.ownBlock ≠ some b ∧ (Value.slice Ac nc cc).ownBlock ≠ some b) := (by
    intro b hb2
    have hlt := HG.out.row.lt b hb2
    have hs2 := HM.out.below.size
    have hs3 := hb.size
    have := HM.out.at_
    exact ⟨by omega, by omega, fun e => by have := HM.out.own b e; omega, fun e => by have := ho b e; omega⟩ : ∀ b, _)
  have HG4 := Lib.hid ((HG3.out.next hb).next ((Below.refl _ w4).alloc (Nat.le_refl _) (.cells #[.int .i64 S, .slice Ac nc cc, .int .i64 0] 36)))
  clear hb HG3 HG HM hi ho hp
  go_wp2_with fail
  refine (num_any _ _).mono ?_
  rintro e w5 ⟨rfl, hw⟩
  have HG5 : Hid (GivenSt w1 w5 A3 N c3 zs) := (by rw [hw]; exact HG4.out : GivenSt _ _ _ _ _ _)
  have HP5 : Hid (PlaySt w1 w5 w4.heap.size g v S (keepL S zs) 0 (.slice Ac nc cc)) := (by rw [hw]; exact HP.out : PlaySt _ _ _ _ _ _ _ _ _)
  clear HG4 HP hw
  obtain ⟨m, hm⟩ : ∃ m, w4.heap.size = m := ⟨_, rfl⟩
  rw [hm] at HSEP HP5 ⊢
  clear hm
  go_wp2
  go_loopw [14] (fun i wr => ∃ (k : Nat) (ys : List Int), k ≤ N ∧ i = .int .i64 k ∧ Hid (GivenSt w1 wr A3 N c3 ys) ∧ Hid (PlaySt w1 wr m g v S (keepL S zs) 0 (.slice Ac nc cc))) (fun i _ => N - (intOf i).toNat)
  case atStart => exact ⟨0, zs, Nat.zero_le _, rfl, (HG5.out : GivenSt _ _ _ _ _ _), (HP5.out : PlaySt _ _ _ _ _ _ _ _ _)⟩
  case round =>
    clear HG5 HP5
    obtain ⟨k, ys, hk, rfl, HG, HP⟩ := hrel
    have k0 : (0 : Int) ≤ (k : Int) := by omega
    by_cases hlt : k < N
    · have k1 : (k : Int) < (N : Int) := by omega
      obtain ⟨b, rfl⟩ := HG.out.row.own_row (by omega)
      obtain ⟨b', n', c', x, he, -, hbl, -, hcell, hfr⟩ := Grow.cell HG.out.row (i := k) (by rw [HG.out.len]; exact hlt)
      injection he with he1 he2 he3
      injection he1 with he1
      injection he1 with he1
      subst he1 he2 he3
      go_wp2
      go_roundw
      case rel => exact ⟨k + 1, _, by omega, by go_num, (HG.out.put _ : GivenSt _ _ _ _ _ _), (HP.out.other _ _ (HG.out.own b rfl) (HSEP.out b rfl).1 (HSEP.out b rfl).2.1 (HSEP.out b rfl).2.2.1 (fun _ => (HSEP.out b rfl).2.2.2) : PlaySt _ _ _ _ _ _ _ _ _)⟩
      case measure => simp [intOf]; omega
    · obtain rfl : k = N := by omega
      have HP0 := HP
      clear HG HSEP HP
      go_wp2
      go_loopw [10, 15] (fun r i wr' => ∃ (k T g : Nat) (v : Value) (st : List Int) (Ac : Option Addr) (nc cc : Nat), k ≤ L ∧ i = .int .i64 k ∧ r = rp g ∧ Hid (T ≤ k * 131072) ∧ Hid (PlaySt w1 wr' m g v S st T (.slice Ac nc cc))) (fun _ i _ => L - (intOf i).toNat)
      case atStart => exact ⟨0, 0, g, v, keepL S zs, Ac, nc, cc, Nat.zero_le _, rfl, rfl, (Nat.zero_le _ : (0 : Nat) ≤ _), (HP0.out : PlaySt _ _ _ _ _ _ _ _ _)⟩
      case round =>
        clear HP0
        obtain ⟨k, T, g, v, st, Ac, nc, cc, hk, rfl, rfl, HT, HP⟩ := hrel
        have k0 : (0 : Int) ≤ (k : Int) := by omega
        obtain ⟨q0, q1, q2, q3, q4, q5⟩ := HP.out.box.three
        by_cases hlt : k < L
        · have k1 : (k : Int) < (L : Int) := by omega
          obtain ⟨b, o, rfl, hcell⟩ := HAT2.out (by omega)
          have hx := List.getElem?_eq_getElem (l := l) (i := k) (by rw [HLL.out]; exact hlt)
          obtain ⟨x, hxe⟩ : ∃ x, l[k]'(by rw [HLL.out]; exact hlt) = x := ⟨_, rfl⟩
          rw [hxe] at hx
          have hmem := List.mem_of_getElem? hx
          have hbl0 : b < w1.heap.size := World.block_lt_of_cell? _ _ (hcell k x hx).c0
          have HXA := Lib.hid (hcell k x hx)
          have hxat := (hcell k x hx).below HP.out.bel (Nat.le_refl _)
          have HK := Lib.hid (PlayK.mk (HP.out.drew.box) (hxat.below (Below.refl wr.heap.size wr).drew (Nat.le_refl _)))
          have HXO := Lib.hid ((HOK.out x hmem).below HP.out.bel (Nat.le_refl _))
          have HXS := Lib.hid ((HF.out).2 x hmem)
          obtain ⟨Ab, nb, cb, hbv, -⟩ := HXO.out.ints.get
          clear hcell hx hmem hxat hxe
          obtain ⟨what, bv, bs, xoff, xn⟩ := x
          simp only at hbv
          subst hbv
          go_wp2
          have hml := HP.out.box.lt
          have HPD := Lib.hid HP.out.drew
          have HPZ := Lib.hid (HP.out.drew.below ((Below.refl _ wr.drew).alloc (Nat.le_refl _) (.cells #[.int .i64 0, .slice none 0 0, .int .i64 0] 36)))
          have HXD := Lib.hid (HXO.out.below (Below.refl wr.heap.size wr).drew (Nat.le_refl _))
          have HXZ := Lib.hid (HXD.out.below ((Below.refl _ wr.drew).alloc (Nat.le_refl _) (.cells #[.int .i64 0, .slice none 0 0, .int .i64 0] 36)) (Nat.le_refl _))
          have HBL : Hid (b < w1.heap.size) := (hbl0 : b < _)
          have HMW : Hid (w1.heap.size ≤ m) := (HP.out.hm : _ ≤ _)
          have HMN : Hid (m ≠ wr.heap.size) := (Nat.ne_of_lt hml : _)
          have HBN : Hid (b ≠ wr.heap.size) := (by have := HP.out.bel.size; simp at this ⊢; omega : b ≠ _)
          have HKZ := Lib.hid (HK.out.alloc (.cells #[.int .i64 0, .slice none 0 0, .int .i64 0] 36))
          clear hml hbl0
          go_region_held3 (fun w' => w'.cell? ⟨m, 0, none⟩ = some (.int .i64 S) ∧ w'.cell? ⟨m, 1, none⟩ = some (.slice Ac nc cc) ∧ w'.cell? ⟨m, 2, none⟩ = some (.int .i64 T) ∧ w'.cell? ⟨b, o + k * 4, none⟩ = some (.int .i64 what) ∧ w'.cell? ⟨b, o + k * 4 + 1, none⟩ = some (.slice Ab nb cb) ∧ w'.cell? ⟨b, o + k * 4 + 2, none⟩ = some (.int .i64 xoff) ∧ w'.cell? ⟨b, o + k * 4 + 3, none⟩ = some (.int .i64 xn))
            (first | exact HK.out | exact HKZ.out | exact HK6.out | exact HK6.out.alloc _ | exact (HK6.out.alloc _).far (n := w6.heap.size) HM6.out HB6.out _ _ _ | exact HK6.out.far (n := wr.heap.size) HMN.out HBN.out _ _ _)
            (first
              | (go_at_call 20; refine (act_any wr.drew ⟨what, .slice Ab nb cb, bs, xoff, xn⟩ HPD.out.ring HPD.out.ints HPD.out.far HXD.out HXS.out (by have := HT.out; have := HL40.out; omega)).mono ?_; rintro e w6 ⟨g', v', st', T', cv', rfl, ha⟩; obtain ⟨Ac', nc', cc', rfl, -, -, -⟩ := ha.ref.get; have HAC := Lib.hid ha; have HK6 : Hid (PlayK m S (.slice Ac nc cc) T b (o + k * 4) ⟨what, .slice Ab nb cb, bs, xoff, xn⟩ w6) := (PlayK.mk (HPD.out.box.but ha.but HPD.out.ng HPD.out.nv) ((HXA.out).below (HPD.out.bel.trans (ha.but.below HPD.out.bel.size HPD.out.hg HPD.out.hv)) (Nat.le_refl _)) : PlayK _ _ _ _ _ _ _ _); have HM6 : Hid (m ≠ w6.heap.size) := (by have := HK6.out.1; have := World.block_lt_of_cell? _ _ this; simp at this; omega : m ≠ _); have HB6 : Hid (b ≠ w6.heap.size) := (by have := HK6.out.2.2.2.1; have := World.block_lt_of_cell? _ _ this; simp at this; omega : b ≠ _); clear ha)
              | (go_at_call 20; refine (act_any (wr.drew.alloc (.cells #[.int .i64 0, .slice none 0 0, .int .i64 0] 36)) ⟨what, .slice Ab nb cb, bs, xoff, xn⟩ HPZ.out.ring HPZ.out.ints HPZ.out.far HXZ.out HXS.out (by have := HT.out; have := HL40.out; omega)).mono ?_; rintro e w6 ⟨g', v', st', T', cv', rfl, ha⟩; obtain ⟨Ac', nc', cc', rfl, -, -, -⟩ := ha.ref.get; have HAC := Lib.hid ha; have HK6 : Hid (PlayK m S (.slice Ac nc cc) T b (o + k * 4) ⟨what, .slice Ab nb cb, bs, xoff, xn⟩ w6) := (PlayK.mk (HPZ.out.box.but ha.but HPZ.out.ng HPZ.out.nv) ((HXA.out).below (HPZ.out.bel.trans (ha.but.below HPZ.out.bel.size HPZ.out.hg HPZ.out.hv)) (Nat.le_refl _)) : PlayK _ _ _ _ _ _ _ _); obtain ⟨j1, j2, j3, j4, j5, j6⟩ := (show Blk w6 wr.heap.size 36 #[.int .i64 0, .slice none 0 0, .int .i64 0] from ha.box HPD.out.ring).three; clear ha))
          all_goals
            first
              | (have hne : m ≠ w6.heap.size := HM6.out
                 have ha7 := HAC.out.after ((Below.refl _ w6).alloc (Nat.le_refl _) (.cells #[.int .i64 S, .slice Ac' nc' cc', .int .i64 T'] 36))
                 have hb7 := Blk.new w6 36 #[.int .i64 S, .slice Ac' nc' cc', .int .i64 T']
                 generalize w6.alloc (.cells #[.int .i64 S, .slice Ac' nc' cc', .int .i64 T'] 36) = W7 at ha7 hb7 ⊢
                 generalize w6.heap.size = n17 at hb7 hne ⊢)
              | (have hne : m ≠ wr.heap.size := HMN.out
                 have ha7 := HAC.out.ahead HPD.out.ring HPD.out.ints (.int .i64 S) (.slice Ac' nc' cc') (.int .i64 T')
                 have hb7 := (HAC.out.box HPD.out.ring).filled (.int .i64 S) (.slice Ac' nc' cc') (.int .i64 T')
                 change Acted wr.drew (((w6.setCell ⟨wr.heap.size, 0, none⟩ (.int .i64 S)).setCell ⟨wr.heap.size, 1, none⟩ (.slice Ac' nc' cc')).setCell ⟨wr.heap.size, 2, none⟩ (.int .i64 T')) _ _ _ _ _ _ _ _ _ _ _ at ha7
                 change Blk (((w6.setCell ⟨wr.heap.size, 0, none⟩ (.int .i64 S)).setCell ⟨wr.heap.size, 1, none⟩ (.slice Ac' nc' cc')).setCell ⟨wr.heap.size, 2, none⟩ (.int .i64 T')) wr.heap.size _ _ at hb7
                 generalize ((w6.setCell ⟨wr.heap.size, 0, none⟩ (.int .i64 S)).setCell ⟨wr.heap.size, 1, none⟩ (.slice Ac' nc' cc')).setCell ⟨wr.heap.size, 2, none⟩ (.int .i64 T') = W7 at ha7 hb7 ⊢
                 generalize wr.heap.size = n17 at hb7 hne ⊢)
            have HA7 := Lib.hid ha7
            have HB7 := Lib.hid hb7
            have HNE := Lib.hid hne
            have HBM := Lib.hid (HPD.out.box.but ha7.but HPD.out.ng HPD.out.nv)
            clear ha7 hb7 hne HAC HK6 HKZ HPZ HXZ HXD HXA HXO HK HMN HBN
            obtain ⟨f1, f2, f3, f4, f5, f6⟩ := HBM.out.three
            have KF : Hid (∀ u0 u1 u2 : Value, (((W7.drew.setCell ⟨m, 0, none⟩ u0).setCell ⟨m, 1, none⟩ u1).setCell ⟨m, 2, none⟩ u2).cell? ⟨n17, 0, none⟩ = some (.int .i64 S) ∧ (((W7.drew.setCell ⟨m, 0, none⟩ u0).setCell ⟨m, 1, none⟩ u1).setCell ⟨m, 2, none⟩ u2).cell? ⟨n17, 1, none⟩ = some (.slice Ac' nc' cc') ∧ (((W7.drew.setCell ⟨m, 0, none⟩ u0).setCell ⟨m, 1, none⟩ u1).setCell ⟨m, 2, none⟩ u2).cell? ⟨n17, 2, none⟩ = some (.int .i64 T')) := (fun u0 u1 u2 => by
              have h7 : Blk W7.drew n17 36 #[.int .i64 S, .slice Ac' nc' cc', .int .i64 T'] := HB7.out
              have h8 := (((h7.far (p := ⟨m, 0, none⟩) (fun e => HNE.out e.symm) u0).far (p := ⟨m, 1, none⟩) (fun e => HNE.out e.symm) u1).far (p := ⟨m, 2, none⟩) (fun e => HNE.out e.symm) u2).three
              exact ⟨h8.1, h8.2.1, h8.2.2.1⟩ : ∀ u0 u1 u2 : Value, _)
            go_wp2
            go_region_held3 (fun w' => w'.cell? ⟨n17, 0, none⟩ = some (.int .i64 S) ∧ w'.cell? ⟨n17, 1, none⟩ = some (.slice Ac' nc' cc') ∧ w'.cell? ⟨n17, 2, none⟩ = some (.int .i64 T'))
              (first | exact ⟨HB7.out.three.1, HB7.out.three.2.1, HB7.out.three.2.2.1⟩ | exact KF.out _ _ _)
              (fail)
            have HP5 : Hid (PlaySt w1 (((W7.setCell ⟨m, 0, none⟩ (.int .i64 S)).setCell ⟨m, 1, none⟩ (.slice Ac' nc' cc')).setCell ⟨m, 2, none⟩ (.int .i64 T')).drew m g' v' S st' T' (.slice Ac' nc' cc')) :=
              ((HPD.out.act HA7.out ((((But.refl W7 m none).set_ 0 _).set_ 1 _).set_ 2 _) (HBM.out.filled _ _ _)).drew : PlaySt _ _ _ _ _ _ _ _ _)
            have HT7 : Hid (T' ≤ (k + 1) * 131072) := (by have := HA7.out.tot; have := HT.out; omega : T' ≤ _)
            generalize (((W7.setCell ⟨m, 0, none⟩ (.int .i64 S)).setCell ⟨m, 1, none⟩ (.slice Ac' nc' cc')).setCell ⟨m, 2, none⟩ (.int .i64 T')).drew = W5 at HP5 ⊢
            clear f1 f2 f3 f4 f5 f6 KF HBM HNE HB7 HA7 HPD HP q0 q1 q2 q3 q4 q5
            obtain ⟨q0, q1, q2, q3, q4, q5⟩ := HP5.out.box.three
            go_wp2_with (go_at_call 21; refine (is_any _ HP5.out.ring HP5.out.ints off).mono ?_; rintro e w9 ⟨rfl, hb⟩; have HP9 := Lib.hid (HP5.out.below hb); clear hb)
            go_roundw
            case rel => exact ⟨k + 1, T', g', v', st', Ac', nc', cc', by omega, by go_num, rfl, (HT7.out : T' ≤ _), (HP9.out : PlaySt _ _ _ _ _ _ _ _ _)⟩
            case measure => simp [intOf]; omega
        · go_wp2_with (first
            | (go_at_call 21; refine (is_any _ HP.out.ring HP.out.ints off).mono ?_; rintro e w9 ⟨rfl, hb⟩; have HB := Lib.hid (HP.out.below hb).bel; clear hb)
            | (go_at_call 12; refine (works_at HB.out).mono ?_; rintro e w10 ⟨rfl, hb⟩; have HB2 := Lib.hid hb; clear hb))
          go_ret
          exact ⟨rfl, HB2.out⟩

theorem ringPlays_walk (size : Int) (_ : (Lit.int .i64 size).wf = true) (v1 : Value) (zs : List Int) {w : World} (w1 : Ints w .u8 v1 zs ∧ ∀ z ∈ zs, (Lit.int .u8 z).wf = true) (v2 : Value) (l : List ActD) (w2 : Acts w v2 l) (off : Int) (_ : (Lit.int .i64 off).wf = true) :
    Calls Try.prog 4 #[.int .i64 size, v1, v2, .int .i64 off] w fun e w' => e = .returned (.bool true) ∧ Below w.heap.size w w' := by
  obtain ⟨hz, hw⟩ := w1
  by_cases h : 100 < zs.length
  · exact rp_few size v1 zs v2 l off hz w2 (.inl h)
  by_cases hf : fewP l 40
  · by_cases hs : size < 1 ∨ 134217728 < size
    · exact rp_bad size v1 zs v2 l off hz w2 (by omega) hf hs
    · obtain ⟨S, rfl⟩ : ∃ S : Nat, size = (S : Int) := ⟨size.toNat, by omega⟩
      exact rp_ok S v1 zs v2 l off hz (u8s_wf hw) w2 (by omega) hf (by omega) (by omega)
  · exact rp_few size v1 zs v2 l off hz w2 (.inr ⟨by omega, hf⟩)
end Go.Proofs.Ytohmkcoodaidcaa
