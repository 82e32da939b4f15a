/-
  RingPieces: the law's walk.
-/
import Derived.Test.YtohmkcoodaidcaaRgTwo
import Derived.Test.YtohmkcoodaidcaaArgActs
namespace Go.Proofs.Ytohmkcoodaidcaa
open Go.RowKit

/-- Rows of bytes. -/
structure ByteRows (w : World) (v : Value) (ls : List (Value × List Int)) : Prop where
  at_ : ∃ A c, v = .slice A ls.length c ∧ ls.length ≤ c ∧ c ≤ maxLen ∧ (0 < ls.length → ∃ b off, A = some ⟨b, off, none⟩ ∧ ∀ (i : Nat) (x : Value × List Int), ls[i]? = some x → w.cell? ⟨b, off + i, none⟩ = some x.1)
  ok : ∀ x ∈ ls, Ints w .u8 x.1 x.2 ∧ U8s x.2

/-- The rings, and the bytes so far. -/
structure Pc (w W : World) (g : Nat) (v : Value) (S : Nat) (st : List Int) (T g2 : Nat) (v2 : Value) (stb : List Int) (T2 : Nat) (A : Option Addr) (N c : Nat) (zs : List Int) : Prop where
  two : Two w W g v S st T g2 v2 S stb T2
  row : Row W (.slice A N c) zs
  len : zs.length = N
  own : ∀ k, (Value.slice A N c).ownBlock = some k → w.heap.size ≤ k
  s1 : (Value.slice A N c).ownBlock ≠ some g
  s2 : (Value.slice A N c).ownBlock ≠ some g2
  s3 : ∀ k, (Value.slice A N c).ownBlock = some k → v.ownBlock ≠ some k
  s4 : ∀ k, (Value.slice A N c).ownBlock = some k → v2.ownBlock ≠ some k
  u8 : U8s zs
section
variable {w W W2 : World} {g g2 : Nat} {v v' v2 : Value} {S T T' T2 : Nat} {st st' stb : List Int} {A A' : Option Addr} {N c N' c' : Nat} {zs bs : List Int}
theorem Pc.below (h : Pc w W g v S st T g2 v2 stb T2 A N c zs) (hb : Below W.heap.size W W2) : Pc w W2 g v S st T g2 v2 stb T2 A N c zs :=
  { h with two := h.two.below hb, row := h.row.below hb (Nat.le_refl _) }
theorem Pc.app (h : Pc w W g v S st T g2 v2 stb T2 A N c zs) (hl : (zs ++ bs).length = N') (hu : U8s bs) (hrow : Row W2 (.slice A' N' c') (zs ++ bs)) (hg : W.grownBy W2 (Value.slice A N c).ownBlock)
    (hown : (Value.slice A' N' c').ownBlock = (Value.slice A N c).ownBlock ∨ (Value.slice A' N' c').ownBlock = some W.heap.size) : Pc w W2 g v S st T g2 v2 stb T2 A' N' c' (zs ++ bs) := by
  have hb : But W W2 W.heap.size (Value.slice A N c).ownBlock := But.of_grown hg _
  have hl1 := h.two.r1.lt
  have hl2 := h.two.r2.lt
  have hs := h.two.bel.size
  have hr1 := h.two.r1.but hb (by omega) h.s1 (fun e => by have := h.two.r1.row.lt _ e; omega) (fun k hk e => h.s3 k e hk)
  have hr2 := h.two.r2.but hb (by omega) h.s2 (fun e => by have := h.two.r2.row.lt _ e; omega) (fun k hk e => h.s4 k e hk)
  have hbel : Below w.heap.size w W2 := h.two.bel.grown hg hs fun r hr => h.own r hr
  refine ⟨{ h.two with r1 := hr1, r2 := hr2, bel := hbel }, hrow, hl, ?_, ?_, ?_, ?_, ?_, h.u8.append hu⟩
  all_goals rcases hown with e | e
  · rw [e]; exact h.own
  · intro k hk; rw [e] at hk; have := Option.some.inj hk; omega
  · rw [e]; exact h.s1
  · rw [e]; intro e2; have := Option.some.inj e2; omega
  · rw [e]; exact h.s2
  · rw [e]; intro e2; have := Option.some.inj e2; omega
  · rw [e]; exact h.s3
  · intro k hk e2; rw [e] at hk; have := Option.some.inj hk; have := h.two.r1.row.lt k e2; omega
  · rw [e]; exact h.s4
  · intro k hk e2; rw [e] at hk; have := Option.some.inj hk; have := h.two.r2.row.lt k e2; omega
theorem Pc.put (h : Pc w W g v S st T g2 v2 stb T2 A N c zs) (hp : Put W W2 g v v' S st' T') : Pc w W2 g v' S st' T' g2 v2 stb T2 A N c zs := by
  refine { h with two := h.two.put hp, row := h.row.but hp.but h.s1 (fun k hk e => h.s3 k hk e), s3 := ?_ }
  intro k hk
  rcases hp.own with e | e
  · rw [e]; exact h.s3 k hk
  · intro e2; have := e k e2; have := h.row.lt k hk; omega
theorem Pc.symm (h : Pc w W g v S st T g2 v2 stb T2 A N c zs) : Pc w W g2 v2 S stb T2 g v st T A N c zs :=
  ⟨h.two.symm, h.row, h.len, h.own, h.s2, h.s1, h.s4, h.s3, h.u8⟩
end

theorem wrap_in (n : Int) (h0 : -9223372036854775808 ≤ n) (h1 : n ≤ 9223372036854775807) : IntKind.i64.wrap n = n := by
  simp [IntKind.wrap, IntKind.bits, IntKind.signed]
  omega

/-- The end of the bytes as a slice. -/
theorem end_big {w : World} {A : Option Addr} {N c D S : Nat} {zs : List Int} (h : Ints w .u8 (.slice A N c) zs) (hlt : S < N) (hD : N - S = D) (h1 : 1 ≤ S) : Ints w .u8 (.slice (A.map (·.add D)) S (c - D)) (lastN S zs) := by
  obtain ⟨A', n', c', he, hc, hm, hat⟩ := h.get
  injection he with e1 e2 e3
  subst e1 e2 e3
  have h2 := at_cut hat hc (j := D) (by omega)
  rw [if_neg (by omega), show N - D = S by omega] at h2
  have h3 : zs.drop D = lastN S zs := by unfold lastN; rw [hat.1, hD]
  rw [h3] at h2
  exact h2.ints (by omega) (by simp only [maxLen]; omega)

set_option maxRecDepth 100000 in
theorem rpc_else (size : Int) (v1 : Value) (ls : List (Value × List Int)) {w : World} (hl : ByteRows w v1 ls) (h : size < 1 ∨ (1 ≤ size ∧ (300 < size ∨ (size ≤ 300 ∧ 20 < ls.length)))) :
    Calls Try.prog 5 #[.int .i64 size, v1] w fun e w' => e = .returned (.bool true) ∧ Below w.heap.size w w' := by
  obtain ⟨⟨A, c, rfl, -, -, -⟩, -⟩ := hl
  obtain ⟨L, hL⟩ : ∃ L, ls.length = L := ⟨_, rfl⟩
  rw [hL] at h ⊢
  clear hL
  rcases h with h | ⟨h0, h | ⟨h1, h⟩⟩
  all_goals
    go_enter Try.func5, Try.ntmps5
    go_wp2_with (go_at_call 12; refine (works_at (Below.refl _ w)).mono ?_; rintro e w1 ⟨rfl, hb⟩; have HB := Lib.hid hb; clear hb)
    go_ret
    exact ⟨rfl, HB.out⟩

set_option linter.unusedSimpArgs false
set_option maxRecDepth 100000 in
set_option maxHeartbeats 6400000 in
theorem rpc_main (S : Nat) (v1 : Value) (ls : List (Value × List Int)) {w : World} (hl : ByteRows w v1 ls) (h1 : 1 ≤ S) (h2 : S ≤ 300) (h3 : ls.length ≤ 20) :
    Calls Try.prog 5 #[.int .i64 S, v1] w fun e w' => e = .returned (.bool true) ∧ Below w.heap.size w w' := by
  have HS1 : Hid (1 ≤ S) := (h1 : _ ≤ _)
  have HS2 : Hid (S ≤ 134217728) := (by omega : S ≤ _)
  obtain ⟨⟨A1, c1, hv1, hlc, hcm, hat⟩, hok⟩ := hl
  subst hv1
  obtain ⟨L, hL⟩ : ∃ L, ls.length = L := ⟨_, rfl⟩
  have HLEN := Lib.hid hL
  rw [hL] at h3 hat ⊢
  have HAT := Lib.hid hat
  have HOK := Lib.hid hok
  clear hat hok hL hlc hcm
  go_enter Try.func5, Try.ntmps5
  go_wp2_with fail
  refine (new_ok w (bs := []) HS1.out HS2.out (Ints.nil _ _) (by decide) (by simp)).mono ?_
  rintro e w1 ⟨g, v, rfl, hm⟩
  have HO := Lib.hid (OwnRing.made hm (Below.refl _ w))
  clear hm
  go_wp2_with fail
  refine (new_ok w1 (bs := []) HS1.out HS2.out (Ints.nil _ _) (by decide) (by simp)).mono ?_
  rintro e w2 ⟨g2, v2, rfl, hm⟩
  have HP0 : Hid (Pc w w2 g v S [] 0 g2 v2 [] 0 none 0 0 []) := (by
    have ht := Two.made HO.out hm
    have hk : keepL S [] = [] := by unfold keepL; simp
    rw [hk] at ht
    exact ⟨ht, Row.nil _, rfl, (fun k hk => by cases hk), (by simp [Value.ownBlock]), (by simp [Value.ownBlock]), (fun k hk => by cases hk), (fun k hk => by cases hk), fun x hx => by cases hx⟩ : Pc _ _ _ _ _ _ _ _ _ _ _ _ _ _ _)
  clear hm HO
  go_wp2
  go_loopw [9, 10] (fun all i wr => ∃ (k N c : Nat) (A : Option Addr) (v : Value) (st zs : List Int), k ≤ L ∧ i = .int .i64 k ∧ all = .slice A N c ∧ N ≤ 60 * k ∧ Hid (Pc w wr g v S st N g2 v2 [] 0 A N c zs) ∧ Hid (lastN S st = lastN S zs)) (fun _ i _ => L - (intOf i).toNat)
  case atStart => exact ⟨0, 0, 0, none, v, [], [], Nat.zero_le _, rfl, rfl, by omega, (HP0.out : Pc _ _ _ _ _ _ _ _ _ _ _ _ _ _ _), (rfl : _ = _)⟩
  case round =>
    clear HP0
    obtain ⟨k, N, c, A, v, st, zs, hk, rfl, rfl, hN, HP, HE⟩ := hrel
    have k0 : (0 : Int) ≤ (k : Int) := by omega
    by_cases hlt : k < L
    · have k1 : (k : Int) < (L : Int) := by omega
      obtain ⟨b, o, rfl, hcell⟩ := HAT.out (by omega)
      have hx := List.getElem?_eq_getElem (l := ls) (i := k) (by rw [HLEN.out]; exact hlt)
      obtain ⟨⟨xv, xs⟩, hxe⟩ : ∃ x, ls[k]'(by rw [HLEN.out]; exact hlt) = x := ⟨_, rfl⟩
      rw [hxe] at hx
      obtain ⟨hi, hu⟩ := HOK.out _ (List.mem_of_getElem? hx)
      have hc0 := hcell k _ hx
      simp only at hi hu hc0
      obtain ⟨Ax, nx, cx, rfl, -, -, hax⟩ := hi.get
      have hbl := World.block_lt_of_cell? _ _ hc0
      have HNX := Lib.hid hax.1
      have HU := Lib.hid hu
      have HAX := Lib.hid (hax.below HP.out.two.bel (Nat.le_refl _))
      have hcw := (HP.out.two.bel.cell (p := ⟨b, o + k, none⟩) hbl).trans hc0
      have HC0 := Lib.hid hc0
      have HBL := Lib.hid hbl
      have HXI := Lib.hid hi
      clear hcell hx hxe hi hu hax hc0 hbl
      by_cases h60 : 60 < nx
      · go_wp2_with (go_at_call 12; refine (works_at HP.out.two.bel).mono ?_; rintro e w9 ⟨rfl, hb⟩; have HB := Lib.hid hb; clear hb)
        go_ret
        exact ⟨rfl, HB.out⟩
      · obtain ⟨N2, hN2⟩ : ∃ N2, N + nx = N2 := ⟨_, rfl⟩
        have HN2 := Lib.hid hN2
        have hN2b : N2 ≤ 60 * (k + 1) := by omega
        clear hN2
        go_wp2_with (first
          | (at_builtin; refine wpList_append_row rfl _ _ rfl (.slice A N c) zs xs rfl HP.out.row Ax nx cx rfl HAX.out (by rw [HP.out.len]; omega) N2 (by rw [HP.out.len, HN2.out]) ?_; intro A3 c3 w3 hrow hgrow hown; have HP3 := Lib.hid (HP.out.app (by rw [List.length_append, HP.out.len, HNX.out, HN2.out]) HU.out hrow hgrow hown); have hc3 := (HP3.out.two.bel.cell (p := ⟨b, o + k, none⟩) HBL.out).trans HC0.out; clear hrow hgrow hown)
          | (go_at_call 22; refine (add_any w3 HP3.out.two.r1 (HXI.out.below HP3.out.two.bel (Nat.le_refl _)) HU.out (by rw [HNX.out]; omega) (by rw [HNX.out]; omega)).mono ?_; rw [HNX.out, HN2.out]; rintro e w4 ⟨rfl, v', hp⟩; have HP4 := Lib.hid (HP3.out.put hp); clear hp)
          | (go_at_call 19; refine (num_any w4 _).mono ?_; rintro e w5 ⟨rfl, rfl⟩))
        go_roundw
        case rel => exact ⟨k + 1, N2, c3, A3, v', _, _, by omega, by go_num, rfl, hN2b, (HP4.out : Pc _ _ _ _ _ _ _ _ _ _ _ _ _ _ _), (by rw [keepL_last, ← lastN_append, HE.out, lastN_append] : _ = _)⟩
        case measure => simp [intOf]; omega
    · obtain rfl : k = L := by omega
      have HLN := Lib.hid HP.out.len
      go_wp2_with fail
      refine (add_any wr HP.out.two.r2 HP.out.row.ints HP.out.u8 (by rw [HLN.out]; omega) (by rw [HLN.out]; omega)).mono ?_
      rw [HLN.out, Nat.zero_add, List.nil_append]
      rintro e w4 ⟨rfl, v2', hp⟩
      have HP4 := Lib.hid (HP.out.symm.put hp).symm
      have HT : Hid (Two w w4 g v S st N g2 v2' S (keepL S zs) N) := (HP4.out.two : Two _ _ _ _ _ _ _ _ _ _ _ _)
      have HEQ : Hid (lastN S st = lastN S (keepL S zs)) := (by rw [keepL_last]; exact HE.out : _ = _)
      have HLL : Hid (lastN S (lastN S st) = lastN S zs) := (by rw [HE.out]; exact lastN_lastN _ (Nat.le_refl _) : _ = _)
      clear hp HP
      have hNm : (N : Int) ≤ 9223372036854775807 := by omega
      obtain ⟨A', n', c', he, hcc, hcm, -⟩ := HP4.out.row.ints.get
      injection he with e1 e2 e3
      subst e1 e2 e3
      obtain ⟨stb, hstb⟩ : ∃ s, keepL S zs = s := ⟨_, rfl⟩
      rw [hstb] at HT HEQ
      clear hstb
      go_wp2
      by_cases hSN : S < N
      · obtain ⟨D, hD⟩ : ∃ D, N - S = D := ⟨_, rfl⟩
        have e1 : (N : Int) - (S : Int) = (D : Int) := by omega
        have e3 : (D : Int) ≤ (N : Int) := by omega
        have e4 : ¬ (D : Int) < 0 := by omega
        have e5 : (0 : Int) < (D : Int) := by omega
        have e6 : N - D = S := by omega
        have e5n : 0 < D := by omega
        have e3n : D ≤ N := by omega
        have ew : IntKind.i64.wrap (D : Int) = (D : Int) := wrap_in _ (by omega) (by omega)
        have hcD : ¬ c = D := by omega
        have HSV : Hid (Ints w4.drew .u8 (.slice (A.map (·.add D)) S (c - D)) (lastN S zs)) := (end_big (w := w4) HP4.out.row.ints hSN hD HS1.out : Ints w4 _ _ _)
        clear hD HP4
        refine wp_region_noPanic ?_
        refine wp_region_held_drew (S := (fun w' => (convert 27 9 (.slice (A.map (·.add D)) S (c - D))).run Try.prog w' = .ok (.string (strOfNums (lastN S zs))) w')) (by kernel_rfl) ?_ (fun hHeld => ?_)
        · (try dsimp only); exact conv_str HSV.out
        refine wpAnyH_take2 (i := 0) (oi := _) (d := some 64) (v := ?_) rfl rfl (by kernel_rfl) (by kernel_rfl) (by kernel_rfl) (fun _ _ _ h => h) (Or.inl ⟨by rfl, ?_⟩) (by assumption) ?_
        rotate_left 1
        · (intro w' hSw; (try dsimp only at hSw); go_simp; try with_reducible rfl)
        try simp only [Act.put, List.setIfInBounds_toArray, List.set_cons_zero, List.set_cons_succ]
        refine wpAnyH_take2 (i := 2) (oi := _) (d := some 66) (v := ?_) rfl rfl (by kernel_rfl) (by kernel_rfl) (by kernel_rfl) (fun _ _ _ h => h) (Or.inl ⟨by rfl, ?_⟩) (by assumption) ?_
        rotate_left 1
        · (intro w' hSw; (try dsimp only at hSw); go_simp; try with_reducible rfl)
        try simp only [Act.put, List.setIfInBounds_toArray, List.set_cons_zero, List.set_cons_succ]
        refine wpAnyH_take2 (i := 5) (oi := _) (d := some 69) (v := ?_) rfl rfl (by kernel_rfl) (by kernel_rfl) (by kernel_rfl) (fun _ _ _ h => h) (Or.inl ⟨by rfl, ?_⟩) (by assumption) ?_
        rotate_left 1
        · (intro w' hSw; (try dsimp only at hSw); go_simp; try with_reducible rfl)
        try simp only [Act.put, List.setIfInBounds_toArray, List.set_cons_zero, List.set_cons_succ]
        refine wpAnyH_ready (rs := [1]) (by kernel_rfl) (by simp) ?_
        refine AllReadyH.cons (o := _) rfl (fun K hK => ?_) ?_
        rotate_left
        · exact AllReadyH.nil
        go_simp
        refine (num_any _ _).mono ?_; rintro e w5 ⟨rfl, hw⟩; have HT5 : Hid (Two w w5 g v S st N g2 v2' S stb N) := (by rw [hw]; exact HT.out.draws ⟨1, rfl⟩ : Two _ _ _ _ _ _ _ _ _ _ _ _); have HSV5 : Hid (Ints w5 .u8 (.slice (A.map (·.add D)) S (c - D)) (lastN S zs)) := (by rw [hw]; exact HSV.out : Ints _ _ _ _); clear hw
        refine hK.out _ _ ?_ (fun hHeld => ?_)
        · (try dsimp only); exact conv_str HSV5.out
        clear hK K
        try simp only [Act.put, List.setIfInBounds_toArray, List.set_cons_zero, List.set_cons_succ]
        refine wpAnyH_ready (rs := [3]) (by kernel_rfl) (by simp) ?_
        refine AllReadyH.cons (o := _) rfl (fun K hK => ?_) ?_
        rotate_left
        · exact AllReadyH.nil
        go_simp
        refine (num_any _ _).mono ?_; rintro e w6 ⟨rfl, hw⟩; have HT6 : Hid (Two w w6 g v S st N g2 v2' S stb N) := (by rw [hw]; exact HT5.out : Two _ _ _ _ _ _ _ _ _ _ _ _); have HSV6 : Hid (Ints w6 .u8 (.slice (A.map (·.add D)) S (c - D)) (lastN S zs)) := (by rw [hw]; exact HSV5.out : Ints _ _ _ _); clear hw
        refine hK.out _ _ ?_ (fun hHeld => ?_)
        · (try dsimp only); exact conv_str HSV6.out
        clear hK K
        try simp only [Act.put, List.setIfInBounds_toArray, List.set_cons_zero, List.set_cons_succ]
        refine wpAnyH_take2 (i := 4) (oi := _) (d := some 68) (v := ?_) rfl rfl (by kernel_rfl) (by kernel_rfl) (by kernel_rfl) (fun _ _ _ h => h) (Or.inl ⟨by rfl, ?_⟩) (by assumption) ?_
        rotate_left 1
        · (intro w' hSw; (try dsimp only at hSw); go_simp; try with_reducible rfl)
        try simp only [Act.put, List.setIfInBounds_toArray, List.set_cons_zero, List.set_cons_succ]
        refine wpAnyH_ready (rs := [6]) (by kernel_rfl) (by simp) ?_
        refine AllReadyH.cons (o := _) rfl (fun K hK => ?_) ?_
        rotate_left
        · exact AllReadyH.nil
        go_simp
        refine (num_any _ _).mono ?_; rintro e w7 ⟨rfl, hw⟩; have HT7 : Hid (Two w w7 g v S st N g2 v2' S stb N) := (by rw [hw]; exact HT6.out : Two _ _ _ _ _ _ _ _ _ _ _ _); have HSV7 : Hid (Ints w7 .u8 (.slice (A.map (·.add D)) S (c - D)) (lastN S zs)) := (by rw [hw]; exact HSV6.out : Ints _ _ _ _); clear hw
        refine hK.out _ _ ?_ (fun hHeld => ?_)
        · (try dsimp only); exact conv_str HSV7.out
        clear hK K
        try simp only [Act.put, List.setIfInBounds_toArray, List.set_cons_zero, List.set_cons_succ]
        refine wpAnyH_take2 (i := 7) (oi := _) (d := some 71) (v := ?_) rfl rfl (by kernel_rfl) (by kernel_rfl) (by kernel_rfl) (fun _ _ _ h => h) (Or.inl ⟨by rfl, ?_⟩) (by assumption) ?_
        rotate_left 1
        · (intro w' hSw; (try dsimp only at hSw); go_simp; try with_reducible rfl)
        try simp only [Act.put, List.setIfInBounds_toArray, List.set_cons_zero, List.set_cons_succ]
        refine wpAnyH_take2 (i := 8) (oi := _) (d := some 72) (v := ?_) rfl rfl (by kernel_rfl) (by kernel_rfl) (by kernel_rfl) (fun _ _ _ h => h) (Or.inl ⟨by rfl, ?_⟩) (by assumption) ?_
        rotate_left 1
        · (intro w' hSw; (try dsimp only at hSw); go_simp; try with_reducible rfl)
        try simp only [Act.put, List.setIfInBounds_toArray, List.set_cons_zero, List.set_cons_succ]
        refine wpAnyH_take2 (i := 9) (oi := _) (d := some 73) (v := ?_) rfl rfl (by kernel_rfl) (by kernel_rfl) (by kernel_rfl) (fun _ _ _ h => h) (Or.inl ⟨by rfl, ?_⟩) (by assumption) ?_
        rotate_left 1
        · (intro w' hSw; (try dsimp only at hSw); go_simp; try with_reducible rfl)
        try simp only [Act.put, List.setIfInBounds_toArray, List.set_cons_zero, List.set_cons_succ]
        refine wpAnyH_take2 (i := 10) (oi := _) (d := some 74) (v := ?_) rfl rfl (by kernel_rfl) (by kernel_rfl) (by kernel_rfl) (fun _ _ _ h => h) (Or.inl ⟨by rfl, ?_⟩) (by assumption) ?_
        rotate_left 1
        · (intro w' hSw; (try dsimp only at hSw); go_simp; try with_reducible rfl)
        try simp only [Act.put, List.setIfInBounds_toArray, List.set_cons_zero, List.set_cons_succ]
        refine wpAnyH_take2 (i := 11) (oi := _) (d := some 75) (v := ?_) rfl rfl (by kernel_rfl) (by kernel_rfl) (by kernel_rfl) (fun _ _ _ h => h) (Or.inl ⟨by rfl, ?_⟩) (by assumption) ?_
        rotate_left 1
        · (intro w' hSw; (try dsimp only at hSw); go_simp; try with_reducible rfl)
        try simp only [Act.put, List.setIfInBounds_toArray, List.set_cons_zero, List.set_cons_succ]
        refine wpAnyH_ready (rs := [12]) (by kernel_rfl) (by simp) ?_
        refine AllReadyH.cons (o := _) rfl (fun K hK => ?_) ?_
        rotate_left
        · exact AllReadyH.nil
        go_simp
        refine (eq_ring _ HT7.out.r1 HT7.out.r2).mono ?_; rw [eq_true_of HEQ.out]; rintro e w8 ⟨rfl, hm⟩; have HT8 := Lib.hid (HT7.out.draws hm); have HSV8 : Hid (Ints w8 .u8 (.slice (A.map (·.add D)) S (c - D)) (lastN S zs)) := (by obtain ⟨m, rfl⟩ := hm; exact HSV7.out : Ints _ _ _ _); clear hm
        refine hK.out _ _ ?_ (fun hHeld => ?_)
        · (try dsimp only); exact conv_str HSV8.out
        clear hK K
        try simp only [Act.put, List.setIfInBounds_toArray, List.set_cons_zero, List.set_cons_succ]
        refine wpAnyH_take2 (i := 13) (oi := _) (d := some 77) (v := ?_) rfl rfl (by kernel_rfl) (by kernel_rfl) (by kernel_rfl) (fun _ _ _ h => h) (Or.inl ⟨by rfl, ?_⟩) (by assumption) ?_
        rotate_left 1
        · (intro w' hSw; (try dsimp only at hSw); go_simp; try with_reducible rfl)
        try simp only [Act.put, List.setIfInBounds_toArray, List.set_cons_zero, List.set_cons_succ]
        refine wpAnyH_take2 (i := 14) (oi := _) (d := some 78) (v := ?_) rfl rfl (by kernel_rfl) (by kernel_rfl) (by kernel_rfl) (fun _ _ _ h => h) (Or.inl ⟨by rfl, ?_⟩) (by assumption) ?_
        rotate_left 1
        · (intro w' hSw; (try dsimp only at hSw); go_simp; try with_reducible rfl)
        try simp only [Act.put, List.setIfInBounds_toArray, List.set_cons_zero, List.set_cons_succ]
        refine wpAnyH_take2 (i := 15) (oi := _) (d := some 79) (v := ?_) rfl rfl (by kernel_rfl) (by kernel_rfl) (by kernel_rfl) (fun _ _ _ h => h) (Or.inl ⟨by rfl, ?_⟩) (by assumption) ?_
        rotate_left 1
        · (intro w' hSw; (try dsimp only at hSw); go_simp; try with_reducible rfl)
        try simp only [Act.put, List.setIfInBounds_toArray, List.set_cons_zero, List.set_cons_succ]
        refine wpAnyH_take2 (i := 17) (oi := _) (d := some 81) (v := ?_) rfl rfl (by kernel_rfl) (by kernel_rfl) (by kernel_rfl) (fun _ _ _ h => h) (Or.inl ⟨by rfl, ?_⟩) (by assumption) ?_
        rotate_left 1
        · (intro w' hSw; (try dsimp only at hSw); go_simp; try with_reducible rfl)
        try simp only [Act.put, List.setIfInBounds_toArray, List.set_cons_zero, List.set_cons_succ]
        refine wpAnyH_ready (rs := [16]) (by kernel_rfl) (by simp) ?_
        refine AllReadyH.cons (o := _) rfl (fun K hK => ?_) ?_
        rotate_left
        · exact AllReadyH.nil
        go_simp
        refine (total_ring _ HT8.out.r1).mono ?_; rintro e w9 ⟨rfl, hw⟩; have HT9 : Hid (Two w w9 g v S st N g2 v2' S stb N) := (by rw [hw]; exact HT8.out : Two _ _ _ _ _ _ _ _ _ _ _ _); have HSV9 : Hid (Ints w9 .u8 (.slice (A.map (·.add D)) S (c - D)) (lastN S zs)) := (by rw [hw]; exact HSV8.out : Ints _ _ _ _); clear hw
        refine hK.out _ _ ?_ (fun hHeld => ?_)
        · (try dsimp only); exact conv_str HSV9.out
        clear hK K
        try simp only [Act.put, List.setIfInBounds_toArray, List.set_cons_zero, List.set_cons_succ]
        refine wpAnyH_ready (rs := [18]) (by kernel_rfl) (by simp) ?_
        refine AllReadyH.cons (o := _) rfl (fun K hK => ?_) ?_
        rotate_left
        · exact AllReadyH.nil
        go_simp
        refine (total_ring _ HT9.out.r2).mono ?_; rintro e w10 ⟨rfl, hw⟩; have HT10 : Hid (Two w w10 g v S st N g2 v2' S stb N) := (by rw [hw]; exact HT9.out : Two _ _ _ _ _ _ _ _ _ _ _ _); have HSV10 : Hid (Ints w10 .u8 (.slice (A.map (·.add D)) S (c - D)) (lastN S zs)) := (by rw [hw]; exact HSV9.out : Ints _ _ _ _); clear hw
        refine hK.out _ _ ?_ (fun hHeld => ?_)
        · (try dsimp only); exact conv_str HSV10.out
        clear hK K
        try simp only [Act.put, List.setIfInBounds_toArray, List.set_cons_zero, List.set_cons_succ]
        refine wpAnyH_take2 (i := 19) (oi := _) (d := some 83) (v := ?_) rfl rfl (by kernel_rfl) (by kernel_rfl) (by kernel_rfl) (fun _ _ _ h => h) (Or.inl ⟨by rfl, ?_⟩) (by assumption) ?_
        rotate_left 1
        · (intro w' hSw; (try dsimp only at hSw); go_simp; try with_reducible rfl)
        try simp only [Act.put, List.setIfInBounds_toArray, List.set_cons_zero, List.set_cons_succ]
        refine wpAnyH_take2 (i := 20) (oi := _) (d := some 84) (v := ?_) rfl rfl (by kernel_rfl) (by kernel_rfl) (by kernel_rfl) (fun _ _ _ h => h) (Or.inl ⟨by rfl, ?_⟩) (by assumption) ?_
        rotate_left 1
        · (intro w' hSw; (try dsimp only at hSw); go_simp; try with_reducible rfl)
        try simp only [Act.put, List.setIfInBounds_toArray, List.set_cons_zero, List.set_cons_succ]
        refine wpAnyH_take2 (i := 21) (oi := _) (d := some 85) (v := ?_) rfl rfl (by kernel_rfl) (by kernel_rfl) (by kernel_rfl) (fun _ _ _ h => h) (Or.inl ⟨by rfl, ?_⟩) (by assumption) ?_
        rotate_left 1
        · (intro w' hSw; (try dsimp only at hSw); go_simp; try with_reducible rfl)
        try simp only [Act.put, List.setIfInBounds_toArray, List.set_cons_zero, List.set_cons_succ]
        refine wpAnyH_take2 (i := 22) (oi := _) (d := some 86) (v := ?_) rfl rfl (by kernel_rfl) (by kernel_rfl) (by kernel_rfl) (fun _ _ _ h => h) (Or.inl ⟨by rfl, ?_⟩) (by assumption) ?_
        rotate_left 1
        · (intro w' hSw; (try dsimp only at hSw); go_simp; try with_reducible rfl)
        try simp only [Act.put, List.setIfInBounds_toArray, List.set_cons_zero, List.set_cons_succ]
        refine wpAnyH_take2 (i := 23) (oi := _) (d := some 87) (v := ?_) rfl rfl (by kernel_rfl) (by kernel_rfl) (by kernel_rfl) (fun _ _ _ h => h) (Or.inl ⟨by rfl, ?_⟩) (by assumption) ?_
        rotate_left 1
        · (intro w' hSw; (try dsimp only at hSw); go_simp; try with_reducible rfl)
        try simp only [Act.put, List.setIfInBounds_toArray, List.set_cons_zero, List.set_cons_succ]
        refine wpAnyH_take2 (i := 26) (oi := _) (d := some 90) (v := ?_) rfl rfl (by kernel_rfl) (by kernel_rfl) (by kernel_rfl) (fun _ _ _ h => h) (Or.inl ⟨by rfl, ?_⟩) (by assumption) ?_
        rotate_left 1
        · (intro w' hSw; (try dsimp only at hSw); go_simp; try with_reducible rfl)
        try simp only [Act.put, List.setIfInBounds_toArray, List.set_cons_zero, List.set_cons_succ]
        refine wpAnyH_take2 (i := 27) (oi := _) (d := some 91) (v := ?_) rfl rfl (by kernel_rfl) (by kernel_rfl) (by kernel_rfl) (fun _ _ _ h => h) (Or.inl ⟨by rfl, ?_⟩) (by assumption) ?_
        rotate_left 1
        · (intro w' hSw; (try dsimp only at hSw); go_simp; try with_reducible rfl)
        try simp only [Act.put, List.setIfInBounds_toArray, List.set_cons_zero, List.set_cons_succ]
        refine wpAnyH_take2 (i := 28) (oi := _) (d := some 92) (v := ?_) rfl rfl (by kernel_rfl) (by kernel_rfl) (by kernel_rfl) (fun _ _ _ h => h) (Or.inl ⟨by rfl, ?_⟩) (by assumption) ?_
        rotate_left 1
        · (intro w' hSw; (try dsimp only at hSw); go_simp; try with_reducible rfl)
        try simp only [Act.put, List.setIfInBounds_toArray, List.set_cons_zero, List.set_cons_succ]
        refine wpAnyH_take2 (i := 29) (oi := _) (d := some 93) (v := ?_) rfl rfl (by kernel_rfl) (by kernel_rfl) (by kernel_rfl) (fun _ _ _ h => h) (Or.inl ⟨by rfl, ?_⟩) (by assumption) ?_
        rotate_left 1
        · (intro w' hSw; (try dsimp only at hSw); go_simp; try with_reducible rfl)
        try simp only [Act.put, List.setIfInBounds_toArray, List.set_cons_zero, List.set_cons_succ]
        refine wpAnyH_take2 (i := 30) (oi := _) (d := some 94) (v := ?_) rfl rfl (by kernel_rfl) (by kernel_rfl) (by kernel_rfl) (fun _ _ _ h => h) (Or.inl ⟨by rfl, ?_⟩) (by assumption) ?_
        rotate_left 1
        · (intro w' hSw; (try dsimp only at hSw); go_simp; try with_reducible rfl)
        try simp only [Act.put, List.setIfInBounds_toArray, List.set_cons_zero, List.set_cons_succ]
        refine wpAnyH_take2 (i := 31) (oi := _) (d := some 95) (v := ?_) rfl rfl (by kernel_rfl) (by kernel_rfl) (by kernel_rfl) (fun _ _ _ h => h) (Or.inl ⟨by rfl, ?_⟩) (by assumption) ?_
        rotate_left 1
        · (intro w' hSw; (try dsimp only at hSw); go_simp; try with_reducible rfl)
        try simp only [Act.put, List.setIfInBounds_toArray, List.set_cons_zero, List.set_cons_succ]
        refine wpAnyH_take2 (i := 32) (oi := _) (d := some 96) (v := ?_) rfl rfl (by kernel_rfl) (by kernel_rfl) (by kernel_rfl) (fun _ _ _ h => h) (Or.inl ⟨by rfl, ?_⟩) (by assumption) ?_
        rotate_left 1
        · (intro w' hSw; (try dsimp only at hSw); go_simp; try with_reducible rfl)
        try simp only [Act.put, List.setIfInBounds_toArray, List.set_cons_zero, List.set_cons_succ]
        refine wpAnyH_take2 (i := 33) (oi := _) (d := some 97) (v := ?_) rfl rfl (by kernel_rfl) (by kernel_rfl) (by kernel_rfl) (fun _ _ _ h => h) (Or.inl ⟨by rfl, ?_⟩) (by assumption) ?_
        rotate_left 1
        · (intro w' hSw; (try dsimp only at hSw); go_simp; try with_reducible rfl)
        try simp only [Act.put, List.setIfInBounds_toArray, List.set_cons_zero, List.set_cons_succ]
        refine wpAnyH_ready (rs := [24]) (by kernel_rfl) (by simp) ?_
        refine AllReadyH.cons (o := _) rfl (fun K hK => ?_) ?_
        rotate_left
        · exact AllReadyH.nil
        go_simp
        refine (last_some _ HT10.out.r1 S HS1.out).mono ?_; rintro e w11 ⟨lv, rfl, hcl⟩; rw [HLL.out] at hcl; obtain ⟨A8, n8, c8, rfl, -, -, -⟩ := hcl.row.ints.get; have HT11 := Lib.hid (HT10.out.below hcl.below); have HSV11 := Lib.hid (HSV10.out.below hcl.below (Nat.le_refl _)); have HLV11 := Lib.hid hcl.row.ints; clear hcl
        refine hK.out _ _ ?_ (fun hHeld => ?_)
        · (try dsimp only); exact conv_str HSV11.out
        clear hK K
        try simp only [Act.put, List.setIfInBounds_toArray, List.set_cons_zero, List.set_cons_succ]
        refine wpAnyH_mono (S' := fun w' => (convert 27 9 (.slice (A.map (·.add D)) S (c - D))).run Try.prog w' = .ok (.string (strOfNums (lastN S zs))) w' ∧ (convert 27 9 (.slice A8 n8 c8)).run Try.prog w' = .ok (.string (strOfNums (lastN S zs))) w') (fun w' h => h.1) _ _ _ _ ?_
        have hHeld2 : (fun w' => (convert 27 9 (.slice (A.map (·.add D)) S (c - D))).run Try.prog w' = .ok (.string (strOfNums (lastN S zs))) w' ∧ (convert 27 9 (.slice A8 n8 c8)).run Try.prog w' = .ok (.string (strOfNums (lastN S zs))) w') _ := ⟨hHeld, conv_str HLV11.out⟩
        refine wpAnyH_take2 (i := 25) (oi := _) (d := some 89) (v := ?_) rfl rfl (by kernel_rfl) (by kernel_rfl) (by kernel_rfl) (fun _ _ _ h => h) (Or.inl ⟨by rfl, ?_⟩) (by assumption) ?_
        rotate_left 1
        · (intro w' hSw; (try dsimp only at hSw); go_simp; try with_reducible rfl)
        try simp only [Act.put, List.setIfInBounds_toArray, List.set_cons_zero, List.set_cons_succ]
        refine wpAnyH_take2 (i := 34) (oi := _) (d := some 98) (v := ?_) rfl rfl (by kernel_rfl) (by kernel_rfl) (by kernel_rfl) (fun _ _ _ h => h) (Or.inl ⟨by rfl, ?_⟩) (by assumption) ?_
        rotate_left 1
        · (intro w' hSw; (try dsimp only at hSw); go_simp; try with_reducible rfl)
        try simp only [Act.put, List.setIfInBounds_toArray, List.set_cons_zero, List.set_cons_succ]
        refine wpAnyH_take2 (i := 35) (oi := _) (d := some 99) (v := ?_) rfl rfl (by kernel_rfl) (by kernel_rfl) (by kernel_rfl) (fun _ _ _ h => h) (Or.inl ⟨by rfl, ?_⟩) (by assumption) ?_
        rotate_left 1
        · (intro w' hSw; (try dsimp only at hSw); go_simp; try with_reducible rfl)
        try simp only [Act.put, List.setIfInBounds_toArray, List.set_cons_zero, List.set_cons_succ]
        refine wpAnyH_take2 (i := 36) (oi := _) (d := some 100) (v := ?_) rfl rfl (by kernel_rfl) (by kernel_rfl) (by kernel_rfl) (fun _ _ _ h => h) (Or.inl ⟨by rfl, ?_⟩) (by assumption) ?_
        rotate_left 1
        · (intro w' hSw; (try dsimp only at hSw); go_simp; try with_reducible rfl)
        try simp only [Act.put, List.setIfInBounds_toArray, List.set_cons_zero, List.set_cons_succ]
        refine wpAnyH_ready (rs := [37]) (by kernel_rfl) (by simp) ?_
        refine AllReadyH.cons (o := _) rfl (fun K hK => ?_) ?_
        rotate_left
        · exact AllReadyH.nil
        go_simp
        refine (works_any w11).mono ?_; rintro e w12 ⟨rfl, hb⟩; have HT12 := Lib.hid (HT11.out.below hb); have HSV12 := Lib.hid (HSV11.out.below hb (Nat.le_refl _)); have HLV12 := Lib.hid (HLV11.out.below hb (Nat.le_refl _)); clear hb
        refine hK.out _ _ ?_ (fun hHeld => ?_)
        · (try dsimp only); exact ⟨conv_str HSV12.out, conv_str HLV12.out⟩
        clear hK K
        try simp only [Act.put, List.setIfInBounds_toArray, List.set_cons_zero, List.set_cons_succ]
        refine wpAnyH_take2 (i := 38) (oi := _) (d := some 102) (v := ?_) rfl rfl (by kernel_rfl) (by kernel_rfl) (by kernel_rfl) (fun _ _ _ h => h) (Or.inl ⟨by rfl, ?_⟩) (by assumption) ?_
        rotate_left 1
        · (intro w' hSw; (try dsimp only at hSw); go_simp; try with_reducible rfl)
        try simp only [Act.put, List.setIfInBounds_toArray, List.set_cons_zero, List.set_cons_succ]
        refine wpAnyH_take2 (i := 39) (oi := _) (d := some 4) (v := ?_) rfl rfl (by kernel_rfl) (by kernel_rfl) (by kernel_rfl) (fun _ _ _ h => h) (Or.inl ⟨by rfl, ?_⟩) (by assumption) ?_
        rotate_left 1
        · (intro w' hSw; (try dsimp only at hSw); go_simp; try with_reducible rfl)
        try simp only [Act.put, List.setIfInBounds_toArray, List.set_cons_zero, List.set_cons_succ]
        refine wpAnyH_done (by kernel_rfl) ?_ _
        refine NoPanic.normal ?_
        go_wp2
        go_ret
        exact ⟨rfl, HT12.out.bel⟩
      · obtain ⟨Z, hZ⟩ : ∃ Z : Int, (N : Int) - (S : Int) = Z := ⟨_, rfl⟩
        have e4 : Z ≤ 0 := by omega
        have e5 : ¬ (0 : Int) < Z := by omega
        have ew : IntKind.i64.wrap Z = Z := wrap_in _ (by omega) (by omega)
        have HLA : Hid (lastN S zs = zs) := (lastN_all (by rw [HLN.out]; omega) : _ = _)
        have HSV : Hid (Ints w4.drew .u8 (.slice A N c) (lastN S zs)) := (by rw [HLA.out]; exact (HP4.out.row.ints : Ints w4 _ _ _) : Ints _ _ _ _)
        clear HP4
        refine wp_region_noPanic ?_
        refine wp_region_held_drew (S := (fun w' => (convert 27 9 (.slice A N c)).run Try.prog w' = .ok (.string (strOfNums (lastN S zs))) w')) (by kernel_rfl) ?_ (fun hHeld => ?_)
        · (try dsimp only); exact conv_str HSV.out
        refine wpAnyH_take2 (i := 0) (oi := _) (d := some 64) (v := ?_) rfl rfl (by kernel_rfl) (by kernel_rfl) (by kernel_rfl) (fun _ _ _ h => h) (Or.inl ⟨by rfl, ?_⟩) (by assumption) ?_
        rotate_left 1
        · (intro w' hSw; (try dsimp only at hSw); go_simp; try with_reducible rfl)
        try simp only [Act.put, List.setIfInBounds_toArray, List.set_cons_zero, List.set_cons_succ]
        refine wpAnyH_take2 (i := 2) (oi := _) (d := some 66) (v := ?_) rfl rfl (by kernel_rfl) (by kernel_rfl) (by kernel_rfl) (fun _ _ _ h => h) (Or.inl ⟨by rfl, ?_⟩) (by assumption) ?_
        rotate_left 1
        · (intro w' hSw; (try dsimp only at hSw); go_simp; try with_reducible rfl)
        try simp only [Act.put, List.setIfInBounds_toArray, List.set_cons_zero, List.set_cons_succ]
        refine wpAnyH_take2 (i := 5) (oi := _) (d := some 69) (v := ?_) rfl rfl (by kernel_rfl) (by kernel_rfl) (by kernel_rfl) (fun _ _ _ h => h) (Or.inl ⟨by rfl, ?_⟩) (by assumption) ?_
        rotate_left 1
        · (intro w' hSw; (try dsimp only at hSw); go_simp; try with_reducible rfl)
        try simp only [Act.put, List.setIfInBounds_toArray, List.set_cons_zero, List.set_cons_succ]
        refine wpAnyH_ready (rs := [1]) (by kernel_rfl) (by simp) ?_
        refine AllReadyH.cons (o := _) rfl (fun K hK => ?_) ?_
        rotate_left
        · exact AllReadyH.nil
        go_simp
        refine (num_any _ _).mono ?_; rintro e w5 ⟨rfl, hw⟩; have HT5 : Hid (Two w w5 g v S st N g2 v2' S stb N) := (by rw [hw]; exact HT.out.draws ⟨1, rfl⟩ : Two _ _ _ _ _ _ _ _ _ _ _ _); have HSV5 : Hid (Ints w5 .u8 (.slice A N c) (lastN S zs)) := (by rw [hw]; exact HSV.out : Ints _ _ _ _); clear hw
        refine hK.out _ _ ?_ (fun hHeld => ?_)
        · (try dsimp only); exact conv_str HSV5.out
        clear hK K
        try simp only [Act.put, List.setIfInBounds_toArray, List.set_cons_zero, List.set_cons_succ]
        refine wpAnyH_ready (rs := [3]) (by kernel_rfl) (by simp) ?_
        refine AllReadyH.cons (o := _) rfl (fun K hK => ?_) ?_
        rotate_left
        · exact AllReadyH.nil
        go_simp
        refine (num_any _ _).mono ?_; rintro e w6 ⟨rfl, hw⟩; have HT6 : Hid (Two w w6 g v S st N g2 v2' S stb N) := (by rw [hw]; exact HT5.out : Two _ _ _ _ _ _ _ _ _ _ _ _); have HSV6 : Hid (Ints w6 .u8 (.slice A N c) (lastN S zs)) := (by rw [hw]; exact HSV5.out : Ints _ _ _ _); clear hw
        refine hK.out _ _ ?_ (fun hHeld => ?_)
        · (try dsimp only); exact conv_str HSV6.out
        clear hK K
        try simp only [Act.put, List.setIfInBounds_toArray, List.set_cons_zero, List.set_cons_succ]
        refine wpAnyH_take2 (i := 4) (oi := _) (d := some 68) (v := ?_) rfl rfl (by kernel_rfl) (by kernel_rfl) (by kernel_rfl) (fun _ _ _ h => h) (Or.inl ⟨by rfl, ?_⟩) (by assumption) ?_
        rotate_left 1
        · (intro w' hSw; (try dsimp only at hSw); go_simp; try with_reducible rfl)
        try simp only [Act.put, List.setIfInBounds_toArray, List.set_cons_zero, List.set_cons_succ]
        refine wpAnyH_ready (rs := [6]) (by kernel_rfl) (by simp) ?_
        refine AllReadyH.cons (o := _) rfl (fun K hK => ?_) ?_
        rotate_left
        · exact AllReadyH.nil
        go_simp
        refine (num_any _ _).mono ?_; rintro e w7 ⟨rfl, hw⟩; have HT7 : Hid (Two w w7 g v S st N g2 v2' S stb N) := (by rw [hw]; exact HT6.out : Two _ _ _ _ _ _ _ _ _ _ _ _); have HSV7 : Hid (Ints w7 .u8 (.slice A N c) (lastN S zs)) := (by rw [hw]; exact HSV6.out : Ints _ _ _ _); clear hw
        refine hK.out _ _ ?_ (fun hHeld => ?_)
        · (try dsimp only); exact conv_str HSV7.out
        clear hK K
        try simp only [Act.put, List.setIfInBounds_toArray, List.set_cons_zero, List.set_cons_succ]
        refine wpAnyH_take2 (i := 7) (oi := _) (d := some 71) (v := ?_) rfl rfl (by kernel_rfl) (by kernel_rfl) (by kernel_rfl) (fun _ _ _ h => h) (Or.inl ⟨by rfl, ?_⟩) (by assumption) ?_
        rotate_left 1
        · (intro w' hSw; (try dsimp only at hSw); go_simp; try with_reducible rfl)
        try simp only [Act.put, List.setIfInBounds_toArray, List.set_cons_zero, List.set_cons_succ]
        refine wpAnyH_take2 (i := 8) (oi := _) (d := some 72) (v := ?_) rfl rfl (by kernel_rfl) (by kernel_rfl) (by kernel_rfl) (fun _ _ _ h => h) (Or.inl ⟨by rfl, ?_⟩) (by assumption) ?_
        rotate_left 1
        · (intro w' hSw; (try dsimp only at hSw); go_simp; try with_reducible rfl)
        try simp only [Act.put, List.setIfInBounds_toArray, List.set_cons_zero, List.set_cons_succ]
        refine wpAnyH_take2 (i := 9) (oi := _) (d := some 73) (v := ?_) rfl rfl (by kernel_rfl) (by kernel_rfl) (by kernel_rfl) (fun _ _ _ h => h) (Or.inl ⟨by rfl, ?_⟩) (by assumption) ?_
        rotate_left 1
        · (intro w' hSw; (try dsimp only at hSw); go_simp; try with_reducible rfl)
        try simp only [Act.put, List.setIfInBounds_toArray, List.set_cons_zero, List.set_cons_succ]
        refine wpAnyH_take2 (i := 10) (oi := _) (d := some 74) (v := ?_) rfl rfl (by kernel_rfl) (by kernel_rfl) (by kernel_rfl) (fun _ _ _ h => h) (Or.inl ⟨by rfl, ?_⟩) (by assumption) ?_
        rotate_left 1
        · (intro w' hSw; (try dsimp only at hSw); go_simp; try with_reducible rfl)
        try simp only [Act.put, List.setIfInBounds_toArray, List.set_cons_zero, List.set_cons_succ]
        refine wpAnyH_take2 (i := 11) (oi := _) (d := some 75) (v := ?_) rfl rfl (by kernel_rfl) (by kernel_rfl) (by kernel_rfl) (fun _ _ _ h => h) (Or.inl ⟨by rfl, ?_⟩) (by assumption) ?_
        rotate_left 1
        · (intro w' hSw; (try dsimp only at hSw); go_simp; try with_reducible rfl)
        try simp only [Act.put, List.setIfInBounds_toArray, List.set_cons_zero, List.set_cons_succ]
        refine wpAnyH_ready (rs := [12]) (by kernel_rfl) (by simp) ?_
        refine AllReadyH.cons (o := _) rfl (fun K hK => ?_) ?_
        rotate_left
        · exact AllReadyH.nil
        go_simp
        refine (eq_ring _ HT7.out.r1 HT7.out.r2).mono ?_; rw [eq_true_of HEQ.out]; rintro e w8 ⟨rfl, hm⟩; have HT8 := Lib.hid (HT7.out.draws hm); have HSV8 : Hid (Ints w8 .u8 (.slice A N c) (lastN S zs)) := (by obtain ⟨m, rfl⟩ := hm; exact HSV7.out : Ints _ _ _ _); clear hm
        refine hK.out _ _ ?_ (fun hHeld => ?_)
        · (try dsimp only); exact conv_str HSV8.out
        clear hK K
        try simp only [Act.put, List.setIfInBounds_toArray, List.set_cons_zero, List.set_cons_succ]
        refine wpAnyH_take2 (i := 13) (oi := _) (d := some 77) (v := ?_) rfl rfl (by kernel_rfl) (by kernel_rfl) (by kernel_rfl) (fun _ _ _ h => h) (Or.inl ⟨by rfl, ?_⟩) (by assumption) ?_
        rotate_left 1
        · (intro w' hSw; (try dsimp only at hSw); go_simp; try with_reducible rfl)
        try simp only [Act.put, List.setIfInBounds_toArray, List.set_cons_zero, List.set_cons_succ]
        refine wpAnyH_take2 (i := 14) (oi := _) (d := some 78) (v := ?_) rfl rfl (by kernel_rfl) (by kernel_rfl) (by kernel_rfl) (fun _ _ _ h => h) (Or.inl ⟨by rfl, ?_⟩) (by assumption) ?_
        rotate_left 1
        · (intro w' hSw; (try dsimp only at hSw); go_simp; try with_reducible rfl)
        try simp only [Act.put, List.setIfInBounds_toArray, List.set_cons_zero, List.set_cons_succ]
        refine wpAnyH_take2 (i := 15) (oi := _) (d := some 79) (v := ?_) rfl rfl (by kernel_rfl) (by kernel_rfl) (by kernel_rfl) (fun _ _ _ h => h) (Or.inl ⟨by rfl, ?_⟩) (by assumption) ?_
        rotate_left 1
        · (intro w' hSw; (try dsimp only at hSw); go_simp; try with_reducible rfl)
        try simp only [Act.put, List.setIfInBounds_toArray, List.set_cons_zero, List.set_cons_succ]
        refine wpAnyH_take2 (i := 17) (oi := _) (d := some 81) (v := ?_) rfl rfl (by kernel_rfl) (by kernel_rfl) (by kernel_rfl) (fun _ _ _ h => h) (Or.inl ⟨by rfl, ?_⟩) (by assumption) ?_
        rotate_left 1
        · (intro w' hSw; (try dsimp only at hSw); go_simp; try with_reducible rfl)
        try simp only [Act.put, List.setIfInBounds_toArray, List.set_cons_zero, List.set_cons_succ]
        refine wpAnyH_ready (rs := [16]) (by kernel_rfl) (by simp) ?_
        refine AllReadyH.cons (o := _) rfl (fun K hK => ?_) ?_
        rotate_left
        · exact AllReadyH.nil
        go_simp
        refine (total_ring _ HT8.out.r1).mono ?_; rintro e w9 ⟨rfl, hw⟩; have HT9 : Hid (Two w w9 g v S st N g2 v2' S stb N) := (by rw [hw]; exact HT8.out : Two _ _ _ _ _ _ _ _ _ _ _ _); have HSV9 : Hid (Ints w9 .u8 (.slice A N c) (lastN S zs)) := (by rw [hw]; exact HSV8.out : Ints _ _ _ _); clear hw
        refine hK.out _ _ ?_ (fun hHeld => ?_)
        · (try dsimp only); exact conv_str HSV9.out
        clear hK K
        try simp only [Act.put, List.setIfInBounds_toArray, List.set_cons_zero, List.set_cons_succ]
        refine wpAnyH_ready (rs := [18]) (by kernel_rfl) (by simp) ?_
        refine AllReadyH.cons (o := _) rfl (fun K hK => ?_) ?_
        rotate_left
        · exact AllReadyH.nil
        go_simp
        refine (total_ring _ HT9.out.r2).mono ?_; rintro e w10 ⟨rfl, hw⟩; have HT10 : Hid (Two w w10 g v S st N g2 v2' S stb N) := (by rw [hw]; exact HT9.out : Two _ _ _ _ _ _ _ _ _ _ _ _); have HSV10 : Hid (Ints w10 .u8 (.slice A N c) (lastN S zs)) := (by rw [hw]; exact HSV9.out : Ints _ _ _ _); clear hw
        refine hK.out _ _ ?_ (fun hHeld => ?_)
        · (try dsimp only); exact conv_str HSV10.out
        clear hK K
        try simp only [Act.put, List.setIfInBounds_toArray, List.set_cons_zero, List.set_cons_succ]
        refine wpAnyH_take2 (i := 19) (oi := _) (d := some 83) (v := ?_) rfl rfl (by kernel_rfl) (by kernel_rfl) (by kernel_rfl) (fun _ _ _ h => h) (Or.inl ⟨by rfl, ?_⟩) (by assumption) ?_
        rotate_left 1
        · (intro w' hSw; (try dsimp only at hSw); go_simp; try with_reducible rfl)
        try simp only [Act.put, List.setIfInBounds_toArray, List.set_cons_zero, List.set_cons_succ]
        refine wpAnyH_take2 (i := 20) (oi := _) (d := some 84) (v := ?_) rfl rfl (by kernel_rfl) (by kernel_rfl) (by kernel_rfl) (fun _ _ _ h => h) (Or.inl ⟨by rfl, ?_⟩) (by assumption) ?_
        rotate_left 1
        · (intro w' hSw; (try dsimp only at hSw); go_simp; try with_reducible rfl)
        try simp only [Act.put, List.setIfInBounds_toArray, List.set_cons_zero, List.set_cons_succ]
        refine wpAnyH_take2 (i := 21) (oi := _) (d := some 85) (v := ?_) rfl rfl (by kernel_rfl) (by kernel_rfl) (by kernel_rfl) (fun _ _ _ h => h) (Or.inl ⟨by rfl, ?_⟩) (by assumption) ?_
        rotate_left 1
        · (intro w' hSw; (try dsimp only at hSw); go_simp; try with_reducible rfl)
        try simp only [Act.put, List.setIfInBounds_toArray, List.set_cons_zero, List.set_cons_succ]
        refine wpAnyH_take2 (i := 22) (oi := _) (d := some 86) (v := ?_) rfl rfl (by kernel_rfl) (by kernel_rfl) (by kernel_rfl) (fun _ _ _ h => h) (Or.inl ⟨by rfl, ?_⟩) (by assumption) ?_
        rotate_left 1
        · (intro w' hSw; (try dsimp only at hSw); go_simp; try with_reducible rfl)
        try simp only [Act.put, List.setIfInBounds_toArray, List.set_cons_zero, List.set_cons_succ]
        refine wpAnyH_take2 (i := 23) (oi := _) (d := some 87) (v := ?_) rfl rfl (by kernel_rfl) (by kernel_rfl) (by kernel_rfl) (fun _ _ _ h => h) (Or.inl ⟨by rfl, ?_⟩) (by assumption) ?_
        rotate_left 1
        · (intro w' hSw; (try dsimp only at hSw); go_simp; try with_reducible rfl)
        try simp only [Act.put, List.setIfInBounds_toArray, List.set_cons_zero, List.set_cons_succ]
        refine wpAnyH_take2 (i := 26) (oi := _) (d := some 90) (v := ?_) rfl rfl (by kernel_rfl) (by kernel_rfl) (by kernel_rfl) (fun _ _ _ h => h) (Or.inl ⟨by rfl, ?_⟩) (by assumption) ?_
        rotate_left 1
        · (intro w' hSw; (try dsimp only at hSw); go_simp; try with_reducible rfl)
        try simp only [Act.put, List.setIfInBounds_toArray, List.set_cons_zero, List.set_cons_succ]
        refine wpAnyH_take2 (i := 27) (oi := _) (d := some 91) (v := ?_) rfl rfl (by kernel_rfl) (by kernel_rfl) (by kernel_rfl) (fun _ _ _ h => h) (Or.inl ⟨by rfl, ?_⟩) (by assumption) ?_
        rotate_left 1
        · (intro w' hSw; (try dsimp only at hSw); go_simp; try with_reducible rfl)
        try simp only [Act.put, List.setIfInBounds_toArray, List.set_cons_zero, List.set_cons_succ]
        refine wpAnyH_take2 (i := 28) (oi := _) (d := some 92) (v := ?_) rfl rfl (by kernel_rfl) (by kernel_rfl) (by kernel_rfl) (fun _ _ _ h => h) (Or.inl ⟨by rfl, ?_⟩) (by assumption) ?_
        rotate_left 1
        · (intro w' hSw; (try dsimp only at hSw); go_simp; try with_reducible rfl)
        try simp only [Act.put, List.setIfInBounds_toArray, List.set_cons_zero, List.set_cons_succ]
        refine wpAnyH_take2 (i := 29) (oi := _) (d := some 93) (v := ?_) rfl rfl (by kernel_rfl) (by kernel_rfl) (by kernel_rfl) (fun _ _ _ h => h) (Or.inl ⟨by rfl, ?_⟩) (by assumption) ?_
        rotate_left 1
        · (intro w' hSw; (try dsimp only at hSw); go_simp; try with_reducible rfl)
        try simp only [Act.put, List.setIfInBounds_toArray, List.set_cons_zero, List.set_cons_succ]
        refine wpAnyH_take2 (i := 30) (oi := _) (d := some 94) (v := ?_) rfl rfl (by kernel_rfl) (by kernel_rfl) (by kernel_rfl) (fun _ _ _ h => h) (Or.inl ⟨by rfl, ?_⟩) (by assumption) ?_
        rotate_left 1
        · (intro w' hSw; (try dsimp only at hSw); go_simp; try with_reducible rfl)
        try simp only [Act.put, List.setIfInBounds_toArray, List.set_cons_zero, List.set_cons_succ]
        refine wpAnyH_take2 (i := 31) (oi := _) (d := some 95) (v := ?_) rfl rfl (by kernel_rfl) (by kernel_rfl) (by kernel_rfl) (fun _ _ _ h => h) (Or.inl ⟨by rfl, ?_⟩) (by assumption) ?_
        rotate_left 1
        · (intro w' hSw; (try dsimp only at hSw); go_simp; try with_reducible rfl)
        try simp only [Act.put, List.setIfInBounds_toArray, List.set_cons_zero, List.set_cons_succ]
        refine wpAnyH_take2 (i := 32) (oi := _) (d := some 96) (v := ?_) rfl rfl (by kernel_rfl) (by kernel_rfl) (by kernel_rfl) (fun _ _ _ h => h) (Or.inl ⟨by rfl, ?_⟩) (by assumption) ?_
        rotate_left 1
        · (intro w' hSw; (try dsimp only at hSw); go_simp; try with_reducible rfl)
        try simp only [Act.put, List.setIfInBounds_toArray, List.set_cons_zero, List.set_cons_succ]
        refine wpAnyH_take2 (i := 33) (oi := _) (d := some 97) (v := ?_) rfl rfl (by kernel_rfl) (by kernel_rfl) (by kernel_rfl) (fun _ _ _ h => h) (Or.inl ⟨by rfl, ?_⟩) (by assumption) ?_
        rotate_left 1
        · (intro w' hSw; (try dsimp only at hSw); go_simp; try with_reducible rfl)
        try simp only [Act.put, List.setIfInBounds_toArray, List.set_cons_zero, List.set_cons_succ]
        refine wpAnyH_ready (rs := [24]) (by kernel_rfl) (by simp) ?_
        refine AllReadyH.cons (o := _) rfl (fun K hK => ?_) ?_
        rotate_left
        · exact AllReadyH.nil
        go_simp
        refine (last_some _ HT10.out.r1 S HS1.out).mono ?_; rintro e w11 ⟨lv, rfl, hcl⟩; rw [HLL.out] at hcl; obtain ⟨A8, n8, c8, rfl, -, -, -⟩ := hcl.row.ints.get; have HT11 := Lib.hid (HT10.out.below hcl.below); have HSV11 := Lib.hid (HSV10.out.below hcl.below (Nat.le_refl _)); have HLV11 := Lib.hid hcl.row.ints; clear hcl
        refine hK.out _ _ ?_ (fun hHeld => ?_)
        · (try dsimp only); exact conv_str HSV11.out
        clear hK K
        try simp only [Act.put, List.setIfInBounds_toArray, List.set_cons_zero, List.set_cons_succ]
        refine wpAnyH_mono (S' := fun w' => (convert 27 9 (.slice A N c)).run Try.prog w' = .ok (.string (strOfNums (lastN S zs))) w' ∧ (convert 27 9 (.slice A8 n8 c8)).run Try.prog w' = .ok (.string (strOfNums (lastN S zs))) w') (fun w' h => h.1) _ _ _ _ ?_
        have hHeld2 : (fun w' => (convert 27 9 (.slice A N c)).run Try.prog w' = .ok (.string (strOfNums (lastN S zs))) w' ∧ (convert 27 9 (.slice A8 n8 c8)).run Try.prog w' = .ok (.string (strOfNums (lastN S zs))) w') _ := ⟨hHeld, conv_str HLV11.out⟩
        refine wpAnyH_take2 (i := 25) (oi := _) (d := some 89) (v := ?_) rfl rfl (by kernel_rfl) (by kernel_rfl) (by kernel_rfl) (fun _ _ _ h => h) (Or.inl ⟨by rfl, ?_⟩) (by assumption) ?_
        rotate_left 1
        · (intro w' hSw; (try dsimp only at hSw); go_simp; try with_reducible rfl)
        try simp only [Act.put, List.setIfInBounds_toArray, List.set_cons_zero, List.set_cons_succ]
        refine wpAnyH_take2 (i := 34) (oi := _) (d := some 98) (v := ?_) rfl rfl (by kernel_rfl) (by kernel_rfl) (by kernel_rfl) (fun _ _ _ h => h) (Or.inl ⟨by rfl, ?_⟩) (by assumption) ?_
        rotate_left 1
        · (intro w' hSw; (try dsimp only at hSw); go_simp; try with_reducible rfl)
        try simp only [Act.put, List.setIfInBounds_toArray, List.set_cons_zero, List.set_cons_succ]
        refine wpAnyH_take2 (i := 35) (oi := _) (d := some 99) (v := ?_) rfl rfl (by kernel_rfl) (by kernel_rfl) (by kernel_rfl) (fun _ _ _ h => h) (Or.inl ⟨by rfl, ?_⟩) (by assumption) ?_
        rotate_left 1
        · (intro w' hSw; (try dsimp only at hSw); go_simp; try with_reducible rfl)
        try simp only [Act.put, List.setIfInBounds_toArray, List.set_cons_zero, List.set_cons_succ]
        refine wpAnyH_take2 (i := 36) (oi := _) (d := some 100) (v := ?_) rfl rfl (by kernel_rfl) (by kernel_rfl) (by kernel_rfl) (fun _ _ _ h => h) (Or.inl ⟨by rfl, ?_⟩) (by assumption) ?_
        rotate_left 1
        · (intro w' hSw; (try dsimp only at hSw); go_simp; try with_reducible rfl)
        try simp only [Act.put, List.setIfInBounds_toArray, List.set_cons_zero, List.set_cons_succ]
        refine wpAnyH_ready (rs := [37]) (by kernel_rfl) (by simp) ?_
        refine AllReadyH.cons (o := _) rfl (fun K hK => ?_) ?_
        rotate_left
        · exact AllReadyH.nil
        go_simp
        refine (works_any w11).mono ?_; rintro e w12 ⟨rfl, hb⟩; have HT12 := Lib.hid (HT11.out.below hb); have HSV12 := Lib.hid (HSV11.out.below hb (Nat.le_refl _)); have HLV12 := Lib.hid (HLV11.out.below hb (Nat.le_refl _)); clear hb
        refine hK.out _ _ ?_ (fun hHeld => ?_)
        · (try dsimp only); exact ⟨conv_str HSV12.out, conv_str HLV12.out⟩
        clear hK K
        try simp only [Act.put, List.setIfInBounds_toArray, List.set_cons_zero, List.set_cons_succ]
        refine wpAnyH_take2 (i := 38) (oi := _) (d := some 102) (v := ?_) rfl rfl (by kernel_rfl) (by kernel_rfl) (by kernel_rfl) (fun _ _ _ h => h) (Or.inl ⟨by rfl, ?_⟩) (by assumption) ?_
        rotate_left 1
        · (intro w' hSw; (try dsimp only at hSw); go_simp; try with_reducible rfl)
        try simp only [Act.put, List.setIfInBounds_toArray, List.set_cons_zero, List.set_cons_succ]
        refine wpAnyH_take2 (i := 39) (oi := _) (d := some 4) (v := ?_) rfl rfl (by kernel_rfl) (by kernel_rfl) (by kernel_rfl) (fun _ _ _ h => h) (Or.inl ⟨by rfl, ?_⟩) (by assumption) ?_
        rotate_left 1
        · (intro w' hSw; (try dsimp only at hSw); go_simp; try with_reducible rfl)
        try simp only [Act.put, List.setIfInBounds_toArray, List.set_cons_zero, List.set_cons_succ]
        refine wpAnyH_done (by kernel_rfl) ?_ _
        refine NoPanic.normal ?_
        go_wp2
        go_ret
        exact ⟨rfl, HT12.out.bel⟩

theorem ringPieces_walk (size : Int) (_ : (Lit.int .i64 size).wf = true) (v1 : Value) (ls : List (Value × List Int)) {w : World} (hl : ByteRows w v1 ls) :
    Calls Try.prog 5 #[.int .i64 size, v1] w fun e w' => e = .returned (.bool true) ∧ Below w.heap.size w w' := by
  by_cases h : size < 1 ∨ (1 ≤ size ∧ (300 < size ∨ (size ≤ 300 ∧ 20 < ls.length)))
  · exact rpc_else size v1 ls hl h
  · obtain ⟨S, rfl⟩ : ∃ S : Nat, size = (S : Int) := ⟨size.toNat, by omega⟩
    exact rpc_main S v1 ls hl (by omega) (by omega) (by omega)
end Go.Proofs.Ytohmkcoodaidcaa
