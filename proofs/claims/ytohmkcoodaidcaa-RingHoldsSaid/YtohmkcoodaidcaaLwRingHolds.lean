/-
  RingHolds: the law's walk.
-/
import Derived.Test.YtohmkcoodaidcaaLwRingPieces
namespace Go.Proofs.Ytohmkcoodaidcaa
open Go.RowKit

/-- The ring, and the bytes so far. -/
structure Hs (w W : World) (g : Nat) (v : Value) (S : Nat) (st : List Int) (T : Nat) (A : Option Addr) (N c : Nat) (zs : List Int) : Prop where
  ring : OwnRing w W g v S st T
  row : Row W (.slice A N c) zs
  len : zs.length = N
  own : ∀ k, (Value.slice A N c).ownBlock = some k → w.heap.size ≤ k
  s1 : (Value.slice A N c).ownBlock ≠ some g
  s3 : ∀ k, (Value.slice A N c).ownBlock = some k → v.ownBlock ≠ some k
  u8 : U8s zs
section
variable {w W W2 : World} {g g2 : Nat} {v v2 : Value} {S T T2 : Nat} {st stb : List Int} {A : Option Addr} {N c : Nat} {zs : List Int}
theorem Hs.two (h : Hs w W g v S st T A N c zs) (hm : Made W W2 g2 v2 S st T) : Pc w W2 g v S st T g2 v2 st T A N c zs :=
  ⟨Two.made h.ring hm, h.row.below hm.below (Nat.le_refl _), h.len, h.own, h.s1, fun e => by have := h.row.lt _ e; have := hm.at_; omega, h.s3, fun k hk e => by have := h.row.lt k hk; have := hm.own k e; omega, h.u8⟩
theorem Pc.one (h : Pc w W g v S st T g2 v2 stb T2 A N c zs) : Hs w W g v S st T A N c zs := ⟨h.two.own1, h.row, h.len, h.own, h.s1, h.s3, h.u8⟩
theorem Pc.draws (h : Pc w W g v S st T g2 v2 stb T2 A N c zs) (hm : ∃ m, W2 = W.drewN m) : Pc w W2 g v S st T g2 v2 stb T2 A N c zs := by
  obtain ⟨m, rfl⟩ := hm
  exact h.below (below_drewN (Below.refl _ W) m)
theorem Hs.draws (h : Hs w W g v S st T A N c zs) (m : Nat) : Hs w (W.drewN m) g v S st T A N c zs :=
  { h with ring := h.ring.draws ⟨m, rfl⟩, row := h.row.below (below_drewN (Below.refl _ W) m) (Nat.le_refl _) }
end

theorem copied_pref (F : List Int) (off n k i : Nat) (hk : k ≤ n) (hi : i < k) : (copied F off n)[i]? = (copied F off k)[i]? := by
  simp only [copied, List.getElem?_map]
  rw [List.getElem?_range (by omega), List.getElem?_range hi]
/-- A byte of a copy is the one that far back. -/
theorem copy_back {C : List Int} {off n j : Nat} (h1 : 1 ≤ off) (h2 : off ≤ C.length) (hj : j < n) :
    ∃ x, (C ++ copied (lastN off C) off n)[C.length + j]? = some x ∧ (C ++ copied (lastN off C) off n)[C.length + j - off]? = some x := by
  refine ⟨(lastN off C).getD (j % off) 0, ?_, ?_⟩
  · rw [List.getElem?_append_right (by omega), show C.length + j - C.length = j by omega]
    simp only [copied, List.getElem?_map]
    rw [List.getElem?_range hj]; rfl
  · rw [← ext_get h1 h2 j]
    rcases Nat.lt_or_ge (C.length + j - off) C.length with h | h
    · rw [List.getElem?_append_left h, List.getElem?_append_left h]
    · rw [List.getElem?_append_right h, List.getElem?_append_right h]
      exact copied_pref _ _ _ _ _ (by omega) (by omega)

set_option maxRecDepth 100000 in
theorem rh_else (size : Int) (v1 v2 v3 v4 : Value) (xs bs os ns : List Int) {w : World} (h1 : Ints w .u8 v1 xs) (h2 : Ints w .u8 v2 bs) (h3 : Ints w .u8 v3 os) (h4 : Ints w .u8 v4 ns)
    (h : size < 1 ∨ (1 ≤ size ∧ (300 < size ∨ (size ≤ 300 ∧ (150 < xs.length ∨ (xs.length ≤ 150 ∧ (150 < bs.length ∨ (bs.length ≤ 150 ∧ 12 < os.length)))))))) :
    Calls Try.prog 7 #[.int .i64 size, v1, v2, v3, v4] w fun e w' => e = .returned (.bool true) ∧ Below w.heap.size w w' := by
  obtain ⟨A, N, c, rfl, -, -, hat⟩ := h1.get
  obtain ⟨A2, N2, c2, rfl, -, -, hat2⟩ := h2.get
  obtain ⟨A3, N3, c3, rfl, -, -, hat3⟩ := h3.get
  obtain ⟨A4, N4, c4, rfl, -, -, hat4⟩ := h4.get
  rw [hat.1, hat2.1, hat3.1] at h
  clear hat hat2 hat3 hat4 h1 h2 h3 h4
  rcases h with h | ⟨h0, h | ⟨h1, h | ⟨h2, h | ⟨h3, h⟩⟩⟩⟩
  all_goals
    go_enter Try.func7, Try.ntmps7
    go_wp2_with (go_at_call 12; refine (works_at (Below.refl _ w)).mono ?_; rintro e w1 ⟨rfl, hb⟩; have HB := Lib.hid hb; clear hb)
    go_ret
    exact ⟨rfl, HB.out⟩

set_option linter.unusedSimpArgs false
set_option maxRecDepth 100000 in
set_option maxHeartbeats 6400000 in
theorem rh_main (S : Nat) (v1 v2 v3 v4 : Value) (xs bs os ns : List Int) {w : World} (h1 : Ints w .u8 v1 xs) (h2 : Ints w .u8 v2 bs) (h3 : Ints w .u8 v3 os) (h4 : Ints w .u8 v4 ns) (u1 : U8s xs) (u2 : U8s bs) (u3 : U8s os) (u4 : U8s ns)
    (hS1 : 1 ≤ S) (hS2 : S ≤ 300) (hl1 : xs.length ≤ 150) (hl2 : bs.length ≤ 150) (hl3 : os.length ≤ 12) :
    Calls Try.prog 7 #[.int .i64 S, v1, v2, v3, v4] w fun e w' => e = .returned (.bool true) ∧ Below w.heap.size w w' := by
  have HX1 := Lib.hid h1
  have HX2 := Lib.hid h2
  have HU := Lib.hid u1
  have HU2 := Lib.hid u2
  have HU3 := Lib.hid u3
  have HU4 := Lib.hid u4
  have HS1 : Hid (1 ≤ S) := (hS1 : _ ≤ _)
  have HS2 : Hid (S ≤ 134217728) := (by omega : S ≤ _)
  have HL1 : Hid (xs.length ≤ 100000000000000) := (by omega : _ ≤ _)
  have HL2 : Hid (bs.length ≤ 100000000000000) := (by omega : _ ≤ _)
  obtain ⟨A1, N1, c1, rfl, -, -, hat⟩ := h1.get
  obtain ⟨A2, N2, c2, rfl, -, -, hat2⟩ := h2.get
  obtain ⟨A3, L, c3, rfl, -, hm3, hat3⟩ := h3.get
  obtain ⟨A4, M, c4, rfl, hc4, hm4, hat4⟩ := h4.get
  have hMb : M ≤ 9223372036854775807 := by omega
  have HN := Lib.hid hat.1
  have HN2 := Lib.hid hat2.1
  have HA := Lib.hid hat
  have HA2 := Lib.hid hat2
  have HA3 := Lib.hid hat3
  have HA4 := Lib.hid hat4
  rw [hat.1] at hl1
  rw [hat2.1] at hl2
  rw [hat3.1] at hl3
  clear hat hat2 hat3 hat4 h1 h2 h3 h4 u1 u2 u3 u4 hm3 hm4 hc4
  go_enter Try.func7, Try.ntmps7
  go_wp2_with fail
  refine (new_ok w HS1.out HS2.out HX1.out HU.out HL1.out).mono ?_
  rintro e w1 ⟨g, v, rfl, hm⟩
  have HO1 := Lib.hid (OwnRing.made hm (Below.refl _ w))
  clear hm
  go_wp2_with fail
  refine (add_any w1 HO1.out.ring (HX2.out.below HO1.out.below (Nat.le_refl _)) HU2.out HL2.out (by have := HL2.out; omega)).mono ?_
  rw [HN2.out, Nat.zero_add]
  rintro e w2 ⟨rfl, v', hp⟩
  have HO2 := Lib.hid (HO1.out.put hp)
  clear hp HO1
  go_wp2_with fail
  refine (num_any w2 _).mono ?_
  rintro e w3 ⟨rfl, rfl⟩
  go_wp2_with fail
  refine (num_any w3 _).mono ?_
  rintro e w4 ⟨rfl, rfl⟩
  have HB1 := Lib.hid ((Below.refl w4.heap.size w4).alloc (Nat.le_refl _) (.cells #[] 5))
  go_wp2_with (first
    | (at_builtin; refine wpList_append_row rfl _ _ rfl (.slice (some ⟨w4.heap.size, 0, none⟩) 0 0) [] xs rfl (row_empty w4) A1 N1 c1 rfl ((HA.out.below HO2.out.below (Nat.le_refl _)).below HB1.out (Nat.le_refl _)) (by simp; omega) N1 (by simp) ?_; intro A5 c5 w5 hrow hgrow hown; have HG2 := Lib.hid (GivenSt.start HN.out hrow hgrow hown); clear hrow hgrow hown)
    | (at_builtin; refine wpList_append_row rfl _ _ rfl (.slice A5 N1 c5) xs bs rfl HG2.out.row A2 N2 c2 rfl ((HA2.out.below HO2.out.below (Nat.le_refl _)).below HG2.out.bel (Nat.le_refl _)) (by rw [HN.out]; omega) (N1 + N2) (by rw [HN.out]) ?_; intro A6 c6 w6 hrow hgrow hown; have HG3 := Lib.hid (HG2.out.app (by rw [List.length_append, HN.out, HN2.out]) hrow hgrow hown); clear hrow hgrow hown))
  have HH : Hid (Hs w w6 g v' S (keepL S (keepL S xs ++ bs)) N2 A6 (N1 + N2) c6 (xs ++ bs)) := (by
    have h := HG3.out
    have ho := HO2.out
    have hs := ho.below.size
    exact ⟨ho.next h.bel, h.row, h.len, fun k hk => by have := h.own k hk; omega, fun e => by have := h.own _ e; have := ho.ring.lt; omega, fun k hk e => by have := h.own k hk; have := ho.ring.row.lt k e; omega, HU.out.append HU2.out⟩ : Hs _ _ _ _ _ _ _ _ _ _ _)
  have HE0 : Hid (lastN S (keepL S (keepL S xs ++ bs)) = lastN S (xs ++ bs)) := (by rw [keepL_last, last_keep_app] : _ = _)
  clear HG2 HG3 HO2 HB1
  go_loopw [14, 15] (fun all i wr => ∃ (k N c T : Nat) (A : Option Addr) (v : Value) (st zs : List Int), k ≤ L ∧ i = .int .i64 k ∧ all = .slice A N c ∧ N ≤ 300 + 100 * k ∧ T ≤ 150 + 100 * k ∧ Hid (Hs w wr g v S st T A N c zs) ∧ Hid (lastN S st = lastN S zs)) (fun _ i _ => L - (intOf i).toNat)
  case atStart => exact ⟨0, N1 + N2, c6, N2, A6, v', _, _, Nat.zero_le _, rfl, rfl, by omega, by omega, (HH.out : Hs _ _ _ _ _ _ _ _ _ _ _), (HE0.out : _ = _)⟩
  case round =>
    clear HH HE0
    obtain ⟨k, N, c, T, A, v, st, zs, hk, rfl, rfl, hN, hT, HH, HE⟩ := hrel
    have k0 : (0 : Int) ≤ (k : Int) := by omega
    have HLZ := Lib.hid HH.out.len
    have HLE : Hid (min S st.length = min S N) := (by rw [← lastN_length, HE.out, lastN_length, HLZ.out] : _ = _)
    by_cases hlt : k < L ∧ k < M
    · obtain ⟨hlt1, hlt2⟩ := hlt
      have k1 : (k : Int) < (L : Int) := by omega
      have k2 : (k : Int) < (M : Int) := by omega
      obtain ⟨b3, o3, x3, rfl, hb3, cx3, EX3⟩ := HA3.out.at_ hlt1
      obtain ⟨b4, o4, x4, rfl, hb4, cx4, EX4⟩ := HA4.out.at_ hlt2
      have r3 := HU3.out x3 (List.mem_of_getElem? EX3.out)
      have r4 := HU4.out x4 (List.mem_of_getElem? EX4.out)
      obtain ⟨O, rfl⟩ : ∃ O : Nat, x3 = (O : Int) := ⟨x3.toNat, by omega⟩
      obtain ⟨Y, rfl⟩ : ∃ Y : Nat, x4 = (Y : Int) := ⟨x4.toNat, by omega⟩
      obtain ⟨n, hn⟩ : ∃ n : Nat, (Y : Int) % 101 = (n : Int) := ⟨((Y : Int) % 101).toNat, by omega⟩
      have hn100 : n ≤ 100 := by omega
      have hO : (O : Int) < 256 := r3.2
      have hY : (Y : Int) < 256 := r4.2
      have cw3 := (HH.out.ring.below.cell (p := ⟨b3, o3 + k, none⟩) hb3).trans cx3
      have cw4 := (HH.out.ring.below.cell (p := ⟨b4, o4 + k, none⟩) hb4).trans cx4
      clear EX3 EX4 r3 r4 cx3 cx4 hb3 hb4
      go_wp2
      go_quiet (fail)
      rw [hn]
      have HH1 := Lib.hid (HH.out.draws nq)
      have HB3 := Lib.hid hlt1
      generalize wr.drewN nq = W1 at HH1 ⊢
      clear HH cw3 cw4 hY hn
      by_cases hbad : O < 1 ∨ min S N < O
      · have HBAD : Hid ((O : Int) < 1 ∨ ((min S st.length : Nat) : Int) < (O : Int)) := (by rw [HLE.out]; omega : _ ∨ _)
        obtain ⟨Mn, hMn⟩ : ∃ Mn, min S N = Mn := ⟨_, rfl⟩
        have HMN := Lib.hid hMn
        have hb1 : ((O : Int) < 1 ∨ (1 ≤ (O : Int) ∧ (Mn : Int) < (O : Int))) := by omega
        clear hMn
        clear hbad
        go_wp2_with fail
        refine (cl_ring W1 HH1.out.ring.ring).mono ?_
        rintro e w2 ⟨g2, v2, rfl, hm⟩
        have HP2 := Lib.hid (HH1.out.two hm)
        clear hm HH1
        go_wp2_with fail
        refine (copy_seq w2 HP2.out.two.r1 O n (by omega) (by omega) HBAD.out).mono ?_
        rintro e w3 ⟨rfl, hb⟩
        have HP3 := Lib.hid (HP2.out.below hb)
        clear hb HP2
        go_wp2_with fail
        refine (num_any w3 _).mono ?_
        rintro e w4 ⟨rfl, rfl⟩
        rcases hb1 with hb1 | ⟨hb1, hb2⟩
        all_goals
          have hmin : (if N < S then (N : Int) else (S : Int)) = (Mn : Int) := by rw [← HMN.out]; split <;> omega
          go_wp2_with fail
          refine (num_any _ _).mono ?_
          rintro e w5 ⟨rfl, rfl⟩
          go_wp2_with fail
          refine (eq_ring w5 HP3.out.two.r1 HP3.out.two.r2).mono ?_
          rw [eq_true_of (rfl : lastN S st = lastN S st)]
          rintro e w6 ⟨rfl, hm⟩
          have HP6 := Lib.hid (HP3.out.draws hm)
          clear hm
          go_wp2
          go_roundw
          case rel => exact ⟨k + 1, N, c, T, A, v, st, zs, by omega, by go_num, rfl, by omega, by omega, (HP6.out.one : Hs _ _ _ _ _ _ _ _ _ _ _), (HE.out : _ = _)⟩
          case measure => simp [intOf]; omega
      · have ho1 : 1 ≤ O := by omega
        have HGOOD : Hid (O ≤ min S st.length) := (by rw [HLE.out]; omega : O ≤ _)
        have hOS : O ≤ min S N := by omega
        have HO1 : Hid (1 ≤ O) := (ho1 : _ ≤ _)
        have HON : Hid (O ≤ zs.length) := (by rw [HLZ.out]; omega : O ≤ _)
        obtain ⟨T2, hT2⟩ : ∃ T2, T + n = T2 := ⟨_, rfl⟩
        obtain ⟨N2, hN2⟩ : ∃ N2, N + n = N2 := ⟨_, rfl⟩
        have HT2 := Lib.hid hT2
        have HN2 := Lib.hid hN2
        have hT2b : T2 ≤ 150 + 100 * (k + 1) := by omega
        have hN2b : N2 ≤ 300 + 100 * (k + 1) := by omega
        obtain ⟨out, hout⟩ : ∃ s, copied (lastN O st) O n = s := ⟨_, rfl⟩
        have HOL : Hid (out.length = n) := (by rw [← hout, copied_length] : _ = _)
        have HOZ : Hid (out = copied (lastN O zs) O n) := (by
          rw [← hout]
          have e1 : lastN O (lastN S st) = lastN O st := lastN_lastN st (by omega)
          have e2 : lastN O (lastN S zs) = lastN O zs := lastN_lastN zs (by omega)
          rw [← e1, HE.out, e2] : _ = _)
        have HOU : Hid (U8s out) := (by rw [← hout]; exact copied_u8 (HH1.out.ring.ring.u8.last) O n : U8s out)
        have HE2 : Hid (lastN S (keepL S (st ++ out)) = lastN S (zs ++ out)) := (by rw [keepL_last, ← lastN_append, HE.out, lastN_append] : _ = _)
        have HOUT := Lib.hid hout
        clear hbad hT2 hN2 hout
        go_wp2_with fail
        refine (cl_ring W1 HH1.out.ring.ring).mono ?_
        rintro e w2 ⟨g2, v2, rfl, hm⟩
        have HP2 := Lib.hid (HH1.out.two hm)
        clear hm HH1
        go_wp2_with fail
        refine (copy_ok w2 HP2.out.two.r1 O n (by omega) HO1.out HGOOD.out (by omega)).mono ?_
        rw [HT2.out, HOUT.out]
        rintro e w3 ⟨ov, v', rfl, hp⟩
        have HP3 := Lib.hid (HP2.out.put hp.put)
        obtain ⟨Ac, n1, cc, rfl, -, -, hatc⟩ := hp.row.ints.get
        obtain rfl : n = n1 := by rw [← hatc.1]; exact HOL.out.symm
        have HC3 := Lib.hid hp.row
        have HCO := Lib.hid hp.own
        have HG2 : Hid (g2 < w2.heap.size) := (HP2.out.two.r2.lt : _ < _)
        have HV2 := Lib.hid HP2.out.two.r2.row.lt
        clear hp hatc HP2
        go_wp2_with fail
        refine (num_any w3 _).mono ?_
        rintro e w4 ⟨rfl, rfl⟩
        have g1 : 1 ≤ (O : Int) := by omega
        obtain ⟨Mn, hMn⟩ : ∃ Mn, min S N = Mn := ⟨_, rfl⟩
        have g3 : (O : Int) ≤ (Mn : Int) := by omega
        have hmin : (if N < S then (N : Int) else (S : Int)) = (Mn : Int) := by rw [← hMn]; split <;> omega
        clear hMn
        go_wp2_with fail
        refine (num_any w4 _).mono ?_
        rintro e w5 ⟨rfl, rfl⟩
        clear g1 g3 hmin
        go_wp2_with fail
        refine (add_any w5 HP3.out.two.r2 HC3.out.ints HOU.out (by rw [HOL.out]; omega) (by rw [HOL.out]; omega)).mono ?_
        rw [HOL.out, HT2.out]
        rintro e w6 ⟨rfl, v2', hp⟩
        have HP6 := Lib.hid (HP3.out.symm.put hp).symm
        have HC6 := Lib.hid (HC3.out.but hp.but (fun e => by have := HCO.out _ e; have := HG2.out; omega) (fun j hj e => by have := HCO.out j hj; have := HV2.out j e; omega))
        clear hp HP3 HC3
        go_wp2_with fail
        refine (num_any w6 _).mono ?_
        rintro e w7 ⟨rfl, rfl⟩
        go_wp2_with fail
        refine (eq_ring w7 HP6.out.two.r1 HP6.out.two.r2).mono ?_
        rw [eq_true_of (rfl : lastN S (keepL S (st ++ out)) = lastN S (keepL S (st ++ out)))]
        rintro e w8 ⟨rfl, hm⟩
        have HP8 := Lib.hid (HP6.out.draws hm)
        have HC8 : Hid (Row w8 (.slice Ac n cc) out) := (by obtain ⟨m, rfl⟩ := hm; exact HC6.out.below (below_drewN (Below.refl _ w7) m) (Nat.le_refl _) : Row _ _ _)
        clear hm HP6 HC6
        go_wp2_with fail
        refine (total_ring w8 HP8.out.two.r1).mono ?_
        rintro e w9 ⟨rfl, rfl⟩
        go_wp2_with fail
        refine (total_ring w9 HP8.out.two.r2).mono ?_
        rintro e w10 ⟨rfl, rfl⟩
        have hat10 : AtInts w10 .u8 Ac n out := by
          obtain ⟨A', n', c', he, -, -, h⟩ := HC8.out.ints.get
          injection he with e1 e2 e3
          subst e1 e2 e3
          exact h
        have HAT10 := Lib.hid hat10
        clear hat10
        have gk : (N2 : Int) - (n : Int) = (N : Int) := by have := HN2.out; omega
        go_wp2_with (at_builtin; refine wpList_append_row rfl _ _ rfl (.slice A N c) zs out rfl HP8.out.row Ac n cc rfl HAT10.out (by rw [HP8.out.len]; omega) N2 (by rw [HP8.out.len, HN2.out]) ?_; intro A7 c7 w11 hrow hgrow hown; have HP11 := Lib.hid (HP8.out.app (by rw [List.length_append, HP8.out.len, HOL.out, HN2.out]) HOU.out hrow hgrow hown); clear hrow hgrow hown)
        have hat11 : AtInts w11 .u8 A7 N2 (zs ++ out) := by
          obtain ⟨A', n', c', he, -, -, h⟩ := HP11.out.row.ints.get
          injection he with e1 e2 e3
          subst e1 e2 e3
          exact h
        have HAT11 := Lib.hid hat11
        have HH11 := Lib.hid HP11.out.one
        clear hat11 HP11 HP8 HC8 HAT10 gk
        go_loopw [21] (fun i wr => ∃ (j m : Nat), N ≤ j ∧ j ≤ N2 ∧ i = .int .i64 j ∧ wr = w11.drewN m) (fun i _ => N2 - (intOf i).toNat)
        case atStart => exact ⟨N, 0, Nat.le_refl _, by have := HN2.out; omega, rfl, rfl⟩
        case round =>
          obtain ⟨j, m, hj1, hj2, rfl, rfl⟩ := hrel
          have j0 : (0 : Int) ≤ (j : Int) := by omega
          by_cases hjlt : j < N2
          · have j1 : (j : Int) < (N2 : Int) := by omega
            obtain ⟨x, hx1, hx2⟩ := copy_back (C := zs) (off := O) (n := n) (j := j - N) HO1.out HON.out (by have := HN2.out; omega)
            rw [HLZ.out, ← HOZ.out, show N + (j - N) = j by omega] at hx1 hx2
            obtain ⟨D, hD⟩ : ∃ D, j - O = D := ⟨_, rfl⟩
            rw [hD] at hx2
            have d1 : (j : Int) - (O : Int) = (D : Int) := by omega
            have d2 : (0 : Int) ≤ (D : Int) := by omega
            have d3 : (D : Int) < (N2 : Int) := by omega
            obtain ⟨b7, o7, rfl, hcell⟩ := HAT11.out.2 (by omega)
            have cy1 := hcell _ _ hx1
            have cy2 := hcell _ _ hx2
            clear hcell hx1 hx2 hD
            go_wp2
            go_quiet (fail)
            go_wp2
            go_roundw
            case rel => exact ⟨j + 1, m + nq, by omega, by omega, by go_num, rfl⟩
            case measure => simp [intOf]; omega
          · obtain rfl : j = N2 := by omega
            have HHE := Lib.hid (HH11.out.draws m)
            go_wp2
            go_roundw
            case rel => exact ⟨k + 1, _, c7, T2, A7, v', _, _, by have := HB3.out; omega, by go_num, rfl, by omega, by omega, (HHE.out : Hs _ _ _ _ _ _ _ _ _ _ _), (HE2.out : _ = _)⟩
            case measure => simp [intOf]; have := HB3.out; omega
    · have hlt' : ¬ k < L ∨ (k < L ∧ ¬ k < M) := by omega
      clear hlt
      have hNm : (N : Int) ≤ 9223372036854775807 := by omega
      obtain ⟨A', n', c', he, hcc, hcm, -⟩ := HH.out.row.ints.get
      injection he with e1 e2 e3
      subst e1 e2 e3
      have HR : Hid (Ring wr.drew g v S st T) := (HH.out.ring.ring.drewN 1 : Ring _ _ _ _ _ _)
      have HBD : Hid (Below w.heap.size w wr.drew) := (HH.out.ring.below.drew : Below _ _ _)
      have HLL : Hid (lastN S (lastN S st) = lastN S zs) := (by rw [HE.out]; exact lastN_lastN _ (Nat.le_refl _) : _ = _)
      have HROW := Lib.hid HH.out.row.ints
      clear HH
      by_cases hSN : S < N
      · obtain ⟨D, hD⟩ : ∃ D, N - S = D := ⟨_, rfl⟩
        have e1 : (N : Int) - (S : Int) = (D : Int) := by omega
        have e3 : (D : Int) ≤ (N : Int) := by omega
        have e4 : ¬ (D : Int) < 0 := by omega
        have e5 : (0 : Int) < (D : Int) := by omega
        have e6 : N - D = S := by omega
        have e5n : 0 < D := by omega
        have e3n : D ≤ N := by omega
        have ew : IntKind.i64.wrap (D : Int) = (D : Int) := wrap_in _ (by omega) (by omega)
        have hcD : ¬ c = D := by omega
        have hSNi : (S : Int) < (N : Int) := by omega
        have hSNn : ¬ N < S := by omega
        have HLE : Hid (min S st.length = S) := (by rw [HLE.out]; omega : _ = _)
        have HSV : Hid (Ints wr.drew .u8 (.slice (A.map (·.add D)) S (c - D)) (lastN S zs)) := (end_big (w := wr) HROW.out hSN hD HS1.out : Ints wr _ _ _)
        clear hD HROW
        rcases hlt' with hlt' | ⟨hlt', hlt2⟩
        all_goals
          go_wp2
          refine wp_region_noPanic ?_
          refine wp_region_held_drew (S := (fun w' => (convert 27 9 (.slice (A.map (·.add D)) S (c - D))).run Try.prog w' = .ok (.string (strOfNums (lastN S zs))) w')) (by kernel_rfl) ?_ (fun hHeld => ?_)
          · (try dsimp only); exact conv_str HSV.out
          refine wpAnyH_take2 (i := 0) (oi := _) (d := some 170) (v := ?_) rfl rfl (by kernel_rfl) (by kernel_rfl) (by kernel_rfl) (fun _ _ _ h => h) (Or.inl ⟨by rfl, ?_⟩) (by assumption) ?_
          rotate_left 1
          · (intro w' hSw; (try dsimp only at hSw); go_simp; try with_reducible rfl)
          try simp only [Act.put, List.setIfInBounds_toArray, List.set_cons_zero, List.set_cons_succ]
          refine wpAnyH_take2 (i := 1) (oi := _) (d := some 171) (v := ?_) rfl rfl (by kernel_rfl) (by kernel_rfl) (by kernel_rfl) (fun _ _ _ h => h) (Or.inl ⟨by rfl, ?_⟩) (by assumption) ?_
          rotate_left 1
          · (intro w' hSw; (try dsimp only at hSw); go_simp; try with_reducible rfl)
          try simp only [Act.put, List.setIfInBounds_toArray, List.set_cons_zero, List.set_cons_succ]
          refine wpAnyH_take2 (i := 4) (oi := _) (d := some 174) (v := ?_) rfl rfl (by kernel_rfl) (by kernel_rfl) (by kernel_rfl) (fun _ _ _ h => h) (Or.inl ⟨by rfl, ?_⟩) (by assumption) ?_
          rotate_left 1
          · (intro w' hSw; (try dsimp only at hSw); go_simp; try with_reducible rfl)
          try simp only [Act.put, List.setIfInBounds_toArray, List.set_cons_zero, List.set_cons_succ]
          refine wpAnyH_take2 (i := 5) (oi := _) (d := some 175) (v := ?_) rfl rfl (by kernel_rfl) (by kernel_rfl) (by kernel_rfl) (fun _ _ _ h => h) (Or.inl ⟨by rfl, ?_⟩) (by assumption) ?_
          rotate_left 1
          · (intro w' hSw; (try dsimp only at hSw); go_simp; try with_reducible rfl)
          try simp only [Act.put, List.setIfInBounds_toArray, List.set_cons_zero, List.set_cons_succ]
          refine wpAnyH_take2 (i := 6) (oi := _) (d := some 176) (v := ?_) rfl rfl (by kernel_rfl) (by kernel_rfl) (by kernel_rfl) (fun _ _ _ h => h) (Or.inl ⟨by rfl, ?_⟩) (by assumption) ?_
          rotate_left 1
          · (intro w' hSw; (try dsimp only at hSw); go_simp; try with_reducible rfl)
          try simp only [Act.put, List.setIfInBounds_toArray, List.set_cons_zero, List.set_cons_succ]
          refine wpAnyH_take2 (i := 7) (oi := _) (d := some 177) (v := ?_) rfl rfl (by kernel_rfl) (by kernel_rfl) (by kernel_rfl) (fun _ _ _ h => h) (Or.inl ⟨by rfl, ?_⟩) (by assumption) ?_
          rotate_left 1
          · (intro w' hSw; (try dsimp only at hSw); go_simp; try with_reducible rfl)
          try simp only [Act.put, List.setIfInBounds_toArray, List.set_cons_zero, List.set_cons_succ]
          refine wpAnyH_take2 (i := 8) (oi := _) (d := some 178) (v := ?_) rfl rfl (by kernel_rfl) (by kernel_rfl) (by kernel_rfl) (fun _ _ _ h => h) (Or.inl ⟨by rfl, ?_⟩) (by assumption) ?_
          rotate_left 1
          · (intro w' hSw; (try dsimp only at hSw); go_simp; try with_reducible rfl)
          try simp only [Act.put, List.setIfInBounds_toArray, List.set_cons_zero, List.set_cons_succ]
          refine wpAnyH_take2 (i := 9) (oi := _) (d := some 179) (v := ?_) rfl rfl (by kernel_rfl) (by kernel_rfl) (by kernel_rfl) (fun _ _ _ h => h) (Or.inl ⟨by rfl, ?_⟩) (by assumption) ?_
          rotate_left 1
          · (intro w' hSw; (try dsimp only at hSw); go_simp; try with_reducible rfl)
          try simp only [Act.put, List.setIfInBounds_toArray, List.set_cons_zero, List.set_cons_succ]
          refine wpAnyH_take2 (i := 10) (oi := _) (d := some 180) (v := ?_) rfl rfl (by kernel_rfl) (by kernel_rfl) (by kernel_rfl) (fun _ _ _ h => h) (Or.inl ⟨by rfl, ?_⟩) (by assumption) ?_
          rotate_left 1
          · (intro w' hSw; (try dsimp only at hSw); go_simp; try with_reducible rfl)
          try simp only [Act.put, List.setIfInBounds_toArray, List.set_cons_zero, List.set_cons_succ]
          refine wpAnyH_take2 (i := 11) (oi := _) (d := some 181) (v := ?_) rfl rfl (by kernel_rfl) (by kernel_rfl) (by kernel_rfl) (fun _ _ _ h => h) (Or.inl ⟨by rfl, ?_⟩) (by assumption) ?_
          rotate_left 1
          · (intro w' hSw; (try dsimp only at hSw); go_simp; try with_reducible rfl)
          try simp only [Act.put, List.setIfInBounds_toArray, List.set_cons_zero, List.set_cons_succ]
          refine wpAnyH_ready (rs := [2]) (by kernel_rfl) (by simp) ?_
          refine AllReadyH.cons (o := _) rfl (fun K hK => ?_) ?_
          rotate_left
          · exact AllReadyH.nil
          go_simp
          refine (last_some _ HR.out S HS1.out).mono ?_; rintro e w5 ⟨lv, rfl, hcl⟩; rw [HLL.out] at hcl; obtain ⟨A8, n8, c8, rfl, -, -, -⟩ := hcl.row.ints.get; have HR5 := Lib.hid (HR.out.below hcl.below (Nat.le_refl _)); have HB5 := Lib.hid (HBD.out.trans (hcl.below.mono HBD.out.size)); have HSV5 := Lib.hid (HSV.out.below hcl.below (Nat.le_refl _)); have HLV5 := Lib.hid hcl.row.ints; clear hcl
          refine hK.out _ _ ?_ (fun hHeld => ?_)
          · (try dsimp only); exact conv_str HSV5.out
          clear hK K
          try simp only [Act.put, List.setIfInBounds_toArray, List.set_cons_zero, List.set_cons_succ]
          refine wpAnyH_mono (S' := fun w' => (convert 27 9 (.slice (A.map (·.add D)) S (c - D))).run Try.prog w' = .ok (.string (strOfNums (lastN S zs))) w' ∧ (convert 27 9 (.slice A8 n8 c8)).run Try.prog w' = .ok (.string (strOfNums (lastN S zs))) w') (fun w' h => h.1) _ _ _ _ ?_
          have hHeld2 : (fun w' => (convert 27 9 (.slice (A.map (·.add D)) S (c - D))).run Try.prog w' = .ok (.string (strOfNums (lastN S zs))) w' ∧ (convert 27 9 (.slice A8 n8 c8)).run Try.prog w' = .ok (.string (strOfNums (lastN S zs))) w') _ := ⟨hHeld, conv_str HLV5.out⟩
          refine wpAnyH_take2 (i := 3) (oi := _) (d := some 173) (v := ?_) rfl rfl (by kernel_rfl) (by kernel_rfl) (by kernel_rfl) (fun _ _ _ h => h) (Or.inl ⟨by rfl, ?_⟩) (by assumption) ?_
          rotate_left 1
          · (intro w' hSw; (try dsimp only at hSw); go_simp; try with_reducible rfl)
          try simp only [Act.put, List.setIfInBounds_toArray, List.set_cons_zero, List.set_cons_succ]
          refine wpAnyH_take2 (i := 12) (oi := _) (d := some 182) (v := ?_) rfl rfl (by kernel_rfl) (by kernel_rfl) (by kernel_rfl) (fun _ _ _ h => h) (Or.inl ⟨by rfl, ?_⟩) (by assumption) ?_
          rotate_left 1
          · (intro w' hSw; (try dsimp only at hSw); go_simp; try with_reducible rfl)
          try simp only [Act.put, List.setIfInBounds_toArray, List.set_cons_zero, List.set_cons_succ]
          refine wpAnyH_take2 (i := 13) (oi := _) (d := some 183) (v := ?_) rfl rfl (by kernel_rfl) (by kernel_rfl) (by kernel_rfl) (fun _ _ _ h => h) (Or.inl ⟨by rfl, ?_⟩) (by assumption) ?_
          rotate_left 1
          · (intro w' hSw; (try dsimp only at hSw); go_simp; try with_reducible rfl)
          try simp only [Act.put, List.setIfInBounds_toArray, List.set_cons_zero, List.set_cons_succ]
          refine wpAnyH_take2 (i := 14) (oi := _) (d := some 184) (v := ?_) rfl rfl (by kernel_rfl) (by kernel_rfl) (by kernel_rfl) (fun _ _ _ h => h) (Or.inl ⟨by rfl, ?_⟩) (by assumption) ?_
          rotate_left 1
          · (intro w' hSw; (try dsimp only at hSw); go_simp; try with_reducible rfl)
          try simp only [Act.put, List.setIfInBounds_toArray, List.set_cons_zero, List.set_cons_succ]
          refine wpAnyH_take2 (i := 16) (oi := _) (d := some 186) (v := ?_) rfl rfl (by kernel_rfl) (by kernel_rfl) (by kernel_rfl) (fun _ _ _ h => h) (Or.inl ⟨by rfl, ?_⟩) (by assumption) ?_
          rotate_left 1
          · (intro w' hSw; (try dsimp only at hSw); go_simp; try with_reducible rfl)
          try simp only [Act.put, List.setIfInBounds_toArray, List.set_cons_zero, List.set_cons_succ]
          refine wpAnyH_take2 (i := 17) (oi := _) (d := some 187) (v := ?_) rfl rfl (by kernel_rfl) (by kernel_rfl) (by kernel_rfl) (fun _ _ _ h => h) (Or.inl ⟨by rfl, ?_⟩) (by assumption) ?_
          rotate_left 1
          · (intro w' hSw; (try dsimp only at hSw); go_simp; try with_reducible rfl)
          try simp only [Act.put, List.setIfInBounds_toArray, List.set_cons_zero, List.set_cons_succ]
          refine wpAnyH_take2 (i := 18) (oi := _) (d := some 188) (v := ?_) rfl rfl (by kernel_rfl) (by kernel_rfl) (by kernel_rfl) (fun _ _ _ h => h) (Or.inl ⟨by rfl, ?_⟩) (by assumption) ?_
          rotate_left 1
          · (intro w' hSw; (try dsimp only at hSw); go_simp; try with_reducible rfl)
          try simp only [Act.put, List.setIfInBounds_toArray, List.set_cons_zero, List.set_cons_succ]
          refine wpAnyH_take2 (i := 19) (oi := _) (d := some 189) (v := ?_) rfl rfl (by kernel_rfl) (by kernel_rfl) (by kernel_rfl) (fun _ _ _ h => h) (Or.inl ⟨by rfl, ?_⟩) (by assumption) ?_
          rotate_left 1
          · (intro w' hSw; (try dsimp only at hSw); go_simp; try with_reducible rfl)
          try simp only [Act.put, List.setIfInBounds_toArray, List.set_cons_zero, List.set_cons_succ]
          refine wpAnyH_ready (rs := [15]) (by kernel_rfl) (by simp) ?_
          refine AllReadyH.cons (o := _) rfl (fun K hK => ?_) ?_
          rotate_left
          · exact AllReadyH.nil
          go_simp
          refine (len_q HR5.out HLE.out).mono ?_; rintro e w6 ⟨rfl, hm⟩; have HB6 := Lib.hid (below_next3 HB5.out hm); have HSV6 : Hid (Ints w6 .u8 (.slice (A.map (·.add D)) S (c - D)) (lastN S zs)) := (by obtain ⟨m, rfl⟩ := hm; exact HSV5.out : Ints _ _ _ _); have HLV6 : Hid (Ints w6 .u8 (.slice A8 n8 c8) (lastN S zs)) := (by obtain ⟨m, rfl⟩ := hm; exact HLV5.out : Ints _ _ _ _); clear hm
          refine hK.out _ _ ?_ (fun hHeld => ?_)
          · (try dsimp only); exact ⟨conv_str HSV6.out, conv_str HLV6.out⟩
          clear hK K
          try simp only [Act.put, List.setIfInBounds_toArray, List.set_cons_zero, List.set_cons_succ]
          refine wpAnyH_take2 (i := 20) (oi := _) (d := some 190) (v := ?_) rfl rfl (by kernel_rfl) (by kernel_rfl) (by kernel_rfl) (fun _ _ _ h => h) (Or.inl ⟨by rfl, ?_⟩) (by assumption) ?_
          rotate_left 1
          · (intro w' hSw; (try dsimp only at hSw); go_simp; try with_reducible rfl)
          try simp only [Act.put, List.setIfInBounds_toArray, List.set_cons_zero, List.set_cons_succ]
          refine wpAnyH_take2 (i := 21) (oi := _) (d := some 191) (v := ?_) rfl rfl (by kernel_rfl) (by kernel_rfl) (by kernel_rfl) (fun _ _ _ h => h) (Or.inl ⟨by rfl, ?_⟩) (by assumption) ?_
          rotate_left 1
          · (intro w' hSw; (try dsimp only at hSw); go_simp; try with_reducible rfl)
          try simp only [Act.put, List.setIfInBounds_toArray, List.set_cons_zero, List.set_cons_succ]
          refine wpAnyH_take2 (i := 22) (oi := _) (d := some 192) (v := ?_) rfl rfl (by kernel_rfl) (by kernel_rfl) (by kernel_rfl) (fun _ _ _ h => h) (Or.inl ⟨by rfl, ?_⟩) (by assumption) ?_
          rotate_left 1
          · (intro w' hSw; (try dsimp only at hSw); go_simp; try with_reducible rfl)
          try simp only [Act.put, List.setIfInBounds_toArray, List.set_cons_zero, List.set_cons_succ]
          refine wpAnyH_ready (rs := [23]) (by kernel_rfl) (by simp) ?_
          refine AllReadyH.cons (o := _) rfl (fun K hK => ?_) ?_
          rotate_left
          · exact AllReadyH.nil
          go_simp
          refine (works_any w6).mono ?_; rintro e w12 ⟨rfl, hb⟩; have HB12 := Lib.hid (HB6.out.trans (hb.mono HB6.out.size)); have HSV12 := Lib.hid (HSV6.out.below hb (Nat.le_refl _)); have HLV12 := Lib.hid (HLV6.out.below hb (Nat.le_refl _)); clear hb
          refine hK.out _ _ ?_ (fun hHeld => ?_)
          · (try dsimp only); exact ⟨conv_str HSV12.out, conv_str HLV12.out⟩
          clear hK K
          try simp only [Act.put, List.setIfInBounds_toArray, List.set_cons_zero, List.set_cons_succ]
          refine wpAnyH_take2 (i := 24) (oi := _) (d := some 194) (v := ?_) rfl rfl (by kernel_rfl) (by kernel_rfl) (by kernel_rfl) (fun _ _ _ h => h) (Or.inl ⟨by rfl, ?_⟩) (by assumption) ?_
          rotate_left 1
          · (intro w' hSw; (try dsimp only at hSw); go_simp; try with_reducible rfl)
          try simp only [Act.put, List.setIfInBounds_toArray, List.set_cons_zero, List.set_cons_succ]
          refine wpAnyH_take2 (i := 25) (oi := _) (d := some 10) (v := ?_) rfl rfl (by kernel_rfl) (by kernel_rfl) (by kernel_rfl) (fun _ _ _ h => h) (Or.inl ⟨by rfl, ?_⟩) (by assumption) ?_
          rotate_left 1
          · (intro w' hSw; (try dsimp only at hSw); go_simp; try with_reducible rfl)
          try simp only [Act.put, List.setIfInBounds_toArray, List.set_cons_zero, List.set_cons_succ]
          refine wpAnyH_done (by kernel_rfl) ?_ _
          refine NoPanic.normal ?_
          go_wp2
          go_ret
          exact ⟨rfl, HB12.out⟩
      · obtain ⟨Z, hZ⟩ : ∃ Z : Int, (N : Int) - (S : Int) = Z := ⟨_, rfl⟩
        have e4 : Z ≤ 0 := by omega
        have e5 : ¬ (0 : Int) < Z := by omega
        have ew : IntKind.i64.wrap Z = Z := wrap_in _ (by omega) (by omega)
        have hNS : N ≤ S := by omega
        have hNSi : (N : Int) ≤ (S : Int) := by omega
        have HLE : Hid (min S st.length = N) := (by rw [HLE.out]; omega : _ = _)
        have HLA : Hid (lastN S zs = zs) := (lastN_all (by rw [HLZ.out]; omega) : _ = _)
        have HSV : Hid (Ints wr.drew .u8 (.slice A N c) (lastN S zs)) := (by rw [HLA.out]; exact (HROW.out : Ints wr _ _ _) : Ints _ _ _ _)
        clear HROW
        rcases hlt' with hlt' | ⟨hlt', hlt2⟩
        all_goals
          go_wp2
          have e5 : ¬ (0 : Int) < Z := by omega
          have hmin : (if N < S then (N : Int) else (S : Int)) = (N : Int) := by split <;> omega
          refine wp_region_noPanic ?_
          refine wp_region_held_drew (S := (fun w' => (convert 27 9 (.slice A N c)).run Try.prog w' = .ok (.string (strOfNums (lastN S zs))) w')) (by kernel_rfl) ?_ (fun hHeld => ?_)
          · (try dsimp only); exact conv_str HSV.out
          refine wpAnyH_take2 (i := 0) (oi := _) (d := some 170) (v := ?_) rfl rfl (by kernel_rfl) (by kernel_rfl) (by kernel_rfl) (fun _ _ _ h => h) (Or.inl ⟨by rfl, ?_⟩) (by assumption) ?_
          rotate_left 1
          · (intro w' hSw; (try dsimp only at hSw); go_simp; try with_reducible rfl)
          try simp only [Act.put, List.setIfInBounds_toArray, List.set_cons_zero, List.set_cons_succ]
          refine wpAnyH_take2 (i := 1) (oi := _) (d := some 171) (v := ?_) rfl rfl (by kernel_rfl) (by kernel_rfl) (by kernel_rfl) (fun _ _ _ h => h) (Or.inl ⟨by rfl, ?_⟩) (by assumption) ?_
          rotate_left 1
          · (intro w' hSw; (try dsimp only at hSw); go_simp; try with_reducible rfl)
          try simp only [Act.put, List.setIfInBounds_toArray, List.set_cons_zero, List.set_cons_succ]
          refine wpAnyH_take2 (i := 4) (oi := _) (d := some 174) (v := ?_) rfl rfl (by kernel_rfl) (by kernel_rfl) (by kernel_rfl) (fun _ _ _ h => h) (Or.inl ⟨by rfl, ?_⟩) (by assumption) ?_
          rotate_left 1
          · (intro w' hSw; (try dsimp only at hSw); go_simp; try with_reducible rfl)
          try simp only [Act.put, List.setIfInBounds_toArray, List.set_cons_zero, List.set_cons_succ]
          refine wpAnyH_take2 (i := 5) (oi := _) (d := some 175) (v := ?_) rfl rfl (by kernel_rfl) (by kernel_rfl) (by kernel_rfl) (fun _ _ _ h => h) (Or.inl ⟨by rfl, ?_⟩) (by assumption) ?_
          rotate_left 1
          · (intro w' hSw; (try dsimp only at hSw); go_simp; try with_reducible rfl)
          try simp only [Act.put, List.setIfInBounds_toArray, List.set_cons_zero, List.set_cons_succ]
          refine wpAnyH_take2 (i := 6) (oi := _) (d := some 176) (v := ?_) rfl rfl (by kernel_rfl) (by kernel_rfl) (by kernel_rfl) (fun _ _ _ h => h) (Or.inl ⟨by rfl, ?_⟩) (by assumption) ?_
          rotate_left 1
          · (intro w' hSw; (try dsimp only at hSw); go_simp; try with_reducible rfl)
          try simp only [Act.put, List.setIfInBounds_toArray, List.set_cons_zero, List.set_cons_succ]
          refine wpAnyH_take2 (i := 7) (oi := _) (d := some 177) (v := ?_) rfl rfl (by kernel_rfl) (by kernel_rfl) (by kernel_rfl) (fun _ _ _ h => h) (Or.inl ⟨by rfl, ?_⟩) (by assumption) ?_
          rotate_left 1
          · (intro w' hSw; (try dsimp only at hSw); go_simp; try with_reducible rfl)
          try simp only [Act.put, List.setIfInBounds_toArray, List.set_cons_zero, List.set_cons_succ]
          refine wpAnyH_take2 (i := 8) (oi := _) (d := some 178) (v := ?_) rfl rfl (by kernel_rfl) (by kernel_rfl) (by kernel_rfl) (fun _ _ _ h => h) (Or.inl ⟨by rfl, ?_⟩) (by assumption) ?_
          rotate_left 1
          · (intro w' hSw; (try dsimp only at hSw); go_simp; try with_reducible rfl)
          try simp only [Act.put, List.setIfInBounds_toArray, List.set_cons_zero, List.set_cons_succ]
          refine wpAnyH_take2 (i := 9) (oi := _) (d := some 179) (v := ?_) rfl rfl (by kernel_rfl) (by kernel_rfl) (by kernel_rfl) (fun _ _ _ h => h) (Or.inl ⟨by rfl, ?_⟩) (by assumption) ?_
          rotate_left 1
          · (intro w' hSw; (try dsimp only at hSw); go_simp; try with_reducible rfl)
          try simp only [Act.put, List.setIfInBounds_toArray, List.set_cons_zero, List.set_cons_succ]
          refine wpAnyH_take2 (i := 10) (oi := _) (d := some 180) (v := ?_) rfl rfl (by kernel_rfl) (by kernel_rfl) (by kernel_rfl) (fun _ _ _ h => h) (Or.inl ⟨by rfl, ?_⟩) (by assumption) ?_
          rotate_left 1
          · (intro w' hSw; (try dsimp only at hSw); go_simp; try with_reducible rfl)
          try simp only [Act.put, List.setIfInBounds_toArray, List.set_cons_zero, List.set_cons_succ]
          refine wpAnyH_take2 (i := 11) (oi := _) (d := some 181) (v := ?_) rfl rfl (by kernel_rfl) (by kernel_rfl) (by kernel_rfl) (fun _ _ _ h => h) (Or.inl ⟨by rfl, ?_⟩) (by assumption) ?_
          rotate_left 1
          · (intro w' hSw; (try dsimp only at hSw); go_simp; try with_reducible rfl)
          try simp only [Act.put, List.setIfInBounds_toArray, List.set_cons_zero, List.set_cons_succ]
          refine wpAnyH_ready (rs := [2]) (by kernel_rfl) (by simp) ?_
          refine AllReadyH.cons (o := _) rfl (fun K hK => ?_) ?_
          rotate_left
          · exact AllReadyH.nil
          go_simp
          refine (last_some _ HR.out S HS1.out).mono ?_; rintro e w5 ⟨lv, rfl, hcl⟩; rw [HLL.out] at hcl; obtain ⟨A8, n8, c8, rfl, -, -, -⟩ := hcl.row.ints.get; have HR5 := Lib.hid (HR.out.below hcl.below (Nat.le_refl _)); have HB5 := Lib.hid (HBD.out.trans (hcl.below.mono HBD.out.size)); have HSV5 := Lib.hid (HSV.out.below hcl.below (Nat.le_refl _)); have HLV5 := Lib.hid hcl.row.ints; clear hcl
          refine hK.out _ _ ?_ (fun hHeld => ?_)
          · (try dsimp only); exact conv_str HSV5.out
          clear hK K
          try simp only [Act.put, List.setIfInBounds_toArray, List.set_cons_zero, List.set_cons_succ]
          refine wpAnyH_mono (S' := fun w' => (convert 27 9 (.slice A N c)).run Try.prog w' = .ok (.string (strOfNums (lastN S zs))) w' ∧ (convert 27 9 (.slice A8 n8 c8)).run Try.prog w' = .ok (.string (strOfNums (lastN S zs))) w') (fun w' h => h.1) _ _ _ _ ?_
          have hHeld2 : (fun w' => (convert 27 9 (.slice A N c)).run Try.prog w' = .ok (.string (strOfNums (lastN S zs))) w' ∧ (convert 27 9 (.slice A8 n8 c8)).run Try.prog w' = .ok (.string (strOfNums (lastN S zs))) w') _ := ⟨hHeld, conv_str HLV5.out⟩
          refine wpAnyH_take2 (i := 3) (oi := _) (d := some 173) (v := ?_) rfl rfl (by kernel_rfl) (by kernel_rfl) (by kernel_rfl) (fun _ _ _ h => h) (Or.inl ⟨by rfl, ?_⟩) (by assumption) ?_
          rotate_left 1
          · (intro w' hSw; (try dsimp only at hSw); go_simp; try with_reducible rfl)
          try simp only [Act.put, List.setIfInBounds_toArray, List.set_cons_zero, List.set_cons_succ]
          refine wpAnyH_take2 (i := 12) (oi := _) (d := some 182) (v := ?_) rfl rfl (by kernel_rfl) (by kernel_rfl) (by kernel_rfl) (fun _ _ _ h => h) (Or.inl ⟨by rfl, ?_⟩) (by assumption) ?_
          rotate_left 1
          · (intro w' hSw; (try dsimp only at hSw); go_simp; try with_reducible rfl)
          try simp only [Act.put, List.setIfInBounds_toArray, List.set_cons_zero, List.set_cons_succ]
          refine wpAnyH_take2 (i := 13) (oi := _) (d := some 183) (v := ?_) rfl rfl (by kernel_rfl) (by kernel_rfl) (by kernel_rfl) (fun _ _ _ h => h) (Or.inl ⟨by rfl, ?_⟩) (by assumption) ?_
          rotate_left 1
          · (intro w' hSw; (try dsimp only at hSw); go_simp; try with_reducible rfl)
          try simp only [Act.put, List.setIfInBounds_toArray, List.set_cons_zero, List.set_cons_succ]
          refine wpAnyH_take2 (i := 14) (oi := _) (d := some 184) (v := ?_) rfl rfl (by kernel_rfl) (by kernel_rfl) (by kernel_rfl) (fun _ _ _ h => h) (Or.inl ⟨by rfl, ?_⟩) (by assumption) ?_
          rotate_left 1
          · (intro w' hSw; (try dsimp only at hSw); go_simp; try with_reducible rfl)
          try simp only [Act.put, List.setIfInBounds_toArray, List.set_cons_zero, List.set_cons_succ]
          refine wpAnyH_take2 (i := 16) (oi := _) (d := some 186) (v := ?_) rfl rfl (by kernel_rfl) (by kernel_rfl) (by kernel_rfl) (fun _ _ _ h => h) (Or.inl ⟨by rfl, ?_⟩) (by assumption) ?_
          rotate_left 1
          · (intro w' hSw; (try dsimp only at hSw); go_simp; try with_reducible rfl)
          try simp only [Act.put, List.setIfInBounds_toArray, List.set_cons_zero, List.set_cons_succ]
          refine wpAnyH_take2 (i := 17) (oi := _) (d := some 187) (v := ?_) rfl rfl (by kernel_rfl) (by kernel_rfl) (by kernel_rfl) (fun _ _ _ h => h) (Or.inl ⟨by rfl, ?_⟩) (by assumption) ?_
          rotate_left 1
          · (intro w' hSw; (try dsimp only at hSw); go_simp; try with_reducible rfl)
          try simp only [Act.put, List.setIfInBounds_toArray, List.set_cons_zero, List.set_cons_succ]
          refine wpAnyH_take2 (i := 18) (oi := _) (d := some 188) (v := ?_) rfl rfl (by kernel_rfl) (by kernel_rfl) (by kernel_rfl) (fun _ _ _ h => h) (Or.inl ⟨by rfl, ?_⟩) (by assumption) ?_
          rotate_left 1
          · (intro w' hSw; (try dsimp only at hSw); go_simp; try with_reducible rfl)
          try simp only [Act.put, List.setIfInBounds_toArray, List.set_cons_zero, List.set_cons_succ]
          refine wpAnyH_take2 (i := 19) (oi := _) (d := some 189) (v := ?_) rfl rfl (by kernel_rfl) (by kernel_rfl) (by kernel_rfl) (fun _ _ _ h => h) (Or.inl ⟨by rfl, ?_⟩) (by assumption) ?_
          rotate_left 1
          · (intro w' hSw; (try dsimp only at hSw); go_simp; try with_reducible rfl)
          try simp only [Act.put, List.setIfInBounds_toArray, List.set_cons_zero, List.set_cons_succ]
          refine wpAnyH_ready (rs := [15]) (by kernel_rfl) (by simp) ?_
          refine AllReadyH.cons (o := _) rfl (fun K hK => ?_) ?_
          rotate_left
          · exact AllReadyH.nil
          go_simp
          refine (len_q HR5.out HLE.out).mono ?_; rintro e w6 ⟨rfl, hm⟩; have HB6 := Lib.hid (below_next3 HB5.out hm); have HSV6 : Hid (Ints w6 .u8 (.slice A N c) (lastN S zs)) := (by obtain ⟨m, rfl⟩ := hm; exact HSV5.out : Ints _ _ _ _); have HLV6 : Hid (Ints w6 .u8 (.slice A8 n8 c8) (lastN S zs)) := (by obtain ⟨m, rfl⟩ := hm; exact HLV5.out : Ints _ _ _ _); clear hm
          refine hK.out _ _ ?_ (fun hHeld => ?_)
          · (try dsimp only); exact ⟨conv_str HSV6.out, conv_str HLV6.out⟩
          clear hK K
          try simp only [Act.put, List.setIfInBounds_toArray, List.set_cons_zero, List.set_cons_succ]
          refine wpAnyH_take2 (i := 20) (oi := _) (d := some 190) (v := ?_) rfl rfl (by kernel_rfl) (by kernel_rfl) (by kernel_rfl) (fun _ _ _ h => h) (Or.inl ⟨by rfl, ?_⟩) (by assumption) ?_
          rotate_left 1
          · (intro w' hSw; (try dsimp only at hSw); go_simp; try with_reducible rfl)
          try simp only [Act.put, List.setIfInBounds_toArray, List.set_cons_zero, List.set_cons_succ]
          refine wpAnyH_take2 (i := 21) (oi := _) (d := some 191) (v := ?_) rfl rfl (by kernel_rfl) (by kernel_rfl) (by kernel_rfl) (fun _ _ _ h => h) (Or.inl ⟨by rfl, ?_⟩) (by assumption) ?_
          rotate_left 1
          · (intro w' hSw; (try dsimp only at hSw); go_simp; try with_reducible rfl)
          try simp only [Act.put, List.setIfInBounds_toArray, List.set_cons_zero, List.set_cons_succ]
          refine wpAnyH_take2 (i := 22) (oi := _) (d := some 192) (v := ?_) rfl rfl (by kernel_rfl) (by kernel_rfl) (by kernel_rfl) (fun _ _ _ h => h) (Or.inl ⟨by rfl, ?_⟩) (by assumption) ?_
          rotate_left 1
          · (intro w' hSw; (try dsimp only at hSw); go_simp; try with_reducible rfl)
          try simp only [Act.put, List.setIfInBounds_toArray, List.set_cons_zero, List.set_cons_succ]
          refine wpAnyH_ready (rs := [23]) (by kernel_rfl) (by simp) ?_
          refine AllReadyH.cons (o := _) rfl (fun K hK => ?_) ?_
          rotate_left
          · exact AllReadyH.nil
          go_simp
          refine (works_any w6).mono ?_; rintro e w12 ⟨rfl, hb⟩; have HB12 := Lib.hid (HB6.out.trans (hb.mono HB6.out.size)); have HSV12 := Lib.hid (HSV6.out.below hb (Nat.le_refl _)); have HLV12 := Lib.hid (HLV6.out.below hb (Nat.le_refl _)); clear hb
          refine hK.out _ _ ?_ (fun hHeld => ?_)
          · (try dsimp only); exact ⟨conv_str HSV12.out, conv_str HLV12.out⟩
          clear hK K
          try simp only [Act.put, List.setIfInBounds_toArray, List.set_cons_zero, List.set_cons_succ]
          refine wpAnyH_take2 (i := 24) (oi := _) (d := some 194) (v := ?_) rfl rfl (by kernel_rfl) (by kernel_rfl) (by kernel_rfl) (fun _ _ _ h => h) (Or.inl ⟨by rfl, ?_⟩) (by assumption) ?_
          rotate_left 1
          · (intro w' hSw; (try dsimp only at hSw); go_simp; try with_reducible rfl)
          try simp only [Act.put, List.setIfInBounds_toArray, List.set_cons_zero, List.set_cons_succ]
          refine wpAnyH_take2 (i := 25) (oi := _) (d := some 10) (v := ?_) rfl rfl (by kernel_rfl) (by kernel_rfl) (by kernel_rfl) (fun _ _ _ h => h) (Or.inl ⟨by rfl, ?_⟩) (by assumption) ?_
          rotate_left 1
          · (intro w' hSw; (try dsimp only at hSw); go_simp; try with_reducible rfl)
          try simp only [Act.put, List.setIfInBounds_toArray, List.set_cons_zero, List.set_cons_succ]
          refine wpAnyH_done (by kernel_rfl) ?_ _
          refine NoPanic.normal ?_
          go_wp2
          go_ret
          exact ⟨rfl, HB12.out⟩

theorem ringHolds_walk (size : Int) (_ : (Lit.int .i64 size).wf = true) (v1 : Value) (xs : List Int) {w : World} (w1 : Ints w .u8 v1 xs ∧ ∀ z ∈ xs, (Lit.int .u8 z).wf = true) (v2 : Value) (bs : List Int) (w2 : Ints w .u8 v2 bs ∧ ∀ z ∈ bs, (Lit.int .u8 z).wf = true)
    (v3 : Value) (os : List Int) (w3 : Ints w .u8 v3 os ∧ ∀ z ∈ os, (Lit.int .u8 z).wf = true) (v4 : Value) (ns : List Int) (w4 : Ints w .u8 v4 ns ∧ ∀ z ∈ ns, (Lit.int .u8 z).wf = true) :
    Calls Try.prog 7 #[.int .i64 size, v1, v2, v3, v4] w fun e w' => e = .returned (.bool true) ∧ Below w.heap.size w w' := by
  by_cases h : size < 1 ∨ (1 ≤ size ∧ (300 < size ∨ (size ≤ 300 ∧ (150 < xs.length ∨ (xs.length ≤ 150 ∧ (150 < bs.length ∨ (bs.length ≤ 150 ∧ 12 < os.length)))))))
  · exact rh_else size v1 v2 v3 v4 xs bs os ns w1.1 w2.1 w3.1 w4.1 h
  · obtain ⟨S, rfl⟩ : ∃ S : Nat, size = (S : Int) := ⟨size.toNat, by omega⟩
    exact rh_main S v1 v2 v3 v4 xs bs os ns w1.1 w2.1 w3.1 w4.1 (u8s_wf w1.2) (u8s_wf w2.2) (u8s_wf w3.2) (u8s_wf w4.2) (by omega) (by omega) (by omega) (by omega) (by omega)
end Go.Proofs.Ytohmkcoodaidcaa
