/-
  All where the ring holds bytes: slices.All's closure and All's closure yield them.
-/
import Derived.Test.YtohmkcoodaidcaaFnYield
import Derived.Test.YtohmkcoodaidcaaRgAllN
namespace Go.Proofs.Ytohmkcoodaidcaa
set_option linter.all false
set_option maxRecDepth 100000
open Go.RowKit Go.Shelf

attribute [local go_sem] Oper.semAt_some

/-- The bytes with their indices. -/
def enumL (bs : List Int) : List (Nat × Int) := bs.zipIdx.map fun p => (p.2, p.1)
theorem enumL_length (bs : List Int) : (enumL bs).length = bs.length := by simp [enumL]
theorem enumL_at {bs : List Int} {k : Nat} (h : k < bs.length) : (enumL bs)[k]? = some (k, bs[k]) := by simp [enumL, h]
theorem take_snoc {α : Type} {xs : List α} {k : Nat} {x : α} (h : xs[k]? = some x) : xs.take k ++ [x] = xs.take (k + 1) := by
  rw [List.take_succ, h]; rfl

set_option maxHeartbeats 1000000 in
theorem all1_yields (w0 : World) (B : Nat) (v : Value) (bs : List Int) (hI : Ints w0 .u8 v bs) (hB : w0.cell? ⟨B, 0, none⟩ = some v) :
    SeqL Try.prog 46 #[.pointer (some ⟨B, 0, none⟩)] (fun x : Nat × Int => #[.int .i64 x.1, .int .u8 x.2]) (enumL bs) (fun k => bs ≠ [] ∧ v.ownBlock = some k) w0 := by
  intro n l J Jx W hn hW hJ hJx hY h0
  have hB' := (hW.cell (World.block_lt_of_cell? _ _ hB)).trans hB
  have hI' := hI.below hW (Nat.le_refl _)
  obtain ⟨A, len, cap, rfl, hlc, hcm, hat⟩ := hI'.get
  have hlen : bs.length = len := hat.1
  have HY := Lib.hid hY
  have HJ := Lib.hid h0
  have HAT := Lib.hid hat
  have HL := Lib.hid hlen
  have hli : (len : Int) ≤ 9223372036854775807 := by omega
  clear hI hI' hB hat hlen hY h0 hJ hJx
  refine callsIn_of_wp Try.func46 rfl trivial ?_ rfl
  simp only [Try.ntmps46, List.size_toArray, List.length_cons, List.length_nil, Nat.reduceAdd, Nat.reduceSub, Array.replicate_succ, Array.replicate_zero, List.push_toArray, List.append_toArray, List.nil_append, List.cons_append]
  gi_wp2
  gi_loopw [7] (fun i wr => ∃ k : Nat, k ≤ len ∧ i = .int .i64 k ∧ Hid (J ((enumL bs).take k) wr) ∧ Hid (KeptL (fun k => (bs ≠ [] ∧ (Value.slice A len cap).ownBlock = some k) ∨ W.heap.size ≤ k) W wr)) (fun i _ => len - (intOf i).toNat)
  case atStart => exact ⟨0, Nat.zero_le _, rfl, (by rw [List.take_zero]; exact HJ.out : J _ _), (KeptL.refl _ _ : KeptL _ _ _)⟩
  case round =>
    obtain ⟨k, hk, rfl, HJk, HKk⟩ := hrel
    by_cases hlt : k < len
    · have hkb : k < bs.length := by rw [HL.out]; exact hlt
      have hx := enumL_at hkb
      obtain ⟨z, hz⟩ : ∃ z, bs[k]'hkb = z := ⟨_, rfl⟩
      rw [hz] at hx
      obtain ⟨b, off, x, rfl, hb, hc, hxx⟩ := HAT.out.at_ hlt
      have hxz : x = z := by
        have h1 := hxx.out
        rw [List.getElem?_eq_getElem hkb, hz] at h1
        exact (Option.some.inj h1).symm
      subst hxz
      have hcell := HKk.out.cell (p := ⟨b, off + k, none⟩) (.inl ⟨fun e => by rw [e] at hkb; simp at hkb, rfl⟩) hc
      have HX := Lib.hid hx
      have k0 : (0 : Int) ≤ (k : Int) := by omega
      have k1 : (k : Int) < (len : Int) := by omega
      clear hxx hz hc hb
      obtain ⟨fn, tmps, assign, body, hy, hR⟩ := HY.out _ _ wr HJk.out HKk.out.size (by rw [take_snoc HX.out]; exact List.take_prefix _ _)
      dsimp only at hy
      clear hx
      gi_wp2
      refine ⟨fun _ => by omega, ?_⟩
      refine hR.mono ?_
      rintro e W3 (⟨rfl, hJ3, hk3⟩ | ⟨rfl, hJx3, hk3⟩)
      · rw [take_snoc HX.out] at hJ3
        have HJ3 := Lib.hid hJ3
        have HK3 := Lib.hid (HKk.out.trans hk3)
        clear hJ3 hk3
        gi_wp2
        go_roundw
        case rel => exact ⟨k + 1, by omega, by simp, HJ3, HK3⟩
        case measure => simp [intOf]; omega
      · rw [take_snoc HX.out] at hJx3
        have HJ3 := Lib.hid hJx3
        clear hJx3 hk3
        gi_wp2
        refine bodyPost_ret (results_none rfl _ _ _) rfl ?_
        exact ⟨⟨_, rfl⟩, .inr ⟨_, List.take_prefix _ _, HJ3.out⟩⟩
    · obtain rfl : k = len := by omega
      gi_wp2
      go_end0
      have := HJk.out
      rw [List.take_of_length_le (by rw [enumL_length, HL.out]; exact Nat.le_refl _)] at this
      exact ⟨⟨_, rfl⟩, .inl this⟩

/-- What All yields: the distance to the end and the byte. -/
def offsL (bs : List Int) : List (Nat × Int) := (enumL bs).map fun x => (bs.length - x.1, x.2)
theorem prefix_map {α β : Type} (f : α → β) {a b : List α} (h : a <+: b) : a.map f <+: b.map f := by
  obtain ⟨t, rfl⟩ := h
  exact ⟨t.map f, by simp⟩
theorem enumL_mem {bs : List Int} {pre : List (Nat × Int)} {x : Nat × Int} (h : pre ++ [x] <+: enumL bs) : x.1 < bs.length := by
  obtain ⟨t, ht⟩ := h
  have h1 : (enumL bs)[pre.length]? = some x := by rw [← ht]; simp
  have h2 := (List.getElem?_eq_some_iff.1 h1).1
  rw [enumL_length] at h2
  rw [enumL_at h2] at h1
  obtain rfl := Option.some.inj h1
  exact h2

set_option maxHeartbeats 1000000 in
theorem ringAll1_yields (w0 : World) (B : Nat) (v : Value) (bs : List Int) (hI : Ints w0 .u8 v bs) (hB : w0.cell? ⟨B, 0, none⟩ = some v) :
    SeqL Try.prog 43 #[.pointer (some ⟨B, 0, none⟩)] (fun x : Nat × Int => #[.int .i64 x.1, .int .u8 x.2]) (offsL bs) (fun k => k = B ∨ (bs ≠ [] ∧ v.ownBlock = some k)) w0 := by
  intro n l J Jx W hn hW hJ hJx hY h0
  refine callsIn_wide.2 ((callsIn_wide (n := 20)).1 ?_)
  have hB' := (hW.cell (World.block_lt_of_cell? _ _ hB)).trans hB
  have hI' := hI.below hW (Nat.le_refl _)
  have hltB := World.block_lt_of_cell? _ _ hB'
  simp only at hltB
  obtain ⟨A, len, cap, rfl, hlc, hcm, hat⟩ := hI'.get
  have HL : Hid (bs.length = len) := (hat.1 : _ = _)
  have HI := Lib.hid hI'
  have HY := Lib.hid hY
  have HS := Lib.hid hJ
  have HSX := Lib.hid hJx
  have HJ := Lib.hid h0
  have hli : (len : Int) ≤ 9223372036854775807 := by omega
  clear hI hI' hB hat hY h0 hJ hJx
  refine callsIn_of_wp_marks Try.func43 rfl trivial ?_ rfl
  simp only [Try.ntmps43, List.size_toArray, List.length_cons, List.length_nil, Nat.reduceAdd, Nat.reduceSub, Array.replicate_succ, Array.replicate_zero, List.push_toArray, List.append_toArray, List.nil_append, List.cons_append]
  gi_wp2
  refine wpIn_scope_straight ?_
  gi_wp2
  refine wpIn_label ?_
  gi_wp2
  refine ⟨trivial, ?_⟩
  refine (all_none 19 A len cap _).mono ?_
  rintro e w1 ⟨rfl, rfl⟩
  obtain ⟨w1, hw1⟩ : ∃ w1, (W.alloc (Obj.cells #[Value.func (Fn.yield l) #[] #[]] 79)) = w1 := ⟨_, rfl⟩
  have hbw : Below W.heap.size W w1 := by rw [← hw1]; exact ((Below.refl _ W).alloc (Nat.le_refl _) _)
  have hyb : w1.cell? ⟨W.heap.size, 0, none⟩ = some (Value.func (Fn.yield l) #[] #[]) := by rw [← hw1]; exact (Boxed.new W 79 (Value.func (Fn.yield l) #[] #[])).cell
  rw [hw1]
  clear hw1
  gi_wp2
  obtain ⟨w2, hw2⟩ : ∃ w2, w1.alloc (Obj.cells #[.slice A len cap] 27) = w2 := ⟨_, rfl⟩
  have hb12 : Below w1.heap.size w1 w2 := by rw [← hw2]; exact (Below.refl _ _).alloc (Nat.le_refl _) _
  have hb2 : Below W.heap.size W w2 := hbw.trans (hb12.mono hbw.size)
  have hBN : w2.cell? ⟨w1.heap.size, 0, none⟩ = some (.slice A len cap) := by rw [← hw2]; exact (Boxed.new w1 27 (.slice A len cap)).cell
  have hylt := World.block_lt_of_cell? _ _ hyb
  simp only at hylt
  have hyb2 := (hb12.cell (p := ⟨W.heap.size, 0, none⟩) hylt).trans hyb
  have hBb2 := (hb2.cell (p := ⟨B, 0, none⟩) hltB).trans hB'
  have hs2 : w1.heap.size < w2.heap.size := by rw [← hw2]; simp
  rw [hw2]
  refine rangeFunc_yield (by omega) (gf := 46) (lb := #[.pointer (some ⟨w1.heap.size, 0, none⟩)]) rfl (enters_of Try.func46 (by kernel_rfl) rfl)
    (all1_yields w2 w1.heap.size (.slice A len cap) bs (HI.out.below hb2 (Nat.le_refl _)) hBN) (Below.refl _ _) (fun k hk => ?_) (fun _ => rfl)
    (fun pre X => J (pre.map fun x => (bs.length - x.1, x.2)) X ∧ X.cell? ⟨W.heap.size, 0, none⟩ = some (Value.func (Fn.yield l) #[] #[]) ∧ X.cell? ⟨B, 0, none⟩ = some (.slice A len cap))
    (fun c pre X => c = .exit 0 ∧ Jx (pre.map fun x => (bs.length - x.1, x.2)) X) ?_ ?_ ?_
    ?round ?done ?stop
  · have := Ints.own_lt0 HI.out hk.1 hk.2
    have := hb2.size
    omega
  · rintro pre X Y ⟨h1, h2, h3⟩ hX hXY
    exact ⟨HS.out _ _ _ h1 (by omega) (hXY.mono (by omega)), (hXY.cell (p := ⟨W.heap.size, 0, none⟩) (by show W.heap.size < _; omega)).trans h2, (hXY.cell (p := ⟨B, 0, none⟩) (by show B < _; omega)).trans h3⟩
  · rintro c pre X Y ⟨h1, h2⟩ hX hXY
    exact ⟨h1, HSX.out _ _ _ h2 (by omega) (hXY.mono (by omega))⟩
  · exact ⟨HS.out _ _ _ HJ.out (Nat.le_refl _) hb2, hyb2, hBb2⟩
  case round =>
    rintro l' pre ⟨x1, x2⟩ W0' K hl' - hpre hK
    gi_wp2
    rintro W' hW' ⟨h1, h2, h3⟩
    have hlt := enumL_mem hpre
    simp only at hlt
    obtain ⟨fn, tmps, assign, body, hy, hR⟩ := HY.out _ (bs.length - x1, x2) W' h1 (by omega) (by have := prefix_map (fun x : Nat × Int => (bs.length - x.1, x.2)) hpre; rw [List.map_append] at this; exact this)
    dsimp only at hy
    have e1 : ((bs.length - x1 : Nat) : Int) = (len : Int) - x1 := by have := HL.out; omega
    rw [e1] at hy
    have x0 : (0 : Int) ≤ (x1 : Int) := by omega
    have x9 : (x1 : Int) < (len : Int) := by have := HL.out; omega
    have HP := Lib.hid hpre
    clear hpre e1 hlt
    gi_wp2
    refine (show RoundIn (Fence.wide.inRound l') 17 Try.prog l fn tmps assign body W' _ from ⟨trivial, fun c cs _ => hR.2 c cs (room_wide _)⟩).mono ?_
    rintro e W3 (⟨rfl, h4, h5⟩ | ⟨rfl, h4, h5⟩)
    · have H4 := Lib.hid h4
      have H5 := Lib.hid h5
      have H2 := Lib.hid h2
      have H3 := Lib.hid h3
      clear h4 h5 h1 h2 h3
      gi_wp2
      refine ⟨H5.out.mono fun k hk => ?_, by rw [List.map_append]; exact H4.out, H5.out.cell (p := ⟨W.heap.size, 0, none⟩) (.inr (Nat.le_refl _)) H2.out, H5.out.cell (p := ⟨B, 0, none⟩) (.inl (.inl rfl)) H3.out⟩
      rcases hk with hk | hk
      · exact .inl (.inr hk)
      · exact .inr (by omega)
    · have H4 := Lib.hid h4
      have H5 := Lib.hid h5
      clear h4 h5 h1 h2 h3
      gi_wp2
      exact ⟨H5.out.mono fun k hk => by omega, rfl, by rw [List.map_append]; exact H4.out⟩
  case done =>
    rintro D W' hD hW' ⟨h1, h2, h3⟩ hK
    refine ⟨by simp, .inl ⟨_, _, rfl, run_takeDeferred hK, ?_⟩⟩
    refine ⟨_, results_none rfl _ _ _, ⟨_, rfl⟩, .inl ?_⟩
    exact HS.out _ _ _ h1 (by omega) (belowK_put W' D _ (by omega))
  case stop =>
    rintro D c pre W' hD hW' hpre ⟨rfl, h1⟩ hK
    gi_wp2
    refine ⟨by simp, .inl ⟨_, _, rfl, run_takeDeferred hK, ?_⟩⟩
    refine ⟨_, results_none rfl _ _ _, ⟨_, rfl⟩, .inr ⟨_, prefix_map _ hpre, ?_⟩⟩
    exact HSX.out _ _ _ h1 (by omega) (belowK_put W' D _ (by omega))
end Go.Proofs.Ytohmkcoodaidcaa
