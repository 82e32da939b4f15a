/-
  exec: Pieces yields the pieces, one by one, each a fresh copy.
-/
import Derived.Test.YtndgdehlnmheeaaMgFn
import Derived.Test.YtndgdehlnmheeaaExNone
namespace Go.Proofs.Ytndgdehlnmheeaa
set_option linter.all false
set_option maxRecDepth 100000
open Go.RowKit Go.Shelf

attribute [local go_sem] Oper.semAt_some

def enumG {α : Type} (l : List α) : List (Nat × α) := l.zipIdx.map fun p => (p.2, p.1)
theorem enumG_length {α : Type} (l : List α) : (enumG l).length = l.length := by simp [enumG]
theorem enumG_at {α : Type} {l : List α} {k : Nat} (h : k < l.length) : (enumG l)[k]? = some (k, l[k]) := by simp [enumG, h]
theorem take_snoc {α : Type} {xs : List α} {k : Nat} {x : α} (h : xs[k]? = some x) : xs.take k ++ [x] = xs.take (k + 1) := by
  rw [List.take_succ, h]; rfl

/-- A slice whose cells are es. -/
def CellsAt (w : World) (A : Option Addr) (es : List Value) : Prop := 0 < es.length → ∃ b off, A = some ⟨b, off, none⟩ ∧ ∀ (i : Nat) (e : Value), es[i]? = some e → w.cell? ⟨b, off + i, none⟩ = some e

set_option maxHeartbeats 1600000 in
theorem all1_rows (w0 : World) (B : Nat) (A : Option Addr) (cap : Nat) (es : List Value) (hc : es.length ≤ cap ∧ cap ≤ 9223372036854775807) (hI : CellsAt w0 A es) (hB : w0.cell? ⟨B, 0, none⟩ = some (.slice A es.length cap)) :
    SeqL Try.prog 65 #[.pointer (some ⟨B, 0, none⟩)] (fun x : Nat × Value => #[.int .i64 x.1, x.2]) (enumG es) (fun k => 0 < es.length ∧ ∃ off, A = some ⟨k, off, none⟩) w0 := by
  intro n l J Jx W hn hW hJ hJx hY h0
  have hB' := (hW.cell (World.block_lt_of_cell? _ _ hB)).trans hB
  obtain ⟨len, hlen⟩ : ∃ n, es.length = n := ⟨_, rfl⟩
  have hI' : CellsAt W A es := fun h0 => by
    obtain ⟨b, off, hA, hx⟩ := hI h0
    exact ⟨b, off, hA, fun i e he => (hW.cell (p := ⟨b, off + i, none⟩) (World.block_lt_of_cell? w0 _ (hx i e he))).trans (hx i e he)⟩
  have HL := Lib.hid hlen
  rw [hlen] at hc hB'
  have HY := Lib.hid hY
  have HJ := Lib.hid h0
  have HI := Lib.hid hI'
  have hli : (len : Int) ≤ 9223372036854775807 := by omega
  have hlc : len ≤ cap := hc.1
  clear hI hI' hB hlen hY h0 hJ hJx hc
  refine callsIn_of_wp Try.func65 rfl trivial ?_ rfl
  simp only [Try.ntmps65, List.size_toArray, List.length_cons, List.length_nil, Nat.reduceAdd, Nat.reduceSub, Array.replicate_succ, Array.replicate_zero, List.push_toArray, List.append_toArray, List.nil_append, List.cons_append]
  gi_wp2
  gi_loopw [7] (fun i wr => ∃ k : Nat, k ≤ len ∧ i = .int .i64 k ∧ Hid (J ((enumG es).take k) wr) ∧ Hid (KeptL (fun k => (0 < es.length ∧ ∃ off, A = some ⟨k, off, none⟩) ∨ W.heap.size ≤ k) W wr)) (fun i _ => len - (intOf i).toNat)
  case atStart => exact ⟨0, Nat.zero_le _, rfl, (by rw [List.take_zero]; exact HJ.out : J _ _), (KeptL.refl _ _ : KeptL _ _ _)⟩
  case round =>
    obtain ⟨k, hk, rfl, HJk, HKk⟩ := hrel
    by_cases hlt : k < len
    · have hkb : k < es.length := by rw [HL.out]; exact hlt
      have hx := enumG_at hkb
      obtain ⟨z, hz⟩ : ∃ z, es[k]'hkb = z := ⟨_, rfl⟩
      rw [hz] at hx
      obtain ⟨b, off, hA, hcell⟩ := HI.out (by omega)
      subst hA
      have hc0 := hcell k z (by rw [List.getElem?_eq_getElem hkb, hz])
      have hcell := HKk.out.cell (p := ⟨b, off + k, none⟩) (.inl ⟨by omega, off, rfl⟩) hc0
      have HX := Lib.hid hx
      have k0 : (0 : Int) ≤ (k : Int) := by omega
      have k1 : (k : Int) < (len : Int) := by omega
      obtain ⟨fn, tmps, assign, body, hy, hR⟩ := HY.out _ _ wr HJk.out HKk.out.size (by rw [take_snoc HX.out]; exact List.take_prefix _ _)
      dsimp only at hy
      clear hz hc0 hx
      gi_wp2
      refine ⟨fun _ => by omega, ?_⟩
      refine hR.mono ?_
      rintro e W3 (⟨rfl, hJ3, hk3⟩ | ⟨rfl, hJx3, hk3⟩)
      · rw [take_snoc HX.out] at hJ3
        have HJ3 := Lib.hid hJ3
        have HK3 := Lib.hid (HKk.out.trans hk3)
        clear hJ3 hk3
        gi_wp2
        go_roundw
        case rel => exact ⟨k + 1, by omega, by simp, HJ3, HK3⟩
        case measure => simp [intOf]; omega
      · rw [take_snoc HX.out] at hJx3
        have HJ3 := Lib.hid hJx3
        clear hJx3 hk3
        gi_wp2
        refine bodyPost_ret (results_none rfl _ _ _) rfl ?_
        exact ⟨⟨_, rfl⟩, .inr ⟨_, List.take_prefix _ _, HJ3.out⟩⟩
    · obtain rfl : k = len := by omega
      gi_wp2
      go_end0
      have := HJk.out
      rw [List.take_of_length_le (by rw [enumG_length, HL.out]; exact Nat.le_refl _)] at this
      exact ⟨⟨_, rfl⟩, .inl this⟩

/-- What Pieces yields: where a piece begins, and its bytes. -/
def placesL (ps : List (List Int)) : List (Nat × List Int) := (List.range ps.length).map fun k => ((ps.take k).flatten.length, ps.getD k [])
theorem placesL_length (ps : List (List Int)) : (placesL ps).length = ps.length := by simp [placesL]
theorem placesL_at {ps : List (List Int)} {k : Nat} {p : List Int} (h : ps[k]? = some p) : (placesL ps)[k]? = some ((ps.take k).flatten.length, p) := by
  have hk := (List.getElem?_eq_some_iff.1 h).1
  unfold placesL
  rw [List.getElem?_map, List.getElem?_range hk]
  simp [List.getD_eq_getElem?_getD, h]
def PcEnc (x : Nat × List Int) (args : Array Value) (W : World) : Prop := ∃ A c, args = #[.int .i64 x.1, .slice A x.2.length c] ∧ Ints W .u8 (.slice A x.2.length c) x.2

theorem Pcs.vals {w : World} {v : Value} {ps : List (List Int)} (h : Pcs w v ps) : ∃ A c es, v = .slice A ps.length c ∧ es.length = ps.length ∧ ps.length ≤ c ∧ c ≤ 9223372036854775807 ∧ CellsAt w A es ∧ ∀ (i : Nat) (e : Value) (p : List Int), es[i]? = some e → ps[i]? = some p → Ints w .u8 e p := by
  obtain ⟨A, c, h1, h2, h3, h4⟩ := h.at_
  simp only [maxLen] at h3
  rcases Nat.eq_zero_or_pos ps.length with h0 | h0
  · obtain rfl := List.eq_nil_of_length_eq_zero h0
    exact ⟨A, c, [], h1, rfl, h2, by omega, fun h => absurd h (by simp), fun i e p he => by simp at he⟩
  · obtain ⟨b, off, rfl, hx⟩ := h4 h0
    refine ⟨_, c, (List.range ps.length).map fun i => (w.cell? ⟨b, off + i, none⟩).getD undef, h1, by simp, h2, by omega, fun _ => ⟨b, off, rfl, fun i e he => ?_⟩, fun i e p he hp => ?_⟩
    · have hi := (List.getElem?_eq_some_iff.1 he).1
      simp only [List.length_map, List.length_range] at hi
      rw [List.getElem?_map, List.getElem?_range hi] at he
      obtain ⟨e', hc, -⟩ := hx i _ (List.getElem?_eq_getElem hi)
      simp only [Option.map_some, hc, Option.getD_some, Option.some.injEq] at he
      rw [hc, he]
    · have hi := (List.getElem?_eq_some_iff.1 hp).1
      rw [List.getElem?_map, List.getElem?_range hi] at he
      obtain ⟨e', hc, hie⟩ := hx i p hp
      simp only [Option.map_some, hc, Option.getD_some, Option.some.injEq] at he
      rw [← he]; exact hie

theorem enumG_pre {α : Type} {l : List α} {pre : List (Nat × α)} {x : Nat × α} (h : pre ++ [x] <+: enumG l) : pre.length < l.length ∧ x.1 = pre.length ∧ l[pre.length]? = some x.2 := by
  obtain ⟨t, ht⟩ := h
  have h1 : (enumG l)[pre.length]? = some x := by rw [← ht]; simp
  have h2 := (List.getElem?_eq_some_iff.1 h1).1
  rw [enumG_length] at h2
  rw [enumG_at h2] at h1
  obtain rfl := Option.some.inj h1
  exact ⟨h2, rfl, List.getElem?_eq_getElem h2⟩

set_option maxHeartbeats 3200000 in
theorem pieces1_yields (w0 : World) (B : Nat) (v : Value) (ps : List (List Int)) (hP : Pcs w0 v ps) (hB : w0.cell? ⟨B, 0, none⟩ = some v) (hl : ps.flatten.length ≤ 1000000) :
    SeqE Try.prog 51 #[.pointer (some ⟨B, 0, none⟩)] PcEnc (placesL ps) (fun k => k < w0.heap.size) w0 := by
  intro n l J Jx W hn hW hJ hJx hY h0
  refine callsIn_wide.2 ((callsIn_wide (n := 20)).1 ?_)
  have hB' := (hW.cell (World.block_lt_of_cell? _ _ hB)).trans hB
  have hltB := World.block_lt_of_cell? _ _ hB'
  simp only at hltB
  obtain ⟨A, c, es, rfl, hes, hpc, hcm, hcells, hints⟩ := hP.vals
  obtain ⟨m, hm⟩ : ∃ m, ps.length = m := ⟨_, rfl⟩
  have HM := Lib.hid hm
  have HES := Lib.hid hes
  rw [hm] at hpc hB hB'
  have HY := Lib.hid hY
  have HJ := Lib.hid h0
  have HS := Lib.hid hJ
  have HSX := Lib.hid hJx
  have HI := Lib.hid hints
  have HC := Lib.hid hcells
  have HW := Lib.hid hW
  have HLN := Lib.hid hl
  clear hP hY h0 hJ hJx hints hcells hm hes hl
  obtain ⟨i1, hi1, hz3, hz4, hz5⟩ := info_parts infoInt
  refine callsIn_of_wp_marks Try.func51 rfl trivial ?_ rfl
  simp only [Try.ntmps51, List.size_toArray, List.length_cons, List.length_nil, Nat.reduceAdd, Nat.reduceSub, Array.replicate_succ, Array.replicate_zero, List.push_toArray, List.append_toArray, List.nil_append, List.cons_append]
  gi_wp2
  refine wpIn_scope_straight ?_
  gi_wp2
  refine wpIn_label ?_
  gi_wp2
  refine ⟨trivial, ?_⟩
  refine (all_none 19 A m c _).mono ?_
  rintro e w1 ⟨rfl, rfl⟩
  obtain ⟨w1, hw1⟩ : ∃ w1, (W.alloc (Obj.cells #[Value.func (Fn.yield l) #[] #[]] 93)).alloc (Obj.cells #[Value.int IntKind.i64 0] 3) = w1 := ⟨_, rfl⟩
  have hbw : Below W.heap.size W w1 := by rw [← hw1]; exact ((Below.refl _ W).alloc (Nat.le_refl _) _).alloc (by simp) _
  have hs1 : W.heap.size + 1 < w1.heap.size := by rw [← hw1]; simp
  have hyb : Blk w1 W.heap.size 93 #[Value.func (Fn.yield l) #[] #[]] := by rw [← hw1]; exact (Blk.new W _ _).below ((Below.refl _ _).alloc (Nat.le_refl _) _) (by simp)
  have hab : Blk w1 (W.heap.size + 1) 3 #[.int .i64 0] := by
    rw [← hw1]
    have := Blk.new (W.alloc (Obj.cells #[Value.func (Fn.yield l) #[] #[]] 93)) 3 #[.int .i64 0]
    rwa [World.size_alloc] at this
  rw [hw1]
  clear hw1
  gi_wp2
  obtain ⟨w2, hw2⟩ : ∃ w2, w1.alloc (Obj.cells #[.slice A m c] 48) = w2 := ⟨_, rfl⟩
  have hb12 : Below w1.heap.size w1 w2 := by rw [← hw2]; exact (Below.refl _ _).alloc (Nat.le_refl _) _
  have hb2 : Below W.heap.size W w2 := hbw.trans (hb12.mono hbw.size)
  have hBN : w2.cell? ⟨w1.heap.size, 0, none⟩ = some (.slice A m c) := by rw [← hw2]; exact (Boxed.new w1 48 (.slice A m c)).cell
  have hs2 : w1.heap.size < w2.heap.size := by rw [← hw2]; simp
  have hyb2 := hyb.below hb12 hyb.lt
  have hab2 := hab.below hb12 hab.lt
  have hW2 : Below w0.heap.size w0 w2 := HW.out.trans (hb2.mono HW.out.size)
  have hwz := HW.out.size
  have hcl : CellsAt w2 A es := fun h0 => by
    obtain ⟨b, off, hA, hx⟩ := HC.out h0
    exact ⟨b, off, hA, fun i e he => (hW2.cell (p := ⟨b, off + i, none⟩) (World.block_lt_of_cell? w0 _ (hx i e he))).trans (hx i e he)⟩
  have hem : es.length = m := HES.out.trans HM.out
  rw [hw2]
  refine rangeFunc_yield (by omega) (gf := 65) (lb := #[.pointer (some ⟨w1.heap.size, 0, none⟩)]) rfl (enters_of Try.func65 (by kernel_rfl) rfl)
    (all1_rows w2 w1.heap.size A c es ⟨by omega, hcm⟩ hcl (by rw [hem]; exact hBN)) (Below.refl _ _) (fun k hk => ?_) (fun _ => rfl)
    (fun pre X => J ((placesL ps).take pre.length) X ∧ Blk X W.heap.size 93 #[Value.func (Fn.yield l) #[] #[]] ∧ Blk X (W.heap.size + 1) 3 #[.int .i64 (ps.take pre.length).flatten.length] ∧ KeptL (fun k => k < w0.heap.size) w0 X)
    (fun c' pre X => c' = .exit 0 ∧ Jx ((placesL ps).take pre.length) X) ?_ ?_ ?_ ?round ?done ?stop
  · obtain ⟨h0, off, hA⟩ := hk
    obtain ⟨b', off', hA', hx⟩ := HC.out h0
    rw [hA] at hA'
    injection hA' with e
    injection e with e1 e2
    subst e1
    have := World.block_lt_of_cell? w0 _ (hx 0 _ (List.getElem?_eq_getElem h0))
    simp only at this
    omega
  · rintro pre X Y ⟨h1, h2, h3, h4⟩ hX hXY
    exact ⟨HS.out _ _ _ h1 (by omega) (hXY.mono (by omega)), h2.below hXY (by omega), h3.below hXY (by omega), h4.trans ⟨hXY.size, fun k hk _ => hXY.block k (by omega)⟩⟩
  · rintro c' pre X Y ⟨h1, h2⟩ hX hXY
    exact ⟨h1, HSX.out _ _ _ h2 (by omega) (hXY.mono (by omega))⟩
  · refine ⟨?_, hyb2, ?_, ⟨hW2.size, fun k hk _ => hW2.block k hk⟩⟩
    · exact HS.out _ _ _ HJ.out (Nat.le_refl _) hb2
    · simpa using hab2
  case round =>
    rintro l' pre ⟨x1, x2⟩ W0' K hl' hIp hpre hK
    obtain ⟨p1, p2, p3⟩ := enumG_pre hpre
    simp only at p2 p3
    subst p2
    obtain ⟨k, hk⟩ : ∃ k, pre.length = k := ⟨_, rfl⟩
    have HKL := Lib.hid hk
    have HLEN : Hid (∀ y : Nat × Value, (pre ++ [y]).length = k + 1) := ((fun y => by rw [List.length_append, hk]; rfl) : ∀ y : Nat × Value, _ = _)
    rw [hk] at p1 p3 ⊢
    have hpk := List.getElem?_eq_getElem (l := ps) (i := k) (by rw [← HES.out]; exact p1)
    obtain ⟨p, hp⟩ : ∃ p, ps[k]'(by rw [← HES.out]; exact p1) = p := ⟨_, rfl⟩
    rw [hp] at hpk
    have hie := HI.out k x2 p p3 hpk
    obtain ⟨A5, n5, c5, rfl, -, -, hat5⟩ := hie.get
    have HN5 : Hid (p.length = n5) := (hat5.1 : _ = _)
    have HPK := Lib.hid hpk
    have HIE := Lib.hid hie
    obtain ⟨at_, hat⟩ : ∃ a, (ps.take k).flatten.length = a := ⟨_, rfl⟩
    have HAT := Lib.hid hat
    have hfl : (ps.take (k + 1)).flatten.length = at_ + n5 := by
      rw [flat_take_succ hpk, List.length_append, hat, HN5.out]
    have HFL := Lib.hid hfl
    have hle : at_ + n5 ≤ 1000000 := by
      have h9 := congrArg (fun l => List.length (List.flatten l)) (List.take_append_drop (k + 1) ps)
      simp only [List.flatten_append, List.length_append] at h9
      have := HLN.out
      omega
    have HLE : Hid (n5 ≤ 1000000) := (by omega : _ ≤ _)
    have s0 : (0 : Int) ≤ (at_ : Int) + (n5 : Int) := by omega
    have s1 : (at_ : Int) + (n5 : Int) ≤ 9223372036854775807 := by omega
    clear hp hpk hie hat5 hat hfl hle p1 p3 hIp hpre hk
    gi_wp2
    rintro X hX ⟨h1, h2, h3, h4⟩
    rw [HKL.out] at h1 h3
    rw [HAT.out] at h3
    have H1 := Lib.hid h1
    have H2 := Lib.hid h2
    have H3 := Lib.hid h3
    have H4 := Lib.hid h4
    have q0 : X.cell? ⟨W.heap.size, 0, none⟩ = some (Value.func (Fn.yield l) #[] #[]) := by rw [h2.cell]; rfl
    have q1 : X.cell? ⟨W.heap.size + 1, 0, none⟩ = some (.int .i64 at_) := by rw [h3.cell]; rfl
    have HPL : Hid (Ints X .u8 (.slice A5 n5 c5) p) := (Ints.keep HIE.out fun b h0 hb hlt => H4.out.block b (Ints.own_lt0 HIE.out h0 hb) hlt : Ints _ _ _ _)
    have hpl : (placesL ps)[k]? = some (at_, p) := by rw [placesL_at HPK.out, HAT.out]
    have hsn := take_snoc hpl
    have HSN := Lib.hid hsn
    have hcall : ∀ (W1 : World) (A6 : Option Addr) (c6 : Nat), Below X.heap.size X W1 → Ints W1 .u8 (.slice A6 n5 c6) p → YieldAt Fence.wide (n - 1) Try.prog l #[.int .i64 at_, .slice A6 n5 c6] W1 fun e W' => ∃ b : Bool, e = .returned (.bool b) ∧
        Hid (b = true → J ((placesL ps).take (k + 1)) W' ∧ KeptL (fun k => k < w0.heap.size ∨ W.heap.size ≤ k) W1 W') ∧ Hid (b = false → Jx ((placesL ps).take (k + 1)) W' ∧ KeptL (fun k => W.heap.size ≤ k) W1 W') := fun W1 A6 c6 hW1 hi6 => by
      obtain ⟨fn, tmps, assign, body, hy, hR⟩ := HY.out _ (at_, p) #[.int .i64 at_, .slice A6 n5 c6] W1 (HS.out _ _ _ H1.out (by omega) (hW1.mono (by omega))) (by have := hW1.size; omega) (by rw [hsn]; exact List.take_prefix _ _) (by
        obtain ⟨A7, n7, c7, he, -, -, hat⟩ := hi6.get
        injection he with e1 e2 e3
        subst e1 e2 e3
        have h9 := hat.1
        subst h9
        exact ⟨A6, c6, rfl, hi6⟩)
      rw [hsn] at hR
      refine ⟨fn, tmps, assign, body, hy, hR.mono ?_⟩
      rintro e W' (⟨rfl, a1, a2⟩ | ⟨rfl, a1, a2⟩)
      · exact ⟨true, rfl, (fun _ => ⟨a1, a2⟩), (fun h => by cases h)⟩
      · exact ⟨false, rfl, (fun h => by cases h), (fun _ => ⟨a1, a2⟩)⟩
    have HCALL := Lib.hid hcall
    have hcln : ∀ W1, Below X.heap.size X W1 → CallsIn Fence.wide 17 Try.prog 34 #[.slice A5 n5 c5] W1 fun e w' => ∃ A6 c6, e = .returned (.slice A6 n5 c6) ∧ Ints w' .u8 (.slice A6 n5 c6) p ∧ Below W1.heap.size W1 w' := fun W1 hW1 => by
      refine (callsIn_wide.2 (clone_any W1 _ p (HPL.out.below hW1 (Nat.le_refl _)) (by have := HN5.out; have := HLE.out; omega))).mono ?_
      rw [HN5.out]
      rintro e w' ⟨A6, c6, rfl, hr, -, hb⟩
      exact ⟨A6, c6, rfl, hr.ints, hb⟩
    have HCLN := Lib.hid hcln
    clear h1 h2 h3 h4 hpl hsn hcall hcln
    gi_wp2
    gi_region_with (first
      | (refine ⟨trivial, ?_⟩; gi_at_call 34; refine (CallsIn.inRound l' (HCLN.out _ (below_drewN (Below.refl _ _) 1))).mono ?_; rintro e w5 ⟨A6, c6, rfl, hi6, hb5⟩; have HB5 := Lib.hid ((below_drewN (Below.refl _ _) 1 : Below X.heap.size X _).trans hb5); clear hb5; have q2 : w5.cell? ⟨W.heap.size, 0, none⟩ = some (Value.func (Fn.yield l) #[] #[]) := (by rw [(H2.out.below HB5.out H2.out.lt).cell]; rfl); have q3 : w5.cell? ⟨W.heap.size + 1, 0, none⟩ = some (.int .i64 at_) := (by rw [(H3.out.below HB5.out H3.out.lt).cell]; rfl); obtain ⟨fn, tmps, assign, body, hy, hR⟩ := HCALL.out w5 A6 c6 HB5.out hi6; have HR := Lib.hid hR; clear hi6 hR)
      | (refine ((show RoundIn (Fence.wide.inRound l') 17 Try.prog l _ _ _ _ _ _ from ⟨trivial, fun c cs _ => HR.out.2 c cs (room_wide _)⟩)).mono ?_; rintro e W3 ⟨b, rfl, hb1, hb2⟩))
    all_goals
      have hA0 : ∀ k, (0 < es.length ∧ ∃ off, A = some ⟨k, off, none⟩) → k < w0.heap.size := fun k ⟨h0, off, hA⟩ => by
        obtain ⟨b', off', hA', hx⟩ := HC.out h0
        rw [hA] at hA'
        injection hA' with e
        injection e with e1 e2
        subst e1
        exact World.block_lt_of_cell? w0 _ (hx 0 _ (List.getElem?_eq_getElem h0))
      have HA0 := Lib.hid hA0
      clear hA0
      cases b
      · have H5 := Lib.hid (hb2.out rfl)
        clear hb1 hb2
        gi_wp2
        exact ⟨(KeptL.of_below HB5.out).trans (H5.out.2.mono fun k hk => by omega), rfl, by rw [HLEN.out]; exact H5.out.1⟩
      · have H5 := Lib.hid (hb1.out rfl)
        have hk3 : Blk W3 (W.heap.size + 1) 3 #[.int .i64 at_] := (H5.out.2.block _ (.inr (by omega)) (H3.out.below HB5.out H3.out.lt).lt).trans (H3.out.below HB5.out H3.out.lt)
        have c3 : W3.cell? ⟨W.heap.size + 1, 0, none⟩ = some (.int .i64 at_) := by rw [hk3.cell]; rfl
        have f3 := hk3.frozen 0
        have HK3 := Lib.hid hk3
        clear hb1 hb2 hk3 q2 q3
        gi_wp2
        have h2 := H2.out.below HB5.out H2.out.lt
        have hwx : W.heap.size ≤ W3.heap.size := by have := HB5.out.size; have := H5.out.2.size; omega
        refine ⟨((KeptL.of_below HB5.out).trans (H5.out.2.mono fun k hk => ?_)).trans (KeptL.setCell _ _ _ fun hk => ?_), by rw [HLEN.out]; exact HS.out _ _ _ H5.out.1 hwx ((Below.refl _ W3).setCell (p := ⟨W.heap.size + 1, 0, none⟩) (Nat.le_succ _) _), ?_, ?_, ?_⟩
        · rcases hk with hk | hk
          · exact .inl (HA0.out k hk)
          · exact .inr (by omega)
        · rcases hk with hk | hk
          · have := HA0.out _ hk; simp only at this; omega
          · simp only at hk; omega
        · exact Blk.far ((H5.out.2.block _ (.inr (Nat.le_refl _)) h2.lt).trans h2) (p := ⟨W.heap.size + 1, 0, none⟩) (by show W.heap.size ≠ W.heap.size + 1; omega) _
        · rw [HLEN.out, HFL.out]
          exact (HK3.out.set_ 0 _).congr (by simp)
        · exact ((H4.out.trans (KeptL.of_below HB5.out)).trans (H5.out.2.mono fun k hk => .inl hk)).trans (KeptL.setCell _ _ _ fun (hk : W.heap.size + 1 < w0.heap.size) => by have := HW.out.size; omega)
  case done =>
    rintro D W' hD hW' ⟨h1, h2, h3, h4⟩ hK
    refine ⟨by simp, .inl ⟨_, _, rfl, run_takeDeferred hK, ?_⟩⟩
    refine ⟨_, results_none rfl _ _ _, ⟨_, rfl⟩, .inl ?_⟩
    rw [enumG_length, HES.out, List.take_of_length_le (by rw [placesL_length]; exact Nat.le_refl _)] at h1
    exact HS.out _ _ _ h1 (by omega) (belowK_put W' D _ (by omega))
  case stop =>
    rintro D c' pre W' hD hW' hpre ⟨rfl, h1⟩ hK
    gi_wp2
    refine ⟨by simp, .inl ⟨_, _, rfl, run_takeDeferred hK, ?_⟩⟩
    refine ⟨_, results_none rfl _ _ _, ⟨_, rfl⟩, .inr ⟨(placesL ps).take pre.length, List.take_prefix _ _, ?_⟩⟩
    exact HSX.out _ _ _ h1 (by omega) (belowK_put W' D _ (by omega))
end Go.Proofs.Ytndgdehlnmheeaa
