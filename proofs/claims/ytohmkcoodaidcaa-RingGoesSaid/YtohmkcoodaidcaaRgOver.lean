/-
  All of a ring; over: the first rounds of an iteration over the contents.
-/
import Derived.Test.YtohmkcoodaidcaaRgAll
import Derived.Test.YtohmkcoodaidcaaRgByte
namespace Go.Proofs.Ytohmkcoodaidcaa
set_option linter.all false
set_option maxRecDepth 100000
open Go.RowKit Go.Shelf

attribute [local go_sem] Oper.semAt_some eql_func_nil

theorem all_any (w : World) {g : Nat} {v : Value} {S T : Nat} {st : List Int} (h : Ring w g v S st T) :
    Calls Try.prog 27 #[rp g] w fun e w' => ∃ B bv, e = .returned (.func (.func 43) #[] #[.pointer (some ⟨B, 0, none⟩)]) ∧ w'.cell? ⟨B, 0, none⟩ = some bv ∧ Ints w' .u8 bv (lastN S st) ∧ Below w.heap.size w w' ∧ w.heap.size ≤ B ∧ ∀ k, bv.ownBlock = some k → w.heap.size ≤ k := by
  have HR := Lib.hid h
  have HS := Lib.hid h.pos
  clear h
  unfold rp
  obtain ⟨i0, hi, hz0, hz1, hz2⟩ := info_parts infoBs
  go_enter Try.func27, Try.ntmps27
  go_wp2_with fail
  refine (size_ring _ HR.out).mono ?_
  rintro e w1 ⟨rfl, hw⟩
  obtain rfl : w = w1 := hw.symm
  go_wp2_with fail
  refine (last_some _ HR.out S HS.out).mono ?_
  rintro e w1 ⟨v', rfl, hcl⟩
  rw [lastN_lastN _ (Nat.le_refl S)] at hcl
  obtain ⟨A, n, c, rfl, -⟩ := hcl.row.ints.get
  have HC := Lib.hid hcl
  clear hcl
  go_wp2
  go_ret
  have hsz := HC.out.below.size
  exact ⟨w1.heap.size, _, rfl, (Boxed.new w1 27 (.slice A n c)).cell, HC.out.row.ints.alloc _, HC.out.below.alloc hsz _, hsz, HC.out.own⟩

/-- over's boxes. -/
structure OvSt (w X : World) (nb : Nat) (bv : Value) (many : Int) (m : Nat) : Prop where
  below : Below w.heap.size w X
  cb : Blk X w.heap.size 27 #[bv]
  cm : Blk X (w.heap.size + 1) 3 #[.int .i64 many]
  cr : Blk X (w.heap.size + 1 + 1) 4 #[.bool false]
  cn : Blk X nb 3 #[.int .i64 m]
theorem OvSt.next {w X Y : World} {nb : Nat} {bv : Value} {many : Int} {m B : Nat} (h : OvSt w X nb bv many m) (hb : Below B X Y) (h1 : w.heap.size + 1 + 1 < nb) (h2 : nb < B) : OvSt w Y nb bv many m :=
  ⟨h.below.trans (hb.mono (by omega)), h.cb.below hb (by omega), h.cm.below hb (by omega), h.cr.below hb (by omega), h.cn.below hb h2⟩
theorem OvSt.tick {w X : World} {nb : Nat} {bv : Value} {many : Int} {m : Nat} (h : OvSt w X nb bv many m) (h1 : w.heap.size + 1 + 1 < nb) : OvSt w (X.setCell ⟨nb, 0, none⟩ (.int .i64 ((m : Int) + 1))) nb bv many (m + 1) :=
  ⟨h.below.setCell (p := ⟨nb, 0, none⟩) (by show _ ≤ nb; omega) _, h.cb.far (by show _ ≠ nb; omega) _, h.cm.far (by show _ ≠ nb; omega) _, h.cr.far (by show _ ≠ nb; omega) _, (h.cn.set_ 0 (.int .i64 ((m : Int) + 1))).congr (by simp)⟩

/-- over's end: the result stands in its box, the mark is taken away. -/
theorem over_end {w W' : World} {D nb : Nat} {bv : Value} {many : Int} {m : Nat} {b : Bool} (h : OvSt w W' nb bv many m) (hK : W'.heap[D]? = some (.deferred (some []))) (hD : w.heap.size ≤ D) (hb : b = true) :
    (W'.setCell ⟨w.heap.size + 1 + 1, 0, none⟩ (.bool b)).heap[D]? = some (.deferred (some [])) ∧
    ((W'.setCell ⟨w.heap.size + 1 + 1, 0, none⟩ (.bool b)).putObj D (.deferred none)).cell? ⟨w.heap.size + 1 + 1, 0, none⟩ = some (.bool true) ∧
    Below w.heap.size w ((W'.setCell ⟨w.heap.size + 1 + 1, 0, none⟩ (.bool b)).putObj D (.deferred none)) := by
  subst hb
  have hK' := (KeepsOthers.setCell W' ⟨w.heap.size + 1 + 1, 0, none⟩ (.bool true)).same D _ hK rfl
  have c2 : W'.cell? ⟨w.heap.size + 1 + 1, 0, none⟩ = some (.bool false) := by rw [h.cr.cell]; rfl
  exact ⟨hK', cell_kept (World.cell?_setCell_same' W' ⟨w.heap.size + 1 + 1, 0, none⟩ (.bool true) (by rw [c2]; rfl)) (grownBy_putObj' _ D (.deferred none)) (fun r e => by cases e; exact ⟨_, hK', rfl⟩),
    (h.below.setCell (p := ⟨w.heap.size + 1 + 1, 0, none⟩) (by show _ ≤ w.heap.size + 1 + 1; omega) _).trans (belowK_put _ D _ hD)⟩

theorem offsL_at {bs : List Int} {pre : List (Nat × Int)} {x : Nat × Int} (h : pre ++ [x] <+: offsL bs) : pre.length < bs.length ∧ x.1 = bs.length - pre.length ∧ bs[pre.length]? = some x.2 := by
  obtain ⟨t, ht⟩ := h
  have h1 : (offsL bs)[pre.length]? = some x := by rw [← ht]; simp
  have h2 := (List.getElem?_eq_some_iff.1 h1).1
  unfold offsL at h1 h2
  rw [List.length_map, enumL_length] at h2
  rw [List.getElem?_map, enumL_at h2] at h1
  simp only [Option.map_some, Option.some.injEq] at h1
  subst h1
  exact ⟨h2, rfl, by simp [h2]⟩
theorem offsL_length (bs : List Int) : (offsL bs).length = bs.length := by unfold offsL; rw [List.length_map, enumL_length]
theorem Ints.cell_at {w : World} {k : IntKind} {A : Option Addr} {n c : Nat} {xs : List Int} (h : Ints w k (.slice A n c) xs) {i : Nat} {x : Int} (hx : xs[i]? = some x) : ∃ b off, A = some ⟨b, off, none⟩ ∧ w.cell? ⟨b, off + i, none⟩ = some (.int k x) := by
  obtain ⟨A', n', c', he, -, -, hat⟩ := h.get
  injection he with e1 e2 e3
  subst e1 e2 e3
  have hl := (List.getElem?_eq_some_iff.1 hx).1
  obtain ⟨b, off, y, hA, -, hc, hy⟩ := hat.at_ (i := i) (by have := hat.1; omega)
  have h9 := hy.out
  rw [hx] at h9
  obtain rfl := Option.some.inj h9
  exact ⟨b, off, hA, hc⟩

set_option maxHeartbeats 1000000 in
theorem over_any (w : World) {g : Nat} {v : Value} {S T : Nat} {st : List Int} (h : Ring w g v S st T) (bv : Value) (hb : Ints w .u8 bv (lastN S st)) (many : Int) (hmany : -9223372036854775808 ≤ many ∧ many ≤ 9223372036854775807) :
    Calls Try.prog 28 #[rp g, bv, .int .i64 many] w fun e w' => e = .returned (.bool true) ∧ Below w.heap.size w w' := by
  obtain ⟨A, n, c, rfl, hnc, hcm, hat⟩ := hb.get
  obtain ⟨bs, hbs⟩ : ∃ bs, lastN S st = bs := ⟨_, rfl⟩
  rw [hbs] at hb hat
  have HBS := Lib.hid hbs
  have HN : Hid (bs.length = n) := (hat.1 : _ = _)
  have HI := Lib.hid hb
  have HM := Lib.hid hmany
  have hni : (n : Int) ≤ 9223372036854775807 := by omega
  obtain ⟨w0, hw0⟩ : ∃ w0, ((w.alloc (.cells #[.slice A n c] 27)).alloc (.cells #[.int .i64 many] 3)).alloc (.cells #[.bool false] 4) = w0 := ⟨_, rfl⟩
  have hb0 : Below w.heap.size w w0 := by rw [← hw0]; exact (((Below.refl _ w).alloc (Nat.le_refl _) _).alloc (by simp) _).alloc (by simp; omega) _
  have HR : Hid (Ring w0 g v S st T) := (h.below hb0 (Nat.le_refl _) : Ring _ _ _ _ _ _)
  obtain ⟨i0, hi, hz0, hz1, hz2⟩ := info_parts infoInt
  obtain ⟨i1, hi1, hz3, hz4, hz5⟩ := info_parts infoBool
  have hC0 : Blk w0 w.heap.size 27 #[.slice A n c] := by
    rw [← hw0]
    exact (Blk.new w 27 #[.slice A n c]).below (((Below.refl _ _).alloc (Nat.le_refl _) _).alloc (by simp) _) (by simp)
  have hC1 : Blk w0 (w.heap.size + 1) 3 #[.int .i64 many] := by
    rw [← hw0]
    have := (Blk.new (w.alloc (.cells #[.slice A n c] 27)) 3 #[.int .i64 many]).below ((Below.refl _ _).alloc (Nat.le_refl _) (.cells #[.bool false] 4)) (by simp)
    rwa [World.size_alloc] at this
  have hC2 : Blk w0 (w.heap.size + 1 + 1) 4 #[.bool false] := by
    rw [← hw0]
    have := Blk.new ((w.alloc (.cells #[.slice A n c] 27)).alloc (.cells #[.int .i64 many] 3)) 4 #[.bool false]
    rwa [World.size_alloc, World.size_alloc] at this
  have HC0 := Lib.hid hC0
  have HC1 := Lib.hid hC1
  have HC2 := Lib.hid hC2
  clear hC0 hC1 hC2 h hb hat hbs hmany
  refine (callsIn_wide (n := 20)).1 ?_
  refine callsIn_of_wp_marks Try.func28 rfl trivial ?_ rfl
  simp only [Try.ntmps28, List.size_toArray, List.length_cons, List.length_nil, Nat.reduceAdd, Nat.reduceSub, Array.replicate_succ, Array.replicate_zero, List.push_toArray, List.append_toArray, List.nil_append, List.cons_append]
  unfold rp
  gi_wp2
  refine ⟨trivial, ?_⟩
  refine (callsIn_wide.2 (all_any _ HR.out)).mono ?_
  rintro e w1 ⟨B, bv1, rfl, hBc, hI1, hb1, hB, -⟩
  rw [HBS.out] at hI1
  have hlB := World.block_lt_of_cell? _ _ hBc
  simp only at hlB
  have hI1L : ∀ k, bs ≠ [] → bv1.ownBlock = some k → k < w1.heap.size := fun k h0 hk => Ints.own_lt0 hI1 h0 hk
  have HI1 := Lib.hid hI1
  have HBC := Lib.hid hBc
  have HOWN := Lib.hid hI1L
  clear hI1 hBc hI1L
  gi_wp2
  obtain ⟨w2, hw2⟩ : ∃ w2, w1.alloc (.cells #[.int .i64 0] 3) = w2 := ⟨_, rfl⟩
  have hb2 : Below w1.heap.size w1 w2 := by rw [← hw2]; exact (Below.refl _ _).alloc (Nat.le_refl _) _
  have hs2 : w2.heap.size = w1.heap.size + 1 := by rw [← hw2]; simp
  have hcn : Blk w2 w1.heap.size 3 #[.int .i64 0] := by rw [← hw2]; exact Blk.new w1 3 #[.int .i64 0]
  rw [hw2]
  have hs0 : w0.heap.size = w.heap.size + 1 + 1 + 1 := by rw [← hw0]; simp
  have hb12 := hb1.trans (hb2.mono hb1.size)
  have hs1 := hb1.size
  have hst : OvSt w w2 w1.heap.size (.slice A n c) many 0 := ⟨hb0.trans (hb12.mono hb0.size), HC0.out.below hb12 HC0.out.lt, HC1.out.below hb12 HC1.out.lt, HC2.out.below hb12 HC2.out.lt, hcn⟩
  have hnb : w.heap.size + 1 + 1 < w1.heap.size := by omega
  refine rangeFunc_yield (by omega) (gf := 43) (lb := #[.pointer (some ⟨B, 0, none⟩)]) rfl (enters_of Try.func43 (by kernel_rfl) rfl)
    (ringAll1_yields w1 B bv1 bs HI1.out HBC.out) hb2 (fun k hk => ?_) (fun _ => rfl)
    (fun pre X => OvSt w X w1.heap.size (.slice A n c) many pre.length ∧ (pre.length = 0 ∨ (pre.length : Int) < many))
    (fun c' pre X => c' = .exit 0 ∧ OvSt w X w1.heap.size (.slice A n c) many pre.length ∧ (pre.length = 1 ∨ (pre.length : Int) - 1 < many) ∧ 1 ≤ pre.length ∧ many ≤ pre.length) ?_ ?_ ?_
    ?round ?done ?stop
  · rcases hk with rfl | ⟨h0, hk⟩
    · omega
    · have := HOWN.out k h0 hk; omega
  · rintro pre X Y ⟨h1, h2⟩ hX hXY
    exact ⟨h1.next hXY hnb (by omega), h2⟩
  · rintro c' pre X Y ⟨h1, h2, h3⟩ hX hXY
    exact ⟨h1, h2.next hXY hnb (by omega), h3⟩
  · exact ⟨hst, .inl rfl⟩
  case round =>
    rintro l' pre ⟨x1, x2⟩ W0' K hl' - hpre hK
    obtain ⟨p1, p2, p3⟩ := offsL_at hpre
    simp only at p2 p3
    have HP3 := Lib.hid p3
    have e1 : (x1 : Int) = (n : Int) - pre.length := by have := HN.out; omega
    have HPRE := Lib.hid hpre
    have hlen : (pre ++ [(x1, x2)]).length = pre.length + 1 := by simp
    have HLEN := Lib.hid hlen
    have HP1 : Hid (pre.length < n) := (by have := HN.out; omega : _ < _)
    obtain ⟨m, hm⟩ : ∃ m, pre.length = m := ⟨_, rfl⟩
    rw [hm] at e1 p1 p2 p3
    have HM2 := Lib.hid hm
    clear hm hpre hlen p2
    have g1 : (m : Int) < (n : Int) := by have := HP1.out; have := HM2.out; omega
    have g0 : (0 : Int) ≤ (m : Int) := by omega
    clear p1
    dsimp only
    rw [e1]
    have HE1 := Lib.hid e1
    clear e1
    gi_wp2
    rintro W' hW' ⟨h1, h2⟩
    rw [HM2.out] at h1 h2
    obtain ⟨b, off, rfl, q0⟩ := Ints.cell_at (HI.out.below h1.below (Nat.le_refl _)) p3
    have c0 : W'.cell? ⟨w.heap.size, 0, none⟩ = some (.slice (some ⟨b, off, none⟩) n c) := by rw [h1.cb.cell]; rfl
    have c1 : W'.cell? ⟨w.heap.size + 1, 0, none⟩ = some (.int .i64 many) := by rw [h1.cm.cell]; rfl
    have c2 : W'.cell? ⟨w1.heap.size, 0, none⟩ = some (.int .i64 m) := by rw [h1.cn.cell]; rfl
    have c3 := h1.cn.frozen 0
    have H1 := Lib.hid h1
    have H2 := Lib.hid h2
    have hne : w1.heap.size ≠ w.heap.size + 1 := by omega
    clear h1 h2 p3
    gi_wp2
    · refine ⟨KeptL.setCell _ _ _ (fun h => by simp only at h; omega), rfl, ?_, ?_, ?_, ?_⟩
      · rw [HLEN.out, HM2.out]; exact H1.out.tick hnb
      · rw [HLEN.out, HM2.out]; have := H2.out; omega
      · rw [HLEN.out]; omega
      · rw [HLEN.out, HM2.out]; omega
    · refine ⟨KeptL.setCell _ _ _ (fun h => ?_), ?_, ?_⟩
      · rcases h with (h | ⟨h, h'⟩) | h
        · simp only at h; omega
        · have := HOWN.out _ h h'; simp only at this; omega
        · simp only at h; omega
      · rw [HLEN.out, HM2.out]; exact H1.out.tick hnb
      · rw [HLEN.out, HM2.out]; omega
  case done =>
    rintro D W' hD hW' ⟨h1, h2⟩ hK
    rw [offsL_length, HN.out] at h1 h2
    have c0 : W'.cell? ⟨w.heap.size, 0, none⟩ = some (.slice A n c) := by rw [h1.cb.cell]; rfl
    have c1 : W'.cell? ⟨w.heap.size + 1, 0, none⟩ = some (.int .i64 many) := by rw [h1.cm.cell]; rfl
    have c2 : W'.cell? ⟨w1.heap.size, 0, none⟩ = some (.int .i64 n) := by rw [h1.cn.cell]; rfl
    have c3 : W'.cell? ⟨w.heap.size + 1 + 1, 0, none⟩ = some (.bool false) := by rw [h1.cr.cell]; rfl
    have c4 := h1.cr.frozen 0
    have H1 := Lib.hid h1
    have H2 := Lib.hid h2
    clear h1 h2
    have hn0 : n = 0 ∨ (n : Int) < many := H2.out
    gi_wp2
    all_goals
      first
        | (have hbt : ((n : Int) == many) = true := (by rw [beq_iff_eq]; omega); rw [hbt])
        | (have hbt : ((n : Int) == (n : Int)) = true := (by rw [beq_iff_eq]; omega); rw [hbt])
        | (have hbt : ((n : Int) == 1) = true := (by rw [beq_iff_eq]; omega); rw [hbt])
        | skip
      obtain ⟨e1, e2, e3⟩ := over_end (b := true) H1.out hK (by omega) rfl
      refine ⟨by simp, .inl ⟨_, _, rfl, run_takeDeferred e1, ?_⟩⟩
      refine ⟨.bool true, ?_, rfl, e3⟩
      simp [results, Try.f28, go_sem, e2]
  case stop =>
    rintro D c' pre W' hD hW' hpre ⟨rfl, h1, h2, h3, h4⟩ hK
    have hpl : pre.length ≤ n := by have := hpre.length_le; rw [offsL_length, HN.out] at this; exact this
    obtain ⟨m, hm⟩ : ∃ m, pre.length = m := ⟨_, rfl⟩
    rw [hm] at h1 h2 h3 h4 hpl
    have c0 : W'.cell? ⟨w.heap.size, 0, none⟩ = some (.slice A n c) := by rw [h1.cb.cell]; rfl
    have c1 : W'.cell? ⟨w.heap.size + 1, 0, none⟩ = some (.int .i64 many) := by rw [h1.cm.cell]; rfl
    have c2 : W'.cell? ⟨w1.heap.size, 0, none⟩ = some (.int .i64 m) := by rw [h1.cn.cell]; rfl
    have c3 : W'.cell? ⟨w.heap.size + 1 + 1, 0, none⟩ = some (.bool false) := by rw [h1.cr.cell]; rfl
    have c4 := h1.cr.frozen 0
    have H1 := Lib.hid h1
    clear h1
    gi_wp2
    all_goals
      first
        | (have hbt : ((m : Int) == many) = true := (by rw [beq_iff_eq]; omega); rw [hbt])
        | (have hbt : ((m : Int) == (n : Int)) = true := (by rw [beq_iff_eq]; omega); rw [hbt])
        | (have hbt : ((m : Int) == 1) = true := (by rw [beq_iff_eq]; omega); rw [hbt])
        | skip
      obtain ⟨e1, e2, e3⟩ := over_end (b := true) H1.out hK (by omega) rfl
      refine ⟨by simp, .inl ⟨_, _, rfl, run_takeDeferred e1, ?_⟩⟩
      refine ⟨.bool true, ?_, rfl, e3⟩
      simp [results, Try.f28, go_sem, e2]
end Go.Proofs.Ytohmkcoodaidcaa
