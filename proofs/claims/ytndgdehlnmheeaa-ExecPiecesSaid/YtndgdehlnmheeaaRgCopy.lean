/-
  Ring: Copy.
-/
import Derived.Test.YtndgdehlnmheeaaRgGath
import Derived.WalkMore
import Derived.ScopeJumps
namespace Go.Proofs.Ytndgdehlnmheeaa
set_option maxRecDepth 100000
open Go.RowKit

/-- A scope in which the run jumps at most once, to label l. -/
theorem wp_scope_once {P : Program} {a : Act} {w : World} {Q : Exit → Act → World → Prop} {c rest : Code} (l : Nat) (hf : findLabel c l = some rest)
    (first : c.wp P (Exit.jump l (fun a w => rest.wp P (Exit.noGoto Q) a w) Q) a w) : (Code.scope c).wp P Q a w :=
  wp_scope_jumps l _ (fun _ _ => 0) hf first fun a w h => Code.wp_mono (fun e a w hq => by
    cases e <;> first | exact hq | exact (hq : False).elim) h

theorem copied_u8 {F : List Int} (h : U8s F) (off n : Nat) : U8s (copied F off n) := fun x hx => by
  simp only [copied, List.mem_map] at hx
  obtain ⟨i, -, rfl⟩ := hx
  rw [List.getD_eq_getElem?_getD]
  rcases h0 : F[i % off]? with _ | y
  · simp
  · exact h y (List.mem_of_getElem? h0)

theorem copy_arg (w : World) {g : Nat} {v : Value} {S T : Nat} {st : List Int} (h : Ring w g v S st T) (off n : Int) (hn : n < 0 ∨ 131072 < n) :
    Calls Try.prog 74 #[rp g, .int .i64 off, .int .i64 n] w fun e w' => e = .returned (.tuple #[.slice none 0 0, .int .i64 2]) ∧ Below w.heap.size w w' := by
  have HR := Lib.hid h
  have HB := Lib.hid ((((Below.refl w.heap.size w).alloc (Nat.le_refl _) (.cells #[.int .i64 off] 3))).alloc (by simp) (.cells #[.slice none 0 0] 22))
  clear h
  by_cases h1 : n < 0
  · clear hn
    unfold rp
    go_enter Try.func74, Try.ntmps74
    go_wp2
    refine wp_scope_once 0 (by rfl) ?_
    go_wp2_with (go_at_call 33; refine (none_ring _ (((HR.out.alloc _).alloc _).blk) HR.out.pos).mono ?_; rintro e w1 ⟨rfl, rfl⟩)
    go_step3
    simp only [Exit.then]
    refine ⟨rfl, ?_⟩
    show Code.wp _ _ _ _ _
    go_wp2
    rw [Exit.noGoto_ret]
    go_ret2
    exact ⟨rfl, HB.out⟩
  · have h2 : 131072 < n := by omega
    clear hn
    unfold rp
    go_enter Try.func74, Try.ntmps74
    go_wp2
    refine wp_scope_once 0 (by rfl) ?_
    go_wp2_with (go_at_call 33; refine (none_ring _ (((HR.out.alloc _).alloc _).blk) HR.out.pos).mono ?_; rintro e w1 ⟨rfl, rfl⟩)
    go_step3
    simp only [Exit.then]
    refine ⟨rfl, ?_⟩
    show Code.wp _ _ _ _ _
    go_wp2
    rw [Exit.noGoto_ret]
    go_ret2
    exact ⟨rfl, HB.out⟩

theorem copy_seq (w : World) {g : Nat} {v : Value} {S T : Nat} {st : List Int} (h : Ring w g v S st T) (off n : Int) (h0 : 0 ≤ n) (h1 : n ≤ 131072) (ho : off < 1 ∨ ((min S st.length : Nat) : Int) < off) :
    Calls Try.prog 74 #[rp g, .int .i64 off, .int .i64 n] w fun e w' => e = .returned (.tuple #[.slice none 0 0, .int .i64 15]) ∧ Below w.heap.size w w' := by
  have HR := Lib.hid h
  obtain ⟨L, hL⟩ : ∃ L, min S st.length = L := ⟨_, rfl⟩
  rw [hL] at ho
  have HL := Lib.hid hL
  have HB0 := Lib.hid ((((Below.refl w.heap.size w).alloc (Nat.le_refl _) (.cells #[.int .i64 off] 3))).alloc (by simp) (.cells #[.slice none 0 0] 22))
  have e1 : ¬ n < 0 := by omega
  have e2 : ¬ 131072 < n := by omega
  clear h hL
  by_cases h3 : off < 1
  · have hd : decide (off < 1) = true := decide_eq_true h3
    clear ho
    unfold rp
    go_enter Try.func74, Try.ntmps74
    go_wp2
    refine wp_scope_once 0 (by rfl) ?_
    go_wp2_with (go_at_call 33; refine (none_ring _ (((HR.out.alloc _).alloc _).blk) HR.out.pos).mono ?_; rintro e w1 ⟨rfl, rfl⟩)
    go_quiet (fail)
    go_wp2
    go_step3
    simp only [Exit.then]
    refine ⟨rfl, ?_⟩
    show Code.wp _ _ _ _ _
    go_wp2
    rw [Exit.noGoto_ret]
    go_ret2
    exact ⟨rfl, below_drewN HB0.out _⟩
  · have h4 : (L : Int) < off := by omega
    have hd : decide (off < 1) = false := decide_eq_false h3
    have hd2 : decide ((L : Int) < off) = true := decide_eq_true h4
    clear ho
    unfold rp
    go_enter Try.func74, Try.ntmps74
    go_wp2
    refine wp_scope_once 0 (by rfl) ?_
    go_wp2_with (go_at_call 33; refine (none_ring _ (((HR.out.alloc _).alloc _).blk) HR.out.pos).mono ?_; rintro e w1 ⟨rfl, rfl⟩)
    go_quiet ((go_at_call 36; refine Calls.quiet_of (len_q (((HR.out.alloc _).alloc _).drewN _) HL.out)))
    go_wp2
    go_step3
    simp only [Exit.then]
    refine ⟨rfl, ?_⟩
    show Code.wp _ _ _ _ _
    go_wp2
    rw [Exit.noGoto_ret]
    go_ret2
    exact ⟨rfl, below_drewN HB0.out _⟩

theorem Ring.far {w : World} {g : Nat} {v : Value} {S T : Nat} {st : List Int} (h : Ring w g v S st T) {p : Addr} (h1 : g ≠ p.block) (h2 : v.ownBlock ≠ some p.block) (u : Value) : Ring (w.setCell p u) g v S st T :=
  { h with blk := h.blk.far h1 u, row := h.row.same fun k hk => Below.heap_setCell _ _ _ _ fun e => h2 (by rw [hk]; exact congrArg some e) }
theorem at_far {w : World} {k : IntKind} {A : Option Addr} {n : Nat} {xs : List Int} (h : AtInts w k A n xs) {p : Addr} {u0 : Value} (hc : w.cell? p = some u0) (hu : ∀ x, u0 ≠ .int k x) (u : Value) : AtInts (w.setCell p u) k A n xs := by
  refine ⟨h.1, fun h0 => ?_⟩
  obtain ⟨b, off, hA, hcell⟩ := h.2 h0
  refine ⟨b, off, hA, fun i x hx => ?_⟩
  have h5 := hcell i x hx
  have hne : (⟨b, off + i, none⟩ : Addr) ≠ p := by
    rintro rfl
    rw [hc] at h5
    exact hu x (Option.some.inj h5)
  exact (World.cell?_setCell_other w p _ u hne.symm).trans h5

/-- What Copy leaves. -/
structure CopyPost (w w' : World) (g : Nat) (v0 v ov : Value) (S : Nat) (st : List Int) (T : Nat) (out : List Int) : Prop where
  put : Put w w' g v0 v S (keepL S (st ++ out)) T
  row : Row w' ov out
  own : ∀ k, ov.ownBlock = some k → w.heap.size ≤ k
  far : ∀ k, ov.ownBlock = some k → v.ownBlock ≠ some k

theorem copy_ok (w : World) {g : Nat} {v : Value} {S T : Nat} {st : List Int} (h : Ring w g v S st T) (off n : Nat) (h1 : n ≤ 131072) (ho : 1 ≤ off) (ho2 : off ≤ min S st.length) (hT : T + n ≤ 9223372036854775807) :
    Calls Try.prog 74 #[rp g, .int .i64 off, .int .i64 n] w fun e w' => ∃ ov v', e = .returned (.tuple #[ov, .int .i64 0]) ∧ CopyPost w w' g v v' ov S st (T + n) (copied (lastN off st) off n) := by
  have HR := Lib.hid h
  have HU := Lib.hid (copied_u8 (h.u8.last (S := off)) off n)
  obtain ⟨L, hL⟩ : ∃ L, min S st.length = L := ⟨_, rfl⟩
  have HOL : Hid (off ≤ st.length) := (by omega : off ≤ st.length)
  have hoff : off ≤ 134217728 := by have := h.max; omega
  rw [hL] at ho2
  have HL := Lib.hid hL
  have HT := Lib.hid hT
  have e1 : ¬ (n : Int) < 0 := by omega
  have e2 : ¬ 131072 < (n : Int) := by omega
  have hd : decide ((off : Int) < 1) = false := decide_eq_false (by omega)
  have hd2 : decide ((L : Int) < (off : Int)) = false := decide_eq_false (by omega)
  have hd3 : decide (L < off) = false := decide_eq_false (by omega)
  have HB0 := Lib.hid ((((Below.refl w.heap.size w).alloc (Nat.le_refl _) (.cells #[.int .i64 off] 3))).alloc (by simp) (.cells #[.slice none 0 0] 22))
  have hb1 := ((Blk.new w 3 #[.int .i64 off]).alloc (.cells #[.slice none 0 0] 22)).one
  have hb2 := (Blk.new1 w (.cells #[.int .i64 off] 3) 22 #[.slice none 0 0]).one
  have HK := Lib.hid (And.intro hb1 hb2)
  clear h hL hT hb1 hb2
  unfold rp
  go_enter Try.func74, Try.ntmps74
  go_wp2
  go_step3
  go_wp2_with (go_at_call 33; refine (none_ring _ (((HR.out.alloc _).alloc _).blk) HR.out.pos).mono ?_; rintro e w1 ⟨rfl, rfl⟩)
  go_quiet ((go_at_call 36; refine Calls.quiet_of (len_q (((HR.out.alloc _).alloc _).drewN _) HL.out)))
  go_wp2
  have HR1 := Lib.hid (((HR.out.alloc (.cells #[.int .i64 off] 3)).alloc (.cells #[.slice none 0 0] 22)).drewN nq)
  have HB1 := Lib.hid (below_drewN HB0.out nq)
  have hk : (((w.alloc (.cells #[.int .i64 off] 3)).alloc (.cells #[.slice none 0 0] 22)).drewN nq).cell? ⟨w.heap.size, 0, none⟩ = _ := HK.out.1.1
  have hk1 : (((w.alloc (.cells #[.int .i64 off] 3)).alloc (.cells #[.slice none 0 0] 22)).drewN nq).cell? ⟨w.heap.size + 1, 0, none⟩ = _ := HK.out.2.1
  have hk2 : (((w.alloc (.cells #[.int .i64 off] 3)).alloc (.cells #[.slice none 0 0] 22)).drewN nq).frozen? ⟨w.heap.size + 1, 0, none⟩ = _ := HK.out.2.2
  generalize ((w.alloc (.cells #[.int .i64 off] 3)).alloc (.cells #[.slice none 0 0] 22)).drewN nq = W1 at HR1 HB1 hk hk1 hk2 ⊢
  have hs1 := World.block_lt_of_cell? W1 _ hk1
  clear HK HB0
  go_region_held3 (fun w' => w'.cell? ⟨w.heap.size, 0, none⟩ = some (.int .i64 off))
    (first | exact hk | exact hk3 | exact (World.cell?_setCell_other _ _ _ _ (by simp)).trans hk3)
    (first
      | (go_at_call 35; refine (end_q (w := W1.drew) (HR1.out.drewN 1) HOL.out).mono ?_; rintro e w3 ⟨rfl, hm3⟩; have HB2 := Lib.hid (below_draws hm3); have HR3 := Lib.hid (HR1.out.next2 hm3); have hk3 : w3.cell? ⟨w.heap.size, 0, none⟩ = some (.int .i64 off) := (by obtain ⟨m, rfl⟩ := hm3; exact hk); have hk4 : w3.cell? ⟨w.heap.size + 1, 0, none⟩ = some (.slice none 0 0) := (by obtain ⟨m, rfl⟩ := hm3; exact hk1); have hk5 : w3.frozen? ⟨w.heap.size + 1, 0, none⟩ = false := (by obtain ⟨m, rfl⟩ := hm3; exact hk2); clear hm3))
  have hglt := HR.out.lt
  have hgv := fun k => HR.out.row.lt k
  have hR4 : Ring (w3.setCell ⟨w.heap.size + 1, 0, none⟩ (.slice (endA v st.length off) off off)) g v S st T := HR3.out.far (by simp; omega) (fun e => by have := hgv _ e; simp at this; omega) _
  have hA4 : AtInts (w3.setCell ⟨w.heap.size + 1, 0, none⟩ (.slice (endA v st.length off) off off)) .u8 (endA v st.length off) off (lastN off st) := at_far (HR3.out.endAt HOL.out) hk4 (by intro x e; cases e) _
  have hk6 : (w3.setCell ⟨w.heap.size + 1, 0, none⟩ (.slice (endA v st.length off) off off)).cell? ⟨w.heap.size, 0, none⟩ = some (.int .i64 off) := (World.cell?_setCell_other _ _ _ _ (by simp)).trans hk3
  have hk7 : (w3.setCell ⟨w.heap.size + 1, 0, none⟩ (.slice (endA v st.length off) off off)).cell? ⟨w.heap.size + 1, 0, none⟩ = some (.slice (endA v st.length off) off off) := World.cell?_setCell_same _ _ _ hk4
  have hB4 : Below w.heap.size w (w3.setCell ⟨w.heap.size + 1, 0, none⟩ (.slice (endA v st.length off) off off)) := (HB1.out.trans (HB2.out.mono HB1.out.size)).setCell (by simp) _
  have hs4 : w.heap.size ≤ (w3.setCell ⟨w.heap.size + 1, 0, none⟩ (.slice (endA v st.length off) off off)).heap.size := hB4.size
  generalize w3.setCell ⟨w.heap.size + 1, 0, none⟩ (.slice (endA v st.length off) off off) = w4 at hR4 hA4 hk6 hk7 hB4 hs4 ⊢
  have HR4 := Lib.hid hR4
  have HA4 := Lib.hid hA4
  have HK6 := Lib.hid hk6
  have HK7 := Lib.hid hk7
  have HB4 := Lib.hid hB4
  clear hR4 hA4 hk6 hk7 hB4 hk hk1 hk2 hk3 hk4 hk5 HB2 HR3 HR1 HB1
  go_wp2_with (first
    | (go_at_call 77; refine (gath_any HK7.out HK6.out HA4.out ho (by omega) n h1).mono ?_; rintro e w5 ⟨ov, rfl, hcl⟩; have HC := Lib.hid hcl; clear hcl)
    | (go_at_call 27; refine (add_any _ (HR4.out.below HC.out.below (Nat.le_refl _)) HC.out.row.ints HU.out (by rw [copied_length]; omega) (by rw [copied_length]; exact HT.out)).mono ?_; rintro e w6 ⟨rfl, v', hp⟩; rw [copied_length] at hp; have HP := Lib.hid hp; clear hp))
  rw [Exit.noGoto_ret]
  go_ret2
  have hsz := HC.out.below.size
  refine ⟨ov, v', rfl, ⟨HP.out.ring, ?_, ?_⟩, ?_, ?_, ?_⟩
  · rcases HP.out.own with e | e
    · exact .inl e
    · exact .inr fun k hk => by have := e k hk; omega
  · exact (But.of_below (HB4.out.trans (HC.out.below.mono hs4)) g _).trans HP.out.but (.inl rfl)
  · refine HC.out.row.but HP.out.but (fun e => by have := HC.out.own _ e; omega) (fun k hk e => by have := HC.out.own _ hk; have := hgv _ e; omega)
  · exact fun k hk => by have := HC.out.own _ hk; omega
  · intro k hk e
    have h5 := HC.out.row.lt _ hk
    have h6 := HC.out.own _ hk
    rcases HP.out.own with e2 | e2
    · rw [e2] at e; have := hgv _ e; omega
    · have := e2 k e; omega
end Go.Proofs.Ytndgdehlnmheeaa
