/-
  Ring: bounds, New, Add.
-/
import Derived.Test.YtndgdehlnmheeaaRgPut
namespace Go.Proofs.Ytndgdehlnmheeaa
set_option maxRecDepth 100000
open Go.RowKit

theorem bounds_any (w : World) : Calls Try.prog 31 #[] w fun e w' => e = .returned (.agg #[.int .i64 1, .int .i64 134217728]) ∧ Below w.heap.size w w' := by
  have HB := Lib.hid ((Below.refl w.heap.size w).alloc (Nat.le_refl _) (.cells #[.int .i64 1, .int .i64 134217728] 69))
  go_enter Try.func31, Try.ntmps31
  go_wp2
  refine bodyPost_ret (v := .agg #[.int .i64 1, .int .i64 134217728]) (by simp [results, Try.results31, go_sem]) rfl ?_
  exact ⟨rfl, HB.out⟩

theorem new_bad (w : World) (S : Int) (bv : Value) (h : S < 1 ∨ 134217728 < S) :
    Calls Try.prog 13 #[.int .i64 S, bv] w fun e w' => e = .returned (.tuple #[.pointer none, .int .i64 2]) ∧ Below w.heap.size w w' := by
  by_cases h1 : S < 1
  · clear h
    go_enter Try.func13, Try.ntmps13
    go_wp2_with (go_at_call 31; refine (bounds_any _).mono ?_; rintro e w1 ⟨rfl, hb⟩; have HB := Lib.hid (hb.alloc hb.size (.cells #[.int .i64 1, .int .i64 134217728] 69)); clear hb)
    go_ret2
    exact ⟨rfl, HB.out⟩
  · have h2 : 134217728 < S := by omega
    clear h
    go_enter Try.func13, Try.ntmps13
    go_wp2_with (go_at_call 31; refine (bounds_any _).mono ?_; rintro e w1 ⟨rfl, hb⟩; have HB := Lib.hid (hb.alloc hb.size (.cells #[.int .i64 1, .int .i64 134217728] 69)); clear hb)
    go_ret2
    exact ⟨rfl, HB.out⟩

/-- A ring just made. -/
theorem ring_new (W : World) {S : Nat} (h1 : 1 ≤ S) (h2 : S ≤ 134217728) :
    Ring (W.alloc (.cells #[.slice none 0 0, .int .i64 S, .int .i64 0] 64)) W.heap.size (.slice none 0 0) S [] 0 :=
  ⟨Blk.new _ _ _, Row.nil _, (by simp [Value.ownBlock]), h1, h2, (by simp), fun _ hx => by cases hx⟩

/-- What New makes. -/
structure Made (w w' : World) (g : Nat) (v : Value) (S : Nat) (st : List Int) (T : Nat) : Prop where
  ring : Ring w' g v S st T
  at_ : w.heap.size ≤ g
  own : ∀ k, v.ownBlock = some k → w.heap.size ≤ k
  below : Below w.heap.size w w'

theorem new_ok (w : World) {S : Nat} {bv : Value} {bs : List Int} (h1 : 1 ≤ S) (h2 : S ≤ 134217728) (hx : Ints w .u8 bv bs) (hu : U8s bs) (hl : bs.length ≤ 100000000000000) :
    Calls Try.prog 13 #[.int .i64 S, bv] w fun e w' => ∃ g v, e = .returned (.tuple #[rp g, .int .i64 0]) ∧ Made w w' g v S (keepL S bs) 0 := by
  have HX := Lib.hid hx
  have HU := Lib.hid hu
  have HL := Lib.hid hl
  have e1 : ¬ (S : Int) < 1 := by omega
  have e2 : ¬ (134217728 : Int) < (S : Int) := by omega
  have H1 := Lib.hid h1
  have H2 := Lib.hid h2
  clear hx hu hl h1 h2
  go_enter Try.func13, Try.ntmps13
  go_wp2_with (first
    | (go_at_call 31; refine (bounds_any _).mono ?_; rintro e w1 ⟨rfl, hb⟩; have HB := Lib.hid (hb.alloc hb.size (.cells #[.int .i64 1, .int .i64 134217728] 69)); clear hb)
    | (go_at_call 32
       have HR := Lib.hid (ring_new (w1.alloc (.cells #[.int .i64 1, .int .i64 134217728] 69)) H1.out H2.out)
       have HB2 := Lib.hid (HB.out.alloc HB.out.size (.cells #[.slice none 0 0, .int .i64 S, .int .i64 0] 64))
       have HSZ := Lib.hid (show w.heap.size ≤ (w1.alloc (.cells #[.int .i64 1, .int .i64 134217728] 69)).heap.size from HB.out.size)
       refine (put_any _ (v := .slice none 0 0) (T := 0) (by simpa using HR.out) (HX.out.below HB2.out (Nat.le_refl _)) HU.out HL.out).mono ?_
       rintro e w3 ⟨rfl, v', hp⟩))
  go_ret2
  refine ⟨_, v', rfl, ⟨by simpa using hp.ring, by simpa using HSZ.out, fun k hk => ?_, HB2.out.trans ?_⟩⟩
  · rcases hp.own with h | h
    · rw [h] at hk; cases hk
    · have := h k hk; have := HB2.out.size; omega
  · exact hp.but.below HB2.out.size (by simpa using HSZ.out) (fun k hk => by cases hk)

/-- A store of another kind of value leaves a slice of bytes as it is. -/
theorem ints_far {w : World} {k : IntKind} {v : Value} {xs : List Int} (h : Ints w k v xs) {p : Addr} {u0 : Value} (hc : w.cell? p = some u0) (hu : ∀ x, u0 ≠ .int k x) (u : Value) : Ints (w.setCell p u) k v xs := by
  obtain ⟨A2, c2, hv, h1, h2, h3, h4⟩ := h
  refine ⟨A2, c2, hv, h1, h2, h3, fun h0 => ?_⟩
  obtain ⟨b, off, hA, hcell⟩ := h4 h0
  refine ⟨b, off, hA, fun j z hz => ?_⟩
  have h5 := hcell j z hz
  have hne : (⟨b, off + j, none⟩ : Addr) ≠ p := by
    rintro rfl
    rw [hc] at h5
    simp at hz
    obtain ⟨x, -, rfl⟩ := hz
    exact hu x (Option.some.inj h5)
  exact (World.cell?_setCell_other w p _ u hne.symm).trans h5

theorem add_any (w : World) {g : Nat} {v bv : Value} {S T : Nat} {st bs : List Int} (h : Ring w g v S st T) (hx : Ints w .u8 bv bs) (hu : U8s bs) (hl : bs.length ≤ 100000000000000) (hT : T + bs.length ≤ 9223372036854775807) :
    Calls Try.prog 27 #[rp g, bv] w fun e w' => e = .returned (.int .i64 0) ∧ ∃ v', Put w w' g v v' S (keepL S (st ++ bs)) (T + bs.length) := by
  obtain ⟨c0, c1, c2, -⟩ := ring_cells h.blk
  have f2 := h.blk.frozen 2
  obtain ⟨T2, hT2⟩ : ∃ T2, T + bs.length = T2 := ⟨_, rfl⟩
  rw [hT2] at hT ⊢
  have hR2 : Ring (w.setCell ⟨g, 2, none⟩ (.int .i64 (T2 : Int))) g v S st T2 :=
    { h with blk := (h.blk.set_ 2 _), row := h.row.same fun k hk => Below.heap_setCell _ _ _ _ fun e => h.ne (by rw [hk]; exact congrArg some e) }
  have HX2 := Lib.hid (ints_far hx c2 (by intro x e; injection e; contradiction) (.int .i64 (T2 : Int)))
  have HR := Lib.hid hR2
  have HB := Lib.hid h.blk
  have HP := Lib.hid h.pos
  have HU := Lib.hid hu
  have HL := Lib.hid hl
  obtain ⟨A, n, c, rfl, -, -, hat⟩ := hx.get
  obtain rfl : bs.length = n := hat.1
  obtain ⟨N, hN⟩ : ∃ N, bs.length = N := ⟨_, rfl⟩
  rw [hN] at hT2 HX2 hl
  have e1 : (T : Int) + (N : Int) = (T2 : Int) := by omega
  have e2 : (T2 : Int) ≤ 9223372036854775807 := by omega
  rw [hN]
  clear h hx hu hat hN hR2 hT hT2
  have HBUT := Lib.hid ((But.refl w g v.ownBlock).set_ 2 (.int .i64 (T2 : Int)))
  unfold rp
  go_enter Try.func27, Try.ntmps27
  go_wp2_with (first
    | (go_at_call 33; refine (none_ring _ HB.out HP.out).mono ?_; rintro e w1 ⟨rfl, rfl⟩)
    | (go_at_call 32; refine (put_any _ HR.out HX2.out HU.out HL.out).mono ?_; rintro e w1 ⟨rfl, v', hp⟩))
  go_ret
  exact ⟨rfl, v', ⟨hp.ring, by rcases hp.own with h | h; exact .inl h; exact .inr (fun k hk => by have := h k hk; simpa using this), HBUT.out.trans hp.but (.inl rfl)⟩⟩
end Go.Proofs.Ytndgdehlnmheeaa
