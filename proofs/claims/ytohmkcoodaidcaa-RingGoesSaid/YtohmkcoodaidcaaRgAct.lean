/-
  The ring's laws: act, by Add and by Clone.
-/
import Derived.Test.YtohmkcoodaidcaaRgActP
namespace Go.Proofs.Ytohmkcoodaidcaa
open Go.RowKit

/-- A call as a value. -/
abbrev ActD.val (x : ActD) : Value := .agg #[.int .i64 x.what, x.bv, .int .i64 x.off, .int .i64 x.n]

theorem last_keep (S : Nat) (st b : List Int) : lastN S (lastN S st ++ b) = lastN S (keepL S (st ++ b)) := by rw [lastN_append, keepL_last]

set_option maxHeartbeats 3200000 in
set_option maxRecDepth 100000 in
theorem act_add (w : World) {g : Nat} {v cv : Value} {S T : Nat} {st : List Int} (x : ActD) (hr : Ring w g v S st T) (hC : Ints w .u8 cv (lastN S st)) (hok : x.Ok w) (hl : x.b.length ≤ 100) (hT : T ≤ 1152921504606846976) (hwhat : x.what = 0 ∨ x.what = 1 ∨ x.what = 2) :
    Calls Try.prog 20 #[rp g, rv S cv T, x.val] w fun e w' => ∃ g' v' st' T' cv', e = .returned (.tuple #[rp g', rv S cv' T', .bool true]) ∧ Acted w w' g g' v v' S st st' T T' cv cv' := by
  obtain ⟨what, bv, b, off, n⟩ := x
  simp only at hl hwhat
  obtain ⟨hx, hu, -⟩ := hok
  simp only at hx hu
  obtain ⟨T2, hT2⟩ : ∃ T2, T + b.length = T2 := ⟨_, rfl⟩
  have HT2 := Lib.hid hT2
  have HT : Hid (T ≤ 1152921504606846976) := (hT : T ≤ _)
  have HL : Hid (b.length ≤ 100) := (hl : _ ≤ _)
  have HSm : Hid (S ≤ 134217728) := (hr.max : _ ≤ _)
  have HCL : Hid ((lastN S st).length + b.length ≤ 100000000000000) := (by rw [lastN_length]; have := hr.max; omega : _ ≤ _)
  have HTB : Hid (T + b.length ≤ 9223372036854775807) := (by omega : _ ≤ _)
  have HSB : Hid (S ≤ 9223372036854775807) := (by have := hr.max; omega : _ ≤ _)
  have HLB : Hid (b.length ≤ 100000000000000) := (by omega : _ ≤ _)
  have HU := Lib.hid hu
  have hg := hr.lt
  have hv := hr.row.lt
  obtain ⟨A, N, c, rfl, -, -, -⟩ := hC.get
  obtain ⟨Ab, nb, cb, rfl, -, -, -⟩ := hx.get
  have hbx : ActBx w (((w.alloc (.cells #[.int .i64 S, .slice A N c, .int .i64 T] 36)).alloc (.cells #[.int .i64 what, .slice Ab nb cb, .int .i64 off, .int .i64 n] 43)).alloc (.cells #[.int .i64 0, .slice none 0 0, .int .i64 0] 36)) g v S (.slice A N c) T ⟨what, .slice Ab nb cb, b, off, n⟩ :=
    ActBx.start rfl rfl rfl hg hv
  have hbl : Below w.heap.size w (((w.alloc (.cells #[.int .i64 S, .slice A N c, .int .i64 T] 36)).alloc (.cells #[.int .i64 what, .slice Ab nb cb, .int .i64 off, .int .i64 n] 43)).alloc (.cells #[.int .i64 0, .slice none 0 0, .int .i64 0] 36)) :=
    (((Below.refl w.heap.size w).alloc (Nat.le_refl _) _).alloc (by simp) _).alloc (by simp; omega) _
  have HBX := Lib.hid hbx.drew
  have HC0 := Lib.hid (hC.below hbl.drew (Nat.le_refl _))
  have HX0 := Lib.hid (hx.below hbl.drew (Nat.le_refl _))
  have HR0 := Lib.hid (hr.below hbl.drew (Nat.le_refl _))
  have HV := Lib.hid hv
  clear hbx hbl hC hx hr hT hT2 hu hv hl
  unfold rp rv ActD.val
  rcases hwhat with rfl | rfl | rfl
  all_goals
    go_enter Try.func20, Try.ntmps20
    go_wp2
    generalize ((w.alloc (.cells #[.int .i64 S, .slice A N c, .int .i64 T] 36)).alloc (.cells #[.int .i64 _, .slice Ab nb cb, .int .i64 off, .int .i64 n] 43)).alloc (.cells #[.int .i64 0, .slice none 0 0, .int .i64 0] 36) = W0 at HBX HC0 HX0 HR0 ⊢
    have HKEY := Lib.hid (refAdd_any W0.drew S (.slice A N c) (.slice Ab nb cb) T (lastN S st) b HC0.out HX0.out HSB.out HCL.out HTB.out)
    rw [HT2.out] at HKEY
    obtain ⟨q0, q1, q2, q3, q4, q5, q6⟩ := HBX.out.cells
    go_region_held3 (fun w' => w'.cell? ⟨w.heap.size, 0, none⟩ = some (.int .i64 S) ∧ w'.cell? ⟨w.heap.size, 1, none⟩ = some (.slice A N c) ∧ w'.cell? ⟨w.heap.size, 2, none⟩ = some (.int .i64 T) ∧ w'.cell? ⟨w.heap.size + 1, 1, none⟩ = some (.slice Ab nb cb))
      (first | exact ⟨q0, q1, q2, q4⟩ | exact KB3.out | exact KB5.out | exact KB4.out | exact KB6.out _ _ _)
      (first
        | (go_at_call 26; refine HKEY.out.mono ?_; rintro e w3 ⟨bv', rfl, hi, hb, ho⟩; obtain ⟨A3, n3, c3, rfl, -, -, -⟩ := hi.get; have HI3 := Lib.hid hi; have HO3 := Lib.hid ho; have HBX3 := Lib.hid (HBX.out.below hb); have HX3 := Lib.hid (HX0.out.below hb (Nat.le_refl _)); have HR3 := Lib.hid (HR0.out.below hb (Nat.le_refl _)); have KB3 := Lib.hid (show _ ∧ _ ∧ _ ∧ _ from ⟨HBX3.out.cells.1, HBX3.out.cells.2.1, HBX3.out.cells.2.2.1, HBX3.out.cells.2.2.2.2.1⟩); clear hi hb ho)
        | (go_at_call 22; refine (add_any w3 HR3.out HX3.out HU.out HLB.out HTB.out).mono ?_; rintro e w4 ⟨rfl, v', hp⟩; rw [HT2.out] at hp; have HP := Lib.hid hp; have HBX4 := Lib.hid (HBX3.out.next hp.but); have KB4 := Lib.hid (show _ ∧ _ ∧ _ ∧ _ from ⟨HBX4.out.cells.1, HBX4.out.cells.2.1, HBX4.out.cells.2.2.1, HBX4.out.cells.2.2.2.2.1⟩); clear hp)
        | (go_at_call 19; refine (num_any w4 _).mono ?_; rintro e w5 ⟨rfl, hw⟩; have HBX5 : Hid (ActBx w w5 g v S (.slice A N c) T ⟨_, .slice Ab nb cb, b, off, n⟩) := (by rw [hw]; exact HBX4.out : ActBx _ _ _ _ _ _ _ _); have HW5 := Lib.hid hw; have KB5 := Lib.hid (show _ ∧ _ ∧ _ ∧ _ from ⟨HBX5.out.cells.1, HBX5.out.cells.2.1, HBX5.out.cells.2.2.1, HBX5.out.cells.2.2.2.2.1⟩); have KB6 : Hid (∀ u0 u1 u2 : Value, _) := (fun u0 u1 u2 => ⟨(HBX5.out.cells.stores u0 u1 u2).1, (HBX5.out.cells.stores u0 u1 u2).2.1, (HBX5.out.cells.stores u0 u1 u2).2.2.1, (HBX5.out.cells.stores u0 u1 u2).2.2.2.2.1⟩ : ∀ u0 u1 u2 : Value, _ ∧ _ ∧ _ ∧ _); obtain ⟨j1, j2, j3, j4, j5, j6⟩ := HBX5.out.b7.three; clear hw))
    all_goals
      go_wp2
      refine bodyPost_ret (v := .tuple #[.pointer (some ⟨g, 0, none⟩), .agg #[.int .i64 S, .slice A3 n3 c3, .int .i64 T2], .bool true]) (by simp [results, Try.results20, go_sem, j1, j2, j3]) rfl ?_
      have hw := HW5.out
      have hp := HP.out
      rw [← hw] at hp
      have h3 := HBX3.out.size
      have h0 := HBX.out.size
      have hi := HI3.out
      have hi5 := hi.but hp.but (fun h0 k hk => ⟨by have := HO3.out k hk; omega, fun e => by have := HO3.out k hk; have := HV.out k e; omega⟩)
      rw [last_keep] at hi5
      refine ⟨g, v', _, T2, .slice A3 n3 c3, rfl, Acted.fin HBX5.out hp.ring (.inl rfl) ?_ hi5 (.inr fun k hk => by have := HO3.out k hk; omega) ?_ (by have := HT2.out; have := HL.out; omega) _ _ _⟩
      · rcases hp.own with e | e
        · exact .inl e
        · exact .inr fun k hk => by have := e k hk; omega
      · intro hne k hk
        have hk0 := HO3.out k hk
        rw [← last_keep] at hne
        have hk3 := hi.own_lt hne hk
        refine ⟨by omega, fun e2 => ?_⟩
        rcases hp.own with e | e
        · rw [e] at e2; have := HV.out k e2; omega
        · have := e k e2; omega
end Go.Proofs.Ytohmkcoodaidcaa
