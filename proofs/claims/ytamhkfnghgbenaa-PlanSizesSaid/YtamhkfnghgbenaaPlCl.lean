/-
  plan: the two functions that gone calls.
-/
import Derived.Test.YtamhkfnghgbenaaBut
import Derived.Test.YtamhkfnghgbenaaPlGone
namespace Go.Proofs.Ytamhkfnghgbenaa
set_option linter.all false
open Go.RowKit

theorem firstFn_any (w : World) (x : StepD) : Calls Try.prog 32 #[x.val] w fun e w' => e = .returned (.tuple #[]) ∧ Below w.heap.size w w' := by
  obtain ⟨⟨lit, len, off⟩, number, pos, size, have_, window⟩ := x
  have HB := Lib.hid ((Below.refl w.heap.size w).alloc (Nat.le_refl _) (.cells #[.int .i64 lit, .int .i64 len, .int .i64 off, .int .i64 number, .int .i64 pos, .int .i64 size, .int .i64 have_, .int .i64 window] 71))
  unfold StepD.val StepD.cells
  go_enter Try.func32, Try.ntmps32
  go_wp2
  go_end0
  exact ⟨rfl, HB.out⟩

theorem infoStep : (Try.prog.info? 71).map (fun i => (i.zero, i.size, i.bytes)) = some (some (.agg #[.int .i64 0, .int .i64 0, .int .i64 0, .int .i64 0, .int .i64 0, .int .i64 0, .int .i64 0, .int .i64 0]), 8, 64) := by kernel_rfl

/-- A list of steps in a row of the call's own. -/
abbrev StRow (w : World) (v : Value) (xs : List StepD) : Prop := SRow w 71 8 v (xs.map fun x => x.cells.toList)

theorem stepsFn_any (w : World) (p : Nat) (ov : Value) (pre : List StepD) (x : StepD) (hp : Blk w p 63 #[ov]) (hr : StRow w ov pre) (hne : ov.ownBlock ≠ some p) (hl : pre.length ≤ 100000000000) :
    Calls Try.prog 41 #[x.val, .pointer (some ⟨p, 0, none⟩)] w fun e w' => e = .returned (.tuple #[]) ∧ ∃ ov', Blk w' p 63 #[ov'] ∧ StRow w' ov' (pre ++ [x]) ∧
      (ov'.ownBlock = ov.ownBlock ∨ ∀ k, ov'.ownBlock = some k → w.heap.size ≤ k) ∧ But w w' p ov.ownBlock := by
  obtain ⟨i0, hi, hz, hs, hb⟩ := info_parts infoStep
  obtain ⟨A, c, he⟩ := ownsRow_form hr
  rw [List.length_map] at he
  subst he
  have hpl := hp.lt
  have hc0 := hp.one.1
  have hf0 := hp.one.2
  obtain ⟨⟨lit, len, off⟩, number, pos, size, have_, window⟩ := x
  have HP := Lib.hid hp
  have HR := Lib.hid hr
  have HL := Lib.hid hl
  have HNE := Lib.hid hne
  have ha : ∀ (o1 o2 : Obj), But w ((w.alloc o1).alloc o2) p (Value.slice A pre.length c).ownBlock := fun o1 o2 => ((But.refl w p _).alloc o1).alloc o2
  have HA := Lib.hid ha
  have HR2 := Lib.hid (hr.below (((Below.refl w.heap.size w).alloc (Nat.le_refl _) (.cells #[.int .i64 lit, .int .i64 len, .int .i64 off, .int .i64 number, .int .i64 pos, .int .i64 size, .int .i64 have_, .int .i64 window] 71)).alloc (by simp) (.cells #[.int .i64 lit, .int .i64 len, .int .i64 off, .int .i64 number, .int .i64 pos, .int .i64 size, .int .i64 have_, .int .i64 window] 71)) (Nat.le_refl _))
  have HG2 := Lib.hid (Blk.new1 w (.cells #[.int .i64 lit, .int .i64 len, .int .i64 off, .int .i64 number, .int .i64 pos, .int .i64 size, .int .i64 have_, .int .i64 window] 71) 71 #[.int .i64 lit, .int .i64 len, .int .i64 off, .int .i64 number, .int .i64 pos, .int .i64 size, .int .i64 have_, .int .i64 window])
  have h1 : ∀ u ∈ ([.int .i64 lit, .int .i64 len, .int .i64 off, .int .i64 number, .int .i64 pos, .int .i64 size, .int .i64 have_, .int .i64 window] : List Value), u.oneCell' = true := fun u hu => by
    simp only [List.mem_cons, List.not_mem_nil, or_false] at hu
    rcases hu with rfl | rfl | rfl | rfl | rfl | rfl | rfl | rfl <;> rfl
  have H1 := Lib.hid h1
  have HI := Lib.hid hi
  have HZ := Lib.hid hz
  have HS := Lib.hid hs
  have HBY := Lib.hid hb
  clear hp hr hl hne ha h1 hi hz hs hb
  unfold StepD.val StepD.cells
  go_enter Try.func41, Try.ntmps41
  go_wp2_with (at_builtin; refine wpList_append_srow rfl _ _ rfl Try.underlying63 HI.out HZ.out HS.out HBY.out (by rfl) (by decide) rfl HR2.out (w.heap.size + 1) 71 [.int .i64 lit, .int .i64 len, .int .i64 off, .int .i64 number, .int .i64 pos, .int .i64 size, .int .i64 have_, .int .i64 window] rfl rfl HG2.out H1.out (by rw [List.length_map]; have := HL.out; omega) (by decide) (pre.length + 1) (by rw [List.length_map]) ?_; intro A3 c3 w3 hrow hgrow hown; have HROW := Lib.hid hrow; have HGR := Lib.hid hgrow; have HOW := Lib.hid hown; have HP3 := Lib.hid (((HP.out.alloc _).alloc _).grown hgrow (fun e => HNE.out e.symm)); have hc3 := HP3.out.one.1; have hf3 := HP3.out.one.2; clear hrow hgrow hown)
  go_end0
  have hne3 : (Value.slice A3 (pre.length + 1) c3).ownBlock ≠ some p := by
    rcases HOW.out with e | e
    · rw [e]; exact HNE.out
    · rw [e]; intro e2; have := Option.some.inj e2; simp at this; omega
  refine ⟨rfl, _, (HP3.out.set_ 0 _).congr rfl, ?_, ?_, ((HA.out _ _).trans (But.of_grown HGR.out p) (.inl rfl)).set_ 0 _⟩
  · have h := HROW.out.far (p := ⟨p, 0, none⟩) hne3 (.slice A3 (pre.length + 1) c3)
    unfold StRow
    rw [List.map_append]
    exact h
  · rcases HOW.out with e | e
    · exact .inl e
    · exact .inr fun k hk => by rw [e] at hk; have := Option.some.inj hk; simp at this; omega
end Go.Proofs.Ytamhkfnghgbenaa
