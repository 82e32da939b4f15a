/-
  plan: Steps yields the steps, one by one.
-/
import Derived.Test.YtamhkfnghgbenaaFnYield
import Derived.Test.YtamhkfnghgbenaaStCell
import Derived.Test.YtamhkfnghgbenaaPlSteps
namespace Go.Proofs.Ytamhkfnghgbenaa
set_option linter.all false
set_option maxRecDepth 100000
open Go.RowKit Go.Shelf

attribute [local go_sem] Oper.semAt_some

theorem infoStepSl : (Try.prog.info? 63).map (fun i => (i.zero, i.size, i.bytes)) = some (some (.slice none 0 0), 1, 24) := by kernel_rfl

theorem take_snoc {α : Type} {xs : List α} {k : Nat} {x : α} (h : xs[k]? = some x) : xs.take k ++ [x] = xs.take (k + 1) := by
  rw [List.take_succ, h]; rfl

set_option maxHeartbeats 1600000 in
theorem all1_steps (w0 : World) (B : Nat) (v : Value) (ss : List SeqD) (m : Nat) (hm : m ≤ ss.length) (hml : m ≤ 1000000) (hI : StRow w0 v (stepsOf 131072 0 0 ss m)) (hB : w0.cell? ⟨B, 0, none⟩ = some v) :
    SeqL Try.prog 45 #[.pointer (some ⟨B, 0, none⟩)] (fun x : StepD => #[.int .i64 x.number, x.val]) (stepsOf 131072 0 0 ss m) (fun k => v.ownBlock = some k) w0 := by
  intro n l J Jx W hn hW hJ hJx hY h0
  have hB' := (hW.cell (World.block_lt_of_cell? _ _ hB)).trans hB
  have hI' : StRow W v (stepsOf 131072 0 0 ss m) := SRow.same hI fun k hk => hW.block k (SRow.lt hI k hk)
  have hsl := stepsOf_length (size := 131072) (hv := 0) (wd := 0) hm
  obtain ⟨A, cap, rfl, hlc, hcm⟩ := SRow.form hI'
  rw [List.length_map, hsl] at hlc
  rw [List.length_map, hsl] at hI' hB'
  simp only [List.length_map, hsl] at hY
  have HI := Lib.hid hI'
  have HY := Lib.hid hY
  have HJ := Lib.hid h0
  have HS := Lib.hid hJ
  have HM := Lib.hid hm
  have HSL := Lib.hid hsl
  have hli : (m : Int) ≤ 9223372036854775807 := by omega
  clear hI hI' hB hY h0 hJ hJx hsl
  obtain ⟨i0, hi, hz0, hz1, hz2⟩ := info_parts infoStep
  refine callsIn_of_wp Try.func45 rfl trivial ?_ rfl
  simp only [Try.ntmps45, List.size_toArray, List.length_cons, List.length_nil, Nat.reduceAdd, Nat.reduceSub, Array.replicate_succ, Array.replicate_zero, List.push_toArray, List.append_toArray, List.nil_append, List.cons_append]
  gi_wp2
  gi_loopw [7] (fun i wr => ∃ k : Nat, k ≤ m ∧ i = .int .i64 k ∧ Hid (J ((stepsOf 131072 0 0 ss m).take k) wr) ∧ Hid (KeptL (fun k => (Value.slice A m cap).ownBlock = some k ∨ W.heap.size ≤ k) W wr)) (fun i _ => m - (intOf i).toNat)
  case atStart => exact ⟨0, Nat.zero_le _, rfl, (by rw [List.take_zero]; exact HJ.out : J _ _), (KeptL.refl _ _ : KeptL _ _ _)⟩
  case round =>
    obtain ⟨k, hk, rfl, HJk, HKk⟩ := hrel
    by_cases hlt : k < m
    · have hxk := List.getElem?_eq_getElem (l := ss) (i := k) (by have := HM.out; omega)
      obtain ⟨s, hse⟩ : ∃ s, ss[k]'(by have := HM.out; omega) = s := ⟨_, rfl⟩
      rw [hse] at hxk
      have hx := stepsOf_get (size := 131072) (hv := 0) (wd := 0) hlt hxk
      obtain ⟨g, rfl, -, hg, c0, c1, c2, c3, c4, c5, c6, c7⟩ := StRow.at_ HI.out HM.out hlt hxk
      replace c0 := HKk.out.cell (p := ⟨g, k * 8, none⟩) (.inl rfl) c0
      replace c1 := HKk.out.cell (p := ⟨g, k * 8 + 1, none⟩) (.inl rfl) c1
      replace c2 := HKk.out.cell (p := ⟨g, k * 8 + 2, none⟩) (.inl rfl) c2
      replace c3 := HKk.out.cell (p := ⟨g, k * 8 + 3, none⟩) (.inl rfl) c3
      replace c4 := HKk.out.cell (p := ⟨g, k * 8 + 4, none⟩) (.inl rfl) c4
      replace c5 := HKk.out.cell (p := ⟨g, k * 8 + 5, none⟩) (.inl rfl) c5
      replace c6 := HKk.out.cell (p := ⟨g, k * 8 + 6, none⟩) (.inl rfl) c6
      replace c7 := HKk.out.cell (p := ⟨g, k * 8 + 7, none⟩) (.inl rfl) c7
      obtain ⟨ps, hps⟩ : ∃ p, posL (ss.take k) = p := ⟨_, rfl⟩
      have hxe : stepAt 131072 0 0 ss k s = ⟨s, k, ps, 131072, 0, 0⟩ := by unfold stepAt; rw [hps]
      rw [hxe] at hx
      rw [hps] at c4
      have HX := Lib.hid hx
      have hsz := HKk.out.size
      have hba : Below wr.heap.size wr (wr.alloc (.cells #[.int .i64 s.lit, .int .i64 s.len, .int .i64 s.off, .int .i64 k, .int .i64 ps, .int .i64 131072, .int .i64 0, .int .i64 0] 71)) := (Below.refl _ _).alloc (Nat.le_refl _) _
      obtain ⟨fn, tmps, assign, body, hy, hR⟩ := HY.out _ _ _ (HS.out _ _ _ HJk.out hsz (hba.mono hsz)) (Nat.le_trans hsz hba.size) (by rw [take_snoc HX.out]; exact List.take_prefix _ _)
      dsimp only at hy
      have HBA := Lib.hid hba
      have k0 : (0 : Int) ≤ (k : Int) := by omega
      have k1 : (k : Int) < (m : Int) := by omega
      clear hx hxe hps hxk hse hba hg
      gi_wp2
      refine ⟨fun _ => by omega, ?_⟩
      refine hR.mono ?_
      rintro e W3 (⟨rfl, hJ3, hk3⟩ | ⟨rfl, hJx3, hk3⟩)
      · rw [take_snoc HX.out] at hJ3
        have HJ3 := Lib.hid hJ3
        have HK3 := Lib.hid ((HKk.out.trans (KeptL.of_below HBA.out)).trans hk3)
        clear hJ3 hk3
        gi_wp2
        go_roundw
        case rel => exact ⟨k + 1, by omega, by simp, HJ3, HK3⟩
        case measure => simp [intOf]; omega
      · rw [take_snoc HX.out] at hJx3
        have HJ3 := Lib.hid hJx3
        clear hJx3 hk3
        gi_wp2
        refine bodyPost_ret (results_none rfl _ _ _) rfl ?_
        exact ⟨⟨_, rfl⟩, .inr ⟨_, List.take_prefix _ _, HJ3.out⟩⟩
    · obtain rfl : k = m := by omega
      gi_wp2
      go_end0
      have := HJk.out
      rw [List.take_of_length_le (by rw [HSL.out]; exact Nat.le_refl _)] at this
      exact ⟨⟨_, rfl⟩, .inl this⟩

theorem all_steps (n : Nat) (A : Option Addr) (len c : Nat) (w : World) :
    CallsIn Fence.wide n Try.prog 40 #[.slice A len c] w fun e w' => e = .returned (.func (.func 45) #[] #[.pointer (some ⟨w.heap.size, 0, none⟩)]) ∧ w' = w.alloc (.cells #[.slice A len c] 63) := by
  refine callsIn_of_wp Try.func40 rfl trivial ?_ rfl
  simp only [Try.ntmps40, List.size_toArray, List.length_cons, List.length_nil, Nat.reduceAdd, Nat.reduceSub, Array.replicate_succ, Array.replicate_zero, List.push_toArray, List.append_toArray, List.nil_append, List.cons_append]
  gi_wp2
  go_ret
  exact ⟨rfl, rfl⟩

set_option maxHeartbeats 1600000 in
theorem steps1_yields (w0 : World) (B : Nat) (v : Value) (ss : List SeqD) (m : Nat) (hm : m ≤ ss.length) (hml : m ≤ 1000000) (hI : StRow w0 v (stepsOf 131072 0 0 ss m)) (hB : w0.cell? ⟨B, 0, none⟩ = some v) :
    SeqL Try.prog 39 #[.pointer (some ⟨B, 0, none⟩)] (fun x : StepD => #[.int .i64 x.pos, .agg #[.int .i64 x.s.lit, .int .i64 x.s.len, .int .i64 x.s.off]]) (stepsOf 131072 0 0 ss m) (fun k => v.ownBlock = some k) w0 := by
  intro n l J Jx W hn hW hJ hJx hY h0
  refine callsIn_wide.2 ((callsIn_wide (n := 20)).1 ?_)
  have hB' := (hW.cell (World.block_lt_of_cell? _ _ hB)).trans hB
  have hI' : StRow W v (stepsOf 131072 0 0 ss m) := SRow.same hI fun k hk => hW.block k (SRow.lt hI k hk)
  have hltB := World.block_lt_of_cell? _ _ hB'
  simp only at hltB
  have hvl := fun k => SRow.lt hI' k
  have hsl := stepsOf_length (size := 131072) (hv := 0) (wd := 0) hm
  obtain ⟨A, cap, rfl, hlc, hcm⟩ := SRow.form hI'
  rw [List.length_map, hsl] at hlc
  rw [List.length_map, hsl] at hI' hB' hvl
  simp only [List.length_map, hsl] at hY
  have HI := Lib.hid hI'
  have HY := Lib.hid hY
  have HJ := Lib.hid h0
  have HS := Lib.hid hJ
  have HSX := Lib.hid hJx
  have HM := Lib.hid hm
  have HVL := Lib.hid hvl
  clear hI hI' hB hY h0 hJ hJx hsl hvl
  obtain ⟨i0, hi, hz0, hz1, hz2⟩ := info_parts infoStep
  refine callsIn_of_wp_marks Try.func39 rfl trivial ?_ rfl
  simp only [Try.ntmps39, List.size_toArray, List.length_cons, List.length_nil, Nat.reduceAdd, Nat.reduceSub, Array.replicate_succ, Array.replicate_zero, List.push_toArray, List.append_toArray, List.nil_append, List.cons_append]
  gi_wp2
  refine wpIn_scope_straight ?_
  gi_wp2
  refine wpIn_label ?_
  gi_wp2
  refine ⟨trivial, ?_⟩
  refine (all_steps 19 A m cap _).mono ?_
  rintro e w1 ⟨rfl, rfl⟩
  obtain ⟨w1, hw1⟩ : ∃ w1, (W.alloc (Obj.cells #[Value.func (Fn.yield l) #[] #[]] 78)) = w1 := ⟨_, rfl⟩
  have hbw : Below W.heap.size W w1 := by rw [← hw1]; exact ((Below.refl _ W).alloc (Nat.le_refl _) _)
  have hyb : w1.cell? ⟨W.heap.size, 0, none⟩ = some (Value.func (Fn.yield l) #[] #[]) := by rw [← hw1]; exact (Boxed.new W 78 (Value.func (Fn.yield l) #[] #[])).cell
  rw [hw1]
  clear hw1
  gi_wp2
  obtain ⟨w2, hw2⟩ : ∃ w2, w1.alloc (Obj.cells #[.slice A m cap] 63) = w2 := ⟨_, rfl⟩
  have hb12 : Below w1.heap.size w1 w2 := by rw [← hw2]; exact (Below.refl _ _).alloc (Nat.le_refl _) _
  have hb2 : Below W.heap.size W w2 := hbw.trans (hb12.mono hbw.size)
  have hBN : w2.cell? ⟨w1.heap.size, 0, none⟩ = some (.slice A m cap) := by rw [← hw2]; exact (Boxed.new w1 63 (.slice A m cap)).cell
  have hylt := World.block_lt_of_cell? _ _ hyb
  simp only at hylt
  have hyb2 := (hb12.cell (p := ⟨W.heap.size, 0, none⟩) hylt).trans hyb
  have hs2 : w1.heap.size < w2.heap.size := by rw [← hw2]; simp
  rw [hw2]
  refine rangeFunc_yieldB (by omega) (gf := 45) (lb := #[.pointer (some ⟨w1.heap.size, 0, none⟩)]) rfl (enters_of Try.func45 (by kernel_rfl) rfl)
    (all1_steps w2 w1.heap.size (.slice A m cap) ss m HM.out hml (SRow.same HI.out fun k hk => hb2.block k (HVL.out k hk)) hBN) (Below.refl _ _) (fun k hk => ?_) (fun _ => rfl)
    (fun pre X => J pre X ∧ X.cell? ⟨W.heap.size, 0, none⟩ = some (Value.func (Fn.yield l) #[] #[]))
    (fun c pre X => c = .exit 0 ∧ Jx pre X) ?_ ?_ ?_ ?round ?done ?stop
  · have := HVL.out k hk
    have := hb2.size
    omega
  · rintro pre X Y ⟨h1, h2⟩ hX hXY
    exact ⟨HS.out _ _ _ h1 (by omega) (hXY.mono (by omega)), (hXY.cell (p := ⟨W.heap.size, 0, none⟩) (by show W.heap.size < _; omega)).trans h2⟩
  · rintro c pre X Y ⟨h1, h2⟩ hX hXY
    exact ⟨h1, HSX.out _ _ _ h2 (by omega) (hXY.mono (by omega))⟩
  · exact ⟨HS.out _ _ _ HJ.out (Nat.le_refl _) hb2, hyb2⟩
  case round =>
    rintro l' pre ⟨⟨lit, len, off⟩, num, pos, sz, hv, wd⟩ W0' K hl' hlW hIp hpre hK
    gi_wp2
    refine ⟨(Below.refl _ _).alloc (Nat.le_refl _) _, ?_⟩
    rintro X hXs hXk ⟨h1, h2⟩
    have hbx : Blk X W0'.heap.size 71 #[.int .i64 lit, .int .i64 len, .int .i64 off, .int .i64 num, .int .i64 pos, .int .i64 sz, .int .i64 hv, .int .i64 wd] := (hXk.block W0'.heap.size (by omega) (by simp)).trans (Blk.new W0' _ _)
    have q0 : X.cell? ⟨W0'.heap.size, 0, none⟩ = some (.int .i64 lit) := by rw [hbx.cell]; rfl
    have q1 : X.cell? ⟨W0'.heap.size, 1, none⟩ = some (.int .i64 len) := by rw [hbx.cell]; rfl
    have q2 : X.cell? ⟨W0'.heap.size, 2, none⟩ = some (.int .i64 off) := by rw [hbx.cell]; rfl
    have q4 : X.cell? ⟨W0'.heap.size, 4, none⟩ = some (.int .i64 pos) := by rw [hbx.cell]; rfl
    rw [World.size_alloc] at hXs
    have hsz2 := hb2.size
    obtain ⟨fn, tmps, assign, body, hy, hR⟩ := HY.out _ _ X h1 (by omega) hpre
    dsimp only at hy
    have H2 := Lib.hid h2
    have HXS := Lib.hid hXs
    clear hpre hXs hXk hbx h1 hIp
    gi_wp2
    refine (show RoundIn (Fence.wide.inRound l') 17 Try.prog l fn tmps assign body X _ from ⟨trivial, fun c cs _ => hR.2 c cs (room_wide _)⟩).mono ?_
    rintro e W3 (⟨rfl, h4, h5⟩ | ⟨rfl, h4, h5⟩)
    · have H4 := Lib.hid h4
      have H5 := Lib.hid h5
      clear h4 h5 h2
      gi_wp2
      exact ⟨H5.out.mono fun k hk => hk.imp id fun hk => by omega, H4.out, H5.out.cell (p := ⟨W.heap.size, 0, none⟩) (.inr (Nat.le_refl _)) H2.out⟩
    · have H4 := Lib.hid h4
      have H5 := Lib.hid h5
      clear h4 h5 h2
      gi_wp2
      exact ⟨H5.out.mono fun k hk => by omega, rfl, H4.out⟩
  case done =>
    rintro D W' hD hW' ⟨h1, h2⟩ hK
    refine ⟨by simp, .inl ⟨_, _, rfl, run_takeDeferred hK, ?_⟩⟩
    refine ⟨_, results_none rfl _ _ _, ⟨_, rfl⟩, .inl ?_⟩
    exact HS.out _ _ _ h1 (by omega) (belowK_put W' D _ (by omega))
  case stop =>
    rintro D c pre W' hD hW' hpre ⟨rfl, h1⟩ hK
    gi_wp2
    refine ⟨by simp, .inl ⟨_, _, rfl, run_takeDeferred hK, ?_⟩⟩
    refine ⟨_, results_none rfl _ _ _, ⟨_, rfl⟩, .inr ⟨_, hpre, ?_⟩⟩
    exact HSX.out _ _ _ h1 (by omega) (belowK_put W' D _ (by omega))
end Go.Proofs.Ytamhkfnghgbenaa
