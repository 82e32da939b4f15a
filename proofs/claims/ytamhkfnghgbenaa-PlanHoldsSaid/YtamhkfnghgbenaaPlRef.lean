/-
  plan: the reference's Begins, Size and Where.
-/
import Derived.Test.YtamhkfnghgbenaaPlBad
import Derived.Test.YtamhkfnghgbenaaPlSize
import Derived.Test.YtamhkfnghgbenaaPlOf
namespace Go.Proofs.Ytamhkfnghgbenaa
set_option linter.all false
open Go.RowKit

/-- Where the first k sequences begin. -/
def beginsOf (ss : List SeqD) (k : Nat) : List Int := (List.range k).map fun i => posL (ss.take i)
theorem beginsOf_succ (ss : List SeqD) (k : Nat) : beginsOf ss (k + 1) = beginsOf ss k ++ [posL (ss.take k)] := by
  unfold beginsOf; rw [List.range_succ, List.map_append]; rfl
theorem beginsOf_length (ss : List SeqD) (k : Nat) : (beginsOf ss k).length = k := by simp [beginsOf]
theorem beginsOf_get {ss : List SeqD} {k i : Nat} (h : i < k) : (beginsOf ss k)[i]? = some (posL (ss.take i)) := by
  unfold beginsOf; rw [List.getElem?_map, List.getElem?_range h]; rfl

theorem infoI : (Try.prog.info? 3).map (fun i => (i.zero, i.size, i.bytes)) = some (some (.int .i64 0), 1, 8) := by kernel_rfl
/-- Append of one int. -/
theorem wpList_append_one {w : World} {ops : Array Oper} {rest : List Oper} {o : Oper} {a : Act} {Q : Exit → Act → World → Prop} (hgd : o.guard = none) (s x : Operand)
    (ho : o.op = .call { callee := .builtin .append, args := #[s, x], argTypes := #[53, 53] }) (base : Nat) (v : Value) (xs : List Int) (y : Int) (hs : a.eval s = v) (hown : Grow w base 3 .i64 v xs)
    (g : Nat) (hx : a.eval x = .slice (some ⟨g, 0, none⟩) 1 1) (hr : w.cell? ⟨g, 0, none⟩ = some (.int .i64 y)) (hl : xs.length ≤ 1000000) (hbase : base ≤ w.heap.size) (n : Nat) (hn : xs.length + 1 = n)
    (h : ∀ A' c' w', Grow w' base 3 .i64 (.slice A' n c') (xs ++ [y]) → w.grownBy w' v.ownBlock → wpList Try.prog ops Q rest (a.put o.dst (.slice A' n c')) w') : wpList Try.prog ops Q (o :: rest) a w := by
  obtain ⟨i0, hi, hz0, hz1, hz2⟩ := info_parts infoI
  refine wpList_append_ints w hgd s x 53 ho base 3 i0 (.int .i64 0) 8 Try.underlying53 hi hz0 hz1 hz2 rfl .i64 v xs [y] hs hown (some ⟨g, 0, none⟩) 1 1 hx ⟨rfl, fun _ => ⟨g, 0, rfl, fun i x hx => ?_⟩⟩ (by simp only [maxLen]; omega) (by omega) hbase n hn h
  obtain ⟨hi, rfl⟩ := List.getElem?_eq_some_iff.1 hx
  obtain rfl : i = 0 := by simp at hi; exact hi
  exact hr

theorem nGood_eq {ss : List SeqD} {k : Nat} {s : SeqD} (hs : ss[k]? = some s) (hg : Good 1 131072 0 0 ss k) (hn : ¬ (StepD.rule1 ⟨s, k, posL (ss.take k), 131072, 0, 0⟩)) : nGood ss = k ∧ sizeR ss = (0, 15) := by
  have hb : bad 1 131072 0 0 ss = some k := bad_some.2 ⟨s, hs, hg, fun h => hn h.1⟩
  exact ⟨by unfold nGood; rw [hb], by unfold sizeR; rw [hb]⟩
theorem whereR_args {ss : List SeqD} {size hv wd : Int} (ha : ¬ argsOk size hv wd) : whereR ss size hv wd = (0, 2) := by
  unfold whereR; rw [if_neg ha]

/-- What Begins' third result says. -/
def wrongR (ss : List SeqD) : Int := if nGood ss = ss.length then -1 else nGood ss

set_option linter.unusedSimpArgs false
set_option maxRecDepth 100000 in
set_option maxHeartbeats 1600000 in
theorem rbegins_any (w : World) (v : Value) (ss : List SeqD) (h : Seqs w v ss) (hl : ss.length ≤ 100000) : Calls Try.prog 25 #[v] w fun e w' =>
    ∃ A c, e = .returned (.tuple #[.slice A (nGood ss) c, .int .i64 (posL (ss.take (nGood ss))), .int .i64 (wrongR ss)]) ∧ Grow w' w.heap.size 3 .i64 (.slice A (nGood ss) c) (beginsOf ss (nGood ss)) ∧ Below w.heap.size w w' := by
  have HL := Lib.hid hl
  obtain ⟨⟨A, c, hv, hlc, hcm, hat⟩, hwf⟩ := h
  have HAT := Lib.hid hat
  have HWF := Lib.hid hwf
  obtain ⟨n, hn⟩ : ∃ n, ss.length = n := ⟨_, rfl⟩
  rw [hn] at hv hlc
  subst hv
  have HN := Lib.hid hn
  have hnn : n ≤ 100000 := by omega
  clear hat hwf hn hl
  go_enter Try.func25, Try.ntmps25
  go_wp2
  go_loopw [5, 6, 7] (fun u5 u6 u7 wr => ∃ k : Nat, k ≤ n ∧ u6 = .int .i64 (posL (ss.take k)) ∧ u7 = .int .i64 k ∧ ∃ A5 c5, u5 = .slice A5 k c5 ∧ Hid (Good 1 131072 0 0 ss k) ∧ Hid (Grow wr w.heap.size 3 .i64 u5 (beginsOf ss k)) ∧ Hid (Below w.heap.size w wr)) (fun _ _ u7 _ => n - (intOf u7).toNat)
  case atStart => exact ⟨0, Nat.zero_le _, rfl, rfl, _, _, rfl, (fun i s hi => absurd hi (Nat.not_lt_zero _) : Good _ _ _ _ _ _), (Grow.nil _ _ _ _ : Grow _ _ _ _ _ _), (Below.refl _ _ : Below _ _ _)⟩
  case round =>
    obtain ⟨k, hk, rfl, rfl, A5, c5, rfl, HGD, HG, HB⟩ := hrel
    have k0 : (0 : Int) ≤ (k : Int) := by omega
    by_cases hlt : k < n
    · have k1 : (k : Int) < (n : Int) := by omega
      have hxk := List.getElem?_eq_getElem (l := ss) (i := k) (by rw [HN.out]; exact hlt)
      obtain ⟨⟨lit, len, offs⟩, hse⟩ : ∃ s, ss[k]'(by rw [HN.out]; exact hlt) = s := ⟨_, rfl⟩
      have hmem := List.getElem_mem (l := ss) (n := k) (by rw [HN.out]; exact hlt)
      rw [hse] at hxk hmem
      obtain ⟨⟨l1, l2⟩, ⟨l3, l4⟩, -⟩ := HWF.out _ hmem
      obtain ⟨b, off, hA, hcl⟩ := HAT.out (by rw [HN.out]; omega)
      subst hA
      obtain ⟨p0, p1, p2⟩ := hcl k _ hxk
      obtain ⟨hp0, hp1⟩ := Good.pos (by omega) (Nat.le_of_lt (by rw [HN.out]; exact hlt)) HGD.out
      obtain ⟨P, hP⟩ : ∃ P, posL (ss.take k) = P := ⟨_, rfl⟩
      simp only at p0 p1 p2 l1 l2 l3 l4
      have q0 := (HB.out.cell (World.block_lt_of_cell? w _ p0)).trans p0
      have q1 := (HB.out.cell (World.block_lt_of_cell? w _ p1)).trans p1
      have q2 := (HB.out.cell (World.block_lt_of_cell? w _ p2)).trans p2
      have hp : posL (ss.take (k + 1)) = P + lit + len := by rw [posL_take_succ hxk, hP]
      have HPN := Lib.hid hp
      have hsucc := fun ho => HGD.out.succ hxk ho
      have hbad := fun hn => nGood_eq hxk HGD.out hn
      rw [hP] at hp0 hp1 hbad ⊢
      have HSU := Lib.hid hsucc
      have HBD := Lib.hid hbad
      have HP := Lib.hid hP
      clear hsucc hbad hP hp hcl p0 p1 p2 hmem hse hxk
      have hd : decide (w.heap.size ≤ wr.heap.size) = true := by simpa using HB.out.size
      have HBX := Lib.hid (HB.out.alloc HB.out.size (.cells #[.int .i64 lit, .int .i64 len, .int .i64 offs] 60))
      have HBK : Hid (Blk (wr.alloc (.cells #[.int .i64 lit, .int .i64 len, .int .i64 offs] 60)) wr.heap.size 60 #[.int .i64 lit, .int .i64 len, .int .i64 offs]) := (Blk.new wr _ _ : Blk _ _ _ _)
      have hw1 : IntKind.i64.wrap (131072 - P) = 131072 - P := wrap_in _ (by omega) (by omega)
      by_cases hr : StepD.rule1 ⟨⟨lit, len, offs⟩, k, P, 131072, 0, 0⟩
      · obtain ⟨r1, r2, r3, r4⟩ := hr
        simp only at r1 r2 r3 r4
        have HR : Hid (StepD.rule1 ⟨⟨lit, len, offs⟩, k, P, 131072, 0, 0⟩) := (⟨r1, r2, r3, r4⟩ : StepD.rule1 _)
        have hw2 : IntKind.i64.wrap (131072 - P - lit) = 131072 - P - lit := wrap_in _ (by omega) (by omega)
        have hw3 : IntKind.i64.wrap (P + lit) = P + lit := wrap_in _ (by omega) (by omega)
        have hw4 : IntKind.i64.wrap (P + lit + len) = P + lit + len := wrap_in _ (by omega) (by omega)
        go_wp2_with (at_builtin; refine wpList_append_one rfl _ _ rfl w.heap.size (.slice A5 k c5) (beginsOf ss k) P rfl (HG.out.below (((Below.refl wr.heap.size wr).alloc (Nat.le_refl _) _).alloc (by simp) _) (Nat.le_refl _)) (wr.heap.size + 1) (by simp [Act.eval]) (by simp) (by rw [beginsOf_length]; omega) (by have := HB.out.size; simp; omega) (k + 1) (by rw [beginsOf_length]) ?_; intro A6 c6 w6 hg hgr; have HG6 := Lib.hid hg; have HB6 := Lib.hid ((HBX.out.alloc HBX.out.size _).grown hgr (by have := HB.out.size; simp; omega) (fun r hr => (World.ownsRow.lt HG.out r hr).1)); have hbk : Blk w6 wr.heap.size 60 #[.int .i64 lit, .int .i64 len, .int .i64 offs] := (hgr.block wr.heap.size (by simp; omega) (fun e => by have := (World.ownsRow.lt HG.out _ e.symm).2; omega)).trans (HBK.out.below ((Below.refl _ _).alloc (Nat.le_refl _) _) HBK.out.lt); have e0 : w6.cell? ⟨wr.heap.size, 0, none⟩ = some (.int .i64 lit) := (by rw [hbk.cell]; rfl); have e1 : w6.cell? ⟨wr.heap.size, 1, none⟩ = some (.int .i64 len) := (by rw [hbk.cell]; rfl); clear hbk; clear hg hgr)
        go_roundw
        case rel => exact ⟨k + 1, by omega, by rw [HPN.out], by go_num, _, _, rfl, (HSU.out (by unfold okAt stepAt; rw [HP.out]; exact ⟨HR.out, fun h => absurd h (by omega)⟩) : Good _ _ _ _ _ _), (by rw [beginsOf_succ, HP.out]; exact HG6.out : Grow _ _ _ _ _ _), (HB6.out : Below _ _ _)⟩
        case measure => simp [intOf]; omega
      · have hnb := HBD.out hr
        have hwr : wrongR ss = k := by unfold wrongR; rw [hnb.1, if_neg (by rw [HN.out]; omega)]
        have HNB := Lib.hid hnb
        have HWR := Lib.hid hwr
        clear hnb hwr HBD HSU HPN
        have h4 : lit < 0 ∨ (0 ≤ lit ∧ len < 3) ∨ (0 ≤ lit ∧ 3 ≤ len ∧ 131072 - P < lit) ∨ (0 ≤ lit ∧ 3 ≤ len ∧ lit ≤ 131072 - P ∧ IntKind.i64.wrap (131072 - P - lit) = 131072 - P - lit ∧ 131072 - P - lit < len) := by
          by_cases a1 : 0 ≤ lit
          · by_cases a2 : 3 ≤ len
            · by_cases a3 : lit ≤ 131072 - P
              · refine .inr (.inr (.inr ⟨a1, a2, a3, wrap_in _ (by omega) (by omega), ?_⟩))
                apply Int.lt_of_not_ge
                intro a4
                exact hr ⟨a1, a2, a3, a4⟩
              · exact .inr (.inr (.inl ⟨a1, a2, by omega⟩))
            · exact .inr (.inl ⟨a1, by omega⟩)
          · exact .inl (by omega)
        clear hr
        rcases h4 with h4 | ⟨h4, h5⟩ | ⟨h4, h5, h6⟩ | ⟨h4, h5, h6, hw2, h7⟩
        all_goals
          go_wp2
          rw [HNB.out.1, HWR.out, HP.out]
          refine bodyPost_ret (v := .tuple #[.slice A5 k c5, .int .i64 P, .int .i64 k]) (by simp [results, Try.results25, go_sem]) rfl ⟨_, _, rfl, ?_, HBX.out⟩
          exact HG.out.below ((Below.refl wr.heap.size wr).alloc (Nat.le_refl _) _) (Nat.le_refl _)
    · obtain rfl : k = n := by omega
      obtain ⟨hg1, -⟩ := nGood_end (ss := ss) (by rw [HN.out]; exact HGD.out)
      have hwr : wrongR ss = -1 := by unfold wrongR; rw [if_pos hg1]
      rw [HN.out] at hg1
      have HG1 := Lib.hid hg1
      have HWR := Lib.hid hwr
      clear hg1 hwr
      obtain ⟨P, hP⟩ : ∃ P, posL (ss.take k) = P := ⟨_, rfl⟩
      rw [hP]
      have HP := Lib.hid hP
      clear hP
      go_wp2
      rw [HG1.out, HWR.out, HP.out]
      refine bodyPost_ret (v := .tuple #[.slice A5 k c5, .int .i64 P, .int .i64 (-1)]) (by simp [results, Try.results25, go_sem]) rfl ⟨_, _, rfl, HG.out, HB.out⟩
end Go.Proofs.Ytamhkfnghgbenaa
