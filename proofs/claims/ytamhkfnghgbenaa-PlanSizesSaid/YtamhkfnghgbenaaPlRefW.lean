/-
  plan: the reference's Size and Where.
-/
import Derived.Test.YtamhkfnghgbenaaPlRef
namespace Go.Proofs.Ytamhkfnghgbenaa
set_option linter.all false
open Go.RowKit

theorem wrong_cases (ss : List SeqD) : (wrongR ss = -1 ∧ sizeR ss = (posL ss, 0) ∧ nGood ss = ss.length) ∨ (∃ k : Nat, wrongR ss = k ∧ sizeR ss = (0, 15)) := by
  cases hb : bad 1 131072 0 0 ss with
  | none =>
    have h1 := nGood_end (bad_none.1 hb)
    exact .inl ⟨by unfold wrongR; rw [if_pos h1.1], h1.2, h1.1⟩
  | some k =>
    obtain ⟨s, hs, hg, hn⟩ := bad_some.1 hb
    have h1 := nGood_eq hs hg (fun h => hn ⟨h, fun h2 => absurd h2 (by omega)⟩)
    refine .inr ⟨k, ?_, h1.2⟩
    have := (List.getElem?_eq_some_iff.1 hs).1
    unfold wrongR; rw [h1.1, if_neg (by omega)]

theorem rsize_any (w : World) (v : Value) (ss : List SeqD) (h : Seqs w v ss) (hl : ss.length ≤ 100000) : Calls Try.prog 13 #[v] w fun e w' =>
    e = .returned (.tuple #[.int .i64 (sizeR ss).1, .int .i64 (sizeR ss).2]) ∧ Below w.heap.size w w' := by
  have HL := Lib.hid hl
  have HS := Lib.hid h
  obtain ⟨⟨A, c, hv, hlc, hcm, -⟩, -⟩ := h
  subst hv
  obtain ⟨n, hn⟩ : ∃ n, nGood ss = n := ⟨_, rfl⟩
  have HN := Lib.hid hn
  rcases wrong_cases ss with ⟨hw, hs, hg⟩ | ⟨k, hw, hs⟩
  · have HW := Lib.hid hw
    rw [hs]
    have hp : posL (ss.take n) = posL ss := by rw [← hn, hg, List.take_length]
    have HP := Lib.hid hp
    obtain ⟨P, hP⟩ : ∃ P, posL ss = P := ⟨_, rfl⟩
    have HP2 := Lib.hid hP
    rw [hP]
    clear hw hs hg hp hn hP
    go_enter Try.func13, Try.ntmps13
    go_wp2_with (go_at_call 25; refine (rbegins_any _ _ ss HS.out HL.out).mono ?_; rw [HN.out, HW.out, HP.out, HP2.out]; rintro e w4 ⟨A4, c4, rfl, -, hb⟩; have HB4 := Lib.hid hb; clear hb)
    refine bodyPost_ret (v := .tuple #[.int .i64 P, .int .i64 0]) (by simp [results, Try.results13, go_sem]) rfl ⟨rfl, HB4.out⟩
  · have HW := Lib.hid hw
    rw [hs]
    have hk : (0 : Int) ≤ (k : Int) := by omega
    obtain ⟨P, hP⟩ : ∃ P, posL (ss.take n) = P := ⟨_, rfl⟩
    have HP := Lib.hid hP
    clear hw hs hn hP
    go_enter Try.func13, Try.ntmps13
    go_wp2_with (go_at_call 25; refine (rbegins_any _ _ ss HS.out HL.out).mono ?_; rw [HN.out, HW.out, HP.out]; rintro e w4 ⟨A4, c4, rfl, -, hb⟩; have HB4 := Lib.hid hb; clear hb)
    refine bodyPost_ret (v := .tuple #[.int .i64 0, .int .i64 15]) (by simp [results, Try.results13, go_sem]) rfl ⟨rfl, HB4.out⟩

set_option linter.unusedSimpArgs false
set_option maxRecDepth 100000 in
set_option maxHeartbeats 3200000 in
theorem rwhere_any (w : World) (v : Value) (ss : List SeqD) (size hv wd : Int) (h : Seqs w v ss) (hl : ss.length ≤ 100000) (hvb : hv ≤ 9223372036854775807) : Calls Try.prog 15 #[v, .int .i64 size, .int .i64 hv, .int .i64 wd] w fun e w' =>
    e = .returned (.tuple #[.int .i64 (whereR ss size hv wd).1, .int .i64 (whereR ss size hv wd).2]) ∧ Below w.heap.size w w' := by
  obtain ⟨⟨A, c, hv, hlc, hcm, hat⟩, hwf⟩ := h
  have HAT := Lib.hid hat
  have HWF := Lib.hid hwf
  obtain ⟨n, hn⟩ : ∃ n, ss.length = n := ⟨_, rfl⟩
  rw [hn] at hv hlc
  subst hv
  have HN := Lib.hid hn
  have hnn : n ≤ 100000 := by omega
  clear hat hwf hn hl
  by_cases ha : argsOk size hv wd
  · have HA := Lib.hid ha
    obtain ⟨a1, a2, a3, a4, a5⟩ := ha
    go_enter Try.func15, Try.ntmps15
    go_wp2
    generalize decide (size < 0) = d0
    generalize decide (hv < 0) = d1
    generalize decide (131072 < size) = d2
    generalize decide (wd < 1) = d3
    generalize decide (134217728 < wd) = d4
    go_loopw [10, 11] (fun u6 u7 wr => ∃ k : Nat, k ≤ n ∧ u6 = .int .i64 (posL (ss.take k)) ∧ u7 = .int .i64 k ∧ Hid (Good 2 size hv wd ss k) ∧ Hid (Below w.heap.size w wr)) (fun _ u7 _ => n - (intOf u7).toNat)
    case atStart => exact ⟨0, Nat.zero_le _, rfl, rfl, (fun i s hi => absurd hi (Nat.not_lt_zero _) : Good _ _ _ _ _ _), (Below.refl _ _ : Below _ _ _)⟩
    case round =>
      obtain ⟨k, hk, rfl, rfl, HGD, HB⟩ := hrel
      have k0 : (0 : Int) ≤ (k : Int) := by omega
      by_cases hlt : k < n
      · have k1 : (k : Int) < (n : Int) := by omega
        have hxk := List.getElem?_eq_getElem (l := ss) (i := k) (by rw [HN.out]; exact hlt)
        obtain ⟨⟨lit, len, offs⟩, hse⟩ : ∃ s, ss[k]'(by rw [HN.out]; exact hlt) = s := ⟨_, rfl⟩
        have hmem := List.getElem_mem (l := ss) (n := k) (by rw [HN.out]; exact hlt)
        rw [hse] at hxk hmem
        obtain ⟨⟨l1, l2⟩, ⟨l3, l4⟩, ⟨l5, l6⟩⟩ := HWF.out _ hmem
        obtain ⟨b, off, hA, hcl⟩ := HAT.out (by rw [HN.out]; omega)
        subst hA
        obtain ⟨p0, p1, p2⟩ := hcl k _ hxk
        obtain ⟨hp0, hp1⟩ := Good.pos a1 (Nat.le_of_lt (by rw [HN.out]; exact hlt)) HGD.out
        obtain ⟨P, hP⟩ : ∃ P, posL (ss.take k) = P := ⟨_, rfl⟩
        simp only at p0 p1 p2 l1 l2 l3 l4 l5 l6
        have q0 := (HB.out.cell (World.block_lt_of_cell? w _ p0)).trans p0
        have q1 := (HB.out.cell (World.block_lt_of_cell? w _ p1)).trans p1
        have q2 := (HB.out.cell (World.block_lt_of_cell? w _ p2)).trans p2
        have hp : posL (ss.take (k + 1)) = P + lit + len := by rw [posL_take_succ hxk, hP]
        have HPN := Lib.hid hp
        have hsucc := fun ho => HGD.out.succ hxk ho
        have hbad := fun hn => whereR_eq HA.out hxk HGD.out hn
        rw [hP] at hp0 hp1 hbad ⊢
        have HSU := Lib.hid hsucc
        have HBD := Lib.hid hbad
        have HP := Lib.hid hP
        clear hsucc hbad hP hp hcl p0 p1 p2 hmem hse hxk
        have HBX := Lib.hid (HB.out.alloc HB.out.size (.cells #[.int .i64 lit, .int .i64 len, .int .i64 offs] 60))
        have hw1 : IntKind.i64.wrap (size - P) = size - P := wrap_in _ (by omega) (by omega)
        by_cases hr : StepD.rule1 ⟨⟨lit, len, offs⟩, k, P, size, hv, wd⟩
        · obtain ⟨r1, r2, r3, r4⟩ := hr
          simp only at r1 r2 r3 r4
          have HR : Hid (StepD.rule1 ⟨⟨lit, len, offs⟩, k, P, size, hv, wd⟩) := (⟨r1, r2, r3, r4⟩ : StepD.rule1 _)
          have hw2 : IntKind.i64.wrap (size - P - lit) = size - P - lit := wrap_in _ (by omega) (by omega)
          have hw3 : IntKind.i64.wrap (P + lit) = P + lit := wrap_in _ (by omega) (by omega)
          have hw4 : IntKind.i64.wrap (P + lit + len) = P + lit + len := wrap_in _ (by omega) (by omega)
          by_cases hr2 : StepD.rule2 ⟨⟨lit, len, offs⟩, k, P, size, hv, wd⟩
          · have HR2 := Lib.hid hr2
            obtain ⟨r5, r6, r7⟩ := hr2
            simp only at r5 r6 r7
            have hw5 : IntKind.i64.wrap (offs - P) = offs - P := wrap_in _ (by omega) (by omega)
            have hw6 : IntKind.i64.wrap (offs - P - lit) = offs - P - lit := wrap_in _ (by omega) (by omega)
            have r8 : offs - P - lit ≤ hv := by omega
            go_wp2
            go_roundw
            case rel => exact ⟨k + 1, by omega, by rw [HPN.out], by go_num, (HSU.out (by unfold okAt stepAt; rw [HP.out]; exact ⟨HR.out, fun _ => HR2.out⟩) : Good _ _ _ _ _ _), (HBX.out : Below _ _ _)⟩
            case measure => simp [intOf]; omega
          · have hnb := HBD.out (fun h => hr2 h.2)
            have HNB := Lib.hid hnb
            clear hnb HBD HSU HPN
            have h3 : offs < 1 ∨ (1 ≤ offs ∧ wd < offs) ∨ (1 ≤ offs ∧ offs ≤ wd ∧ IntKind.i64.wrap (offs - P) = offs - P ∧ IntKind.i64.wrap (offs - P - lit) = offs - P - lit ∧ hv < offs - P - lit) := by
              by_cases b1 : 1 ≤ offs
              · by_cases b2 : offs ≤ wd
                · refine .inr (.inr ⟨b1, b2, wrap_in _ (by omega) (by omega), wrap_in _ (by omega) (by omega), ?_⟩)
                  apply Int.lt_of_not_ge
                  intro b4
                  exact hr2 ⟨b1, b2, by simp only; omega⟩
                · exact .inr (.inl ⟨b1, by omega⟩)
              · exact .inl (by omega)
            clear hr2
            rcases h3 with h3 | ⟨h3, h4⟩ | ⟨h3, h4, hw5, hw6, h5⟩
            all_goals
              go_wp2
              rw [HNB.out]
              refine bodyPost_ret (v := .tuple #[.int .i64 k, .int .i64 15]) (by simp [results, Try.results15, go_sem]) rfl ⟨rfl, HBX.out⟩
        · have hnb := HBD.out (fun h => hr h.1)
          have HNB := Lib.hid hnb
          clear hnb HBD HSU HPN
          have h4 : lit < 0 ∨ (0 ≤ lit ∧ len < 3) ∨ (0 ≤ lit ∧ 3 ≤ len ∧ size - P < lit) ∨ (0 ≤ lit ∧ 3 ≤ len ∧ lit ≤ size - P ∧ IntKind.i64.wrap (size - P - lit) = size - P - lit ∧ size - P - lit < len) := by
            by_cases a1 : 0 ≤ lit
            · by_cases a2 : 3 ≤ len
              · by_cases a3 : lit ≤ size - P
                · refine .inr (.inr (.inr ⟨a1, a2, a3, wrap_in _ (by omega) (by omega), ?_⟩))
                  apply Int.lt_of_not_ge
                  intro a4
                  exact hr ⟨a1, a2, a3, a4⟩
                · exact .inr (.inr (.inl ⟨a1, a2, by omega⟩))
              · exact .inr (.inl ⟨a1, by omega⟩)
            · exact .inl (by omega)
          clear hr
          rcases h4 with h4 | ⟨h4, h5⟩ | ⟨h4, h5, h6⟩ | ⟨h4, h5, h6, hw2, h7⟩
          all_goals
            go_wp2
            rw [HNB.out]
            refine bodyPost_ret (v := .tuple #[.int .i64 k, .int .i64 15]) (by simp [results, Try.results15, go_sem]) rfl ⟨rfl, HBX.out⟩
      · obtain rfl : k = n := by omega
        have HWE := Lib.hid (whereR_end HA.out (by rw [HN.out]; exact HGD.out))
        obtain ⟨P, hP⟩ : ∃ P, posL (ss.take k) = P := ⟨_, rfl⟩
        rw [hP]
        clear hP
        go_wp2
        rw [HWE.out]
        refine bodyPost_ret (v := .tuple #[.int .i64 0, .int .i64 0]) (by simp [results, Try.results15, go_sem]) rfl ⟨rfl, HB.out⟩
  · have HWA := Lib.hid (whereR_args ha (ss := ss))
    have h5 : size < 0 ∨ (0 ≤ size ∧ hv < 0) ∨ (0 ≤ size ∧ 0 ≤ hv ∧ 131072 < size) ∨ (0 ≤ size ∧ 0 ≤ hv ∧ size ≤ 131072 ∧ wd < 1) ∨ (0 ≤ size ∧ 0 ≤ hv ∧ size ≤ 131072 ∧ 1 ≤ wd ∧ 134217728 < wd) := by
      unfold argsOk at ha; omega
    clear ha
    rcases h5 with h1 | ⟨h1, h2⟩ | ⟨h1, h2, h3⟩ | ⟨h1, h2, h3, h4⟩ | ⟨h1, h2, h3, h4, h5⟩
    all_goals
      go_enter Try.func15, Try.ntmps15
      go_wp2
      rw [HWA.out]
      refine bodyPost_ret (v := .tuple #[.int .i64 0, .int .i64 2]) (by simp [results, Try.results15, go_sem]) rfl ⟨rfl, Below.refl _ _⟩
end Go.Proofs.Ytamhkfnghgbenaa
