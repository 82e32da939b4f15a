/-
  plan: the reference's Same.
-/
import Derived.Test.YtamhkfnghgbenaaPlRef
import Derived.Laws.StructEq
namespace Go.Proofs.Ytamhkfnghgbenaa
set_option linter.all false
open Go.RowKit

theorem run_neq_seq (W : World) (a b : SeqD) : (binOp .neq 60 (.agg #[.int .i64 a.lit, .int .i64 a.len, .int .i64 a.off]) (.agg #[.int .i64 b.lit, .int .i64 b.len, .int .i64 b.off])).run Try.prog W = .ok (.bool (!decide (a = b))) W := by
  rw [run_neq_struct, run_equalIn_struct W 9999 60 _ _ (by kernel_rfl) (by kernel_rfl)]
  have hf : ((Try.prog.fieldsOf 60).toList.map fun f => (f.name, f.type, f.offset)) = [("Lit", 3, 0), ("Len", 3, 1), ("Off", 3, 2)] := by kernel_rfl
  obtain ⟨fs, hfs⟩ : ∃ fs, (Try.prog.fieldsOf 60).toList = fs := ⟨_, rfl⟩
  rw [hfs] at hf ⊢
  have hi : Try.prog.underlying 3 = some (.int .i64) := Try.underlying3
  rcases fs with _ | ⟨f0, _ | ⟨f1, _ | ⟨f2, _ | ⟨f3, fs⟩⟩⟩⟩
  case cons.cons.cons.nil =>
    simp only [List.map_cons, List.map_nil, List.cons.injEq, Prod.mk.injEq, and_true] at hf
    obtain ⟨⟨n0, t0, o0⟩, ⟨n1, t1, o1⟩, ⟨n2, t2, o2⟩⟩ := hf
    obtain ⟨la, na, oa⟩ := a
    obtain ⟨lb, nb, ob⟩ := b
    simp [Op.eqFields, n0, t0, o0, n1, t1, o1, n2, t2, o2, part, go_sem, hi]
    by_cases h1 : la = lb <;> by_cases h2 : na = nb <;> by_cases h3 : oa = ob <;> simp [h1, h2, h3]
  all_goals simp at hf
theorem run_guard_seq (W : World) (x y : Operand) (a b : SeqD) : (eqGuard .neq 60 x y (.agg #[.int .i64 a.lit, .int .i64 a.len, .int .i64 a.off]) (.agg #[.int .i64 b.lit, .int .i64 b.len, .int .i64 b.off])).run Try.prog W = .ok () W :=
  run_eqGuard_agg W _ _ _ _ _ _ (by kernel_rfl)

set_option linter.unusedSimpArgs false
set_option maxRecDepth 100000 in
set_option maxHeartbeats 1600000 in
theorem same_any (w : World) (va vb : Value) (xs ys : List SeqD) (h1 : Seqs w va xs) (h2 : Seqs w vb ys) (hl : xs.length ≤ 100000) : Calls Try.prog 24 #[va, vb] w fun e w' =>
    e = .returned (.bool (decide (xs = ys))) ∧ Below w.heap.size w w' := by
  obtain ⟨⟨A, c, hv, hlc, hcm, hat⟩, -⟩ := h1
  obtain ⟨⟨A2, c2, hv2, hlc2, hcm2, hat2⟩, -⟩ := h2
  have HAT := Lib.hid hat
  have HAT2 := Lib.hid hat2
  obtain ⟨n, hn⟩ : ∃ n, xs.length = n := ⟨_, rfl⟩
  obtain ⟨m, hm⟩ : ∃ n, ys.length = n := ⟨_, rfl⟩
  rw [hn] at hv hlc hl
  rw [hm] at hv2 hlc2
  subst hv hv2
  have HN := Lib.hid hn
  have HM := Lib.hid hm
  by_cases hnm : n = m
  · subst hnm
    clear hat hat2 hn hm
    go_enter Try.func24, Try.ntmps24
    go_wp2
    go_loopw [5] (fun u5 wr => ∃ k : Nat, k ≤ n ∧ u5 = .int .i64 k ∧ Hid (∀ i < k, xs[i]? = ys[i]?) ∧ Hid (∃ m, wr = w.drewN m)) (fun u7 _ => n - (intOf u7).toNat)
    case atStart => exact ⟨0, Nat.zero_le _, rfl, (fun i hi => absurd hi (Nat.not_lt_zero _) : ∀ i < 0, _), (⟨0, rfl⟩ : ∃ m, w = w.drewN m)⟩
    case round =>
      obtain ⟨k, hk, rfl, HE, HW⟩ := hrel
      have k0 : (0 : Int) ≤ (k : Int) := by omega
      by_cases hlt : k < n
      · have k1 : (k : Int) < (n : Int) := by omega
        have hxk := List.getElem?_eq_getElem (l := xs) (i := k) (by rw [HN.out]; exact hlt)
        obtain ⟨⟨lit, len, offs⟩, hse⟩ : ∃ s, xs[k]'(by rw [HN.out]; exact hlt) = s := ⟨_, rfl⟩
        rw [hse] at hxk
        have hyk := List.getElem?_eq_getElem (l := ys) (i := k) (by rw [HM.out]; exact hlt)
        obtain ⟨⟨lit2, len2, offs2⟩, hse2⟩ : ∃ s, ys[k]'(by rw [HM.out]; exact hlt) = s := ⟨_, rfl⟩
        rw [hse2] at hyk
        obtain ⟨b, off, hA, hcl⟩ := HAT.out (by rw [HN.out]; omega)
        obtain ⟨b2, off2, hA2, hcl2⟩ := HAT2.out (by rw [HM.out]; omega)
        subst hA hA2
        obtain ⟨p0, p1, p2⟩ := hcl k _ hxk
        obtain ⟨q0, q1, q2⟩ := hcl2 k _ hyk
        obtain ⟨mm, rfl⟩ := HW.out
        have HXK := Lib.hid hxk
        have HYK := Lib.hid hyk
        simp only at p0 p1 p2 q0 q1 q2
        clear hxk hyk hse hse2 hcl hcl2
        have hng := fun W x y => run_guard_seq W x y ⟨lit, len, offs⟩ ⟨lit2, len2, offs2⟩
        have hne := fun W => run_neq_seq W ⟨lit, len, offs⟩ ⟨lit2, len2, offs2⟩
        simp only at hng hne
        by_cases he : (⟨lit, len, offs⟩ : SeqD) = ⟨lit2, len2, offs2⟩
        · have HEQ := Lib.hid he
          have he2 : decide ((⟨lit, len, offs⟩ : SeqD) = ⟨lit2, len2, offs2⟩) = true := by simpa using he
          rw [he2] at hne
          simp only [Bool.not_true] at hne
          clear he he2
          go_wp2_with fail
          go_quiet (fail)
          go_wp2
          go_roundw
          case rel => exact ⟨k + 1, by omega, by go_num, (fun i hi => by
            rcases Nat.lt_or_ge i k with h1 | h1
            · exact HE.out i h1
            · obtain rfl : i = k := by omega
              rw [HXK.out, HYK.out, HEQ.out] : ∀ i < k + 1, xs[i]? = ys[i]?), (⟨mm + nq, by simp⟩ : ∃ m, _)⟩
          case measure => simp [intOf]; omega
        · have HNE := Lib.hid he
          have he2 : decide ((⟨lit, len, offs⟩ : SeqD) = ⟨lit2, len2, offs2⟩) = false := by simpa using he
          rw [he2] at hne
          simp only [Bool.not_false] at hne
          clear he he2
          go_wp2_with fail
          go_quiet (fail)
          go_wp2
          go_ret
          have hd : decide (xs = ys) = false := by
            rw [decide_eq_false_iff_not]
            rintro rfl
            have h1 := HXK.out
            rw [HYK.out] at h1
            exact HNE.out (Option.some.inj h1).symm
          exact ⟨by rw [hd]; rfl, below_drewN (below_drewN (Below.refl _ _) _) _⟩
      · obtain rfl : k = n := by omega
        have hd : decide (xs = ys) = true := by
          rw [decide_eq_true_iff]
          apply List.ext_getElem?
          intro i
          rcases Nat.lt_or_ge i k with h1 | h1
          · exact HE.out i h1
          · rw [List.getElem?_eq_none (by rw [HN.out]; exact h1), List.getElem?_eq_none (by rw [HM.out]; exact h1)]
        have HD := Lib.hid hd
        clear hd
        obtain ⟨mm, rfl⟩ := HW.out
        go_wp2
        go_ret
        exact ⟨by rw [HD.out]; rfl, below_drewN (Below.refl _ _) _⟩
  · have hd : decide (xs = ys) = false := by
      rw [decide_eq_false_iff_not]
      rintro rfl
      exact hnm (hn.symm.trans hm)
    have hnm2 : ¬ (n : Int) = (m : Int) := by omega
    rw [hd]
    clear hat hat2 hn hm hd
    go_enter Try.func24, Try.ntmps24
    go_wp2
    go_ret
    exact ⟨rfl, Below.refl _ _⟩
end Go.Proofs.Ytamhkfnghgbenaa
