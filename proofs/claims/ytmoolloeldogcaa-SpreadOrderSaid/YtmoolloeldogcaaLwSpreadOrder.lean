/-
  SpreadOrder: the law's walk.
-/
import Derived.Test.YtmoolloeldogcaaSp08
import Derived.Test.YtmoolloeldogcaaArgs
namespace Go.Proofs.Ytmoolloeldogcaa
open Go.RowKit

theorem rares_nil {xs : List Int} (h : ∀ x ∈ xs, 0 ≤ x) : rares xs = [] := by
  apply List.eq_nil_iff_forall_not_mem.2
  intro s hs
  obtain ⟨i, -, hi⟩ := mem_rares.1 hs
  have := h _ (List.mem_of_getElem? hi)
  omega
theorem flat_sorted : ∀ (n : Nat) (xs : List Int), ((xs.zipIdx n).flatMap fun p => List.replicate p.1.toNat (p.2 : Int)).Pairwise (· ≤ ·) ∧ ∀ s ∈ ((xs.zipIdx n).flatMap fun p => List.replicate p.1.toNat (p.2 : Int)), (n : Int) ≤ s
  | _, [] => by simp
  | n, x :: xs => by
    obtain ⟨h1, h2⟩ := flat_sorted (n + 1) xs
    rw [List.zipIdx_cons, List.flatMap_cons]
    refine ⟨List.pairwise_append.2 ⟨?_, h1, fun a ha b hb => ?_⟩, fun s hs => ?_⟩
    · rw [List.pairwise_replicate]; right; exact Int.le_refl _
    · have := (List.mem_replicate.1 ha).2
      have := h2 b hb
      simp at *; omega
    · rcases List.mem_append.1 hs with hs | hs
      · have := (List.mem_replicate.1 hs).2
        simp at this; omega
      · have := h2 s hs
        omega
theorem others_sorted (xs : List Int) : (others xs).Pairwise (· ≤ ·) := (flat_sorted 0 xs).1
theorem cnt_full {m k : Nat} : cnt m (2 ^ m) k = k := by
  induction k with
  | zero => rfl
  | succ k ih => rw [cnt_succ, ih, if_pos (va_lt m k)]
/-- Without rare symbols the k-th visited index has the k-th symbol. -/
theorem IsSpread.order {m : Nat} {xs l : List Int} (h : IsSpread m xs l) (hr : rares xs = []) {k : Nat} (hk : k < 2 ^ m) : l[va m k]? = (others xs)[k]? := by
  have e : freeOf m xs = 2 ^ m := by unfold freeOf; rw [hr]; simp
  have := h.free k hk (by rw [e]; exact va_lt m k)
  rwa [e, cnt_full] at this

set_option maxHeartbeats 1600000 in
theorem spreadOrder_walk (log : Int) (v : Value) (xs : List Int) (_ : (Lit.int .i64 log).wf = true) {w : World} (hI : Ints w .i64 v xs ∧ ∀ z ∈ xs, (Lit.int .i64 z).wf = true) :
    Calls Try.prog 6 #[.agg #[.int .i64 log, v]] w fun e w' => e = .returned (.bool true) ∧ Below w.heap.size w w' := by
  obtain ⟨hI, hwf⟩ := hI
  have HW := Lib.hid (wfAll_i64 hwf)
  have HI := Lib.hid hI
  obtain ⟨A, n, c, rfl, hc, hmx, hx⟩ := hI.get
  have HX := Lib.hid hx
  clear hx hwf hI
  have hb0 : ∀ o, Below w.heap.size w (w.alloc o) := fun o => (Below.refl _ w).alloc (Nat.le_refl _) o
  have HB0 := Lib.hid hb0
  clear hb0
  by_cases h6 : 600 < (n : Int)
  · go_enter Try.func6, Try.ntmps6
    go_wp2_with (go_at_call 11; refine (known_any _).mono ?_; rintro e w2 ⟨rfl, hb⟩; have HB := Lib.hid ((HB0.out _).trans (hb.mono (by simp))); clear hb)
    go_ret
    exact ⟨rfl, HB.out⟩
  by_cases hv : Valid log xs 256 9
  · obtain ⟨m, hm, rfl, hall, hge⟩ := valid_facts hv
    have HV := Lib.hid hv
    have HALL := Lib.hid hall
    have hN := (step_le ⟨m, hm⟩).2.2
    simp only at hN
    obtain ⟨N, hNe⟩ : ∃ N, 2 ^ m = N := ⟨_, rfl⟩
    rw [hNe] at hN
    have hN0 : 0 < N := by rw [← hNe]; exact pow_pos2 m
    have hpow : (2 : Int) ^ m = (N : Int) := by rw [← hNe, Int.natCast_pow]; rfl
    have HNE := Lib.hid hNe
    have HPOW := Lib.hid hpow
    have m0 : (0 : Int) ≤ (m : Int) := by omega
    clear hv hall hNe hpow hge
    go_enter Try.func6, Try.ntmps6
    go_wp2_with fail
    refine (may_any m _ xs 256 9 _ (HI.out.alloc _)).mono ?_
    rw [chk_0 HV.out]
    rintro e w1 ⟨rfl, hb⟩
    have HB1 := Lib.hid ((HB0.out _).trans (hb.mono (by simp)))
    have HR1 := Lib.hid ((Blk.new w 24 #[.int .i64 m, .slice A n c]).below hb (by simp))
    clear hb
    obtain ⟨c0, c1, -, -⟩ := HR1.out.two
    go_wp2
    go_loop [3] (fun i => ∃ k : Nat, k ≤ n ∧ i = .int .i64 k ∧ Hid (∀ y ∈ xs.take k, 0 ≤ y)) (fun i => n - (intOf i).toNat)
    case atStart => exact ⟨0, Nat.zero_le _, rfl, fun y hy => by simp at hy⟩
    case round =>
      obtain ⟨k, hk, rfl, HNN⟩ := hrel
      by_cases hlt : k < n
      · obtain ⟨b, off, x, rfl, hb, cx, EX⟩ := HX.out.at_ hlt
        replace cx := (HB1.out.cell hb).trans cx
        have h0 : (0 : Int) ≤ (k : Int) := by omega
        have h0' : (k : Int) < (n : Int) := by omega
        by_cases hx : x < 0
        · go_wp2_with (go_at_call 11; refine (known_any _).mono ?_; rintro e w3 ⟨rfl, hb⟩; have HB := Lib.hid (HB1.out.trans (hb.mono HB1.out.size)); clear hb)
          go_ret
          exact ⟨rfl, HB.out⟩
        · have HN1 : Hid (∀ y ∈ xs.take (k + 1), 0 ≤ y) := (by
            intro y hy
            rw [List.take_add_one, EX.out] at hy
            simp at hy
            rcases hy with hy | hy
            · exact HNN.out y hy
            · omega : ∀ y ∈ xs.take (k + 1), 0 ≤ y)
          go_wp2
          go_round
          case rel => exact ⟨k + 1, by omega, by go_num, HN1⟩
          case measure => simp [intOf]; omega
      · obtain rfl : k = n := by omega
        have hk2 := HNN.out
        rw [List.take_of_length_le (by rw [HX.out.1]; omega)] at hk2
        have hr := rares_nil hk2
        have HRN := Lib.hid hr
        clear hk2 hr
        go_wp2_with fail
        refine (spread_ok m _ xs _ (HI.out.below HB1.out (Nat.le_refl _)) HW.out hm HV.out HALL.out).mono ?_
        rintro e w2 ⟨sv, l, rfl, ⟨g, t, rfl, hg, hk3⟩, hsp, hb⟩
        have hlen : l.length = N := by rw [hsp.len, HNE.out]
        rw [hlen]
        have HB2 := Lib.hid (HB1.out.trans (hb.mono HB1.out.size))
        have HR2 := Lib.hid (HR1.out.below hb HR1.out.lt)
        have HSP := Lib.hid hsp
        have HK := Lib.hid hk3
        clear hb hsp hk3 hlen c0 c1 HR1
        obtain ⟨c0, c1, -, -⟩ := HR2.out.two
        go_wp2_with fail
        refine (size_in m m0 (by omega) _).mono ?_
        rw [Int.toNat_natCast, HPOW.out]
        rintro e w' ⟨rfl, rfl⟩
        have hT := stepI_pow ⟨m, hm⟩
        have hT2 := (step_le ⟨m, hm⟩).2.1
        have hva : ∀ j, va m j = j * stepOf (2 ^ m) % 2 ^ m := fun j => rfl
        simp only at hT hT2
        obtain ⟨T, hTe⟩ : ∃ T, stepOf (2 ^ m) = T := ⟨_, rfl⟩
        rw [hTe] at hT hT2
        simp only [hTe] at hva
        rw [HNE.out] at hT
        simp only [HNE.out] at hva
        have HT := Lib.hid hT
        have HVA := Lib.hid hva
        have hz' : ¬ (N : Int) = 0 := by omega
        clear hT hTe hva
        go_wp2
        go_loop [6, 7] (fun last i => ∃ j : Nat, j ≤ N ∧ i = .int .i64 j ∧ ∃ La : Int, last = .int .i64 La ∧ Hid (La ≤ 0 ∨ ∃ q, j = q + 1 ∧ (others xs)[q]? = some La)) (fun _ i => N - (intOf i).toNat)
        case atStart => exact ⟨0, Nat.zero_le _, rfl, 0, rfl, .inl (Int.le_refl _)⟩
        case round =>
          obtain ⟨j, hj, rfl, La, rfl, HLA⟩ := hrel
          by_cases hjlt : j < N
          · obtain ⟨M, hM⟩ : ∃ M : Nat, j * T = M := ⟨_, rfl⟩
            obtain ⟨a, ha⟩ : ∃ a : Nat, va m j = a := ⟨_, rfl⟩
            have hM1 : M ≤ 512 * 323 := by rw [← hM]; exact Nat.mul_le_mul (by omega) hT2
            have hmul : (j : Int) * (T : Int) = (M : Int) := by rw [← hM, Int.natCast_mul]
            have hrem : (M : Int) % (N : Int) = (a : Int) := by rw [← ha, HVA.out, hM]; rfl
            have haN : a < N := by rw [← ha, ← HNE.out]; exact va_lt m j
            have M0 : (0 : Int) ≤ (M : Int) := by omega
            have M1 : (M : Int) ≤ 165376 := by omega
            have a0 : (0 : Int) ≤ (a : Int) := by omega
            have a1 : (a : Int) < (N : Int) := by omega
            have j0 : (0 : Int) ≤ (j : Int) := by omega
            have j1 : (j : Int) < (N : Int) := by omega
            have hO : (others xs).length = N := by have := HALL.out; rw [HRN.out, HNE.out] at this; simpa using this
            have hor := HSP.out.order HRN.out (show j < 2 ^ m by rw [HNE.out]; exact hjlt)
            rw [ha, List.getElem?_eq_getElem (show j < (others xs).length by omega)] at hor
            obtain ⟨s, hs⟩ : ∃ s, (others xs)[j]'(by omega) = s := ⟨_, rfl⟩
            rw [hs] at hor
            have hs' : (others xs)[j]? = some s := by rw [← hs]; exact List.getElem?_eq_getElem _
            have cl : w2.cell? ⟨g, a, none⟩ = some (.int .i64 s) := HK.out.int_at hor
            have hle : ¬ s < La := by
              obtain ⟨p, x, hp, -, -⟩ := mem_others.1 (List.mem_of_getElem? hs')
              rcases HLA.out with h1 | ⟨q, rfl, h1⟩
              · omega
              · have h2 := List.pairwise_iff_getElem.1 (others_sorted xs) q (q + 1) (by omega) (by omega) (by omega)
                rw [List.getElem?_eq_getElem (by omega)] at h1 hs'
                injection h1 with h1
                injection hs' with hs'
                omega
            have HL2 : Hid (s ≤ 0 ∨ ∃ q, j + 1 = q + 1 ∧ (others xs)[q]? = some s) := .inr ⟨j, rfl, hs'⟩
            clear hM ha hor hs hs' hO
            go_wp2_with (go_at_call 16; refine (rstep_any N _).mono ?_; rw [HT.out]; rintro e w' ⟨rfl, rfl⟩)
            go_round
            case rel => exact ⟨j + 1, by omega, by go_num, s, rfl, HL2⟩
            case measure => simp [intOf]; omega
          · go_wp2_with (go_at_call 11; refine (known_any _).mono ?_; rintro e w3 ⟨rfl, hb⟩; have HB := Lib.hid (HB2.out.trans (hb.mono HB2.out.size)); clear hb)
            go_ret
            exact ⟨rfl, HB.out⟩
  · have HV := Lib.hid hv
    clear hv
    go_enter Try.func6, Try.ntmps6
    go_wp2_with fail
    refine (may_any log _ xs 256 9 _ (HI.out.alloc _)).mono ?_
    rw [chk_13 HV.out]
    rintro e w1 ⟨rfl, hb⟩
    have HB1 := Lib.hid ((HB0.out _).trans (hb.mono (by simp)))
    clear hb
    go_wp2_with (go_at_call 11; refine (known_any _).mono ?_; rintro e w2 ⟨rfl, hb⟩; have HB := Lib.hid (HB1.out.trans (hb.mono HB1.out.size)); clear hb)
    go_ret
    exact ⟨rfl, HB.out⟩
end Go.Proofs.Ytmoolloeldogcaa
