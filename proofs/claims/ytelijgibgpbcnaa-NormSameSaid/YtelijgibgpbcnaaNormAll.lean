/-
  norm: the totals of counts; the reference's States, Size, May, Counts.
-/
import Derived.Test.YtelijgibgpbcnaaNormCheck
namespace Go.Proofs.Ytelijgibgpbcnaa
open Go.RowKit

/-- The number of symbols with a positive count. -/
def usedOf (cs : List Int) : Nat := (cs.filter fun c => decide (0 < c)).length
theorem usedOf_append (a b : List Int) : usedOf (a ++ b) = usedOf a + usedOf b := by simp [usedOf]
theorem usedOf_take_succ {cs : List Int} {k : Nat} {c : Int} (h : cs[k]? = some c) : usedOf (cs.take (k + 1)) = usedOf (cs.take k) + if 0 < c then 1 else 0 := by
  rw [List.take_add_one, h, usedOf_append]
  congr 1
  by_cases hc : 0 < c <;> simp [usedOf, hc]
theorem sum_take_succ {cs : List Int} {k : Nat} {c : Int} (h : cs[k]? = some c) : (cs.take (k + 1)).sum = (cs.take k).sum + c := by
  rw [List.take_add_one, h]; simp
theorem sum_nonneg {cs : List Int} (h : ∀ c ∈ cs, 0 ≤ c) : 0 ≤ cs.sum := by
  induction cs with
  | nil => simp
  | cons x xs ih =>
    have h1 := h x (by simp)
    have h2 := ih fun c hc => h c (by simp [hc])
    simp; omega
theorem sum_take_le {cs : List Int} (h : ∀ c ∈ cs, 0 ≤ c) (k : Nat) : (cs.take k).sum ≤ cs.sum := by
  have e : (cs.take k).sum + (cs.drop k).sum = cs.sum := by rw [← List.sum_append, List.take_append_drop]
  have := sum_nonneg (cs := cs.drop k) fun c hc => h c (List.mem_of_mem_drop hc)
  omega
theorem usedOf_le (cs : List Int) : usedOf cs ≤ cs.length := List.length_filter_le _ _

/-- The counts are valid, but for one being positive. -/
def CValid (cs : List Int) : Prop := (∀ c ∈ cs, 0 ≤ c) ∧ cs.sum ≤ 1099511627776
instance (cs : List Int) : Decidable (CValid cs) := by unfold CValid; infer_instance
def cT (cs : List Int) : Int := if CValid cs then cs.sum else 0
def cU (cs : List Int) : Int := if CValid cs then (usedOf cs : Int) else 0
def cM (cs : List Int) : Bool := decide (CValid cs ∧ 0 < usedOf cs)
/-- The three results of both. -/
def CRes (cs : List Int) : Ending := .returned (.tuple #[.int .i64 (cT cs), .int .i64 (cU cs), .bool (cM cs)])
theorem CRes_no {cs : List Int} (h : ¬ CValid cs) : CRes cs = .returned (.tuple #[.int .i64 0, .int .i64 0, .bool false]) := by
  simp [CRes, cT, cU, cM, h]
theorem CRes_yes {cs : List Int} (h : CValid cs) {t u : Int} {b : Bool} (ht : t = cs.sum) (hu : u = usedOf cs) (hb : b = decide (0 < u)) : CRes cs = .returned (.tuple #[.int .i64 t, .int .i64 u, .bool b]) := by
  subst ht hu hb
  simp [CRes, cT, cU, cM, h]

set_option maxHeartbeats 800000 in
theorem all_any (v : Value) (cs : List Int) (w : World) (hx : Ints w .i64 v cs) :
    Calls Try.prog 25 #[v] w fun e w' => e = CRes cs ∧ w = w' := by
  obtain ⟨A, n, c, rfl, hc, hm, hx⟩ := hx.get
  have HX := Lib.hid hx
  clear hx
  go_enter Try.func25, Try.ntmps25
  go_wp2
  go_loop [2, 3, 9] (fun t u i => ∃ (k : Nat) (T U : Int), k ≤ n ∧ i = .int .i64 k ∧ t = .int .i64 T ∧ u = .int .i64 U ∧ 0 ≤ T ∧ T ≤ 1099511627776 ∧ 0 ≤ U ∧ U ≤ k ∧ Hid (T = (cs.take k).sum ∧ U = usedOf (cs.take k) ∧ ∀ c ∈ cs.take k, 0 ≤ c)) (fun _ _ i => n - (intOf i).toNat)
  case atStart => exact ⟨0, 0, 0, Nat.zero_le _, rfl, rfl, rfl, by omega, by omega, by omega, by omega, by simp, by simp [usedOf], by simp⟩
  case round =>
    obtain ⟨k, T, U, hk, rfl, rfl, rfl, hT0, hT1, hU0, hU1, H⟩ := hrel
    by_cases hlt : k < n
    · obtain ⟨b, off, x, rfl, hb, cx, EX⟩ := HX.out.at_ hlt
      have h0 : (0 : Int) ≤ (k : Int) := by omega
      have h0' : (k : Int) < (n : Int) := by omega
      have hxm : Hid (x ∈ cs) := (List.mem_of_getElem? EX.out : x ∈ cs)
      by_cases hneg : x < 0
      · go_wp2
        go_ret3
        exact ⟨(CRes_no fun h => by have := h.1 x hxm.out; omega).symm, rfl⟩
      · by_cases hbig : 1099511627776 - T < x
        · go_wp2
          go_ret3
          exact ⟨(CRes_no fun h => by
            have e1 := sum_take_succ EX.out; have e2 := sum_take_le h.1 (k + 1); have e3 := h.2; have e4 := H.out.1; omega).symm, rfl⟩
        · have hstep : Hid (T + x = (cs.take (k + 1)).sum ∧ (∀ c ∈ cs.take (k + 1), 0 ≤ c) ∧ usedOf (cs.take (k + 1)) = usedOf (cs.take k) + if 0 < x then 1 else 0) := by
            refine ⟨by rw [sum_take_succ EX.out, ← H.out.1], fun c hc => ?_, usedOf_take_succ EX.out⟩
            rw [List.take_add_one, EX.out] at hc
            simp at hc
            rcases hc with hc | hc
            · exact H.out.2.2 c hc
            · omega
          by_cases hpos : 0 < x
          · go_wp2
            go_round
            case rel => exact ⟨k + 1, T + x, U + 1, by omega, by go_num, by go_num, by go_num, by omega, by omega, by omega, by omega, hstep.out.1, by rw [hstep.out.2.2, if_pos hpos]; have := H.out.2.1; omega, hstep.out.2.1⟩
            case measure => simp [intOf]; omega
          · go_wp2
            go_round
            case rel => exact ⟨k + 1, T + x, U, by omega, by go_num, by go_num, by go_num, by omega, by omega, by omega, by omega, hstep.out.1, by rw [hstep.out.2.2, if_neg hpos]; have := H.out.2.1; omega, hstep.out.2.1⟩
            case measure => simp [intOf]; omega
    · obtain rfl : k = n := by omega
      have hall : cs.take k = cs := List.take_of_length_le (by rw [HX.out.1]; omega)
      have h1 := H.out
      rw [hall] at h1
      have H1 := Lib.hid h1
      clear h1 hall
      go_wp2
      go_ret3
      exact ⟨(CRes_yes ⟨H1.out.2.2, by rw [← H1.out.1]; omega⟩ H1.out.1 H1.out.2.1 rfl).symm, rfl⟩

set_option maxHeartbeats 800000 in
theorem counts_any (v : Value) (cs : List Int) (w : World) (hx : Ints w .i64 v cs) :
    Calls Try.prog 19 #[v] w fun e w' => e = CRes cs ∧ w = w' := by
  obtain ⟨A, n, c, rfl, hc, hm, hx⟩ := hx.get
  have HX := Lib.hid hx
  clear hx
  go_enter Try.func19, Try.ntmps19
  go_wp2
  go_loop [5, 6, 7] (fun t u i => ∃ (k : Nat) (T U : Int), k ≤ n ∧ i = .int .i64 k ∧ t = .int .i64 T ∧ u = .int .i64 U ∧ 0 ≤ T ∧ T ≤ 1099511627776 ∧ 0 ≤ U ∧ U ≤ k ∧ Hid (T = (cs.take k).sum ∧ U = usedOf (cs.take k) ∧ ∀ c ∈ cs.take k, 0 ≤ c)) (fun _ _ i => n - (intOf i).toNat)
  case atStart => exact ⟨0, 0, 0, Nat.zero_le _, rfl, rfl, rfl, by omega, by omega, by omega, by omega, by simp, by simp [usedOf], by simp⟩
  case round =>
    obtain ⟨k, T, U, hk, rfl, rfl, rfl, hT0, hT1, hU0, hU1, H⟩ := hrel
    by_cases hlt : k < n
    · obtain ⟨b, off, x, rfl, hb, cx, EX⟩ := HX.out.at_ hlt
      have h0 : (0 : Int) ≤ (k : Int) := by omega
      have h0' : (k : Int) < (n : Int) := by omega
      have hxm : Hid (x ∈ cs) := (List.mem_of_getElem? EX.out : x ∈ cs)
      by_cases hneg : x < 0
      · go_wp2
        go_ret3
        exact ⟨(CRes_no fun h => by have := h.1 x hxm.out; omega).symm, rfl⟩
      · by_cases hbig1 : 1099511627776 < x
        · go_wp2
          go_ret3
          exact ⟨(CRes_no fun h => by
            have e1 := sum_take_succ EX.out; have e2 := sum_take_le h.1 (k + 1); have e3 := h.2; have e4 := H.out.1; omega).symm, rfl⟩
        · by_cases hbig : 1099511627776 < T + x
          · go_wp2
            go_ret3
            exact ⟨(CRes_no fun h => by
              have e1 := sum_take_succ EX.out; have e2 := sum_take_le h.1 (k + 1); have e3 := h.2; have e4 := H.out.1; omega).symm, rfl⟩
          · have hstep : Hid (T + x = (cs.take (k + 1)).sum ∧ (∀ c ∈ cs.take (k + 1), 0 ≤ c) ∧ usedOf (cs.take (k + 1)) = usedOf (cs.take k) + if 0 < x then 1 else 0) := by
              refine ⟨by rw [sum_take_succ EX.out, ← H.out.1], fun c hc => ?_, usedOf_take_succ EX.out⟩
              rw [List.take_add_one, EX.out] at hc
              simp at hc
              rcases hc with hc | hc
              · exact H.out.2.2 c hc
              · omega
            by_cases hpos : 0 < x
            · go_wp2
              go_round
              case rel => exact ⟨k + 1, T + x, U + 1, by omega, by go_num, by go_num, by go_num, by omega, by omega, by omega, by omega, hstep.out.1, by rw [hstep.out.2.2, if_pos hpos]; have := H.out.2.1; omega, hstep.out.2.1⟩
              case measure => simp [intOf]; omega
            · go_wp2
              go_round
              case rel => exact ⟨k + 1, T + x, U, by omega, by go_num, by go_num, by go_num, by omega, by omega, by omega, by omega, hstep.out.1, by rw [hstep.out.2.2, if_neg hpos]; have := H.out.2.1; omega, hstep.out.2.1⟩
              case measure => simp [intOf]; omega
    · obtain rfl : k = n := by omega
      have hall : cs.take k = cs := List.take_of_length_le (by rw [HX.out.1]; omega)
      have h1 := H.out
      rw [hall] at h1
      have H1 := Lib.hid h1
      clear h1 hall
      go_wp2
      go_ret3
      exact ⟨(CRes_yes ⟨H1.out.2.2, by rw [← H1.out.1]; omega⟩ H1.out.1 H1.out.2.1 rfl).symm, rfl⟩
end Go.Proofs.Ytelijgibgpbcnaa
