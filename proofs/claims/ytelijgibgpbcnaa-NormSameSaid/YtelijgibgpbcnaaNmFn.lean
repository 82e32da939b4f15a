/-
  norm.Normalize's closures; furthest.
-/
import Derived.Test.YtelijgibgpbcnaaNmPlain
import Derived.Test.YtelijgibgpbcnaaGrow
import Derived.IntWalk
namespace Go.Proofs.Ytelijgibgpbcnaa
open Go.RowKit

/-- What the closures of Normalize read. -/
structure NmMem (w : World) (Bc Bt Bs Bv Bn : Nat) (A : Option Addr) (n c : Nat) (T S : Int) (cs ns : List Int) : Prop where
  counts : w.cell? ⟨Bc, 0, none⟩ = some (.slice A n c)
  ints : AtInts w .i64 A n cs
  tot : w.cell? ⟨Bt, 0, none⟩ = some (.int .i64 T)
  size : w.cell? ⟨Bs, 0, none⟩ = some (.int .i64 S)
  norms : Blk w Bv 3 (ns.map (Value.int .i64)).toArray
  norm : w.cell? ⟨Bn, 0, none⟩ = some (.slice (some ⟨Bv, 0, none⟩) n n)
  nlen : ns.length = n
  n63 : n ≤ 9223372036854775807
  bnd : ∀ i, 0 ≤ gt ns i ∧ gt ns i ≤ 512
  cbd : ∀ i, 0 ≤ gt cs i ∧ gt cs i ≤ T
  t1 : 0 ≤ T ∧ T ≤ 1099511627776
  s1 : 1 ≤ S ∧ S ≤ 512

section
variable {w : World} {Bc Bt Bs Bv Bn : Nat} {A : Option Addr} {n c : Nat} {T S : Int} {cs ns : List Int}
theorem NmMem.drewN (h : NmMem w Bc Bt Bs Bv Bn A n c T S cs ns) (a : Nat) : NmMem (w.drewN a) Bc Bt Bs Bv Bn A n c T S cs ns :=
  ⟨h.counts, h.ints, h.tot, h.size, h.norms, h.norm, h.nlen, h.n63, h.bnd, h.cbd, h.t1, h.s1⟩
theorem NmMem.drew (h : NmMem w Bc Bt Bs Bv Bn A n c T S cs ns) : NmMem w.drew Bc Bt Bs Bv Bn A n c T S cs ns :=
  ⟨h.counts, h.ints, h.tot, h.size, h.norms, h.norm, h.nlen, h.n63, h.bnd, h.cbd, h.t1, h.s1⟩
theorem NmMem.nat (h : NmMem w Bc Bt Bs Bv Bn A n c T S cs ns) {i : Nat} (hi : i < n) : ∃ b off x y, A = some ⟨b, off, none⟩ ∧ b < w.heap.size ∧ w.cell? ⟨b, off + i, none⟩ = some (.int .i64 x) ∧ w.cell? ⟨Bv, i, none⟩ = some (.int .i64 y) ∧
    Hid (gt cs i = x ∧ gt ns i = y) ∧ (0 ≤ x ∧ x ≤ T) ∧ (0 ≤ y ∧ y ≤ 512) := by
  obtain ⟨b, off, x, hA, hb, cx, EX⟩ := h.ints.at_ hi
  have hy := gt_of (l := ns) (i := i) (by rw [h.nlen]; exact hi)
  have ex := gt_at EX.out
  exact ⟨b, off, x, gt ns i, hA, hb, cx, h.norms.int_at hy, (⟨ex, rfl⟩ : _ ∧ _), by rw [← ex]; exact h.cbd i, h.bnd i⟩
theorem prod_bounds {x S X M : Int} (h0 : 0 ≤ x) (h1 : x ≤ X) (hS : 0 ≤ S) (hM : S ≤ M) (hX : 0 ≤ X) : 0 ≤ x * S ∧ x * S ≤ X * M :=
  ⟨Int.mul_nonneg h0 hS, Int.mul_le_mul h1 hM hS hX⟩
theorem above_bounds (h : NmMem w Bc Bt Bs Bv Bn A n c T S cs ns) (i : Nat) : -562949953421312 ≤ above cs ns S T i ∧ above cs ns S T i ≤ 562949953421312 ∧ 0 ≤ gt cs i * S ∧ gt cs i * S ≤ 562949953421312 ∧ 0 ≤ gt ns i * T ∧ gt ns i * T ≤ 562949953421312 := by
  have h1 := prod_bounds (h.cbd i).1 (Int.le_trans (h.cbd i).2 h.t1.2) (by have := h.s1; omega) h.s1.2 (by omega)
  have h2 := prod_bounds (h.bnd i).1 (h.bnd i).2 h.t1.1 h.t1.2 (by omega)
  unfold above
  omega

theorem above_any (h : NmMem w Bc Bt Bs Bv Bn A n c T S cs ns) {i : Nat} (hi : i < n) :
    Calls Try.prog 26 #[.int .i64 i, .pointer (some ⟨Bc, 0, none⟩), .pointer (some ⟨Bs, 0, none⟩), .pointer (some ⟨Bn, 0, none⟩), .pointer (some ⟨Bt, 0, none⟩)] w fun e w' =>
      e = .returned (.int .i64 (above cs ns S T i)) ∧ ∃ m, w' = w.drewN m := by
  obtain ⟨b, off, x, y, rfl, hb, cx, cy, HG, hx, hy⟩ := h.nat hi
  have hab := above_bounds h i
  unfold above at hab
  rw [HG.out.1, HG.out.2] at hab
  have e1 : IntKind.i64.wrap (x * S) = x * S := IntWalk.i64_in _ (by omega)
  have e2 : IntKind.i64.wrap (y * T) = y * T := IntWalk.i64_in _ (by omega)
  have e3 : IntKind.i64.wrap (x * S - y * T) = x * S - y * T := IntWalk.i64_in _ (by omega)
  have h0 : (0 : Int) ≤ (i : Int) := by omega
  have h1 : (i : Int) < (n : Int) := by omega
  have hn := h.n63
  have g1 := h.counts
  have g2 := h.tot
  have g3 := h.size
  have g4 := h.norm
  clear h hab hx hy
  go_enter Try.func26, Try.ntmps26
  go_wp2
  go_quiet (fail)
  go_wp2
  go_ret
  exact ⟨ret_int (by rw [above, HG.out.1, HG.out.2]), _, rfl⟩

theorem among_up (h : NmMem w Bc Bt Bs Bv Bn A n c T S cs ns) {i : Nat} (hi : i < n) :
    Calls Try.prog 27 #[.int .i64 i, .pointer (some ⟨Bc, 0, none⟩)] w fun e w' => e = .returned (.bool (selUp cs i)) ∧ w = w' := by
  obtain ⟨b, off, x, y, rfl, hb, cx, cy, HG, hx, hy⟩ := h.nat hi
  have h0 : (0 : Int) ≤ (i : Int) := by omega
  have h1 : (i : Int) < (n : Int) := by omega
  have hn := h.n63
  have g1 := h.counts
  clear h hx hy
  go_enter Try.func27, Try.ntmps27
  go_wp2
  go_ret
  exact ⟨ret_bool (by rw [selUp, HG.out.1]), rfl⟩

theorem among_dn (h : NmMem w Bc Bt Bs Bv Bn A n c T S cs ns) {i : Nat} (hi : i < n) :
    Calls Try.prog 28 #[.int .i64 i, .pointer (some ⟨Bn, 0, none⟩)] w fun e w' => e = .returned (.bool (selDn ns i)) ∧ w = w' := by
  obtain ⟨b, off, x, y, rfl, hb, cx, cy, HG, hx, hy⟩ := h.nat hi
  have h0 : (0 : Int) ≤ (i : Int) := by omega
  have h1 : (i : Int) < (n : Int) := by omega
  have hn := h.n63
  have g1 := h.norm
  clear h hx hy
  go_enter Try.func28, Try.ntmps28
  go_wp2
  go_ret
  exact ⟨ret_bool (by rw [selDn, HG.out.2]), rfl⟩

/-- The function value 'above'. -/
def fAbove (Bc Bt Bs Bn : Nat) : Value := .func (.func 26) #[] #[.pointer (some ⟨Bc, 0, none⟩), .pointer (some ⟨Bs, 0, none⟩), .pointer (some ⟨Bn, 0, none⟩), .pointer (some ⟨Bt, 0, none⟩)]

theorem below_any (h : NmMem w Bc Bt Bs Bv Bn A n c T S cs ns) {Ba : Nat} (ha : w.cell? ⟨Ba, 0, none⟩ = some (fAbove Bc Bt Bs Bn)) {i : Nat} (hi : i < n) :
    Calls Try.prog 29 #[.int .i64 i, .pointer (some ⟨Ba, 0, none⟩)] w fun e w' => e = .returned (.int .i64 (below_ cs ns S T i)) ∧ ∃ m, w' = w.drewN m := by
  have hab := above_bounds h i
  have h1 := hab.1
  have h2 := hab.2.1
  have HM := Lib.hid h
  unfold fAbove at ha
  clear h hab
  go_enter Try.func29, Try.ntmps29
  go_wp2_with fail
  refine (above_any HM.out hi).mono ?_
  rintro e w' ⟨rfl, m, rfl⟩
  go_wp2
  go_ret
  exact ⟨ret_int rfl, m, rfl⟩


def FurthSlot (o : Option Nat) (v : Value) : Prop := match o with
  | none => v = .int .i64 (-1)
  | some j => v = .int .i64 (j : Nat)
theorem FurthSlot.val {o : Option Nat} {v : Value} (h : FurthSlot o v) : v = .int .i64 (bI o) := by
  cases o with
  | none => exact h
  | some j => exact h

set_option maxHeartbeats 1600000 in
theorem furthest_up (h : NmMem w Bc Bt Bs Bv Bn A n c T S cs ns) (hcs : cs.length = n) :
    Calls Try.prog 30 #[.slice (some ⟨Bv, 0, none⟩) n n, .func (.func 27) #[] #[.pointer (some ⟨Bc, 0, none⟩)], .func (.func 26) #[] #[.pointer (some ⟨Bc, 0, none⟩), .pointer (some ⟨Bs, 0, none⟩), .pointer (some ⟨Bn, 0, none⟩), .pointer (some ⟨Bt, 0, none⟩)]] w fun e w' =>
      e = .returned (.int .i64 (bI (bestUp cs S T ns))) ∧ ∃ m, w' = w.drewN m := by
  have HM := Lib.hid h
  have HCS := Lib.hid hcs
  have hn := h.n63
  clear h hcs
  go_enter Try.func30, Try.ntmps30
  go_wp2
  go_loopw [7, 11] (fun b i wr => ∃ k : Nat, k ≤ n ∧ i = .int .i64 k ∧ ∃ o, Hid (best (selUp cs) (above cs ns S T) k = o) ∧ FurthSlot o b ∧ ∃ m, wr = w.drewN m) (fun _ i _ => n - (intOf i).toNat)
  case atStart => exact ⟨0, Nat.zero_le _, rfl, none, (rfl : _ = _), rfl, 0, rfl⟩
  case round =>
    obtain ⟨k, hk, rfl, o, HO, hb, m, rfl⟩ := hrel
    have k0 : (0 : Int) ≤ (k : Int) := by omega
    by_cases hlt : k < n
    · cases hs : selUp cs k with
      | false =>
        have HS := Lib.hid hs
        obtain rfl := hb.val
        clear hs
        go_wp2_with fail
        refine (among_up (HM.out.drewN m) hlt).mono ?_
        rw [HS.out]
        rintro e w' ⟨rfl, rfl⟩
        go_wp2
        go_roundw
        case rel => exact ⟨k + 1, by omega, by go_num, o, (by rw [best_no HS.out]; exact HO.out : _ = _), by cases o <;> rfl, m, rfl⟩
        case measure => simp [intOf]; omega
      | true =>
        have HS := Lib.hid hs
        clear hs
        cases o with
        | none =>
          obtain rfl := hb
          go_wp2_with fail
          refine (among_up (HM.out.drewN m) hlt).mono ?_
          rw [HS.out]
          rintro e w' ⟨rfl, rfl⟩
          go_wp2
          go_roundw
          case rel => exact ⟨k + 1, by omega, by go_num, some k, (best_first HS.out HO.out : _ = _), rfl, m, rfl⟩
          case measure => simp [intOf]; omega
        | some j =>
          obtain rfl := hb
          have hj : j < n := by have := (best_facts HO.out).1; omega
          have j0 : (0 : Int) ≤ (j : Int) := by omega
          by_cases hf : above cs ns S T j < above cs ns S T k
          · go_wp2_with fail
            refine (among_up (HM.out.drewN m) hlt).mono ?_
            rw [HS.out]
            rintro e w' ⟨rfl, rfl⟩
            go_wp2_with fail
            refine (above_any (HM.out.drewN m) hlt).mono ?_
            rintro e w' ⟨rfl, m2, rfl⟩
            go_wp2_with fail
            refine (above_any (by first | exact (HM.out.drewN _).drewN _ | exact HM.out.drewN _) hj).mono ?_
            rintro e w' ⟨rfl, m3, rfl⟩
            go_wp2
            go_roundw
            case rel => exact ⟨k + 1, by omega, by go_num, some k, (best_more HS.out HO.out hf : _ = _), rfl, _, rfl⟩
            case measure => simp [intOf]; omega
          · go_wp2_with fail
            refine (among_up (HM.out.drewN m) hlt).mono ?_
            rw [HS.out]
            rintro e w' ⟨rfl, rfl⟩
            go_wp2_with fail
            refine (above_any (HM.out.drewN m) hlt).mono ?_
            rintro e w' ⟨rfl, m2, rfl⟩
            go_wp2_with fail
            refine (above_any (by first | exact (HM.out.drewN _).drewN _ | exact HM.out.drewN _) hj).mono ?_
            rintro e w' ⟨rfl, m3, rfl⟩
            go_wp2
            go_roundw
            case rel => exact ⟨k + 1, by omega, by go_num, some j, (best_less HO.out (by omega) : _ = _), rfl, _, rfl⟩
            case measure => simp [intOf]; omega
    · obtain rfl : k = n := by omega
      obtain rfl := hb.val
      go_wp2
      go_ret
      exact ⟨ret_int (by unfold bestUp; rw [HCS.out, HO.out]), m, rfl⟩


set_option maxHeartbeats 1600000 in
theorem furthest_dn (h : NmMem w Bc Bt Bs Bv Bn A n c T S cs ns) {Ba : Nat} (ha : w.cell? ⟨Ba, 0, none⟩ = some (fAbove Bc Bt Bs Bn)) (hcs : cs.length = n) :
    Calls Try.prog 30 #[.slice (some ⟨Bv, 0, none⟩) n n, .func (.func 28) #[] #[.pointer (some ⟨Bn, 0, none⟩)], .func (.func 29) #[] #[.pointer (some ⟨Ba, 0, none⟩)]] w fun e w' =>
      e = .returned (.int .i64 (bI (bestDn cs S T ns))) ∧ ∃ m, w' = w.drewN m := by
  have HM := Lib.hid h
  have HCS := Lib.hid hcs
  have hn := h.n63
  have HA := Lib.hid ha
  clear ha
  clear h hcs
  go_enter Try.func30, Try.ntmps30
  go_wp2
  go_loopw [7, 11] (fun b i wr => ∃ k : Nat, k ≤ n ∧ i = .int .i64 k ∧ ∃ o, Hid (best (selDn ns) (below_ cs ns S T) k = o) ∧ FurthSlot o b ∧ ∃ m, wr = w.drewN m) (fun _ i _ => n - (intOf i).toNat)
  case atStart => exact ⟨0, Nat.zero_le _, rfl, none, (rfl : _ = _), rfl, 0, rfl⟩
  case round =>
    obtain ⟨k, hk, rfl, o, HO, hb, m, rfl⟩ := hrel
    have k0 : (0 : Int) ≤ (k : Int) := by omega
    by_cases hlt : k < n
    · cases hs : selDn ns k with
      | false =>
        have HS := Lib.hid hs
        obtain rfl := hb.val
        clear hs
        go_wp2_with fail
        refine (among_dn (HM.out.drewN m) hlt).mono ?_
        rw [HS.out]
        rintro e w' ⟨rfl, rfl⟩
        go_wp2
        go_roundw
        case rel => exact ⟨k + 1, by omega, by go_num, o, (by rw [best_no HS.out]; exact HO.out : _ = _), by cases o <;> rfl, m, rfl⟩
        case measure => simp [intOf]; omega
      | true =>
        have HS := Lib.hid hs
        clear hs
        cases o with
        | none =>
          obtain rfl := hb
          go_wp2_with fail
          refine (among_dn (HM.out.drewN m) hlt).mono ?_
          rw [HS.out]
          rintro e w' ⟨rfl, rfl⟩
          go_wp2
          go_roundw
          case rel => exact ⟨k + 1, by omega, by go_num, some k, (best_first HS.out HO.out : _ = _), rfl, m, rfl⟩
          case measure => simp [intOf]; omega
        | some j =>
          obtain rfl := hb
          have hj : j < n := by have := (best_facts HO.out).1; omega
          have j0 : (0 : Int) ≤ (j : Int) := by omega
          by_cases hf : below_ cs ns S T j < below_ cs ns S T k
          · go_wp2_with fail
            refine (among_dn (HM.out.drewN m) hlt).mono ?_
            rw [HS.out]
            rintro e w' ⟨rfl, rfl⟩
            go_wp2_with fail
            refine (below_any (HM.out.drewN m) (by exact HA.out) hlt).mono ?_
            rintro e w' ⟨rfl, m2, rfl⟩
            go_wp2_with fail
            refine (below_any (by first | exact (HM.out.drewN _).drewN _ | exact HM.out.drewN _) (by exact HA.out) hj).mono ?_
            rintro e w' ⟨rfl, m3, rfl⟩
            go_wp2
            go_roundw
            case rel => exact ⟨k + 1, by omega, by go_num, some k, (best_more HS.out HO.out hf : _ = _), rfl, _, rfl⟩
            case measure => simp [intOf]; omega
          · go_wp2_with fail
            refine (among_dn (HM.out.drewN m) hlt).mono ?_
            rw [HS.out]
            rintro e w' ⟨rfl, rfl⟩
            go_wp2_with fail
            refine (below_any (HM.out.drewN m) (by exact HA.out) hlt).mono ?_
            rintro e w' ⟨rfl, m2, rfl⟩
            go_wp2_with fail
            refine (below_any (by first | exact (HM.out.drewN _).drewN _ | exact HM.out.drewN _) (by exact HA.out) hj).mono ?_
            rintro e w' ⟨rfl, m3, rfl⟩
            go_wp2
            go_roundw
            case rel => exact ⟨k + 1, by omega, by go_num, some j, (best_less HO.out (by omega) : _ = _), rfl, _, rfl⟩
            case measure => simp [intOf]; omega
    · obtain rfl : k = n := by omega
      obtain rfl := hb.val
      go_wp2
      go_ret
      exact ⟨ret_int (by unfold bestDn; rw [HCS.out, HO.out]), m, rfl⟩

end
end Go.Proofs.Ytelijgibgpbcnaa
