/-
  The cells of a spread, in plain words.
-/
import Derived.Test.YtkffhfdmdcecaaaSpCount
import Derived.Test.YtkffhfdmdcecaaaMap
namespace Go.Proofs.Ytkffhfdmdcecaaa
open Go.RowKit

/-- The state number of index i: its symbol's states and how often the symbol stood ahead of it. -/
def xAt (xs l : List Int) (i : Nat) : Nat := (xs.getD (l.getD i 0).toNat 0).natAbs + (l.take i).count (l.getD i 0)
def bAt (m : Nat) (xs l : List Int) (i : Nat) : Nat := m - Nat.log2 (xAt xs l i)
def baseAt (m : Nat) (xs l : List Int) (i : Nat) : Int := ((xAt xs l i * 2 ^ bAt m xs l i : Nat) : Int) - ((2 ^ m : Nat) : Int)
def cellAt (m : Nat) (xs l : List Int) (i : Nat) : List Value := [.int .i64 (l.getD i 0), .int .i64 (bAt m xs l i : Int), .int .i64 (baseAt m xs l i)]
def cellsTo (m : Nat) (xs l : List Int) (k : Nat) : List (List Value) := (List.range k).map (cellAt m xs l)
theorem cellsTo_length (m : Nat) (xs l : List Int) (k : Nat) : (cellsTo m xs l k).length = k := by simp [cellsTo]
theorem cellsTo_succ (m : Nat) (xs l : List Int) (k : Nat) : cellsTo m xs l k ++ [cellAt m xs l k] = cellsTo m xs l (k + 1) := by simp [cellsTo, List.range_succ]
theorem cellsTo_at {m : Nat} {xs l : List Int} {k i : Nat} (h : i < k) : (cellsTo m xs l k)[i]? = some (cellAt m xs l i) := by simp [cellsTo, h]

/-- What index i holds. -/
structure CellFact (m : Nat) (xs l : List Int) (i p : Nat) (Y : Int) (X c e : Nat) : Prop where
  sym : l[i]? = some (p : Int)
  norm : xs[p]? = some Y
  low : -1 ≤ Y
  abs : Y.natAbs = X
  cnt : (l.take i).count (p : Int) = c
  lt : c < X
  le : X ≤ 2 ^ m
  e_le : e ≤ m
  lo : 2 ^ e ≤ X + c
  hi : X + c < 2 ^ (e + 1)

theorem CellFact.x {m : Nat} {xs l : List Int} {i p : Nat} {Y : Int} {X c e : Nat} (h : CellFact m xs l i p Y X c e) : xAt xs l i = X + c := by
  unfold xAt
  rw [List.getD_eq_getElem?_getD, List.getD_eq_getElem?_getD, h.sym]
  simp only [Option.getD_some, Int.toNat_natCast, h.norm, h.abs, h.cnt]
theorem CellFact.b {m : Nat} {xs l : List Int} {i p : Nat} {Y : Int} {X c e : Nat} (h : CellFact m xs l i p Y X c e) : bAt m xs l i = m - e := by
  unfold bAt
  rw [h.x]
  have : Nat.log2 (X + c) = e := by
    have h0 : X + c ≠ 0 := by have := h.lt; omega
    have h1 := h.lo
    have h2 := h.hi
    exact (Nat.log2_eq_iff h0).2 ⟨h1, h2⟩
  rw [this]
theorem CellFact.base {m : Nat} {xs l : List Int} {i p : Nat} {Y : Int} {X c e : Nat} (h : CellFact m xs l i p Y X c e) : baseAt m xs l i = (((X + c) * 2 ^ (m - e) : Nat) : Int) - ((2 ^ m : Nat) : Int) := by
  unfold baseAt
  rw [h.x, h.b]
theorem CellFact.cell {m : Nat} {xs l : List Int} {i p : Nat} {Y : Int} {X c e : Nat} (h : CellFact m xs l i p Y X c e) :
    cellAt m xs l i = [.int .i64 (p : Int), .int .i64 ((m - e : Nat) : Int), .int .i64 ((((X + c) * 2 ^ (m - e) : Nat) : Int) - ((2 ^ m : Nat) : Int))] := by
  unfold cellAt
  rw [h.b, h.base, List.getD_eq_getElem?_getD, h.sym]
  rfl
theorem pow_split {m e : Nat} (h : e ≤ m) : 2 ^ e * 2 ^ (m - e) = 2 ^ m := by rw [← Nat.pow_add]; congr 1; omega
/-- The shifted state lies between the size and twice the size. -/
theorem CellFact.bounds {m : Nat} {xs l : List Int} {i p : Nat} {Y : Int} {X c e : Nat} (h : CellFact m xs l i p Y X c e) : 2 ^ m ≤ (X + c) * 2 ^ (m - e) ∧ (X + c) * 2 ^ (m - e) + 2 ^ (m - e) ≤ 2 * 2 ^ m := by
  have h1 := pow_split h.e_le
  constructor
  · rw [← h1]; exact Nat.mul_le_mul_right _ h.lo
  · have h2 : (X + c + 1) * 2 ^ (m - e) ≤ 2 ^ (e + 1) * 2 ^ (m - e) := Nat.mul_le_mul_right _ h.hi
    rw [Nat.pow_succ, Nat.mul_right_comm, h1, Nat.add_mul, Nat.one_mul] at h2
    omega

theorem cell_fact {m : Nat} {xs l : List Int} {i : Nat} (hm : m < 10) (h : IsSpread m xs l) (hall : (rares xs).length + (others xs).length = 2 ^ m) (hx : ∀ x ∈ xs, -1 ≤ x) (hi : i < 2 ^ m) :
    ∃ p Y X c e, CellFact m xs l i p Y X c e := by
  have hil : i < l.length := by rw [h.len]; exact hi
  obtain ⟨s, hs⟩ : ∃ s, l[i] = s := ⟨_, rfl⟩
  have hsi : l[i]? = some s := by rw [List.getElem?_eq_getElem hil, hs]
  have hp := h.perm hm hall
  have hmem : s ∈ others xs ++ rares xs := hp.mem_iff.1 (List.mem_of_getElem? hsi)
  obtain ⟨p, Y, rfl, hY⟩ : ∃ (p : Nat) (Y : Int), s = (p : Int) ∧ xs[p]? = some Y := by
    rcases List.mem_append.1 hmem with hh | hh
    · obtain ⟨p, x, e, hx, -⟩ := mem_others.1 hh; exact ⟨p, x, e, hx⟩
    · obtain ⟨p, e, hx⟩ := mem_rares.1 hh; exact ⟨p, _, e, hx⟩
  have hcnt : l.count (p : Int) = Y.natAbs := by
    rw [hp.count_eq, List.count_append, count_both hx, List.getD_eq_getElem?_getD, hY]; rfl
  have h1 : (l.take i).count (p : Int) + 1 ≤ Y.natAbs := by
    have h2 : (l.take (i + 1)).count (p : Int) = (l.take i).count (p : Int) + 1 := by
      rw [List.take_add_one, hsi, List.count_append]; simp
    rw [← h2, ← hcnt]
    exact (List.take_sublist _ _).count_le _
  have h2 : Y.natAbs ≤ 2 ^ m := by rw [← hcnt, ← h.len]; exact List.count_le_length
  have h0 : Y.natAbs + (l.take i).count (p : Int) ≠ 0 := by omega
  refine ⟨p, Y, Y.natAbs, (l.take i).count (p : Int), Nat.log2 (Y.natAbs + (l.take i).count (p : Int)), ⟨hsi, hY, hx _ (List.mem_of_getElem? hY), rfl, rfl, by omega, h2, ?_, Nat.log2_self_le h0, Nat.lt_log2_self⟩⟩
  have : Nat.log2 (Y.natAbs + (l.take i).count (p : Int)) < m + 1 := (Nat.log2_lt h0).2 (by rw [Nat.pow_succ]; omega)
  omega

/-- The datum D tells for each key below 512 how often it stands in pre. -/
def Had (D : DataW Unit) (pre : List Int) : Prop := Maps.Tidy D ∧ ∀ a : Nat, a < 512 → D.atKey (.int .i64 a) (.lit (.int .i64 0)) = .lit (.int .i64 (pre.count (a : Int) : Nat))
theorem Had.empty : Had (.map []) [] := ⟨Maps.tidy_empty, fun a _ => by simp [DataW.atKey]⟩
theorem Had.put {D : DataW Unit} {pre : List Int} {a : Nat} (h : Had D pre) (ha : a < 512) : Had (D.put (.int .i64 a) (.lit (.int .i64 ((pre.count (a : Int) : Nat) + 1 : Int)))) (pre ++ [(a : Int)]) := by
  obtain ⟨ht, hx⟩ := h
  have hk : WideAt.IsKeyLit (.int .i64 (a : Int)) := by simp [WideAt.IsKeyLit]
  refine ⟨ht.put hk _, fun x hx' => ?_⟩
  by_cases e : x = a
  · subst e
    rw [Maps.atKey_put_same ht.isMap hk, List.count_append]
    simp
  · have hne : (Lit.int .i64 (x : Int)) ≠ Lit.int .i64 (a : Int) := fun h => e (by injection h with _ h; omega)
    rw [Maps.atKey_put_other hne, hx x hx', List.count_append]
    have : ([(a : Int)]).count (x : Int) = 0 := by rw [List.count_eq_zero]; simp; omega
    rw [this, Nat.add_zero]
end Go.Proofs.Ytkffhfdmdcecaaa
