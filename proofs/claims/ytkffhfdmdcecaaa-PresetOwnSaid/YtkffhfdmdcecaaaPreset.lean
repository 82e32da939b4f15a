/-
  preset: the predefined tables.
-/
import Derived.Test.YtkffhfdmdcecaaaRows
import Derived.Test.YtkffhfdmdcecaaaFresh
import Derived.Laws.CopyOwn
namespace Go.Proofs.Ytkffhfdmdcecaaa
open Go.RowKit

/-- What 'table' leaves at index j of n, the first norms being xs. -/
def tabAt (n : Nat) (xs : List Int) (j : Nat) : Int := if n ≤ j + 6 then -1 else if xs.getD j 0 = 0 then 1 else xs.getD j 0
/-- The norms after k rounds. -/
def tabMix (n : Nat) (xs : List Int) (k : Nat) : List Int := (List.range n).map fun j => if j < k then tabAt n xs j else xs.getD j 0
def tab (n : Nat) (xs : List Int) : List Int := (List.range n).map (tabAt n xs)

theorem tabMix_len (n : Nat) (xs : List Int) (k : Nat) : (tabMix n xs k).length = n := by simp [tabMix]
theorem tabMix_at (n : Nat) (xs : List Int) (k : Nat) (h : k < n) : (tabMix n xs k)[k]? = some (xs.getD k 0) := by
  simp [tabMix, h]
theorem tabMix_succ (n : Nat) (xs : List Int) (k : Nat) : (tabMix n xs k).set k (tabAt n xs k) = tabMix n xs (k + 1) := by
  apply List.ext_getElem
  · simp [tabMix]
  · intro i h1 h2
    simp [tabMix, List.getElem_set]
    split
    · subst_vars; simp
    · rename_i h
      have : (i < k) ↔ (i < k + 1) := by omega
      simp [this]
theorem tabMix_skip (n : Nat) (xs : List Int) (k : Nat) (h : tabAt n xs k = xs.getD k 0) : tabMix n xs (k + 1) = tabMix n xs k := by
  unfold tabMix
  apply List.map_congr_left
  intro j _
  by_cases h1 : j < k
  · rw [if_pos (by omega), if_pos h1]
  · by_cases h2 : j = k
    · subst h2; rw [if_pos (by omega), if_neg h1, h]
    · rw [if_neg (by omega), if_neg h1]
theorem tabMix_done (n : Nat) (xs : List Int) : tabMix n xs n = tab n xs := by
  unfold tabMix tab
  apply List.map_congr_left
  intro j hj
  rw [if_pos (List.mem_range.1 hj)]
theorem tabMix_zero (n : Nat) (xs : List Int) (h : xs.length ≤ n) : xs ++ (List.replicate n (0 : Int)).drop xs.length = tabMix n xs 0 := by
  apply List.ext_getElem
  · simp [tabMix]; omega
  · intro i h1 h2
    simp [tabMix, List.getElem_append]
    split
    · rename_i h; simp [h]
    · rename_i h; rw [List.getElem?_eq_none (by omega)]; rfl

theorem infoSz : (Try.prog.info? 3).map (·.size) = some 1 := by kernel_rfl

set_option maxHeartbeats 800000 in
theorem table_any (log : Int) (b n : Nat) (t : TypeId) (vf : Value) (xs : List Int) (w : World) (hb : Blk w b t ((List.replicate n (0 : Int)).map (Value.int .i64)).toArray) (hf : Ints w .i64 vf xs)
    (hl : xs.length ≤ n) (hn6 : 6 ≤ n) (hn : n ≤ 1000) :
    Calls Try.prog 31 #[.int .i64 log, .slice (some ⟨b, 0, none⟩) n n, vf] w fun e w' =>
      e = .returned (.agg #[.int .i64 log, .slice (some ⟨b, 0, none⟩) n n]) ∧ Below b w w' ∧ Blk w' b t ((tab n xs).map (Value.int .i64)).toArray := by
  obtain ⟨A, m, c, rfl, hc, hm, hx⟩ := hf.get
  have hbf := hb.lt
  have HX := Lib.hid hx
  have HB := Lib.hid hb
  have hl' : m ≤ n := by rw [← hx.1]; exact hl
  clear hx hb hl
  go_enter Try.func31, Try.ntmps31
  go_wp2_with ((with_reducible refine wpList_copy_ints rfl _ _ 23 23 rfl 3 Try.underlying23 infoSz b n n m c A rfl rfl .i64 xs (List.replicate n (0 : Int)) t (HB.out.alloc _) (AtInts.alloc HX.out _) (by simp) hl' ?_); intro w1 hb1 hg1 hs1)
  have hbl : Below b w w1 := ((Below.refl _ _).alloc (by omega) _).grown hg1.out (by simp; omega) (by intro k hk; injection hk with hk; omega)
  have HR1 : Hid (Blk w1 w.heap.size 25 #[.int .i64 0, .slice none 0 0]) := (Blk.new w _ _).grown hg1.out (by intro h; injection h; omega)
  have HB1 : Hid (Blk w1 b t ((tabMix n xs 0).map (Value.int .i64)).toArray) := by
    have h1 := HX.out.1
    have h := hb1.out
    rw [← h1, tabMix_zero n xs (by rw [h1]; exact hl')] at h
    exact h
  clear hb1 hg1 hs1
  go_loopw [13] (fun i wr => ∃ k : Nat, k ≤ n ∧ i = .int .i64 k ∧ Hid (Blk wr b t ((tabMix n xs k).map (Value.int .i64)).toArray) ∧ Hid (Blk wr w.heap.size 25 #[.int .i64 0, .slice none 0 0]) ∧ Below b w wr) (fun i _ => n - (intOf i).toNat)
  case atStart => exact ⟨0, Nat.zero_le _, rfl, HB1, HR1, hbl⟩
  case round =>
    obtain ⟨k, hk, rfl, HB, HR, hbel⟩ := hrel
    clear HB1 HR1 hbl
    by_cases hlt : k < n
    · have c1 := HB.out.int_at (tabMix_at n xs k hlt)
      have f1 := HB.out.frozen k
      obtain ⟨x, ex⟩ : ∃ x, x = xs.getD k 0 := ⟨_, rfl⟩
      rw [← ex] at c1
      have EX := Lib.hid ex
      clear ex
      have h0 : (0 : Int) ≤ (k : Int) := by omega
      have h0' : (k : Int) < (n : Int) := by omega
      have step : ∀ y wx, y = tabAt n xs k → wx = wr.setCell ⟨b, k, none⟩ (.int .i64 y) → Hid (Blk wx b t ((tabMix n xs (k + 1)).map (Value.int .i64)).toArray) ∧ Hid (Blk wx w.heap.size 25 #[.int .i64 0, .slice none 0 0]) ∧ Below b w wx := by
        intro y wx hy hwx
        subst hwx
        refine ⟨?_, HR.out.far (by simp; omega) _, hbel.setCell (by simp) _⟩
        have h := HB.out.set_ints k y
        rw [hy, tabMix_succ] at h
        rw [hy]
        exact h
      have STEP := Lib.hid step
      clear step
      by_cases h6 : n ≤ k + 6
      · have hy : -1 = tabAt n xs k := by unfold tabAt; rw [if_pos h6]
        have HY := Lib.hid hy
        clear hy
        go_wp2
        go_roundw
        case rel => exact ⟨k + 1, by omega, by go_num, STEP.out _ _ HY.out rfl⟩
        case measure => simp [intOf]; omega
      · by_cases hx : x = 0
        · have hy : 1 = tabAt n xs k := by unfold tabAt; rw [if_neg h6, if_pos (by rw [← EX.out]; exact hx)]
          have HY := Lib.hid hy
          clear hy
          subst hx
          go_wp2
          go_roundw
          case rel => exact ⟨k + 1, by omega, by go_num, STEP.out _ _ HY.out rfl⟩
          case measure => simp [intOf]; omega
        · have hy : x = tabAt n xs k := by unfold tabAt; rw [if_neg h6, if_neg (by rw [← EX.out]; exact hx), EX.out]
          have HY : Hid (Blk wr b t ((tabMix n xs (k + 1)).map (Value.int .i64)).toArray) := by
            rw [tabMix_skip n xs k (by rw [← hy, EX.out])]
            exact HB
          clear hy
          have hne : (x == 0) = false := by simpa using hx
          go_wp2
          go_roundw
          case rel => exact ⟨k + 1, by omega, by go_num, HY, HR, hbel⟩
          case measure => simp [intOf]; omega
    · obtain rfl : k = n := by omega
      have c0 := HR.out.cell 0
      have c1 := HR.out.cell 1
      have f0 := HR.out.frozen 0
      have f1 := HR.out.frozen 1
      simp at c0 c1
      have hc0 := hbf
      go_wp2
      refine bodyPost_ret (v := .agg #[.int .i64 log, .slice (some ⟨b, 0, none⟩) k k]) (by simp [results, Try.results31, go_sem, c0, c1]) rfl ⟨rfl, ?_, ?_⟩
      · exact (hbel.setCell (by simp; omega) _).setCell (by simp; omega) _
      · rw [← tabMix_done]
        exact (HB.out.far (by simp; omega) _).far (by simp; omega) _

def llN : List Int := [5, 3, 3, 3, 2, 2, 2, 2, 2, 2, 1, 1, 1, 1, 1, 1, 2, 2, 2, 2, 1, 1, 1, 1, 1, 1, 1, 1, 1, 1, 1, 1, 1, 1, 1, 1, 1, 1, -1, -1, -1, -1, -1, -1]
def ofN : List Int := [1, 1, 1, 1, 1, 2, 2, 2, 2, 1, 1, 1, 1, 1, 1, 1, 1, 1, 1, 1, 1, 1, -1, -1, -1, -1, -1, -1]
def mlN : List Int := [5, 5, 4, 3, 3, 2, 2, 2, 1, 1, 1, 1, 1, 1, 1, 1, 2, 2, 1, 1, 1, 1, 1, 1, 1, 1, 1, 1, 1, 1, 1, 1, 1, 1, 1, 1, 1, 1, -1, -1, -1, -1, -1, -1]
theorem llN_eq : tab 44 [5, 3, 3, 3, 2, 2, 2, 2, 2, 2, 1, 1, 1, 1, 1, 1, 2, 2, 2, 2] = llN := by decide
theorem ofN_eq : tab 28 [1, 1, 1, 1, 1, 2, 2, 2, 2] = ofN := by decide
theorem mlN_eq : tab 44 [5, 5, 4, 3, 3, 2, 2, 2, 1, 1, 1, 1, 1, 1, 1, 1, 2, 2] = mlN := by decide

/-- What a fresh table is: Log, norms. -/
def TabRes (w w' : World) (e : Ending) (log : Int) (xs : List Int) : Prop :=
  ∃ v, e = .returned (.agg #[.int .i64 log, v]) ∧ FreshInts w' w.heap.size v xs ∧ Below w.heap.size w w'

set_option maxHeartbeats 400000 in
theorem ll_any (w : World) : Calls Try.prog 12 #[] w fun e w' => TabRes w w' e 6 llN := by
  go_enter Try.func12, Try.ntmps12
  go_wp2_with fail
  refine (table_any 6 (w.heap.size + 1) 44 51 _ [5, 3, 3, 3, 2, 2, 2, 2, 2, 2, 1, 1, 1, 1, 1, 1, 2, 2, 2, 2] _ ?hb ?hf (by decide) (by omega) (by omega)).mono ?_
  case hb => exact ((Blk.new1 w _ _ _).alloc _).congr (by rfl)
  case hf => exact Ints.of_blk (t := 3) ((Blk.new2 w _ _ _ _).congr (by rfl)) (by rfl) (Nat.le_refl _) (by decide)
  rintro e w1 ⟨rfl, hb, hk⟩
  rw [llN_eq] at hk
  have hx : w1.cell? ⟨w.heap.size, 0, none⟩ = some (.int .i64 0) := by rw [hb.cell (by simp)]; go_simp
  have hy : w1.cell? ⟨w.heap.size, 1, none⟩ = some (.slice none 0 0) := by rw [hb.cell (by simp)]; go_simp
  have hf : w1.frozen? ⟨w.heap.size, 0, none⟩ = false := by rw [hb.frozen (by simp)]; go_simp
  have hf' : w1.frozen? ⟨w.heap.size, 1, none⟩ = false := by rw [hb.frozen (by simp)]; go_simp
  have HK := Lib.hid hk
  clear hk
  go_wp2
  refine bodyPost_ret (v := .agg #[.int .i64 6, .slice (some ⟨w.heap.size + 1, 0, none⟩) 44 44]) (by simp [results, Try.results12, go_sem, hx, hy]) rfl ⟨_, rfl, ⟨w.heap.size + 1, _, rfl, by omega, (HK.out.far (by simp) _).far (by simp) _⟩, ?_⟩
  exact (((((Below.refl _ _).alloc (Nat.le_refl _) _).alloc (by simp) _).alloc (by simp; omega) _).trans (hb.mono (by omega))).setCell (by simp) _ |>.setCell (by simp) _

set_option maxHeartbeats 400000 in
theorem of_any (w : World) : Calls Try.prog 14 #[] w fun e w' => TabRes w w' e 5 ofN := by
  go_enter Try.func14, Try.ntmps14
  go_wp2_with fail
  refine (table_any 5 (w.heap.size + 1) 28 53 _ [1, 1, 1, 1, 1, 2, 2, 2, 2] _ ?hb ?hf (by decide) (by omega) (by omega)).mono ?_
  case hb => exact ((Blk.new1 w _ _ _).alloc _).congr (by rfl)
  case hf => exact Ints.of_blk (t := 3) ((Blk.new2 w _ _ _ _).congr (by rfl)) (by rfl) (Nat.le_refl _) (by decide)
  rintro e w1 ⟨rfl, hb, hk⟩
  rw [ofN_eq] at hk
  have hx : w1.cell? ⟨w.heap.size, 0, none⟩ = some (.int .i64 0) := by rw [hb.cell (by simp)]; go_simp
  have hy : w1.cell? ⟨w.heap.size, 1, none⟩ = some (.slice none 0 0) := by rw [hb.cell (by simp)]; go_simp
  have hf : w1.frozen? ⟨w.heap.size, 0, none⟩ = false := by rw [hb.frozen (by simp)]; go_simp
  have hf' : w1.frozen? ⟨w.heap.size, 1, none⟩ = false := by rw [hb.frozen (by simp)]; go_simp
  have HK := Lib.hid hk
  clear hk
  go_wp2
  refine bodyPost_ret (v := .agg #[.int .i64 5, .slice (some ⟨w.heap.size + 1, 0, none⟩) 28 28]) (by simp [results, Try.results14, go_sem, hx, hy]) rfl ⟨_, rfl, ⟨w.heap.size + 1, _, rfl, by omega, (HK.out.far (by simp) _).far (by simp) _⟩, ?_⟩
  exact (((((Below.refl _ _).alloc (Nat.le_refl _) _).alloc (by simp) _).alloc (by simp; omega) _).trans (hb.mono (by omega))).setCell (by simp) _ |>.setCell (by simp) _

set_option maxHeartbeats 400000 in
theorem ml_any (w : World) : Calls Try.prog 15 #[] w fun e w' => TabRes w w' e 6 mlN := by
  go_enter Try.func15, Try.ntmps15
  go_wp2_with fail
  refine (table_any 6 (w.heap.size + 1) 44 51 _ [5, 5, 4, 3, 3, 2, 2, 2, 1, 1, 1, 1, 1, 1, 1, 1, 2, 2] _ ?hb ?hf (by decide) (by omega) (by omega)).mono ?_
  case hb => exact ((Blk.new1 w _ _ _).alloc _).congr (by rfl)
  case hf => exact Ints.of_blk (t := 3) ((Blk.new2 w _ _ _ _).congr (by rfl)) (by rfl) (Nat.le_refl _) (by decide)
  rintro e w1 ⟨rfl, hb, hk⟩
  rw [mlN_eq] at hk
  have hx : w1.cell? ⟨w.heap.size, 0, none⟩ = some (.int .i64 0) := by rw [hb.cell (by simp)]; go_simp
  have hy : w1.cell? ⟨w.heap.size, 1, none⟩ = some (.slice none 0 0) := by rw [hb.cell (by simp)]; go_simp
  have hf : w1.frozen? ⟨w.heap.size, 0, none⟩ = false := by rw [hb.frozen (by simp)]; go_simp
  have hf' : w1.frozen? ⟨w.heap.size, 1, none⟩ = false := by rw [hb.frozen (by simp)]; go_simp
  have HK := Lib.hid hk
  clear hk
  go_wp2
  refine bodyPost_ret (v := .agg #[.int .i64 6, .slice (some ⟨w.heap.size + 1, 0, none⟩) 44 44]) (by simp [results, Try.results15, go_sem, hx, hy]) rfl ⟨_, rfl, ⟨w.heap.size + 1, _, rfl, by omega, (HK.out.far (by simp) _).far (by simp) _⟩, ?_⟩
  exact (((((Below.refl _ _).alloc (Nat.le_refl _) _).alloc (by simp) _).alloc (by simp; omega) _).trans (hb.mono (by omega))).setCell (by simp) _ |>.setCell (by simp) _


end Go.Proofs.Ytkffhfdmdcecaaa
