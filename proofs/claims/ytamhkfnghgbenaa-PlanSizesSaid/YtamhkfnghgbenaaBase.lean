/-
  Plain words for memory: a slice that reads as a list of cells. No program in sight.
-/
import Derived.WalkKit
import Derived.WalkSpells
import Derived.WalkLawsBesides
import Derived.BigQuiet
import Derived.Deep.QuietTactic
import Derived.Deep.Draws
import Derived.Lib.Hide
import Derived.Laws.OwnMore
import Derived.Laws.CopyOwn
import Derived.Laws.EntriesVeiled
namespace Go.Proofs.Ytamhkfnghgbenaa
set_option linter.all false
open Go.RowKit

/-- The slice value v has n elements of sz cells each, and reads as the cells xs. -/
def Sl (w : World) (sz : Nat) (v : Value) (n : Nat) (xs : List Value) : Prop :=
  ∃ A c, v = .slice A n c ∧ xs.length = n * sz ∧ n ≤ c ∧ c ≤ maxLen ∧
    (0 < n → ∃ b off, A = some ⟨b, off, none⟩ ∧ ∀ j u, xs[j]? = some u → w.cell? ⟨b, off + j, none⟩ = some u)

/-- A slice of integers of kind k. -/
def Ints (w : World) (k : IntKind) (v : Value) (xs : List Int) : Prop := Sl w 1 v xs.length (xs.map (Value.int k))

/-- What a slice's address leads to. -/
def AtInts (w : World) (k : IntKind) (A : Option Addr) (n : Nat) (xs : List Int) : Prop :=
  xs.length = n ∧ (0 < n → ∃ b off, A = some ⟨b, off, none⟩ ∧ ∀ i x, xs[i]? = some x → w.cell? ⟨b, off + i, none⟩ = some (.int k x))

theorem Ints.get {w : World} {k : IntKind} {v : Value} {xs : List Int} (h : Ints w k v xs) :
    ∃ A n c, v = .slice A n c ∧ n ≤ c ∧ c ≤ 9223372036854775807 ∧ AtInts w k A n xs := by
  obtain ⟨A, c, hv, _, hc, hm, hr⟩ := h
  refine ⟨A, _, c, hv, hc, by simpa [maxLen] using hm, rfl, fun h0 => ?_⟩
  obtain ⟨b, off, hA, hcell⟩ := hr h0
  exact ⟨b, off, hA, fun i x hx => hcell i _ (by simp [hx])⟩

theorem AtInts.at_ {w : World} {k : IntKind} {A : Option Addr} {n : Nat} {xs : List Int} (h : AtInts w k A n xs) {i : Nat} (hi : i < n) :
    ∃ b off x, A = some ⟨b, off, none⟩ ∧ b < w.heap.size ∧ w.cell? ⟨b, off + i, none⟩ = some (.int k x) ∧ Hid (xs[i]? = some x) := by
  obtain ⟨hl, hr⟩ := h
  obtain ⟨b, off, hA, hcell⟩ := hr (by omega)
  have hx := List.getElem?_eq_getElem (l := xs) (i := i) (by omega)
  have := hcell i _ hx
  exact ⟨b, off, _, hA, World.block_lt_of_cell? w _ this, this, hx⟩

theorem AtInts.alloc {w : World} {k : IntKind} {A : Option Addr} {n : Nat} {xs : List Int} (h : AtInts w k A n xs) (o : Obj) : AtInts (w.alloc o) k A n xs := by
  refine ⟨h.1, fun h0 => ?_⟩
  obtain ⟨b, off, hA, hcell⟩ := h.2 h0
  refine ⟨b, off, hA, fun i x hx => ?_⟩
  have h1 := hcell i x hx
  exact (World.cell?_alloc_lt w _ _ (World.block_lt_of_cell? w _ h1)).trans h1

theorem ret_bool {a b : Bool} (h : a = b) : Ending.returned (.bool a) = .returned (.bool b) := by rw [h]
theorem ret_int {k : IntKind} {a b : Int} (h : a = b) : Ending.returned (.int k a) = .returned (.int k b) := by rw [h]

theorem below_drewN {B : Nat} {a w : World} (h : Below B a w) (n : Nat) : Below B a (w.drewN n) := ⟨h.os, h.tape, h.output, h.size, h.block⟩

/-- Block g is just the cells cs of element type t, none frozen. -/
def Blk (w : World) (g : Nat) (t : TypeId) (cs : Array Value) : Prop := w.heap[g]? = some (.cells cs t (0, 0))

section
variable {w w' : World} {g : Nat} {t : TypeId} {cs : Array Value}
theorem Blk.lt (h : Blk w g t cs) : g < w.heap.size := by
  rcases Nat.lt_or_ge g w.heap.size with hlt | hge
  · exact hlt
  · unfold Blk at h; rw [Array.getElem?_eq_none hge] at h; cases h
theorem Blk.cell (h : Blk w g t cs) (i : Nat) : w.cell? ⟨g, i, none⟩ = cs[i]? := cell_of_row w g i cs t (0, 0) h
theorem Blk.frozen (h : Blk w g t cs) (i : Nat) : w.frozen? ⟨g, i, none⟩ = false := by
  unfold Blk at h
  simp [World.frozen?, h]
theorem Blk.new (w : World) (t : TypeId) (cs : Array Value) : Blk (w.alloc (.cells cs t)) w.heap.size t cs := heap_alloc_new w _
theorem Blk.new1 (w : World) (o : Obj) (t : TypeId) (cs : Array Value) : Blk ((w.alloc o).alloc (.cells cs t)) (w.heap.size + 1) t cs := by
  have := Blk.new (w.alloc o) t cs
  simpa using this
theorem Blk.new2 (w : World) (o o' : Obj) (t : TypeId) (cs : Array Value) : Blk (((w.alloc o).alloc o').alloc (.cells cs t)) (w.heap.size + 1 + 1) t cs := by
  have := Blk.new ((w.alloc o).alloc o') t cs
  simpa using this
theorem Blk.congr {cs' : Array Value} (h : Blk w g t cs) (e : cs = cs') : Blk w g t cs' := e ▸ h
theorem Blk.drewN (h : Blk w g t cs) (n : Nat) : Blk (w.drewN n) g t cs := h
theorem Blk.alloc (h : Blk w g t cs) (o : Obj) : Blk (w.alloc o) g t cs := (Below.heap_alloc w o g h.lt).trans h
theorem Blk.set_ (h : Blk w g t cs) (i : Nat) (u : Value) : Blk (w.setCell ⟨g, i, none⟩ u) g t (cs.setIfInBounds i u) := by
  unfold Blk at h ⊢
  simp [World.setCell, Array.getElem?_modify, h]
theorem Blk.far (h : Blk w g t cs) {p : Addr} (hp : g ≠ p.block) (u : Value) : Blk (w.setCell p u) g t cs := (Below.heap_setCell w p u g hp).trans h
theorem Blk.below {B : Nat} (h : Blk w g t cs) (hb : Below B w w') (hg : g < B) : Blk w' g t cs := (hb.block g hg).trans h
theorem Blk.grown {row : Option Nat} (h : Blk w g t cs) (hb : w.grownBy w' row) (hg : some g ≠ row) : Blk w' g t cs := (hb.block g h.lt hg).trans h
theorem Blk.two {a b : Value} (h : Blk w g t #[a, b]) : w.cell? ⟨g, 0, none⟩ = some a ∧ w.cell? ⟨g, 1, none⟩ = some b ∧ w.frozen? ⟨g, 0, none⟩ = false ∧ w.frozen? ⟨g, 1, none⟩ = false :=
  ⟨by rw [h.cell]; rfl, by rw [h.cell]; rfl, h.frozen 0, h.frozen 1⟩
theorem Blk.one {a : Value} (h : Blk w g t #[a]) : w.cell? ⟨g, 0, none⟩ = some a ∧ w.frozen? ⟨g, 0, none⟩ = false :=
  ⟨by rw [h.cell]; rfl, h.frozen 0⟩
/-- The block of integers as a list. -/
theorem Blk.set_ints {k : IntKind} {xs : List Int} (h : Blk w g t (xs.map (Value.int k)).toArray) (i : Nat) (x : Int) :
    Blk (w.setCell ⟨g, i, none⟩ (.int k x)) g t ((xs.set i x).map (Value.int k)).toArray := by
  have := h.set_ i (.int k x)
  simpa [List.map_set] using this
theorem Blk.int_at {k : IntKind} {xs : List Int} (h : Blk w g t (xs.map (Value.int k)).toArray) {i : Nat} {x : Int} (hx : xs[i]? = some x) :
    w.cell? ⟨g, i, none⟩ = some (.int k x) := by
  rw [h.cell]; simp [hx]
end

theorem Sl.below {w w' : World} {sz n B : Nat} {v : Value} {xs : List Value} (h : Sl w sz v n xs) (hb : Below B w w') (hB : w.heap.size ≤ B) : Sl w' sz v n xs := by
  obtain ⟨A, c, hv, hl, hc, hm, hr⟩ := h
  refine ⟨A, c, hv, hl, hc, hm, fun h0 => ?_⟩
  obtain ⟨b, off, hA, hcell⟩ := hr h0
  refine ⟨b, off, hA, fun j u hu => ?_⟩
  have := hcell j u hu
  exact (hb.cell (p := ⟨b, off + j, none⟩) (Nat.lt_of_lt_of_le (World.block_lt_of_cell? w _ this) hB)).trans this
theorem Ints.below {w w' : World} {B : Nat} {k : IntKind} {v : Value} {xs : List Int} (h : Ints w k v xs) (hb : Below B w w') (hB : w.heap.size ≤ B) : Ints w' k v xs :=
  Sl.below h hb hB
theorem Ints.alloc {w : World} {k : IntKind} {v : Value} {xs : List Int} (h : Ints w k v xs) (o : Obj) : Ints (w.alloc o) k v xs :=
  h.below ((Below.refl _ _).alloc (Nat.le_refl _) o) (Nat.le_refl _)
theorem Ints.alloc2 {w : World} {k : IntKind} {v : Value} {xs : List Int} (h : Ints w k v xs) (o o' : Obj) : Ints ((w.alloc o).alloc o') k v xs := (h.alloc o).alloc o'
theorem Ints.of_blk {w : World} {g : Nat} {t : TypeId} {k : IntKind} {xs : List Int} {n c : Nat} (h : Blk w g t (xs.map (Value.int k)).toArray) (hn : n = xs.length) (hc : n ≤ c) (hm : c ≤ maxLen) :
    Ints w k (.slice (some ⟨g, 0, none⟩) n c) xs := by
  subst hn
  refine ⟨_, c, rfl, by simp, hc, hm, fun _ => ⟨g, 0, rfl, fun j u hu => ?_⟩⟩
  rw [h.cell]
  simpa using hu

theorem add_zero_off (b off j : Nat) : (⟨b, off, none⟩ : Addr).add j = ⟨b, off + j, none⟩ := by unfold Addr.add; split <;> simp_all

theorem Ints.nil (w : World) (k : IntKind) : Ints w k (.slice none 0 0) [] := ⟨none, 0, rfl, rfl, Nat.le_refl _, by simp [maxLen], fun h => absurd h (by simp)⟩

/-- copy(d, s) onto the head of a block that is known whole, s an integer slice that is no longer. -/
theorem wpList_copy_ints {P : Program} {w : World} {ops : Array Oper} {rest : List Oper} {o : Oper} {a : Act} {Q : Exit → Act → World → Prop} (hgd : o.guard = none) (d s : Operand) (dT sT : TypeId)
    (ho : o.op = .call { callee := .builtin .copy, args := #[d, s], argTypes := #[dT, sT] }) (elem : TypeId) (hu : P.underlying dT = some (.slice elem)) (hsz : (P.info? elem).map (·.size) = some 1)
    (g n dCap m sCap : Nat) (A : Option Addr) (hd : a.eval d = .slice (some ⟨g, 0, none⟩) n dCap) (hs : a.eval s = .slice A m sCap) (k : IntKind) (xs ys : List Int) (t : TypeId)
    (hg : Blk w g t (ys.map (Value.int k)).toArray) (hx : AtInts w k A m xs) (hn : n = ys.length) (hm : m ≤ n)
    (h : ∀ w', Hid (Blk w' g t ((xs ++ ys.drop m).map (Value.int k)).toArray) → Hid (w.grownBy w' (some g)) → Hid (w'.heap.size = w.heap.size) → wpList P ops Q rest (a.put o.dst (goInt xs.length)) w') :
    wpList P ops Q (o :: rest) a w := by
  obtain ⟨hl, hr⟩ := hx
  rcases Nat.eq_zero_or_pos m with h0 | h0
  · subst h0
    obtain rfl : xs = [] := List.eq_nil_of_length_eq_zero hl
    refine wpList_copy_nothing hgd d s dT sT ho elem hu hsz _ A n dCap 0 sCap hd hs (Nat.zero_min _) ?_
    exact h w (show Blk _ _ _ _ by simpa using hg) (show World.grownBy _ _ _ from ⟨rfl, rfl, rfl, Nat.le_refl _, fun _ _ _ => rfl⟩) (show _ = _ from rfl)
  · obtain ⟨b', off', rfl, hcell⟩ := hr h0
    refine wpList_copy_own hgd d s dT sT ho elem hu hsz g 0 n dCap ⟨b', off', none⟩ m sCap hd hs (ys.map (Value.int k)).toArray t hg (xs.map (Value.int k)) (by simp [hl]; exact (Nat.min_eq_left hm).symm) ?_ (by simp [hl]; omega) ?_ ?_
    · intro j v hj
      simp at hj
      obtain ⟨x, hx, rfl⟩ := hj
      rw [add_zero_off]
      exact hcell j x hx
    · intro v hv
      simp at hv
      obtain ⟨x, _, rfl⟩ := hv
      rfl
    · have := h (w.setRow g (((ys.map (Value.int k)).toArray.toList.take 0 ++ (xs.map (Value.int k) ++ (ys.map (Value.int k)).toArray.toList.drop (0 + (xs.map (Value.int k)).length)))).toArray)
        (show Blk _ _ _ _ by
          have e := setRow_heap w g _ (((ys.map (Value.int k)).toArray.toList.take 0 ++ (xs.map (Value.int k) ++ (ys.map (Value.int k)).toArray.toList.drop (0 + (xs.map (Value.int k)).length)))).toArray t _ hg
          unfold Blk
          rw [e]
          simp [hl, List.map_append, List.map_drop])
        (show World.grownBy _ _ _ from ⟨rfl, rfl, rfl, by simp, fun i _ hne => setRow_other w g i _ (fun e => hne (by rw [e]))⟩) (show _ = _ by simp)
      simpa using this

end Go.Proofs.Ytamhkfnghgbenaa
