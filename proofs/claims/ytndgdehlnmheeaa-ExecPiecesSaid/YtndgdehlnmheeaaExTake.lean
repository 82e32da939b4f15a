/-
  exec: memory but for the ring and the run; takes.
-/
import Derived.Test.YtndgdehlnmheeaaExPl
namespace Go.Proofs.Ytndgdehlnmheeaa
set_option linter.all false
set_option maxRecDepth 100000
open Go.RowKit

/-- w' is w but for the blocks g and x, row o and new blocks. -/
structure But2 (w w' : World) (g x : Nat) (o : Option Nat) : Prop where
  os : w'.os = w.os
  tape : w'.tape = w.tape
  output : w'.output = w.output
  size : w.heap.size ≤ w'.heap.size
  block : ∀ k, k < w.heap.size → k ≠ g → k ≠ x → some k ≠ o → w'.heap[k]? = w.heap[k]?
section
variable {w w1 w' : World} {g x : Nat} {o o' : Option Nat}
theorem But2.refl (w : World) (g x : Nat) (o : Option Nat) : But2 w w g x o := ⟨rfl, rfl, rfl, Nat.le_refl _, fun _ _ _ _ _ => rfl⟩
theorem But2.trans (h : But2 w w1 g x o) (h' : But2 w1 w' g x o') (ho : o' = o ∨ ∀ k, o' = some k → w.heap.size ≤ k) : But2 w w' g x o := by
  refine ⟨h'.os.trans h.os, h'.tape.trans h.tape, h'.output.trans h.output, Nat.le_trans h.size h'.size, fun k hk hg hx h1 => ?_⟩
  refine (h'.block k (Nat.lt_of_lt_of_le hk h.size) hg hx ?_).trans (h.block k hk hg hx h1)
  rcases ho with rfl | ho
  · exact h1
  · intro e; have := ho k e.symm; omega
theorem But2.of_but (h : But w w' g o) (x : Nat) : But2 w w' g x o := ⟨h.os, h.tape, h.output, h.size, fun k hk hg _ ho => h.block k hk hg ho⟩
theorem But2.of_below (h : Below w.heap.size w w') (g x : Nat) (o : Option Nat) : But2 w w' g x o := ⟨h.os, h.tape, h.output, h.size, fun k hk _ _ _ => h.block k hk⟩
theorem But2.of_grown (h : w.grownBy w' o) (g x : Nat) : But2 w w' g x o := ⟨h.os, h.tape, h.output, h.size, fun k hk _ _ ho => h.block k hk ho⟩
theorem But2.setx (h : But2 w w1 g x o) (i : Nat) (u : Value) : But2 w (w1.setCell ⟨x, i, none⟩ u) g x o :=
  ⟨h.os, h.tape, h.output, by simpa using h.size, fun k hk hg hx ho => (Below.heap_setCell w1 _ u k hx).trans (h.block k hk hg hx ho)⟩
theorem But2.below (h : But2 w w' g x o) {B : Nat} (hB : B ≤ w.heap.size) (hg : B ≤ g) (hx : B ≤ x) (ho : ∀ k, o = some k → B ≤ k) : Below B w w' :=
  ⟨h.os, h.tape, h.output, h.size, fun k hk => h.block k (by omega) (by omega) (by omega) (fun e => by have := ho k e.symm; omega)⟩
end
/-- A slice's address leads to a block. -/
theorem own_some {b off n c : Nat} : (Value.slice (some ⟨b, off, none⟩) n c).ownBlock = some b := rfl
theorem AtInts.same {w w' : World} {k : IntKind} {A : Option Addr} {n c : Nat} {xs : List Int} (h : AtInts w k A n xs) (hs : ∀ b, (Value.slice A n c).ownBlock = some b → b < w.heap.size → w'.heap[b]? = w.heap[b]?) : AtInts w' k A n xs := by
  refine ⟨h.1, fun h0 => ?_⟩
  obtain ⟨b, off, hA, hc⟩ := h.2 h0
  refine ⟨b, off, hA, fun i x hx => ?_⟩
  have h1 := hc i x hx
  exact (World.cell?_of_block (a := ⟨b, off + i, none⟩) (hs b (by rw [hA]; rfl) (World.block_lt_of_cell? w _ h1))).trans h1
theorem AtInts.take {w : World} {k : IntKind} {A : Option Addr} {n T : Nat} {xs : List Int} (h : AtInts w k A n xs) (hT : T ≤ n) : AtInts w k A T (xs.take T) := by
  obtain ⟨h1, h2⟩ := h
  refine ⟨by rw [List.length_take]; omega, fun h0 => ?_⟩
  obtain ⟨b, off, hA, hx⟩ := h2 (by omega)
  refine ⟨b, off, hA, fun i x hi => ?_⟩
  rw [List.getElem?_take] at hi
  split at hi
  · exact hx i x hi
  · cases hi
theorem at_tail {w : World} {k : IntKind} {A : Option Addr} {n c j : Nat} {xs : List Int} (h : AtInts w k A n xs) (hc : n ≤ c) (hj : j ≤ n) : AtInts w k (if c = j then A else A.map (·.add j)) (n - j) (xs.drop j) := by
  refine ⟨by rw [List.length_drop, h.1], fun h0 => ?_⟩
  obtain ⟨b, off, rfl, hcell⟩ := h.2 (by omega)
  rw [if_neg (by omega)]
  refine ⟨b, off + j, by simp [add_zero_off], fun i x hx => ?_⟩
  rw [List.getElem?_drop] at hx
  rw [Nat.add_assoc]
  exact hcell _ x hx

theorem own_cut {A : Option Addr} {n c n' c' d cc : Nat} : (Value.slice (if cc = d then A else Option.map (fun x => Addr.add x d) A) n' c').ownBlock = (Value.slice A n c).ownBlock := by
  split
  · exact own_any _ _ _ _ _
  · exact own_map _ _ _ _ _ _

/-- What takes leaves. -/
structure Taken (w w' : World) (g x : Nat) (v v' : Value) (S : Nat) (st : List Int) (T : Nat) (A : Option Addr) (N c n : Nat) (ls : List Int) : Prop where
  ring : Ring w' g v' S (keepL S (st ++ ls.take n)) (T + n)
  own : v'.ownBlock = v.ownBlock ∨ ∀ k, v'.ownBlock = some k → w.heap.size ≤ k
  box : Blk w' x 99 #[rp g, .slice (if c = n then A else Option.map (fun x => Addr.add x n) A) (N - n) (c - n)]
  but : But2 w w' g x v.ownBlock

theorem takes_any (w : World) {g x : Nat} {v : Value} {S : Nat} {st : List Int} {T : Nat} {A : Option Addr} {N c : Nat} {ls : List Int} (n : Nat) (hr : Ring w g v S st T) (hb : Blk w x 99 #[rp g, .slice A N c]) (hl : AtInts w .u8 A N ls)
    (hc : N ≤ c) (hm : c ≤ 9223372036854775807) (hn : n ≤ N) (hn2 : n ≤ 100000000000000) (hu : U8s ls) (hx : v.ownBlock ≠ some x) (hT : T + n ≤ 9223372036854775807) (hgx : x ≠ g) :
    Calls Try.prog 67 #[.pointer (some ⟨x, 0, none⟩), .int .i64 n] w fun e w' => e = .returned (.slice A n n) ∧ ∃ v', Taken w w' g x v v' S st T A N c n ls := by
  obtain ⟨c0, c1, f0, f1⟩ := hb.two
  have HR : Hid (∀ u, Ring (w.setCell ⟨x, 1, none⟩ u) g v S st T) := ((fun u => hr.but ((But.refl w x none).set_ 1 u) (Ne.symm hgx) (by simp) hx (by simp)) : ∀ _, _)
  have HT : Hid (∀ u, Ints (w.setCell ⟨x, 1, none⟩ u) .u8 (.slice A n n) (ls.take n)) := ((fun u => ints_far ((hl.take hn).ints (Nat.le_refl _) (by simp only [maxLen]; omega)) c1 (by intro z e; cases e) u) : ∀ _, _)
  have HBX : Hid (∀ u, Blk (w.setCell ⟨x, 1, none⟩ u) x 99 #[rp g, u]) := ((fun u => hb.set_ 1 u) : ∀ _, _)
  have HB2 : Hid (∀ u, But2 w (w.setCell ⟨x, 1, none⟩ u) g x v.ownBlock) := ((fun u => (But2.refl w g x v.ownBlock).setx 1 u) : ∀ _, _)
  have HLN : Hid ((ls.take n).length = n) := (by rw [List.length_take, hl.1]; omega : _ = _)
  have HU : Hid (U8s (ls.take n)) := (fun z hz => hu z (List.mem_of_mem_take hz) : U8s _)
  have n0 : (0 : Int) ≤ (n : Int) := by omega
  have n1 : (n : Int) ≤ (N : Int) := by omega
  have n2 : (n : Int) ≤ (c : Int) := by omega
  have HX := Lib.hid hx
  have HGX := Lib.hid hgx
  have HHT := Lib.hid hT
  have HN2 := Lib.hid hn2
  clear hr hl hb hu hx hgx hT hn2
  by_cases hcn : c = n
  all_goals
    go_enter Try.func67, Try.ntmps67
    go_wp2_with fail
    refine (add_any _ (HR.out _) (HT.out _) HU.out (by rw [HLN.out]; exact HN2.out) (by rw [HLN.out]; exact HHT.out)).mono ?_
    rw [HLN.out]
    rintro e w2 ⟨rfl, v', hp⟩
    have HP := Lib.hid hp
    clear hp
    go_wp2
    go_ret
    refine ⟨rfl, v', HP.out.ring, by have h := HP.out.own; simpa using h, ?_, ?_⟩
    · have h9 := (HP.out.but.block x (by have := (HBX.out (.bool true)).lt; simpa using this) HGX.out (fun e => HX.out e.symm)).trans (HBX.out _)
      first
        | (subst hcn; rw [if_pos rfl, Nat.sub_self]; exact h9)
        | (rw [if_neg hcn]; exact h9)
    · exact (HB2.out _).trans (But2.of_but HP.out.but x) (.inl rfl)
end Go.Proofs.Ytndgdehlnmheeaa
