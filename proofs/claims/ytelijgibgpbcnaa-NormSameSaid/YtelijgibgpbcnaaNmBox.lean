/-
  norm.Normalize: what lies in memory between its steps.
-/
import Derived.Test.YtelijgibgpbcnaaNmFn
import Derived.Test.YtelijgibgpbcnaaFresh
import Derived.Maps.AppendAt
import Derived.Deep.OwnRows
import Derived.Maps.OwnIn
import Derived.StillTailTactics
import Derived.Deep.RegionHeld3
namespace Go.Proofs.Ytelijgibgpbcnaa
open Go.RowKit

theorem zeroInt (w : World) : (zeroValue 3).run Try.prog w = .ok (.int .i64 0) w := by kernel_rfl
theorem infoInt : (Try.prog.info? 3).map (fun i => (i.zero, i.size, i.bytes)) = some (some (.int .i64 0), 1, 8) := by kernel_rfl

theorem madeCells_zero (n : Nat) : madeCells #[Value.int .i64 0] n = ((List.replicate n (0 : Int)).map (Value.int .i64)).toArray := by
  apply Array.ext
  · simp [size_madeCells]
  · intro i h1 h2
    have e : i % 1 = 0 := Nat.mod_one i
    simp [madeCells, e]
theorem partOf_nil (n : Nat) (F : Nat → Int) : partOf n F (fun _ => 0) 0 = List.replicate n 0 := by
  unfold partOf
  apply List.ext_getElem
  · simp
  · intro i h1 h2
    simp
theorem partOf_same {n : Nat} {F G : Nat → Int} {k : Nat} (h : F k = G k) : partOf n F G (k + 1) = partOf n F G k := by
  unfold partOf
  refine List.map_congr_left fun i _ => ?_
  by_cases e : i = k
  · subst e; rw [if_pos (by omega), if_neg (by omega), h]
  · by_cases hlt : i < k
    · rw [if_pos hlt, if_pos (by omega)]
    · rw [if_neg hlt, if_neg (by omega)]
theorem sumTo_bounds {F : Nat → Int} {M : Int} (h : ∀ i, 0 ≤ F i ∧ F i ≤ M) : ∀ k : Nat, 0 ≤ sumTo F k ∧ sumTo F k ≤ M * k
  | 0 => by simp [sumTo]
  | k + 1 => by
    have h1 := sumTo_bounds h k
    have h2 := h k
    unfold sumTo
    rw [Int.natCast_add, Int.mul_add]
    simp
    omega

/-- The integer that lies at an address. -/
def rdInt (w : World) (a : Addr) : Int := match w.cell? a with
  | some (.int _ n) => n
  | _ => 0
theorem rdInt_of {w : World} {a : Addr} {x : Int} (h : w.cell? a = some (.int .i64 x)) : rdInt w a = x := by simp [rdInt, h]
theorem rdInt_self {w : World} {a : Addr} {x : Int} (h : w.cell? a = some (.int .i64 x)) : w.cell? a = some (.int .i64 (rdInt w a)) := h.trans (by rw [rdInt_of h])
theorem rdInt_drewN (w : World) (n : Nat) (a : Addr) : rdInt (w.drewN n) a = rdInt w a := rfl
theorem rdInt_drew (w : World) (a : Addr) : rdInt w.drew a = rdInt w a := rfl
theorem rdInt_set {w : World} {a : Addr} {u : Value} {x : Int} (h : w.cell? a = some u) : (w.setCell a (.int .i64 x)).cell? a = some (.int .i64 (rdInt (w.setCell a (.int .i64 x)) a)) := by
  have h1 := World.cell?_setCell_same' w a (.int .i64 x) (by rw [h]; rfl)
  exact h1.trans (by rw [rdInt_of h1])

/-- The boxes of Normalize. -/
structure NmBox (w wr : World) (B : Nat) (A : Option Addr) (n c : Nat) (T S : Int) (ns : List Int) : Prop where
  below : Below w.heap.size w wr
  ge : w.heap.size ≤ B
  counts : Blk wr B 22 #[.slice A n c]
  res : Blk wr (B + 1) 25 #[.int .i64 0, .slice none 0 0]
  tot : Blk wr (B + 1 + 1) 3 #[.int .i64 T]
  size : Blk wr (B + 1 + 1 + 1) 3 #[.int .i64 S]
  norms : Blk wr (B + 1 + 1 + 1 + 1) 3 (ns.map (Value.int .i64)).toArray
  norm : Blk wr (B + 1 + 1 + 1 + 1 + 1) 22 #[.slice (some ⟨B + 1 + 1 + 1 + 1, 0, none⟩) n n]
section
variable {w wr : World} {B : Nat} {A : Option Addr} {n c : Nat} {T S : Int} {ns cs : List Int}
theorem NmBox.start (w : World) (A : Option Addr) (n c : Nat) (T S : Int) (F : Nat → Int) :
    NmBox w ((((((w.alloc (.cells #[.slice A n c] 22)).alloc (.cells #[.int .i64 0, .slice none 0 0] 25)).alloc (.cells #[.int .i64 T] 3)).alloc (.cells #[.int .i64 S] 3)).alloc (.cells (madeCells #[.int .i64 0] n) 3)).alloc
      (.cells #[.slice (some ⟨w.heap.size + 1 + 1 + 1 + 1, 0, none⟩) n n] 22)) w.heap.size A n c T S (partOf n F (fun _ => 0) 0) where
  below := ((((((Below.refl _ _).alloc (Nat.le_refl _) _).alloc (by simp) _).alloc (by simp; omega) _).alloc (by simp; omega) _).alloc (by simp; omega) _).alloc (by simp; omega) _
  ge := Nat.le_refl _
  counts := (((((Blk.new w _ _).alloc _).alloc _).alloc _).alloc _).alloc _
  res := by have := (((((Blk.new (w.alloc (.cells #[.slice A n c] 22)) 25 #[.int .i64 0, .slice none 0 0]).alloc (.cells #[.int .i64 T] 3)).alloc (.cells #[.int .i64 S] 3)).alloc (.cells (madeCells #[.int .i64 0] n) 3)).alloc
      (.cells #[.slice (some ⟨w.heap.size + 1 + 1 + 1 + 1, 0, none⟩) n n] 22)); simpa using this
  tot := by have := ((((Blk.new ((w.alloc (.cells #[.slice A n c] 22)).alloc (.cells #[.int .i64 0, .slice none 0 0] 25)) 3 #[.int .i64 T]).alloc (.cells #[.int .i64 S] 3)).alloc (.cells (madeCells #[.int .i64 0] n) 3)).alloc
      (.cells #[.slice (some ⟨w.heap.size + 1 + 1 + 1 + 1, 0, none⟩) n n] 22)); simpa using this
  size := by have := (((Blk.new (((w.alloc (.cells #[.slice A n c] 22)).alloc (.cells #[.int .i64 0, .slice none 0 0] 25)).alloc (.cells #[.int .i64 T] 3)) 3 #[.int .i64 S]).alloc (.cells (madeCells #[.int .i64 0] n) 3)).alloc
      (.cells #[.slice (some ⟨w.heap.size + 1 + 1 + 1 + 1, 0, none⟩) n n] 22)); simpa using this
  norms := by
    rw [partOf_nil, ← madeCells_zero]
    have := ((Blk.new ((((w.alloc (.cells #[.slice A n c] 22)).alloc (.cells #[.int .i64 0, .slice none 0 0] 25)).alloc (.cells #[.int .i64 T] 3)).alloc (.cells #[.int .i64 S] 3)) 3 (madeCells #[.int .i64 0] n)).alloc
      (.cells #[.slice (some ⟨w.heap.size + 1 + 1 + 1 + 1, 0, none⟩) n n] 22)); simpa using this
  norm := by
    have := Blk.new (((((w.alloc (.cells #[.slice A n c] 22)).alloc (.cells #[.int .i64 0, .slice none 0 0] 25)).alloc (.cells #[.int .i64 T] 3)).alloc (.cells #[.int .i64 S] 3)).alloc (.cells (madeCells #[.int .i64 0] n) 3)) 22
      #[.slice (some ⟨w.heap.size + 1 + 1 + 1 + 1, 0, none⟩) n n]; simpa using this
theorem NmBox.drewN (h : NmBox w wr B A n c T S ns) (a : Nat) : NmBox w (wr.drewN a) B A n c T S ns :=
  ⟨below_drewN h.below a, h.ge, h.counts, h.res, h.tot, h.size, h.norms, h.norm⟩
theorem NmBox.drew (h : NmBox w wr B A n c T S ns) : NmBox w wr.drew B A n c T S ns :=
  ⟨h.below.drew, h.ge, h.counts, h.res, h.tot, h.size, h.norms, h.norm⟩
theorem NmBox.alloc (h : NmBox w wr B A n c T S ns) (o : Obj) : NmBox w (wr.alloc o) B A n c T S ns :=
  ⟨h.below.alloc h.below.size o, h.ge, h.counts.alloc o, h.res.alloc o, h.tot.alloc o, h.size.alloc o, h.norms.alloc o, h.norm.alloc o⟩
theorem NmBox.store (h : NmBox w wr B A n c T S ns) (i : Nat) (x : Int) : NmBox w (wr.setCell ⟨B + 1 + 1 + 1 + 1, i, none⟩ (.int .i64 x)) B A n c T S (ns.set i x) where
  below := h.below.setCell (p := ⟨B + 1 + 1 + 1 + 1, i, none⟩) (by have := h.ge; simp; omega) _
  ge := h.ge
  counts := h.counts.far (p := ⟨B + 1 + 1 + 1 + 1, i, none⟩) (by simp <;> omega) _
  res := h.res.far (p := ⟨B + 1 + 1 + 1 + 1, i, none⟩) (by simp <;> omega) _
  tot := h.tot.far (p := ⟨B + 1 + 1 + 1 + 1, i, none⟩) (by simp <;> omega) _
  size := h.size.far (p := ⟨B + 1 + 1 + 1 + 1, i, none⟩) (by simp <;> omega) _
  norms := h.norms.set_ints i x
  norm := h.norm.far (p := ⟨B + 1 + 1 + 1 + 1, i, none⟩) (by simp <;> omega) _
/-- A store into a block of the call's own behind the boxes. -/
theorem NmBox.past (h : NmBox w wr B A n c T S ns) {p : Addr} (hp : B + 1 + 1 + 1 + 1 + 1 < p.block) (u : Value) : NmBox w (wr.setCell p u) B A n c T S ns where
  below := h.below.setCell (by have := h.ge; omega) _
  ge := h.ge
  counts := h.counts.far (by omega) _
  res := h.res.far (by omega) _
  tot := h.tot.far (by omega) _
  size := h.size.far (by omega) _
  norms := h.norms.far (by omega) _
  norm := h.norm.far (by omega) _
theorem NmBox.mem (h : NmBox w wr B A n c T S ns) (hi : AtInts w .i64 A n cs) (hn : n ≤ 1000) (hl : ns.length = n) (hb : ∀ i, 0 ≤ gt ns i ∧ gt ns i ≤ 512) (hc : ∀ i, 0 ≤ gt cs i ∧ gt cs i ≤ T) (ht : 0 ≤ T ∧ T ≤ 1099511627776) (hs : 1 ≤ S ∧ S ≤ 512) :
    NmMem wr B (B + 1 + 1) (B + 1 + 1 + 1) (B + 1 + 1 + 1 + 1) (B + 1 + 1 + 1 + 1 + 1) A n c T S cs ns where
  counts := h.counts.one.1
  ints := by
    refine ⟨hi.1, fun h0 => ?_⟩
    obtain ⟨b, off, hA, hcell⟩ := hi.2 h0
    refine ⟨b, off, hA, fun i x hx => ?_⟩
    have h1 := hcell i x hx
    exact (h.below.cell (p := ⟨b, off + i, none⟩) (World.block_lt_of_cell? w _ h1)).trans h1
  tot := h.tot.one.1
  size := h.size.one.1
  norms := h.norms
  norm := h.norm.one.1
  nlen := hl
  n63 := by omega
  bnd := hb
  cbd := hc
  t1 := ht
  s1 := hs
end
/-- What Normalize leaves. -/
def NmPost (w : World) (cs : List Int) (log : Int) (e : Ending) (w' : World) : Prop :=
  ∃ (g l : Nat) (zs : List Int), e = .returned (.tuple #[.agg #[.int .i64 log, .slice (some ⟨g, 0, none⟩) l cs.length], .int .i64 0]) ∧ w.heap.size ≤ g ∧ Blk w' g 3 (zs.map (Value.int .i64)).toArray ∧
    zs.length = cs.length ∧ zs.take l = normsOf cs (2 ^ log.toNat) ∧ (normsOf cs (2 ^ log.toNat)).length = l ∧ l ≤ cs.length ∧ Below w.heap.size w w'
end Go.Proofs.Ytelijgibgpbcnaa
