/-
  ExecPieces: what holds from the turns on.
-/
import Derived.Test.YtndgdehlnmheeaaExPiA
import Derived.Test.YtndgdehlnmheeaaExFew
import Derived.Test.YtndgdehlnmheeaaExRunsP
namespace Go.Proofs.Ytndgdehlnmheeaa
set_option linter.all false
set_option maxRecDepth 100000
open Go.RowKit

/-- Ahead of the turns: the boxes of 'many' and of the result, the iterator's box B, the box P of the reference's pieces. -/
structure PieW (w W : World) (many : Int) (P : Nat) (ov : Value) (B : Nat) (pv : Value) (ps : List (List Int)) : Prop where
  below : Below w.heap.size w W
  km : Blk W w.heap.size 3 #[.int .i64 many]
  kr : Blk W (w.heap.size + 1) 4 #[.bool false]
  kp : Blk W P 48 #[ov]
  kb : Blk W B 48 #[pv]
  po : Pcs W ov ps
  pp : Pcs W pv ps
theorem PieW.next {w W W2 : World} {many : Int} {P : Nat} {ov : Value} {B : Nat} {pv : Value} {ps : List (List Int)} (h : PieW w W many P ov B pv ps) (hb : Below W.heap.size W W2) : PieW w W2 many P ov B pv ps :=
  ⟨h.below.trans (hb.mono h.below.size), h.km.below hb h.km.lt, h.kr.below hb h.kr.lt, h.kp.below hb h.kp.lt, h.kb.below hb h.kb.lt, h.po.below hb (Nat.le_refl _), h.pp.below hb (Nat.le_refl _)⟩

/-- Ahead of the ring's Add: what its blocks g and vo, and the literals' own block x, are not. -/
structure PieQ (w W : World) (many : Int) (P : Nat) (ov : Value) (B : Nat) (pv : Value) (ps : List (List Int)) (g x : Nat) (vo : Option Nat) (B1 B2 : Nat) (lo : Option Nat) : Prop where
  below : Below w.heap.size w W
  km : Blk W w.heap.size 3 #[.int .i64 many]
  kr : Blk W (w.heap.size + 1) 4 #[.bool false]
  kp : Blk W P 48 #[ov]
  kb : Blk W B 48 #[pv]
  po : PcsFar B2 lo W ov ps
  pp : PcsFar B1 none W pv ps
  hg : w.heap.size + 1 < g ∧ g < B1
  hx : w.heap.size + 1 < x ∧ x < B1
  hv : ∀ k, vo = some k → w.heap.size + 1 < k ∧ k < B1
  hlo : ∀ k, lo = some k → k < w.heap.size
  hB : B1 ≤ B2 ∧ B1 ≤ B ∧ B1 ≤ P
theorem PieQ.next {w W W2 : World} {many : Int} {P : Nat} {ov : Value} {B : Nat} {pv : Value} {ps : List (List Int)} {g x : Nat} {vo : Option Nat} {B1 B2 : Nat} {lo : Option Nat} (h : PieQ w W many P ov B pv ps g x vo B1 B2 lo) (hb : But2 W W2 g x vo) :
    PieQ w W2 many P ov B pv ps g x vo B1 B2 lo := by
  have hbel := h.below.size
  have key : ∀ {b : Nat} {t : TypeId} {cs : Array Value}, Blk W b t cs → (b ≤ w.heap.size + 1 ∨ B1 ≤ b) → Blk W2 b t cs := fun {b t cs} hk hle => by
    have h1 := h.hg
    have h2 := h.hx
    exact (hb.block b hk.lt (by omega) (by omega) (fun e => by have := h.hv _ e.symm; omega)).trans hk
  refine ⟨h.below.trans (hb.below hbel (by have := h.hg; omega) (by have := h.hx; omega) (fun k hk => by have := h.hv k hk; omega)), key h.km (by omega), key h.kr (by omega), key h.kp (by have := h.hB; omega), key h.kb (by have := h.hB; omega),
    h.po.keep hb.size fun k hk hx => ?_, h.pp.keep hb.size fun k hk hx => ?_, h.hg, h.hx, h.hv, h.hlo, h.hB⟩
  · have hk2 : B1 ≤ k ∨ k < w.heap.size := by
      rcases hx with hx | hx
      · have := h.hB; omega
      · exact .inr (h.hlo k hx)
    exact hb.block k hk (by have := h.hg; omega) (by have := h.hx; omega) (fun e => by have := h.hv _ e.symm; omega)
  · have hk2 : B1 ≤ k := by
      rcases hx with hx | hx
      · exact hx
      · cases hx
    exact hb.block k hk (by have := h.hg; omega) (by have := h.hx; omega) (fun e => by have := h.hv _ e.symm; omega)
theorem PieQ.pieW {w W : World} {many : Int} {P : Nat} {ov : Value} {B : Nat} {pv : Value} {ps : List (List Int)} {g x : Nat} {vo : Option Nat} {B1 B2 : Nat} {lo : Option Nat} (h : PieQ w W many P ov B pv ps g x vo B1 B2 lo) : PieW w W many P ov B pv ps :=
  ⟨h.below, h.km, h.kr, h.kp, h.kb, h.po.pcs, h.pp.pcs⟩

/-- How the pieces' places and the pieces are read in a round. -/
theorem placesL_pre {ps : List (List Int)} {pre : List (Nat × List Int)} {x : Nat × List Int} (h : pre ++ [x] <+: placesL ps) : pre.length < ps.length ∧ ps[pre.length]? = some x.2 ∧ x.1 = (ps.take pre.length).flatten.length := by
  obtain ⟨t, ht⟩ := h
  have h1 : (placesL ps)[pre.length]? = some x := by rw [← ht]; simp
  have h2 := (List.getElem?_eq_some_iff.1 h1).1
  rw [placesL_length] at h2
  have h3 := placesL_at (List.getElem?_eq_getElem h2)
  rw [h3] at h1
  obtain rfl := Option.some.inj h1
  exact ⟨h2, List.getElem?_eq_getElem h2, rfl⟩
theorem mark_end2 {w W' : World} {D D2 r : Nat} {t : TypeId} {u : Value} (h : Blk W' r t #[u]) (hb : Below w.heap.size w W') (hr : w.heap.size ≤ r) (hK2 : W'.heap[D2]? = some (.deferred (some []))) (hK : W'.heap[D]? = some (.deferred (some []))) (hD2 : w.heap.size ≤ D2) (hD : w.heap.size ≤ D) (hne : D ≠ D2) (v : Value) :
    (W'.setCell ⟨r, 0, none⟩ v).heap[D2]? = some (.deferred (some [])) ∧ ((W'.setCell ⟨r, 0, none⟩ v).putObj D2 (.deferred none)).heap[D]? = some (.deferred (some [])) ∧
    (((W'.setCell ⟨r, 0, none⟩ v).putObj D2 (.deferred none)).putObj D (.deferred none)).cell? ⟨r, 0, none⟩ = some v ∧
    Below w.heap.size w (((W'.setCell ⟨r, 0, none⟩ v).putObj D2 (.deferred none)).putObj D (.deferred none)) := by
  obtain ⟨a1, a2, a3⟩ := mark_end h hb hr hK2 hD2 v
  have hK' := (KeepsOthers.setCell W' ⟨r, 0, none⟩ v).same D _ hK rfl
  have hK3 : ((W'.setCell ⟨r, 0, none⟩ v).putObj D2 (.deferred none)).heap[D]? = some (.deferred (some [])) := (World.putObj_heap_other hne).trans hK'
  exact ⟨a1, hK3, cell_kept a2 (grownBy_putObj' _ D (.deferred none)) (fun r e => by cases e; exact ⟨_, hK3, rfl⟩), a3.trans (belowK_put _ D _ hD)⟩

/-- A slice that is read lies in no loop's record. -/
theorem ints_noloop {W X : World} {k : IntKind} {v : Value} {xs : List Int} {l : Nat} {r : Loop} (h : Ints W k v xs) (hl : W.heap[l]? = some (.loop r)) (hk : KeptL (fun k => k ≠ l) W X) : Ints X k v xs := by
  refine Ints.keep h fun b h0 hb hlt => hk.block b (fun e => ?_) hlt
  subst e
  obtain ⟨A, c, rfl, h1, h2, h3, h4⟩ := h
  obtain ⟨b', off, rfl, hcell⟩ := h4 (List.length_pos_iff.2 h0)
  obtain rfl : b' = b := Option.some.inj hb
  have h0' := List.length_pos_iff.2 h0
  have hx := hcell 0 (Value.int k (xs[0]'h0')) (by simp [h0'])
  unfold World.cell? at hx
  simp [hl] at hx

/-- A round counts: its number and its place. -/
theorem pie_tick {w X : World} {tb nb ab k a n : Nat} {t : Int} {ty : TypeId} (nq : Nat) (h1 : Below w.heap.size w X) (h2 : Blk X tb ty #[.int .i64 t]) (h3 : Blk X nb ty #[.int .i64 k]) (h4 : Blk X ab ty #[.int .i64 a])
    (e1 : tb ≠ nb) (e2 : tb ≠ ab) (e3 : nb ≠ ab) (g1 : w.heap.size ≤ nb) (g2 : w.heap.size ≤ ab) :
    Below w.heap.size w (((X.drewN nq).setCell ⟨ab, 0, none⟩ (.int .i64 ((a : Int) + n))).setCell ⟨nb, 0, none⟩ (.int .i64 ((k : Int) + 1))) ∧
    Blk (((X.drewN nq).setCell ⟨ab, 0, none⟩ (.int .i64 ((a : Int) + n))).setCell ⟨nb, 0, none⟩ (.int .i64 ((k : Int) + 1))) tb ty #[.int .i64 t] ∧
    Blk (((X.drewN nq).setCell ⟨ab, 0, none⟩ (.int .i64 ((a : Int) + n))).setCell ⟨nb, 0, none⟩ (.int .i64 ((k : Int) + 1))) nb ty #[.int .i64 (k + 1 : Nat)] ∧
    Blk (((X.drewN nq).setCell ⟨ab, 0, none⟩ (.int .i64 ((a : Int) + n))).setCell ⟨nb, 0, none⟩ (.int .i64 ((k : Int) + 1))) ab ty #[.int .i64 (a + n : Nat)] ∧
    ∀ K : Nat → Prop, ¬K nb → ¬K ab → KeptL K X (((X.drewN nq).setCell ⟨ab, 0, none⟩ (.int .i64 ((a : Int) + n))).setCell ⟨nb, 0, none⟩ (.int .i64 ((k : Int) + 1))) := by
  have hd : Below X.heap.size X (X.drewN nq) := below_drewN (Below.refl _ _) nq
  refine ⟨((below_drewN h1 nq).setCell (p := ⟨ab, 0, none⟩) g2 _).setCell (p := ⟨nb, 0, none⟩) g1 _, ((h2.below hd h2.lt).far (p := ⟨ab, 0, none⟩) e2 _).far (p := ⟨nb, 0, none⟩) e1 _,
    (((h3.below hd h3.lt).far (p := ⟨ab, 0, none⟩) e3 _).set_ 0 (.int .i64 ((k : Int) + 1))).congr (by simp), (((h4.below hd h4.lt).set_ 0 (.int .i64 ((a : Int) + n))).far (p := ⟨nb, 0, none⟩) (Ne.symm e3) _).congr (by simp),
    fun K h5 h6 => ((KeptL.of_below hd).trans (KeptL.setCell _ _ _ h6)).trans (KeptL.setCell _ _ _ h5)⟩

/-- The piece of a round, where the reference's pieces lie. -/
theorem Pcs.cell_at {w : World} {A : Option Addr} {n c : Nat} {ps : List (List Int)} (h : Pcs w (.slice A n c) ps) {k : Nat} {p : List Int} (hp : ps[k]? = some p) :
    ∃ b off A2 c2, A = some ⟨b, off, none⟩ ∧ w.cell? ⟨b, off + k, none⟩ = some (.slice A2 p.length c2) ∧ Ints w .u8 (.slice A2 p.length c2) p := by
  obtain ⟨A', c', he, -, -, h4⟩ := h.at_
  injection he with e1 e2 e3
  subst e1
  obtain ⟨b, off, rfl, hx⟩ := h4 (by have := (List.getElem?_eq_some_iff.1 hp).1; omega)
  obtain ⟨e, hc, hi⟩ := hx k p hp
  obtain ⟨A2, n2, c2, rfl, -, -, h5⟩ := hi.get
  obtain rfl : p.length = n2 := h5.1
  exact ⟨b, off, A2, c2, rfl, hc, hi⟩
theorem Grow.same' {w w' : World} {B : Nat} {e : TypeId} {k : IntKind} {v : Value} {xs : List Int} (h : Grow w B e k v xs) (hs : ∀ j, v.ownBlock = some j → w'.heap[j]? = w.heap[j]?) : Grow w' B e k v xs := by
  obtain ⟨h0, h⟩ := h
  refine ⟨h0, ?_⟩
  rcases h with h | ⟨g, cap, cur, h1, h2, h3, h4⟩
  · exact .inl h
  · exact .inr ⟨g, cap, cur, h1, h2, (hs g (by rw [h1]; rfl)).trans h3, h4⟩
theorem Grow.block_ {w : World} {B : Nat} {e : TypeId} {k : IntKind} {v : Value} {xs : List Int} (h : Grow w B e k v xs) {b : Nat} (hb : B ≤ b) (hb2 : b < w.heap.size) : ∃ x, B ≤ x ∧ x < w.heap.size ∧ ∀ j, v.ownBlock = some j → j = x := by
  cases hv : v.ownBlock with
  | none => exact ⟨b, hb, hb2, fun j hj => by cases hj⟩
  | some j =>
    obtain ⟨h1, h2⟩ := World.ownsRow.lt h j hv
    exact ⟨j, h1, h2, fun i hi => (Option.some.inj hi).symm⟩
theorem flat_take_le {ps : List (List Int)} (k : Nat) : (ps.take k).flatten.length ≤ ps.flatten.length := by
  have h9 := congrArg (fun l => List.length (List.flatten l)) (List.take_append_drop k ps)
  simp only [List.flatten_append, List.length_append] at h9
  omega
theorem piecesOf_le {S : Nat} {aa ls : List Int} {most a t q : Int} {ss : List SeqD} (h : chkOf S aa ls most ss = (a, t, q)) : (piecesOf q aa ls ss).flatten.length ≤ 131072 := by
  unfold piecesOf
  by_cases hq : q = 0
  · subst hq
    obtain ⟨h0, h1, hck⟩ := chkOf_ok h
    obtain ⟨h2, h3, -⟩ := content_length (C := aa) hck
    rw [if_pos rfl]
    show (contentL aa ls ss).length ≤ _
    omega
  · rw [if_neg hq]; simp
end Go.Proofs.Ytndgdehlnmheeaa
