/-
  PlanCounts: the literals step by step, in plain lists; the law's state.
-/
import Derived.Deep.DeepCutAuto
import Derived.Test.YtamhkfnghgbenaaPsBase
import Derived.Test.YtamhkfnghgbenaaPlLits
import Derived.Test.YtamhkfnghgbenaaPlWorksA
namespace Go.Proofs.Ytamhkfnghgbenaa
set_option linter.all false
set_option maxRecDepth 100000
open Go.RowKit Go.Shelf

theorem litsTo_pre {ss : List SeqD} {dd : List Int} {k m : Nat} (h : k ≤ m) : ∃ r, litsTo ss dd m = litsTo ss dd k ++ r := by
  induction m with
  | zero => obtain rfl : k = 0 := by omega
            exact ⟨[], by simp⟩
  | succ m ih =>
    rcases Nat.lt_or_ge m k with h1 | h1
    · obtain rfl : k = m + 1 := by omega
      exact ⟨[], by simp⟩
    · obtain ⟨r, hr⟩ := ih h1
      rw [litsTo, hr]
      exact ⟨_, List.append_assoc _ _ _⟩

/-- A sequence of a plan of good lengths: where its literals stand. -/
theorem lits_at {ss : List SeqD} {dd : List Int} {k : Nat} {s : SeqD} (hg : Good 1 131072 0 0 ss ss.length) (hp : posL ss ≤ dd.length) (hs : ss[k]? = some s) :
    0 ≤ s.lit ∧ 3 ≤ s.len ∧ 0 ≤ posL (ss.take k) ∧ posL (ss.take k) + s.lit + s.len ≤ dd.length ∧ posL (ss.take (k + 1)) = posL (ss.take k) + s.lit + s.len ∧ (litsTo ss dd (k + 1)).length = (litsTo ss dd k).length + s.lit.toNat ∧
      (litsTo ss dd (k + 1)).length ≤ (litsTo ss dd ss.length).length ∧
      ∀ j, j < s.lit.toNat → (litsTo ss dd ss.length ++ dd.drop (posL ss).toNat)[(litsTo ss dd k).length + j]? = dd[(posL (ss.take k)).toNat + j]? := by
  have hk := (List.getElem?_eq_some_iff.1 hs).1
  obtain ⟨⟨r1, r2, -⟩, -⟩ := hg k s hk hs
  simp only [stepAt] at r1 r2
  have h0 := (Good.pos (by decide) (k := k) (by omega) (fun i x hi => hg i x (by omega))).1
  have hm := posL_mono (Nat.le_refl _) hg (k := k + 1) (by omega)
  rw [List.take_length] at hm
  have hsucc := posL_take_succ hs
  have hlen : ((dd.drop (posL (ss.take k)).toNat).take s.lit.toNat).length = s.lit.toNat := by rw [List.length_take, List.length_drop]; omega
  have hto : litsTo ss dd (k + 1) = litsTo ss dd k ++ (dd.drop (posL (ss.take k)).toNat).take s.lit.toNat := by rw [litsTo, hs]
  have hl1 : (litsTo ss dd (k + 1)).length = (litsTo ss dd k).length + s.lit.toNat := by rw [hto, List.length_append, hlen]
  obtain ⟨r, hr⟩ := litsTo_pre (ss := ss) (dd := dd) (k := k + 1) (m := ss.length) (by omega)
  refine ⟨r1, r2, h0, by omega, hsucc, hl1, by rw [hr, List.length_append]; omega, fun j hj => ?_⟩
  rw [hr, List.append_assoc, List.getElem?_append_left (by omega), hto, List.getElem?_append_right (by omega), Nat.add_sub_cancel_left, List.getElem?_take, if_pos hj, List.getElem?_drop]

/-- The law's boxes, the data, the literals, the steps. -/
structure PcW (w W : World) (dv : Value) (dd : List Int) (q : Nat) (av : Value) (aa : List Int) (ss : List SeqD) (B : Nat) (ov : Value) : Prop where
  below : Below w.heap.size w W
  kd : Blk W w.heap.size 34 #[dv]
  kr : Blk W (w.heap.size + 1) 4 #[.bool false]
  ka : Blk W q 34 #[av]
  id_ : Ints W .u8 dv dd
  ia : Ints W .u8 av aa
  kb : W.cell? ⟨B, 0, none⟩ = some ov
  ro : StRow W ov (stepsOf 131072 0 0 ss ss.length)
theorem PcW.next {w W W' : World} {dv : Value} {dd : List Int} {q : Nat} {av : Value} {aa : List Int} {ss : List SeqD} {B : Nat} {ov : Value} (h : PcW w W dv dd q av aa ss B ov) (hb : Below W.heap.size W W') : PcW w W' dv dd q av aa ss B ov :=
  ⟨h.below.trans (hb.mono h.below.size), h.kd.below hb h.kd.lt, h.kr.below hb h.kr.lt, h.ka.below hb h.ka.lt, h.id_.below hb (Nat.le_refl _), h.ia.below hb (Nat.le_refl _), (hb.cell (World.block_lt_of_cell? _ _ h.kb)).trans h.kb, SRow.same h.ro fun k hk => hb.block k (SRow.lt h.ro k hk)⟩

theorem two_boxes (w : World) (x y : Value) (t : TypeId) : Below w.heap.size w (((w.alloc (.cells #[x] t)).alloc (.cells #[y] t)).drew) ∧ Blk (((w.alloc (.cells #[x] t)).alloc (.cells #[y] t)).drew) w.heap.size t #[x] ∧ Blk (((w.alloc (.cells #[x] t)).alloc (.cells #[y] t)).drew) (w.heap.size + 1) t #[y] := by
  have h2 := Blk.new (w.alloc (.cells #[x] t)) t #[y]
  rw [World.size_alloc] at h2
  exact ⟨(((Below.refl _ w).alloc (Nat.le_refl _) _).alloc (by simp) _).drew, ((Blk.new w t #[x]).alloc _).drewN 1, h2.drewN 1⟩

/-- A round of the inner loop counts. -/
theorem count_tick {w X : World} {kb lb sb k : Nat} {l : Int} {ty ty2 : TypeId} {cs : Array Value} (nq : Nat) (h1 : Below w.heap.size w X) (h2 : Blk X kb ty #[.int .i64 k]) (h3 : Blk X lb ty #[.int .i64 l]) (h4 : Blk X sb ty2 cs) (hne : kb ≠ lb) (hne2 : kb ≠ sb) (hge : w.heap.size ≤ kb) :
    Below w.heap.size w ((X.drewN nq).setCell ⟨kb, 0, none⟩ (.int .i64 ((k : Int) + 1))) ∧ Blk ((X.drewN nq).setCell ⟨kb, 0, none⟩ (.int .i64 ((k : Int) + 1))) kb ty #[.int .i64 (k + 1 : Nat)] ∧
    Blk ((X.drewN nq).setCell ⟨kb, 0, none⟩ (.int .i64 ((k : Int) + 1))) lb ty #[.int .i64 l] ∧ Blk ((X.drewN nq).setCell ⟨kb, 0, none⟩ (.int .i64 ((k : Int) + 1))) sb ty2 cs ∧ ∀ K : Nat → Prop, ¬K kb → KeptL K X ((X.drewN nq).setCell ⟨kb, 0, none⟩ (.int .i64 ((k : Int) + 1))) := by
  have hd : Below X.heap.size X (X.drewN nq) := below_drewN (Below.refl _ _) nq
  exact ⟨(below_drewN h1 nq).setCell (p := ⟨kb, 0, none⟩) hge _, ((h2.below hd h2.lt).set_ 0 (.int .i64 ((k : Int) + 1))).congr (by simp), (h3.below hd h3.lt).far (p := ⟨kb, 0, none⟩) (Ne.symm hne) _, (h4.below hd h4.lt).far (p := ⟨kb, 0, none⟩) (Ne.symm hne2) _, fun K hK => (KeptL.of_below hd).trans (KeptL.setCell _ _ _ hK)⟩

theorem Ints.tail_ {w : World} {k : IntKind} {A : Option Addr} {n c z : Nat} {xs : List Int} (h : Ints w k (.slice A n c) xs) (hz : z ≤ n) : Ints w k (.slice (if c = z then A else Option.map (fun x => Addr.add x z) A) (n - z) (c - z)) (xs.drop z) := by
  obtain ⟨A', n', c', he, h1, h2, hat⟩ := h.get
  injection he with e1 e2 e3
  subst e1 e2 e3
  exact (AtInts.tail hat hz h1).ints (by omega) (by simp only [maxLen]; omega)

/-- What the law's last line reads. -/
structure PcE (W : World) (d0 : Nat) (dv : Value) (dd : List Int) (q : Nat) (av : Value) (aa : List Int) (kb lb K na : Nat) : Prop where
  kd : Blk W d0 34 #[dv]
  ka : Blk W q 34 #[av]
  kk : Blk W kb 3 #[.int .i64 K]
  kl : Blk W lb 3 #[.int .i64 na]
  id_ : Ints W .u8 dv dd
  ia : Ints W .u8 av aa
section
variable {W W' : World} {d0 : Nat} {dv : Value} {dd : List Int} {q : Nat} {av : Value} {aa : List Int} {kb lb K na : Nat}
theorem PcE.next (h : PcE W d0 dv dd q av aa kb lb K na) (hb : Below W.heap.size W W') : PcE W' d0 dv dd q av aa kb lb K na :=
  ⟨h.kd.below hb h.kd.lt, h.ka.below hb h.ka.lt, h.kk.below hb h.kk.lt, h.kl.below hb h.kl.lt, h.id_.below hb (Nat.le_refl _), h.ia.below hb (Nat.le_refl _)⟩
theorem PcE.store (h : PcE W d0 dv dd q av aa kb lb K na) (r : Nat) (u : Value) (h1 : d0 ≠ r) (h2 : q ≠ r) (h3 : kb ≠ r) (h4 : lb ≠ r) (h5 : ∀ k, dd ≠ [] → dv.ownBlock = some k → k ≠ r) (h6 : ∀ k, av.ownBlock = some k → k ≠ r) : PcE (W.setCell ⟨r, 0, none⟩ u) d0 dv dd q av aa kb lb K na :=
  ⟨h.kd.far (p := ⟨r, 0, none⟩) h1 u, h.ka.far (p := ⟨r, 0, none⟩) h2 u, h.kk.far (p := ⟨r, 0, none⟩) h3 u, h.kl.far (p := ⟨r, 0, none⟩) h4 u,
    Ints.keep h.id_ fun k h0 hk _ => Below.heap_setCell W ⟨r, 0, none⟩ u k (h5 k h0 hk), Ints.keep h.ia fun k _ hk _ => Below.heap_setCell W ⟨r, 0, none⟩ u k (h6 k hk)⟩
theorem PcE.cond {Ad Aa : Option Addr} {nd cd n2 ca pn : Nat} {RR : List Int} (h : PcE W d0 (.slice Ad nd cd) dd q (.slice Aa n2 ca) aa kb lb K na) (h1 : K ≤ n2) (h2 : pn ≤ nd) (h3 : aa.drop K = RR) (h4 : dd.drop pn = RR) :
    W.cell? ⟨d0, 0, none⟩ = some (.slice Ad nd cd) ∧ W.cell? ⟨q, 0, none⟩ = some (.slice Aa n2 ca) ∧ W.cell? ⟨kb, 0, none⟩ = some (.int .i64 K) ∧ W.cell? ⟨lb, 0, none⟩ = some (.int .i64 na) ∧
    (convert 34 9 (.slice (if ca = K then Aa else Option.map (fun x => Addr.add x K) Aa) (n2 - K) (ca - K))).run Try.prog W = .ok (.string (strOfNums RR)) W ∧
    (convert 34 9 (.slice (if cd = pn then Ad else Option.map (fun x => Addr.add x pn) Ad) (nd - pn) (cd - pn))).run Try.prog W = .ok (.string (strOfNums RR)) W :=
  ⟨by rw [h.kd.cell]; rfl, by rw [h.ka.cell]; rfl, by rw [h.kk.cell]; rfl, by rw [h.kl.cell]; rfl, conv_str (h3 ▸ h.ia.tail_ h1), conv_str (h4 ▸ h.id_.tail_ h2)⟩
end
end Go.Proofs.Ytamhkfnghgbenaa
