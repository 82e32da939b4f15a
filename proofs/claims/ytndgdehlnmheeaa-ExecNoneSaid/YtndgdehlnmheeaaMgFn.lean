/-
  A range over a function whose iterator makes no round. A range over a function whose iterator yields given rounds; the rounds keep what the iterator reads and makes. A drawn region in a round of a range over a function.
-/
import Derived.RangeFuncNested
import Derived.RangeFuncBound
import Derived.RangeFuncCalls
import Derived.RangeFuncLeaves
import Derived.RangeFuncWrites
import Derived.Shelf.Abstract
import Derived.Shelf.RegionOpen
import Derived.OwnWalkIn
import Derived.TacticsInMore
import Derived.LoopNIn
import Derived.LoopIn
import Derived.Stop.RegionWithIn
import Derived.Scope
import Derived.Test.YtndgdehlnmheeaaBase
import Derived.Sort.BigQuietIn
namespace Go.Proofs.Ytndgdehlnmheeaa
set_option linter.all false
open Go.RowKit Go.Shelf

section
variable {P : Program} {b : Frame} {a : Act} {k : List Item} {cs : List Frame} {w : World} {F : Fence} {n : Nat} {Q : Exit → Act → World → Prop}
theorem stepR_scope {c : Code} : step P (lone (b.atR a (.code (.scope c) :: k)) cs w) = .next (lone (b.atR a (.code c :: .inScope c :: k)) cs w) :=
  step_lone_go (by simp [stepG, stepG.exec, Frame.atR])
theorem stepR_inScope {c : Code} : step P (lone (b.atR a (.inScope c :: k)) cs w) = .next (lone (b.atR a k) cs w) :=
  step_lone_go (by simp [stepG, stepG.exec, Frame.atR])
/-- A scope out of which and into which no jump goes. -/
theorem wpIn_scope_straight {c : Code} (h : c.wpIn F n P (Exit.noGoto Q) a w) : (Code.scope c).wpIn F n P Q a w := by
  intro b k cs hro hb hr
  have h0 : (lone (b.atR a (.code (.scope c) :: k)) cs w).fenced P F := fenced_calm hb hr rfl
  obtain ⟨e, a₁, w₁, hq, harr⟩ := h b (.inScope c :: k) cs hro hb hr
  cases e with
  | normal => exact ⟨.normal, a₁, w₁, hq, .head h0 stepR_scope (StepsIn.trans harr (.one (fenced_calm hb hr rfl) stepR_inScope))⟩
  | exit id =>
    have hx : exitTo id (.inScope c :: k) = exitTo id k := by simp [exitTo]
    exact ⟨.exit id, a₁, w₁, hq, fun k' hk => .head h0 stepR_scope (harr.1 k' (by rw [hx]; exact hk)),
      fun hr' hk => let ⟨k₁, h1, h2⟩ := harr.2 hr' (by rw [hx]; exact hk); ⟨k₁, h1, .head h0 stepR_scope h2⟩⟩
  | goto l => exact hq.elim
  | ret => exact ⟨_, a₁, w₁, hq, .of_steps (.one h0 stepR_scope) harr⟩
  | panic ch => exact ⟨_, a₁, w₁, hq, .of_steps (.one h0 stepR_scope) harr⟩
  | outgrown => exact ⟨_, a₁, w₁, hq, .of_steps (.one h0 stepR_scope) harr⟩
end

/-- The iterator only adds blocks and never yields: the statement goes on behind itself. -/
theorem rangeFunc_idle {F : Fence} {P : Program} {n : Nat} {g : Operand} {ps : Array Tmp} {assign body : Code} {Q : Exit → Act → World → Prop} {a : Act} {w : World}
    (hro : F.round = none) (h1 : 1 ≤ n) {gf : Nat} {lb : Array Value} (hg : a.eval g = .func (.func gf) #[] lb) (hFg : F.fn gf) (eg : ∀ args w, (callFunc gf args).run P w = .ok (.enter gf args) w)
    (hcall : ∀ (l : Nat) (W : World), Below w.heap.size w W → CallsIn F (n - 1) P gf (#[.func (.yield l) #[] #[]] ++ lb) W fun e W' => (∃ v, e = .returned v) ∧ Below W.heap.size W W')
    (hdone : ∀ (D : Nat) (W : World), w.heap.size ≤ D → Below w.heap.size w W → W.heap[D]? = some (.deferred (some [])) → Q .normal { a with defers := { target := .collected D, args := #[] } :: a.defers } W) :
    (Code.rangeFunc g ps assign body).wpIn F n P Q a w := by
  refine wpIn_rangeFunc ?_
  intro fn hfn
  rw [hro]
  obtain ⟨rec, hrec⟩ : ∃ rec : LoopState → Option Code → Loop, rec = fun st pe => { state := st, pending := pe, fn, tmps := a.tmps, params := ps, assign, body, defers := w.heap.size } := ⟨_, rfl⟩
  obtain ⟨W1, hW1⟩ : ∃ W1, (w.alloc (.deferred (some []))).alloc (.loop (rec .ready none)) = W1 := ⟨_, rfl⟩
  have hL1 : W1.heap[w.heap.size + 1]? = some (.loop (rec .ready none)) := by
    rw [← hW1]; have := World.alloc_heap_new (w.alloc (.deferred (some []))) (.loop (rec .ready none)); rwa [World.size_alloc] at this
  have hK1 : W1.heap[w.heap.size]? = some (.deferred (some [])) := by
    rw [← hW1]; exact (Below.heap_alloc _ _ _ (by simp)).trans (World.alloc_heap_new w _)
  have hb1 : Below w.heap.size w W1 := by
    rw [← hW1]; exact ((Below.refl _ w).alloc (Nat.le_refl _) _).alloc (by simp) _
  have hsz : W1.heap.size = w.heap.size + 2 := by rw [← hW1]; simp
  refine ⟨w.heap.size + 1, [{ target := .collected w.heap.size, args := #[] }], W1, { target := .fn (.func gf) lb, args := #[.func (.yield (w.heap.size + 1)) #[] #[]] }, W1, gf,
    #[.func (.yield (w.heap.size + 1)) #[] #[]] ++ lb, W1, ?_, ?_, ?_, ?_, fun _ => h1, ?_⟩
  · rw [← hW1, hrec]; exact run_enterLoop_outer _ _ _ _ _
  · simp only [resolve, hg]
    simp [go_sem]
  · intro f' hf'; simp [Target.leads] at hf'; subst hf'; exact hFg
  · simp [invoke, go_sem, eg]
  · refine (hcall (w.heap.size + 1) W1 hb1).mono ?_
    rintro e W2 ⟨⟨v, rfl⟩, hb⟩
    have hl : W2.heap[w.heap.size + 1]? = some (.loop (rec .ready none)) := (hb.block _ (by omega)).trans hL1
    have hk : W2.heap[w.heap.size]? = some (.deferred (some [])) := (hb.block _ (by omega)).trans hK1
    have hend := run_endLoop (P := P) hl (by rw [hrec]; simp)
    rw [hrec] at hend hl
    refine ⟨none, _, hend, hdone _ _ (Nat.le_refl _) ?_ ((World.putObj_heap_other (by omega)).trans hk)⟩
    exact (hb1.trans (hb.mono hb1.size)).trans (belowK_b (w := w) (Nat.le_refl _) W2 (w.heap.size + 1) _ _ (by omega) hl rfl rfl)
end Go.Proofs.Ytndgdehlnmheeaa

namespace Go.Proofs.Ytndgdehlnmheeaa
set_option linter.all false
open Go.RowKit Go.Shelf

/-- The blocks of K lie as they lay. -/
structure KeptL (K : Nat → Prop) (W W' : World) : Prop where
  size : W.heap.size ≤ W'.heap.size
  block : ∀ k, K k → k < W.heap.size → W'.heap[k]? = W.heap[k]?
theorem KeptL.refl (K : Nat → Prop) (W : World) : KeptL K W W := ⟨Nat.le_refl _, fun _ _ _ => rfl⟩
theorem KeptL.trans {K : Nat → Prop} {a b c : World} (h : KeptL K a b) (k : KeptL K b c) : KeptL K a c :=
  ⟨Nat.le_trans h.size k.size, fun i hi hl => (k.block i hi (Nat.lt_of_lt_of_le hl h.size)).trans (h.block i hi hl)⟩
theorem KeptL.mono {K K' : Nat → Prop} {a b : World} (h : KeptL K a b) (hk : ∀ k, K' k → K k) : KeptL K' a b := ⟨h.size, fun i hi hl => h.block i (hk i hi) hl⟩
theorem KeptL.putObj {K : Nat → Prop} (W : World) (l : Nat) (o : Obj) (h : ¬K l) : KeptL K W (W.putObj l o) :=
  ⟨by simp, fun k hk _ => World.putObj_heap_other (fun e => h (e ▸ hk))⟩
theorem KeptL.alloc (K : Nat → Prop) (W : World) (o : Obj) : KeptL K W (W.alloc o) := ⟨by simp, fun k _ hl => Below.heap_alloc W o k hl⟩
theorem KeptL.setCell {K : Nat → Prop} (W : World) (a : Addr) (v : Value) (h : ¬K a.block) : KeptL K W (W.setCell a v) :=
  ⟨by show W.heap.size ≤ (W.heap.modify _ _).size; rw [Array.size_modify]; exact Nat.le_refl _, fun k hk _ => Below.heap_setCell W a v k (fun e => h (e ▸ hk))⟩
theorem KeptL.of_below {K : Nat → Prop} {W W' : World} (h : Below W.heap.size W W') : KeptL K W W' := ⟨h.size, fun k _ hl => h.block k hl⟩
theorem KeptL.cell {K : Nat → Prop} {W W' : World} (h : KeptL K W W') {p : Addr} {v : Value} (hk : K p.block) (hc : W.cell? p = some v) : W'.cell? p = some v := by
  have := h.block p.block hk (World.block_lt_of_cell? W _ hc)
  unfold World.cell? at hc ⊢
  rw [this]; exact hc

theorem Ints.own_lt0 {w : World} {k : IntKind} {v : Value} {xs : List Int} (h : Ints w k v xs) (h0 : xs ≠ []) {b : Nat} (hb : v.ownBlock = some b) : b < w.heap.size := by
  obtain ⟨A, c, hv, hl, -, -, hr⟩ := h
  have hp : 0 < xs.length := List.length_pos_iff.2 h0
  obtain ⟨b', off, rfl, hcell⟩ := hr hp
  subst hv
  obtain rfl : b' = b := Option.some.inj hb
  have hx := hcell 0 (Value.int k (xs[0]'hp)) (by simp [hp])
  exact World.block_lt_of_cell? w _ hx

theorem Ints.keep {w w' : World} {k : IntKind} {v : Value} {xs : List Int} (h : Ints w k v xs) (hs : ∀ b, xs ≠ [] → v.ownBlock = some b → b < w.heap.size → w'.heap[b]? = w.heap[b]?) : Ints w' k v xs := by
  obtain ⟨A, c, hv, h1, h2, h3, h4⟩ := h
  refine ⟨A, c, hv, h1, h2, h3, fun h0 => ?_⟩
  obtain ⟨b, off, hA, hcell⟩ := h4 h0
  refine ⟨b, off, hA, fun j u hu => ?_⟩
  have h5 := hcell j u hu
  have h6 := hs b (List.length_pos_iff.1 h0) (by rw [hv, hA]; rfl) (World.block_lt_of_cell? w _ h5)
  unfold World.cell? at h5 ⊢
  rw [h6]; exact h5

/-- An invariant that minds no change from block B on. -/
def Stable {β : Type} (B : Nat) (J : β → World → Prop) : Prop := ∀ s X Y, J s X → B ≤ X.heap.size → Below B X Y → J s Y

/-- The iterator gf (captured: lb) yields xs, one by one, where its rounds keep the blocks of L and all that is made since its call. -/
def SeqL {α : Type} (P : Program) (gf : Nat) (lb : Array Value) (encs : α → Array Value) (xs : List α) (L : Nat → Prop) (w0 : World) : Prop :=
  ∀ (n l : Nat) (J Jx : List α → World → Prop) (W : World), 8 ≤ n → Below w0.heap.size w0 W → Stable W.heap.size J → Stable W.heap.size Jx →
    (∀ pre x W1, J pre W1 → W.heap.size ≤ W1.heap.size → pre ++ [x] <+: xs → YieldAt Fence.wide (n - 1) P l (encs x) W1 fun e W' =>
      (e = .returned (.bool true) ∧ J (pre ++ [x]) W' ∧ KeptL (fun k => L k ∨ W.heap.size ≤ k) W1 W') ∨ (e = .returned (.bool false) ∧ Jx (pre ++ [x]) W' ∧ KeptL (fun k => W.heap.size ≤ k) W1 W')) →
    J [] W →
    CallsIn Fence.wide n P gf (#[.func (.yield l) #[] #[]] ++ lb) W fun e W' => (∃ v, e = .returned v) ∧ (J xs W' ∨ ∃ pre, pre <+: xs ∧ Jx pre W')

/-- The same, where what is yielded leans on the world (a fresh block). -/
def SeqE {α : Type} (P : Program) (gf : Nat) (lb : Array Value) (Enc : α → Array Value → World → Prop) (xs : List α) (L : Nat → Prop) (w0 : World) : Prop :=
  ∀ (n l : Nat) (J Jx : List α → World → Prop) (W : World), 8 ≤ n → Below w0.heap.size w0 W → Stable W.heap.size J → Stable W.heap.size Jx →
    (∀ pre x args W1, J pre W1 → W.heap.size ≤ W1.heap.size → pre ++ [x] <+: xs → Enc x args W1 → YieldAt Fence.wide (n - 1) P l args W1 fun e W' =>
      (e = .returned (.bool true) ∧ J (pre ++ [x]) W' ∧ KeptL (fun k => L k ∨ W.heap.size ≤ k) W1 W') ∨ (e = .returned (.bool false) ∧ Jx (pre ++ [x]) W' ∧ KeptL (fun k => W.heap.size ≤ k) W1 W')) →
    J [] W →
    CallsIn Fence.wide n P gf (#[.func (.yield l) #[] #[]] ++ lb) W fun e W' => (∃ v, e = .returned v) ∧ (J xs W' ∨ ∃ pre, pre <+: xs ∧ Jx pre W')
theorem SeqL.toE {α : Type} {P : Program} {gf : Nat} {lb : Array Value} {encs : α → Array Value} {xs : List α} {L : Nat → Prop} {w0 : World} (h : SeqL P gf lb encs xs L w0) : SeqE P gf lb (fun x args _ => args = encs x) xs L w0 :=
  fun n l J Jx W hn hW hJ hJx hY h0 => h n l J Jx W hn hW hJ hJx (fun pre x W1 h1 h2 h3 => hY pre x _ W1 h1 h2 h3 rfl) h0

/-- How the body of a round may be left. -/
def yieldPost {α : Type} (B : Nat) (L : Nat → Prop) (I : List α → World → Prop) (Ix : Code → List α → World → Prop) (xs : List α) (W : World) : Exit → Act → World → Prop
  | .normal, _, W' => KeptL (fun k => L k ∨ B ≤ k) W W' ∧ I xs W'
  | .ret, _, W' => KeptL (fun k => B ≤ k) W W' ∧ Ix .ret xs W'
  | .exit id, _, W' => KeptL (fun k => B ≤ k) W W' ∧ Ix (.exit id) xs W'
  | .goto t, _, W' => KeptL (fun k => B ≤ k) W W' ∧ Ix (.goto t) xs W'
  | .panic _, _, _ => False
  | .outgrown, _, _ => False

theorem yieldAt_wide {m m' : Nat} {P : Program} {l : Nat} {args : Array Value} {W : World} {R : Ending → World → Prop} (h : YieldAt Fence.wide m P l args W R) : YieldAt Fence.wide m' P l args W R := by
  obtain ⟨fn, tmps, assign, body, h1, h2, h3⟩ := h
  exact ⟨fn, tmps, assign, body, h1, h2, fun c cs _ => h3 c cs (room_wide _)⟩

theorem belowK_put {B : Nat} (W : World) (l : Nat) (o : Obj) (h : B ≤ l) : Below B W (W.putObj l o) :=
  ⟨rfl, rfl, rfl, by simp, fun k hk => World.putObj_heap_other (by omega)⟩

theorem rangeFunc_yieldE {α : Type} {P : Program} {n : Nat} {g : Operand} {ps : Array Tmp} {assign body : Code} {Q : Exit → Act → World → Prop} {a : Act} {w : World}
    (h1 : 9 ≤ n) {gf : Nat} {lb : Array Value} (hg : a.eval g = .func (.func gf) #[] lb) (eg : ∀ args w, (callFunc gf args).run P w = .ok (.enter gf args) w)
    {Enc : α → Array Value → World → Prop} {xs : List α} {L : Nat → Prop} {w0 : World} (hseq : SeqE P gf lb Enc xs L w0) (hb0 : Below w0.heap.size w0 w) (hL : ∀ k, L k → k < w.heap.size) (hps : ∀ x args W, Enc x args W → args.size = ps.size)
    (I : List α → World → Prop) (Ix : Code → List α → World → Prop) (hI : Stable w.heap.size I) (hIx : ∀ c, Stable w.heap.size (Ix c)) (h0 : I [] w)
    (hround : ∀ (l : Nat) (pre : List α) (x : α) (args : Array Value) (W : World) (K : Act → World → Prop), w.heap.size ≤ l → (∃ r, W.heap[l]? = some (.loop r)) → Enc x args W → I pre W → pre ++ [x] <+: xs →
      (∀ a' Wa, (Below W.heap.size W Wa ∧ ∀ X, X.heap.size = Wa.heap.size → KeptL (fun k => k ≠ l) Wa X → I pre X → body.wpIn (Fence.wide.inRound l) (n - 1 - 1) P (yieldPost w.heap.size L I Ix (pre ++ [x]) X) a' X) → K a' Wa) →
      assign.wpIn (Fence.wide.inRound l) (n - 1 - 1) P (Exit.then K (fun _ _ _ => False)) { tmps := (ps.zip args).foldl (fun t (p, v) => t.setIfInBounds p v) a.tmps, defers := [] } W)
    (hdone : ∀ (D : Nat) (W : World), w.heap.size ≤ D → w.heap.size ≤ W.heap.size → I xs W → W.heap[D]? = some (.deferred (some [])) → Q .normal { a with defers := { target := .collected D, args := #[] } :: a.defers } W)
    (hstop : ∀ (D : Nat) (c : Code) (pre : List α) (W : World), w.heap.size ≤ D → w.heap.size ≤ W.heap.size → pre <+: xs → Ix c pre W → W.heap[D]? = some (.deferred (some [])) → c.wpIn Fence.wide n P Q { a with defers := { target := .collected D, args := #[] } :: a.defers } W) :
    (Code.rangeFunc g ps assign body).wpIn Fence.wide n P Q a w := by
  refine wpIn_rangeFunc ?_
  intro fn hfn
  rw [show Fence.wide.round = none from rfl]
  obtain ⟨rec, hrec⟩ : ∃ rec : LoopState → Option Code → Loop, rec = fun st pe => { state := st, pending := pe, fn, tmps := a.tmps, params := ps, assign, body, defers := w.heap.size } := ⟨_, rfl⟩
  obtain ⟨W1, hW1⟩ : ∃ W1, (w.alloc (.deferred (some []))).alloc (.loop (rec .ready none)) = W1 := ⟨_, rfl⟩
  have hL1 : W1.heap[w.heap.size + 1]? = some (.loop (rec .ready none)) := by
    rw [← hW1]; have := World.alloc_heap_new (w.alloc (.deferred (some []))) (.loop (rec .ready none)); rwa [World.size_alloc] at this
  have hK1 : W1.heap[w.heap.size]? = some (.deferred (some [])) := by
    rw [← hW1]; exact (Below.heap_alloc _ _ _ (by simp)).trans (World.alloc_heap_new w _)
  have hbw : Below w.heap.size w W1 := by
    rw [← hW1]; exact ((Below.refl _ w).alloc (Nat.le_refl _) _).alloc (by simp) _
  have hI1 : I [] W1 := hI _ _ _ h0 (Nat.le_refl _) hbw
  have hb1 : Below w0.heap.size w0 W1 := hb0.trans (hbw.mono hb0.size)
  have hsz : W1.heap.size = w.heap.size + 2 := by rw [← hW1]; simp
  refine ⟨w.heap.size + 1, [{ target := .collected w.heap.size, args := #[] }], W1, { target := .fn (.func gf) lb, args := #[.func (.yield (w.heap.size + 1)) #[] #[]] }, W1, gf,
    #[.func (.yield (w.heap.size + 1)) #[] #[]] ++ lb, W1, ?_, ?_, ?_, ?_, fun _ => by omega, ?_⟩
  · rw [← hW1, hrec]; exact run_enterLoop_outer _ _ _ _ _
  · simp only [resolve, hg]
    simp [go_sem]
  · intro f' hf'; simp [Target.leads] at hf'; subst hf'; trivial
  · simp [invoke, go_sem, eg]
  · refine (hseq (n - 1) (w.heap.size + 1)
      (fun pre W => I pre W ∧ W.heap[w.heap.size + 1]? = some (.loop (rec .ready none)) ∧ W.heap[w.heap.size]? = some (.deferred (some [])))
      (fun pre W => ∃ c, Ix c pre W ∧ W.heap[w.heap.size + 1]? = some (.loop (rec .done (some c))) ∧ W.heap[w.heap.size]? = some (.deferred (some [])))
      W1 (by omega) hb1
      (fun s A B hs hA hB => ⟨hI s A B hs.1 (by omega) (hB.mono (by omega)), (hB.block _ (by omega)).trans hs.2.1, (hB.block _ (by omega)).trans hs.2.2⟩)
      (fun s A B hs hA hB => by
        obtain ⟨c, hc, hl, hk⟩ := hs
        exact ⟨c, hIx c s A B hc (by omega) (hB.mono (by omega)), (hB.block _ (by omega)).trans hl, (hB.block _ (by omega)).trans hk⟩)
      ?_ ⟨hI1, hL1, hK1⟩).mono ?_
    · rintro pre x args W ⟨hi, hl, hk⟩ hsW hpre henc
      have hlt : w.heap.size + 1 < W.heap.size := (Array.getElem?_eq_some_iff.1 hl).1
      have hy := run_yield (P := P) (args := args) hl (by rw [hrec]; exact hps x args W henc)
      rw [hrec] at hy
      refine ⟨fn, _, assign, body, hy, roundIn_of_wpIn hfn (hround _ pre x args W _ (by omega) ⟨_, hl⟩ henc hi hpre fun a' Wa ⟨hWa, hbody⟩ => ⟨_, run_beginRound ((hWa.block _ hlt).trans hl) (by rw [hrec]), ?_⟩)⟩
      have hsa := hWa.size
      have hla : Wa.heap[w.heap.size + 1]? = some (.loop (rec .ready none)) := (hWa.block _ hlt).trans hl
      have hka : Wa.heap[w.heap.size]? = some (.deferred (some [])) := (hWa.block _ (by omega)).trans hk
      obtain ⟨X2, hX2⟩ : ∃ X2, Wa.putObj (w.heap.size + 1) (.loop { rec .ready none with state := .busy }) = X2 := ⟨_, rfl⟩
      have hl2 : X2.heap[w.heap.size + 1]? = some (.loop { rec .ready none with state := .busy }) := by rw [← hX2]; exact World.putObj_heap_same (by omega)
      have hk2 : X2.heap[w.heap.size]? = some (.deferred (some [])) := by rw [← hX2]; exact (World.putObj_heap_other (by omega)).trans hka
      have hs2 : X2.heap.size = Wa.heap.size := by rw [← hX2]; simp
      have hi2 : I pre X2 := hI _ _ _ hi (by omega) ((hWa.mono (by omega)).trans (by rw [← hX2]; exact belowK_put Wa _ _ (by omega)))
      have hq2 : ∀ K : Nat → Prop, ¬K (w.heap.size + 1) → KeptL K W X2 := fun K hK => (KeptL.of_below hWa).trans (by rw [← hX2]; exact KeptL.putObj Wa _ _ hK)
      have hqa : KeptL (fun k => k ≠ w.heap.size + 1) Wa X2 := by rw [← hX2]; exact KeptL.putObj Wa _ _ (fun h => h rfl)
      rw [show Wa.putObj (w.heap.size + 1) (.loop { rec .ready none with state := .busy }) = X2 from hX2]
      refine wpIn_mono (hbody _ hs2 hqa hi2) ?_
      have fin : ∀ (jump : Option Code) (W3 : World), KeptL (fun k => w.heap.size ≤ k) X2 W3 →
          (Instr.endRound (w.heap.size + 1) jump).run P W3 = .ok (.bool jump.isNone) (W3.putObj (w.heap.size + 1) (.loop (rec (if jump.isNone then .ready else .done) jump))) ∧
          W3.heap[w.heap.size + 1]? = some (.loop { rec .ready none with state := .busy }) ∧
          (W3.putObj (w.heap.size + 1) (.loop (rec (if jump.isNone then .ready else .done) jump))).heap[w.heap.size + 1]? = some (.loop (rec (if jump.isNone then .ready else .done) jump)) ∧
          (W3.putObj (w.heap.size + 1) (.loop (rec (if jump.isNone then .ready else .done) jump))).heap[w.heap.size]? = some (.deferred (some [])) := fun jump W3 hk3 => by
        have hl3 := (hk3.block (w.heap.size + 1) (by omega) (by omega)).trans hl2
        have hk4 := (hk3.block w.heap.size (by omega) (by omega)).trans hk2
        have := run_endRound (P := P) jump hl3
        rw [hrec] at this ⊢
        exact ⟨this, by rw [hrec] at hl3; exact hl3, World.putObj_heap_same (Array.getElem?_eq_some_iff.1 hl3).1, (World.putObj_heap_other (by omega)).trans hk4⟩
      have hno1 : ¬((fun k => L k ∨ W1.heap.size ≤ k) (w.heap.size + 1)) := fun h => by
        rcases h with h | h
        · have := hL _ h; omega
        · omega
      have hno2 : ¬((fun k => W1.heap.size ≤ k) (w.heap.size + 1)) := fun h => by simp only at h; omega
      have keep1 : ∀ (W3 : World) (o : Obj), KeptL (fun k => L k ∨ w.heap.size ≤ k) X2 W3 → KeptL (fun k => L k ∨ W1.heap.size ≤ k) W (W3.putObj (w.heap.size + 1) o) := fun W3 o h =>
        ((hq2 _ hno1).trans (h.mono fun k hk => hk.imp id fun hk => by omega)).trans (KeptL.putObj W3 _ _ hno1)
      have keep2 : ∀ (W3 : World) (o : Obj), KeptL (fun k => w.heap.size ≤ k) X2 W3 → KeptL (fun k => W1.heap.size ≤ k) W (W3.putObj (w.heap.size + 1) o) := fun W3 o h =>
        ((hq2 _ hno2).trans (h.mono fun k hk => by omega)).trans (KeptL.putObj W3 _ _ hno2)
      rintro e a3 W3 hp
      cases e with
      | normal =>
        obtain ⟨hk3, hi3⟩ := hp
        obtain ⟨hr, hl3, hl4, hk4⟩ := fin none W3 (hk3.mono fun k hk => .inr hk)
        have hs3 := hk3.size
        exact ⟨_, _, hr, .inl ⟨rfl, ⟨hI _ _ _ hi3 (by omega) (belowK_put W3 _ _ (by omega)), hl4, hk4⟩, keep1 W3 _ hk3⟩⟩
      | ret =>
        obtain ⟨hk3, hi3⟩ := hp
        obtain ⟨hr, hl3, hl4, hk4⟩ := fin (some .ret) W3 hk3
        have hs3 := hk3.size
        exact ⟨_, _, hr, .inr ⟨rfl, ⟨.ret, hIx _ _ _ _ hi3 (by omega) (belowK_put W3 _ _ (by omega)), hl4, hk4⟩, keep2 W3 _ hk3⟩⟩
      | exit id =>
        obtain ⟨hk3, hi3⟩ := hp
        obtain ⟨hr, hl3, hl4, hk4⟩ := fin (some (.exit id)) W3 hk3
        have hs3 := hk3.size
        exact ⟨_, _, hr, .inr ⟨rfl, ⟨.exit id, hIx _ _ _ _ hi3 (by omega) (belowK_put W3 _ _ (by omega)), hl4, hk4⟩, keep2 W3 _ hk3⟩⟩
      | goto t =>
        obtain ⟨hk3, hi3⟩ := hp
        obtain ⟨hr, hl3, hl4, hk4⟩ := fin (some (.goto t)) W3 hk3
        have hs3 := hk3.size
        exact ⟨_, _, hr, .inr ⟨rfl, ⟨.goto t, hIx _ _ _ _ hi3 (by omega) (belowK_put W3 _ _ (by omega)), hl4, hk4⟩, keep2 W3 _ hk3⟩⟩
      | panic ch => exact hp.elim
      | outgrown => exact hp.elim
    · rintro e W2 ⟨⟨v, rfl⟩, (⟨hi, hl, hk⟩ | ⟨pre, hpre, c, hi, hl, hk⟩)⟩
      · have hlt2 := (Array.getElem?_eq_some_iff.1 hl).1
        exact ⟨none, _, by have := run_endLoop (P := P) hl (by rw [hrec]; simp); rw [hrec] at this; exact this, hdone _ _ (Nat.le_refl _) (by simp; omega) (hI _ _ _ hi (by omega) (belowK_put W2 _ _ (by omega))) ((World.putObj_heap_other (by omega)).trans hk)⟩
      · have hlt2 := (Array.getElem?_eq_some_iff.1 hl).1
        exact ⟨some c, _, by have := run_endLoop (P := P) hl (by rw [hrec]; simp); rw [hrec] at this; exact this, hstop _ c pre _ (Nat.le_refl _) (by simp; omega) hpre (hIx c _ _ _ hi (by omega) (belowK_put W2 _ _ (by omega))) ((World.putObj_heap_other (by omega)).trans hk)⟩


theorem rangeFunc_yieldB {α : Type} {P : Program} {n : Nat} {g : Operand} {ps : Array Tmp} {assign body : Code} {Q : Exit → Act → World → Prop} {a : Act} {w : World}
    (h1 : 9 ≤ n) {gf : Nat} {lb : Array Value} (hg : a.eval g = .func (.func gf) #[] lb) (eg : ∀ args w, (callFunc gf args).run P w = .ok (.enter gf args) w)
    {encs : α → Array Value} {xs : List α} {L : Nat → Prop} {w0 : World} (hseq : SeqL P gf lb encs xs L w0) (hb0 : Below w0.heap.size w0 w) (hL : ∀ k, L k → k < w.heap.size) (hps : ∀ x, (encs x).size = ps.size)
    (I : List α → World → Prop) (Ix : Code → List α → World → Prop) (hI : Stable w.heap.size I) (hIx : ∀ c, Stable w.heap.size (Ix c)) (h0 : I [] w)
    (hround : ∀ (l : Nat) (pre : List α) (x : α) (W : World) (K : Act → World → Prop), w.heap.size ≤ l → l < W.heap.size → I pre W → pre ++ [x] <+: xs →
      (∀ a' Wa, (Below W.heap.size W Wa ∧ ∀ X, X.heap.size = Wa.heap.size → KeptL (fun k => k ≠ l) Wa X → I pre X → body.wpIn (Fence.wide.inRound l) (n - 1 - 1) P (yieldPost w.heap.size L I Ix (pre ++ [x]) X) a' X) → K a' Wa) →
      assign.wpIn (Fence.wide.inRound l) (n - 1 - 1) P (Exit.then K (fun _ _ _ => False)) { tmps := (ps.zip (encs x)).foldl (fun t (p, v) => t.setIfInBounds p v) a.tmps, defers := [] } W)
    (hdone : ∀ (D : Nat) (W : World), w.heap.size ≤ D → w.heap.size ≤ W.heap.size → I xs W → W.heap[D]? = some (.deferred (some [])) → Q .normal { a with defers := { target := .collected D, args := #[] } :: a.defers } W)
    (hstop : ∀ (D : Nat) (c : Code) (pre : List α) (W : World), w.heap.size ≤ D → w.heap.size ≤ W.heap.size → pre <+: xs → Ix c pre W → W.heap[D]? = some (.deferred (some [])) → c.wpIn Fence.wide n P Q { a with defers := { target := .collected D, args := #[] } :: a.defers } W) :
    (Code.rangeFunc g ps assign body).wpIn Fence.wide n P Q a w :=
  rangeFunc_yieldE h1 hg eg hseq.toE hb0 hL (fun x args W h => by rw [h]; exact hps x) I Ix hI hIx h0
    (fun l pre x args W K hl hlW he hIp hpre hK => by subst he; exact hround l pre x W K hl (by obtain ⟨r, hr⟩ := hlW; exact (Array.getElem?_eq_some_iff.1 hr).1) hIp hpre hK) hdone hstop

theorem rangeFunc_yield {α : Type} {P : Program} {n : Nat} {g : Operand} {ps : Array Tmp} {assign body : Code} {Q : Exit → Act → World → Prop} {a : Act} {w : World}
    (h1 : 9 ≤ n) {gf : Nat} {lb : Array Value} (hg : a.eval g = .func (.func gf) #[] lb) (eg : ∀ args w, (callFunc gf args).run P w = .ok (.enter gf args) w)
    {encs : α → Array Value} {xs : List α} {L : Nat → Prop} {w0 : World} (hseq : SeqL P gf lb encs xs L w0) (hb0 : Below w0.heap.size w0 w) (hL : ∀ k, L k → k < w.heap.size) (hps : ∀ x, (encs x).size = ps.size)
    (I : List α → World → Prop) (Ix : Code → List α → World → Prop) (hI : Stable w.heap.size I) (hIx : ∀ c, Stable w.heap.size (Ix c)) (h0 : I [] w)
    (hround : ∀ (l : Nat) (pre : List α) (x : α) (W : World) (K : Act → World → Prop), w.heap.size ≤ l → I pre W → pre ++ [x] <+: xs →
      (∀ a', (∀ X, w.heap.size ≤ X.heap.size → I pre X → body.wpIn (Fence.wide.inRound l) (n - 1 - 1) P (yieldPost w.heap.size L I Ix (pre ++ [x]) X) a' X) → K a' W) →
      assign.wpIn (Fence.wide.inRound l) (n - 1 - 1) P (Exit.then K (fun _ _ _ => False)) { tmps := (ps.zip (encs x)).foldl (fun t (p, v) => t.setIfInBounds p v) a.tmps, defers := [] } W)
    (hdone : ∀ (D : Nat) (W : World), w.heap.size ≤ D → w.heap.size ≤ W.heap.size → I xs W → W.heap[D]? = some (.deferred (some [])) → Q .normal { a with defers := { target := .collected D, args := #[] } :: a.defers } W)
    (hstop : ∀ (D : Nat) (c : Code) (pre : List α) (W : World), w.heap.size ≤ D → w.heap.size ≤ W.heap.size → pre <+: xs → Ix c pre W → W.heap[D]? = some (.deferred (some [])) → c.wpIn Fence.wide n P Q { a with defers := { target := .collected D, args := #[] } :: a.defers } W) :
    (Code.rangeFunc g ps assign body).wpIn Fence.wide n P Q a w :=
  rangeFunc_yieldB h1 hg eg hseq hb0 hL hps I Ix hI hIx h0
    (fun l pre x W K hl hlW hIp hpre hK => hround l pre x W K hl hIp hpre fun a' hb => hK a' W ⟨Below.refl _ _, fun X hX _ hIX => hb X (by omega) hIX⟩) hdone hstop

/-- The result stands in its box, the mark of the rounds' deferred calls is taken away. -/
theorem mark_end {w W' : World} {D r : Nat} {t : TypeId} {u : Value} (h : Blk W' r t #[u]) (hb : Below w.heap.size w W') (hr : w.heap.size ≤ r) (hK : W'.heap[D]? = some (.deferred (some []))) (hD : w.heap.size ≤ D) (v : Value) :
    (W'.setCell ⟨r, 0, none⟩ v).heap[D]? = some (.deferred (some [])) ∧
    ((W'.setCell ⟨r, 0, none⟩ v).putObj D (.deferred none)).cell? ⟨r, 0, none⟩ = some v ∧
    Below w.heap.size w ((W'.setCell ⟨r, 0, none⟩ v).putObj D (.deferred none)) := by
  have hK' := (KeepsOthers.setCell W' ⟨r, 0, none⟩ v).same D _ hK rfl
  have c2 : W'.cell? ⟨r, 0, none⟩ = some u := by rw [h.cell]; rfl
  exact ⟨hK', cell_kept (World.cell?_setCell_same' W' ⟨r, 0, none⟩ v (by rw [c2]; rfl)) (grownBy_putObj' _ D (.deferred none)) (fun r e => by cases e; exact ⟨_, hK', rfl⟩),
    (hb.setCell (p := ⟨r, 0, none⟩) hr _).trans (belowK_put _ D _ hD)⟩
end Go.Proofs.Ytndgdehlnmheeaa

namespace Go.Proofs.Ytndgdehlnmheeaa
set_option linter.all false
open Go.RowKit Go.Shelf

def noDefer (ops : Array Oper) : Bool := ops.all fun o => match o.op with
  | .defer _ => false
  | _ => true
theorem noDefer_spec {ops : Array Oper} (h : noDefer ops = true) {i : Nat} {o : Oper} (hi : ops[i]? = some o) (c : Call) : o.op ≠ .defer c := fun e => by
  obtain ⟨hlt, rfl⟩ := Array.getElem?_eq_some_iff.1 hi
  unfold noDefer at h
  rw [Array.all_eq_true] at h
  have := h i hlt
  rw [e] at this
  cases this

section
variable {F : Fence} {n : Nat} {P : Program} {md : Region.Mode} {ops : Array Oper} {Q : Exit → Act → World → Prop}
theorem Oper.wpIn_round {o : Oper} {a : Act} {w : World} {K : Act → World → Prop} (l : Nat) (hro : F.round = none) (hd : ∀ c, o.op ≠ .defer c) (h : o.wpIn F n P a w K Q) : o.wpIn (F.inRound l) n P a w K Q := by
  unfold Oper.wpIn at *
  rw [hro, Oper.semAt_none] at h
  rw [Fence.inRound_round, Oper.semAt_eq _ _ _ hd]
  exact h
theorem wpAnyIn_round (l : Nat) (hro : F.round = none) (hd : noDefer ops = true) : ∀ (fuel : Nat) (listed : Array Bool) (a : Act) (w : World), wpAnyIn F n P md ops Q fuel listed a w → wpAnyIn (F.inRound l) n P md ops Q fuel listed a w
  | 0, _, _, _, h => h
  | fuel + 1, listed, a, w, h => by
    refine ⟨h.1, fun i hi => ?_⟩
    have h2 := h.2 i hi
    refine wpOpIn_mono (K := wpAnyIn F n P md ops Q fuel (listed.setIfInBounds i true)) (fun a w => wpAnyIn_round l hro hd fuel _ a w) ?_
    unfold wpOpIn at h2 ⊢
    cases ho : ops[i]? with
    | none => rw [ho] at h2; exact h2
    | some o =>
      rw [ho] at h2
      simp only at h2 ⊢
      split
      · next hw => rw [if_pos hw] at h2; exact Oper.wpIn_round l hro (noDefer_spec hd ho) h2
      · next hw => rw [if_neg hw] at h2; exact h2

theorem wpIn_region_quiet_round {l : Nat} {id : Nat} {a : Act} {w : World} {os : List Oper} (hro : F.round = none) (hm : P.follows .mixedOrders = true) (hB : Region.lexB .any os.toArray = true) (hd : noDefer os.toArray = true)
    (h : wpQuietIn F n P os.toArray (fun w' => ∃ n, w' = w.drewN n) (fun a' => ∀ w', (∃ n, w' = w.drewN n) → Q .normal a' w') os a) : (Code.region id os.toArray true).wpIn (F.inRound l) n P Q a w := by
  simp only [Region.lexB, Bool.and_eq_true] at hB
  refine wpIn_region_any hm (wpAnyIn_round l hro hd _ _ _ _ (wpAnyIn_of_quiet (C := fun w' => ∃ n, w' = w.drewN n) (Q := fun a' => ∀ w', (∃ n, w' = w.drewN n) → Q .normal a' w') hro (fun _ w' hw' h => h w' hw') _ _ _ _ ⟨1, rfl⟩ ?_))
  have := wpAnyQIn_lex (F := F) (n := n) (C := fun w' => ∃ n, w' = w.drewN n) (md := .any) hB.1 os 0 (Array.replicate os.toArray.size false) a (by simp) (by simpa using hB.2) h
  simpa using this
end
end Go.Proofs.Ytndgdehlnmheeaa
