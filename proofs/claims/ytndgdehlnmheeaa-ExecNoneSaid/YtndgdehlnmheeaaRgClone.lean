/-
  slices.Clone of bytes.
-/
import Derived.Test.YtndgdehlnmheeaaMgRg
import Derived.Lib.SliceRun
namespace Go.Proofs.Ytndgdehlnmheeaa
set_option maxRecDepth 100000
open Go.RowKit

theorem infoU8 : (Try.prog.info? 5).map (fun i => (i.zero, i.size, i.bytes)) = some (some (.int .u8 0), 1, 1) := by kernel_rfl

/-- append in place or anew: where the new slice lies. -/
theorem Row.appended {w1 : World} {v' : Value} {xs : List Int} {n : Nat} (h : w1.ownsRow 0 5 1 v' n (xs.map (Value.int .u8))) (hn : n = xs.length) : Row w1 v' xs := by subst hn; exact h

theorem run_append_row {w : World} (v : Value) (xs ys : List Int) (hown : Row w v xs) (A : Option Addr) (m c : Nat) (hr : AtInts w .u8 A m ys) (h63 : xs.length + m ≤ 140737488355328) (ty : TypeId) :
    ∃ A' c' w', (Builtin.append_ #[22, 22] ty #[v, .slice A m c]).run Try.prog w = .ok (.slice A' (xs.length + m) c') w' ∧ Row w' (.slice A' (xs.length + m) c') (xs ++ ys) ∧ w.grownBy w' v.ownBlock ∧
      ((Value.slice A' (xs.length + m) c').ownBlock = v.ownBlock ∨ (Value.slice A' (xs.length + m) c').ownBlock = some w.heap.size) := by
  obtain ⟨i0, hi, hz, hs, hb⟩ := info_parts infoU8
  obtain ⟨hl, hr⟩ := hr
  rcases A with _ | ad
  · have hm : m = 0 := by
      rcases Nat.eq_zero_or_pos m with h0 | h0
      · exact h0
      · obtain ⟨b, off, h, _⟩ := hr h0
        cases h
    subst hm
    obtain rfl : ys = [] := List.eq_nil_of_length_eq_zero hl
    obtain ⟨A', c', hv⟩ := ownsRow_form hown
    subst hv
    exact ⟨A', c', w, run_append_of_nil w 0 _ ty 5 _ 1 Try.underlying22 hi _ _ _ hown c, by simpa using hown, World.grownBy.refl w _, .inl rfl⟩
  · have hcells : ∀ j u, (ys.map (Value.int .u8))[j]? = some u → w.cell? (ad.add j) = some u := by
      intro j u hu
      have hj := (List.getElem?_eq_some_iff.1 hu).1
      simp at hj
      obtain ⟨b, off, h, hc⟩ := hr (by omega)
      injection h with h
      subst h
      rw [add_zero_off]
      simp at hu
      obtain ⟨x, hx, rfl⟩ := hu
      exact hc j x hx
    obtain ⟨v', w', hrun, h2, h3, _, h4⟩ := run_append_own_at (P := Try.prog) w 0 _ ty 5 _ _ 1 1 Try.underlying22 hi hz hs hb (by rfl) (by decide) v xs.length (xs.map (Value.int .u8)) hown ad m c (ys.map (Value.int .u8)) (by simp [hl]) hcells
      (fun u hu => by simp at hu; obtain ⟨x, -, rfl⟩ := hu; rfl) (by simp only [maxLen]; omega) (by omega) (Nat.zero_le _)
    obtain ⟨A', c', rfl⟩ := ownsRow_form h2
    refine ⟨A', c', w', hrun, ?_, h3, h4⟩
    unfold Row Grow
    rw [List.length_append, hl, List.map_append]
    exact h2

theorem wp_append_row {o : Oper} {a : Act} {w : World} {K : Act → World → Prop} {Q : Exit → Act → World → Prop} (s x : Operand)
    (ho : o.op = .call { callee := .builtin .append, args := #[s, x], argTypes := #[22, 22] })
    (v : Value) (xs ys : List Int) (hs : a.eval s = v) (hown : Row w v xs) (A : Option Addr) (m c : Nat) (hx : a.eval x = .slice A m c) (hr : AtInts w .u8 A m ys) (h63 : xs.length + m ≤ 140737488355328)
    (n : Nat) (hn : xs.length + m = n)
    (h : ∀ A' c' w', Row w' (.slice A' n c') (xs ++ ys) → w.grownBy w' v.ownBlock → ((Value.slice A' n c').ownBlock = v.ownBlock ∨ (Value.slice A' n c').ownBlock = some w.heap.size) → K (a.put o.dst (.slice A' n c')) w') : o.wp Try.prog a w K Q := by
  obtain ⟨A', c', w', hrun, h2, h3, h4⟩ := run_append_row v xs ys hown A m c hr h63 o.type
  rw [hn] at hrun h2 h4
  unfold Oper.wp execOp
  simp only [ho, resolve, invoke, builtin, Sem.run_bind, Sem.run_pure, Result.andThen_ok, List.map_toArray, List.map_cons, List.map_nil, hs, hx, hrun]
  exact h A' c' w' h2 h3 h4

theorem wpList_append_row {ops : Array Oper} {rest : List Oper} {o : Oper} {a : Act} {w : World} {Q : Exit → Act → World → Prop} (hgd : o.guard = none) (s x : Operand)
    (ho : o.op = .call { callee := .builtin .append, args := #[s, x], argTypes := #[22, 22] })
    (v : Value) (xs ys : List Int) (hs : a.eval s = v) (hown : Row w v xs) (A : Option Addr) (m c : Nat) (hx : a.eval x = .slice A m c) (hr : AtInts w .u8 A m ys) (h63 : xs.length + m ≤ 140737488355328)
    (n : Nat) (hn : xs.length + m = n)
    (h : ∀ A' c' w', Row w' (.slice A' n c') (xs ++ ys) → w.grownBy w' v.ownBlock → ((Value.slice A' n c').ownBlock = v.ownBlock ∨ (Value.slice A' n c').ownBlock = some w.heap.size) → wpList Try.prog ops Q rest (a.put o.dst (.slice A' n c')) w') :
    wpList Try.prog ops Q (o :: rest) a w :=
  wpList_plain hgd fun _ hK => wp_append_row s x ho v xs ys hs hown A m c hx hr h63 n hn fun A' c' w' h2 h3 h4 => hK _ _ (h A' c' w' h2 h3 h4)

theorem row_empty (w : World) : Row (w.alloc (.cells #[] 5)) (.slice (some ⟨w.heap.size, 0, none⟩) 0 0) [] :=
  ⟨rfl, .inr ⟨w.heap.size, 0, #[], rfl, Nat.zero_le _, heap_alloc_new w _, Nat.le_refl _, by simp [maxLen], by simp, by simp⟩⟩

theorem clone_any (w : World) (v : Value) (xs : List Int) (h : Ints w .u8 v xs) (hl : xs.length ≤ 140737488355328) :
    Calls Try.prog 34 #[v] w fun e w' => ∃ A c, e = .returned (.slice A xs.length c) ∧ Row w' (.slice A xs.length c) xs ∧ (∀ k, (Value.slice A xs.length c).ownBlock = some k → w.heap.size ≤ k) ∧ Below w.heap.size w w' := by
  obtain ⟨A, n, c, rfl, hc, hm, hat⟩ := h.get
  obtain rfl : xs.length = n := hat.1
  have hq : ∀ (w : World) (a : Option Addr) (n c : Nat), (binOp .eql 22 (.slice a n c) (.slice none 0 0)).run Try.prog w = .ok (.bool a.isNone) w := fun w a n c => Lib.run_eql_slice_nil w _ _ a n c 0 0 Try.underlying22
  rcases A with _ | ad
  · have hx : xs = [] := by
      rcases xs with _ | ⟨x, xs⟩
      · rfl
      · obtain ⟨b, off, h, _⟩ := hat.2 (by simp)
        cases h
    subst hx
    go_enter Try.func34, Try.ntmps34
    go_wp2
    go_ret
    exact ⟨_, _, rfl, Row.nil _, fun k hk => (by cases hk), Below.refl _ _⟩
  · have HA := Lib.hid hat
    have HL := Lib.hid hl
    have HR := Lib.hid (row_empty w)
    have HB := Lib.hid ((Below.refl w.heap.size w).alloc (Nat.le_refl _) (.cells #[] 5))
    clear h hat
    go_enter Try.func34, Try.ntmps34
    go_wp2_with (at_builtin; refine wpList_append_row rfl _ _ rfl _ [] xs rfl HR.out (some ad) xs.length c rfl (HA.out.below HB.out (Nat.le_refl _)) (by simpa using HL.out) xs.length (by simp) ?_; intro A2 c2 w2 hrow hgrow hown; have HG := Lib.hid hgrow; have HO := Lib.hid hown; have HRW := Lib.hid hrow; clear hgrow hown hrow)
    go_ret
    refine ⟨_, _, rfl, HRW.out, fun k hk => ?_, HB.out.grown HG.out (by simp) fun r hr => ?_⟩
    · rcases HO.out with h | h
      · rw [h] at hk
        have hk := Option.some.inj hk
        exact Nat.le_of_eq hk
      · rw [h] at hk
        have hk := Option.some.inj hk
        rw [← hk]; simp
    · have hr := Option.some.inj hr
      exact Nat.le_of_eq hr
end Go.Proofs.Ytndgdehlnmheeaa
