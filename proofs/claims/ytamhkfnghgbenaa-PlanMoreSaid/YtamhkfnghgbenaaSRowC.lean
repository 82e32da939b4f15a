/-
  A slice of structs that a call grows: its cells.
-/
import Derived.Test.YtamhkfnghgbenaaSRow
namespace Go.Proofs.Ytamhkfnghgbenaa
set_option linter.all false
open Go.RowKit

theorem flatten_get {sz : Nat} : ∀ {cs : List (List Value)} {i j : Nat} {cl : List Value}, (∀ c ∈ cs, c.length = sz) → cs[i]? = some cl → j < sz → cs.flatten[i * sz + j]? = cl[j]?
  | [], _, _, _, _, h, _ => by simp at h
  | c :: r, 0, j, cl, hs, h, hj => by
    simp only [List.getElem?_cons_zero, Option.some.injEq] at h
    subst h
    rw [List.flatten_cons, List.getElem?_append_left (by rw [hs _ List.mem_cons_self]; omega)]
    simp
  | c :: r, i + 1, j, cl, hs, h, hj => by
    have hc := hs c List.mem_cons_self
    simp only [List.getElem?_cons_succ] at h
    rw [List.flatten_cons, List.getElem?_append_right (by rw [hc, Nat.succ_mul]; omega)]
    have e : (i + 1) * sz + j - c.length = i * sz + j := by rw [hc, Nat.succ_mul]; omega
    rw [e]
    exact flatten_get (fun x hx => hs x (List.mem_cons_of_mem _ hx)) h hj

theorem SRow.cell {w : World} {E : TypeId} {sz : Nat} {A : Option Addr} {n c : Nat} {cs : List (List Value)} (h : SRow w E sz (.slice A n c) cs) (hs : ∀ c ∈ cs, c.length = sz) {i : Nat} (hi : i < cs.length) :
    ∃ g, A = some ⟨g, 0, none⟩ ∧ n = cs.length ∧ ∀ (i : Nat) (cl : List Value), cs[i]? = some cl → ∀ (j : Nat) (u : Value), j < sz → cl[j]? = some u → w.cell? ⟨g, i * sz + j, none⟩ = some u := by
  rcases h.2 with ⟨-, h0⟩ | ⟨g, cap, cur, he, h2, h3, h4, h5, h6, h7⟩
  · omega
  · injection he with e1 e2 e3
    refine ⟨g, e1, e2, fun i cl hc j u hj hu => ?_⟩
    have hil := (List.getElem?_eq_some_iff.1 hc).1
    have h8 := flatten_get hs hc hj
    rw [hu, ← h7, List.getElem?_take] at h8
    split at h8
    · have h9 : cur[i * sz + j]? = some u := by simpa using h8
      simp [World.cell?, h3, h9]
    · cases h8

theorem SRow.form {w : World} {E : TypeId} {sz : Nat} {v : Value} {cs : List (List Value)} (h : SRow w E sz v cs) : ∃ A c, v = .slice A cs.length c ∧ cs.length ≤ c ∧ c ≤ maxLen := by
  rcases h.2 with ⟨hv, h0⟩ | ⟨g, cap, cur, he, h2, h3, h4, h5, h6, h7⟩
  · exact ⟨none, 0, by rw [h0]; exact hv, by omega, by simp [maxLen]⟩
  · exact ⟨_, cap, he, h4, h5⟩

end Go.Proofs.Ytamhkfnghgbenaa
