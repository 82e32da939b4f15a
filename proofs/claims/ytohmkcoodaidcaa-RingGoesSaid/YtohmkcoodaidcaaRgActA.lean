/-
  The ring's laws: act.
-/
import Derived.Test.YtohmkcoodaidcaaRgActL
namespace Go.Proofs.Ytohmkcoodaidcaa
open Go.RowKit

theorem act_any (w : World) {g : Nat} {v cv : Value} {S T : Nat} {st : List Int} (x : ActD) (hr : Ring w g v S st T) (hC : Ints w .u8 cv (lastN S st)) (hfar : lastN S st ≠ [] → ∀ k, cv.ownBlock = some k → k ≠ g ∧ v.ownBlock ≠ some k) (hok : x.Ok w) (hsm : x.small) (hT : T ≤ 1152921504606846976) :
    Calls Try.prog 20 #[rp g, rv S cv T, x.val] w fun e w' => ∃ g' v' st' T' cv', e = .returned (.tuple #[rp g', rv S cv' T', .bool true]) ∧ Acted w w' g g' v v' S st st' T T' cv cv' := by
  have hSm := hr.max
  by_cases h012 : x.what = 0 ∨ x.what = 1 ∨ x.what = 2
  · exact act_add w x hr hC hok hsm.1 hT h012
  by_cases h34 : x.what = 3 ∨ x.what = 4
  · by_cases hn : x.n < 0 ∨ 131072 < x.n
    · exact act_copy w x hr hC hfar hok h34 (refCopies_arg hn) (ringCopies_arg hn) rfl (by omega)
    · by_cases ho : x.off < 1 ∨ ((min S st.length : Nat) : Int) < x.off
      · exact act_copy w x hr hC hfar hok h34 (refCopies_seq (by omega) (by omega) (by rw [lastN_length]; exact ho)) (ringCopies_seq (by omega) (by omega) ho) rfl (by omega)
      · obtain ⟨N, hN⟩ : ∃ N : Nat, x.n = (N : Int) := ⟨x.n.toNat, by omega⟩
        obtain ⟨O, hO⟩ : ∃ O : Nat, x.off = (O : Int) := ⟨x.off.toNat, by omega⟩
        rw [hN] at hn
        rw [hO] at ho
        have hl : lastN O (lastN S st) = lastN O st := lastN_lastN st (by omega)
        refine act_copy w x hr hC hfar hok h34 (T' := T + N) (st' := keepL S (st ++ copied (lastN O st) O N)) (C' := lastN S (lastN S st ++ copied (lastN O st) O N)) (out := copied (lastN O st) O N) (no := 0) ?_ ?_ (last_keep _ _ _) (by omega)
        · rw [hN, hO, ← hl]
          exact refCopies_ok hSm (by rw [lastN_length]; omega) (by omega) (by omega) (by rw [lastN_length]; omega) (by omega)
        · rw [hN, hO]
          exact ringCopies_ok (by omega) (by omega) (by omega) (by omega)
  by_cases h5 : x.what = 5
  · by_cases hn : x.n < 1
    · refine act_last w x hr hC hfar hok h5 (out := []) (fun h => absurd rfl h) (fun W h => last_none W h x.n hn) (fun W h => ?_)
      exact (refLast_none W S cv T x.n hn).mono fun e w' ⟨he, hb⟩ => ⟨_, he, Ints.nil _ _, hb, fun k hk => by cases hk⟩
    · obtain ⟨N, hN⟩ : ∃ N : Nat, x.n = (N : Int) := ⟨x.n.toNat, by omega⟩
      have hw := hok.wn
      rw [hN] at hn hw
      refine act_last w x hr hC hfar hok h5 (out := lastN N (lastN S st)) (fun h e => h (by rw [e]; simp [lastN])) ?_ ?_
      · rw [hN]; exact fun W h => last_some W h N (by omega)
      · rw [hN]; exact fun W h => (refLast_some W S cv T _ h N (by omega) (by omega)).mono fun e w' ⟨v', he, hi, hb, ho⟩ => ⟨v', he, hi, hb, fun k hk => ho ▸ hk⟩
  exact act_clone w x hr hC hok (by omega) (by omega) (by omega) (by omega) (by omega) h5
end Go.Proofs.Ytohmkcoodaidcaa
