/-
  Ring: gathered, Copy's closure.
-/
import Derived.Test.YtndgdehlnmheeaaRgEq
namespace Go.Proofs.Ytndgdehlnmheeaa
set_option maxRecDepth 100000
open Go.RowKit

/-- The n bytes of a copy, F the end that is repeated. -/
def copied (F : List Int) (off n : Nat) : List Int := (List.range n).map fun i => F.getD (i % off) 0
theorem copied_length (F : List Int) (off n : Nat) : (copied F off n).length = n := by simp [copied]
theorem copied_succ (F : List Int) (off n : Nat) : copied F off (n + 1) = copied F off n ++ [F.getD (n % off) 0] := by simp [copied, List.range_succ]

theorem copyFn_any {w : World} {bf bo : Nat} {A : Option Addr} {off c : Nat} {F : List Int} (hf : w.cell? ⟨bf, 0, none⟩ = some (.slice A off c)) (ho : w.cell? ⟨bo, 0, none⟩ = some (.int .i64 off)) (hF : AtInts w .u8 A off F) (h1 : 1 ≤ off) (h2 : off ≤ 9223372036854775807) (i : Nat) :
    Calls Try.prog 78 #[.int .i64 i, .pointer (some ⟨bf, 0, none⟩), .pointer (some ⟨bo, 0, none⟩)] w fun e w' => e = .returned (.int .u8 (F.getD (i % off) 0)) ∧ ∃ m, w' = w.drewN m := by
  have hlt : i % off < off := Nat.mod_lt _ (by omega)
  obtain ⟨b, o, x, rfl, hb, cx, EX⟩ := hF.at_ hlt
  have HX : Hid (F.getD (i % off) 0 = x) := (by rw [List.getD_eq_getElem?_getD, EX.out]; rfl : _ = _)
  obtain ⟨r, hr⟩ : ∃ r, i % off = r := ⟨_, rfl⟩
  rw [hr] at cx hlt HX
  have e1 : (i : Int).tmod (off : Int) = (r : Int) := by rw [← hr]; simp [Int.tmod_eq_emod_of_nonneg]
  have e0 : ¬ (off : Int) = 0 := by omega
  have e2 : (0 : Int) ≤ (r : Int) := by omega
  have e3 : (r : Int) < (off : Int) := by omega
  rw [hr]
  clear hF hr EX
  go_enter Try.func78, Try.ntmps78
  go_wp2
  go_quiet (fail)
  go_wp2
  go_ret
  exact ⟨ret_int HX.out.symm, _, rfl⟩

/-- Copy's closure as a value. -/
def cpFn (bf bo : Nat) : Value := .func (.func 78) #[] #[.pointer (some ⟨bf, 0, none⟩), .pointer (some ⟨bo, 0, none⟩)]

theorem one_at (w : World) (x : Int) : AtInts (w.alloc (.cells #[.int .u8 x] 5)) .u8 (some ⟨w.heap.size, 0, none⟩) 1 [x] := by
  refine ⟨rfl, fun _ => ⟨_, _, rfl, fun i y hy => ?_⟩⟩
  have hb := Blk.new w 5 #[.int .u8 x]
  rcases i with _ | i
  · simp at hy; subst hy; rw [hb.cell]; rfl
  · simp at hy

/-- One append more. -/
theorem Cloned.next {w wr : World} {v v' : Value} {xs ys : List Int} (h : Cloned w wr v xs) (W : World) (hW : Below wr.heap.size wr W) {w3 : World} (o : Obj) (hrow : Row w3 v' ys) (hg : (W.alloc o).grownBy w3 v.ownBlock)
    (hown : v'.ownBlock = v.ownBlock ∨ v'.ownBlock = some (W.alloc o).heap.size) : Cloned w w3 v' ys := by
  have hb : Below w.heap.size w (W.alloc o) := (h.below.trans (hW.mono h.below.size)).alloc (Nat.le_trans h.below.size hW.size) o
  refine ⟨hrow, fun k hk => ?_, hb.grown hg hb.size fun r hr => h.own r hr⟩
  rcases hown with e | e
  · exact h.own k (e ▸ hk)
  · rw [e] at hk
    have := Option.some.inj hk
    have := hb.size
    omega

theorem gath_any {w : World} {bf bo : Nat} {A : Option Addr} {off c : Nat} {F : List Int} (hf : w.cell? ⟨bf, 0, none⟩ = some (.slice A off c)) (ho : w.cell? ⟨bo, 0, none⟩ = some (.int .i64 off)) (hF : AtInts w .u8 A off F) (h1 : 1 ≤ off) (h2 : off ≤ 9223372036854775807) (n : Nat) (hn : n ≤ 131072) :
    Calls Try.prog 77 #[.int .i64 n, cpFn bf bo] w fun e w' => ∃ v, e = .returned v ∧ Cloned w w' v (copied F off n) := by
  have HC := Lib.hid hf
  have HO := Lib.hid ho
  have HF := Lib.hid hF
  have hbf := World.block_lt_of_cell? w _ hf
  have hbo := World.block_lt_of_cell? w _ ho
  have HBF := Lib.hid hbf
  have HBO := Lib.hid hbo
  clear hf ho hF hbf hbo
  go_enter Try.func77, Try.ntmps77
  go_wp2
  go_loopw [4, 7] (fun out i wr => ∃ k : Nat, k ≤ n ∧ i = .int .i64 k ∧ Hid (Cloned w wr out (copied F off k))) (fun _ i _ => n - (intOf i).toNat)
  case atStart => exact ⟨0, Nat.zero_le _, rfl, (⟨Row.nil _, (fun k hk => by cases hk), Below.refl _ _⟩ : Cloned _ _ _ _)⟩
  case round =>
    obtain ⟨k, hk, rfl, HG⟩ := hrel
    have k0 : (0 : Int) ≤ (k : Int) := by omega
    by_cases hlt : k < n
    · have k1 : (k : Int) < (n : Int) := by omega
      obtain ⟨A1, n1, c1, rfl, -, -, hat⟩ := HG.out.row.ints.get
      obtain rfl : k = n1 := by rw [← hat.1, copied_length]
      clear hat
      have HF2 := Lib.hid (HF.out.below HG.out.below (Nat.le_refl _))
      have HC2 := Lib.hid ((HG.out.below.cell (p := ⟨bf, 0, none⟩) HBF.out).trans HC.out)
      have HO2 := Lib.hid ((HG.out.below.cell (p := ⟨bo, 0, none⟩) HBO.out).trans HO.out)
      unfold cpFn
      go_wp2_with (first
        | (go_at_call 78; refine (copyFn_any HC2.out HO2.out HF2.out h1 h2 k).mono ?_; rintro e w2 ⟨rfl, m, rfl⟩; have HR2 := Lib.hid (HG.out.row.below ((below_drewN (Below.refl _ wr) m).alloc (Nat.le_refl _) (.cells #[.int .u8 (F.getD (k % off) 0)] 5)) (Nat.le_refl _)))
        | (at_builtin; refine wpList_append_row rfl _ _ rfl _ (copied F off k) [F.getD (k % off) 0] rfl HR2.out (some ⟨wr.heap.size, 0, none⟩) 1 1 rfl (one_at (wr.drewN m) _) (by rw [copied_length]; omega) (k + 1) (by rw [copied_length]) ?_; intro A3 c3 w3 hrow hgrow hown; have HN := Lib.hid (HG.out.next (wr.drewN m) (below_drewN (Below.refl _ wr) m) _ hrow hgrow hown); clear hrow hgrow hown))
      go_roundw
      case rel => exact ⟨k + 1, by omega, by go_num, (by rw [copied_succ]; exact HN.out : Cloned _ _ _ _)⟩
      case measure => simp [intOf]; omega
    · obtain rfl : k = n := by omega
      go_wp2
      go_ret
      exact ⟨_, rfl, HG.out⟩
end Go.Proofs.Ytndgdehlnmheeaa
