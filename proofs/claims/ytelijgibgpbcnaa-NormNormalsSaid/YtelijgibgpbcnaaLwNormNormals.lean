/-
  NormNormals: the law's walk.
-/
import Derived.Test.YtelijgibgpbcnaaNmAllc
namespace Go.Proofs.Ytelijgibgpbcnaa
open Go.RowKit

set_option maxHeartbeats 1600000 in
theorem normNormals_walk (v : Value) (cs : List Int) {w : World} (hI : Ints w .i64 v cs ∧ ∀ z ∈ cs, (Lit.int .i64 z).wf = true) (log : Int) (_ : (Lit.int .i64 log).wf = true) :
    Calls Try.prog 3 #[v, .int .i64 log] w fun e w' => e = .returned (.bool true) ∧ Below w.heap.size w w' := by
  obtain ⟨hI, -⟩ := hI
  have HI := Lib.hid hI
  obtain ⟨A, n, c, rfl, hc, hmx, hx⟩ := hI.get
  have hcl : cs.length = n := hx.1
  have HCL := Lib.hid hcl
  clear hx hI hcl
  by_cases h6 : 300 < (n : Int)
  · go_enter Try.func3, Try.ntmps3
    go_wp2_with (go_at_call 12; refine (known_any _).mono ?_; rintro e w2 ⟨rfl, hb⟩; have HB := Lib.hid hb; clear hb)
    go_ret
    exact ⟨rfl, HB.out⟩
  have HLEN : Hid (cs.length ≤ 1000) := (by rw [HCL.out]; omega : cs.length ≤ 1000)
  go_enter Try.func3, Try.ntmps3
  go_wp2_with fail
  refine (normalize_all _ cs log _ HI.out HLEN.out).mono ?_
  rintro e w1 ⟨A1, l1, c1, rfl, HI1, hb⟩
  have HB1 := Lib.hid hb
  have HBOX := Lib.hid (Blk.new w1 25 #[.int .i64 (nL cs log), .slice A1 l1 c1])
  clear hb
  go_wp2_with fail
  refine (refNormal_all _ cs log _ ((HI.out.below HB1.out (Nat.le_refl _)).alloc _) HLEN.out).mono ?_
  rintro e w2 ⟨A2, l2, c2, rfl, HI2, hb⟩
  obtain ⟨b0, b1, -, -⟩ := (HBOX.out.below hb HBOX.out.lt).two
  have HB2 := Lib.hid ((HB1.out.alloc HB1.out.size _).trans (hb.mono (by have := HB1.out.size; simp; omega)))
  have HI3 := Lib.hid ((HI1.out.alloc _).below hb (Nat.le_refl _))
  have hlt : w1.heap.size < w2.heap.size := by have := hb.size; simp at this; omega
  clear hb
  go_wp2_with (first | (go_at_call 15; refine (same_true _ _ _ (nN cs log) _ (HI3.out.alloc _) (HI2.out.alloc _)).mono ?_; rintro e w3 ⟨rfl, hb⟩; have HB3 := Lib.hid ((HB2.out.alloc HB2.out.size _).trans (hb.mono (by have := HB2.out.size; simp; omega))); clear hb) | (go_at_call 12; refine (known_any _).mono ?_; rintro e w4 ⟨rfl, hb⟩; have HB4 := Lib.hid (HB3.out.trans (hb.mono HB3.out.size)); clear hb))
  go_ret
  exact ⟨rfl, HB4.out⟩
end Go.Proofs.Ytelijgibgpbcnaa
