/-
  exec: Pieces at a ring; the reference's Run, whatever the check says.
-/
import Derived.Test.YtndgdehlnmheeaaExYield
import Derived.Test.YtndgdehlnmheeaaExRefO
namespace Go.Proofs.Ytndgdehlnmheeaa
set_option linter.all false
set_option maxRecDepth 100000
open Go.RowKit

theorem PcsFar.below {B : Nat} {lo : Option Nat} {w w2 : World} {v : Value} {ps : List (List Int)} (h : PcsFar B lo w v ps) (hb : Below w.heap.size w w2) : PcsFar B lo w2 v ps :=
  h.keep hb.size fun k hk _ => hb.block k hk
theorem PcsFar.nil (B : Nat) (lo : Option Nat) (w : World) : PcsFar B lo w (.slice none 0 0) [] := fun w' _ _ => Pcs.nil w'
theorem PcsFar.form {B : Nat} {lo : Option Nat} {w : World} {v : Value} {ps : List (List Int)} (h : PcsFar B lo w v ps) : ∃ A c, v = .slice A ps.length c ∧ ps.length ≤ c ∧ c ≤ maxLen := by
  obtain ⟨A, c, h1, h2, h3, -⟩ := h.pcs.at_
  exact ⟨A, c, h1, h2, h3⟩

/-- The pieces that an execution leaves: none where the check fails. -/
def piecesOf (q : Int) (C ls : List Int) (ss : List SeqD) : List (List Int) := if q = 0 then piecesL C ls ss else []

theorem seqs_own {w : World} {v : Value} {ss : List SeqD} (h : Seqs w v ss) : ∀ k, 0 < ss.length → v.ownBlock = some k → k < w.heap.size := fun k h0 hk => by
  obtain ⟨A, c, rfl, -, -, h4⟩ := h.at_
  obtain ⟨b, off, rfl, hcell⟩ := h4 h0
  obtain rfl : b = k := by simpa [Value.ownBlock] using hk
  exact World.block_lt_of_cell? w _ (hcell 0 _ (List.getElem?_eq_getElem h0)).1

theorem done_cl (w w1 : World) {g1 : Nat} {v1 : Value} {S : Nat} {st C : List Int} {T : Nat} (hm : Made w w1 g1 v1 S st T) (hC : lastN S st = lastN S C) (lv : Value) (ls : List Int) (hl : Ints w .u8 lv ls) (hu : U8s ls) (hln : ls.length ≤ 1000000)
    (sv : Value) (ss : List SeqD) (hs : Seqs w sv ss) (hsl : ss.length ≤ 100000) (most a t q : Int) (hchk : chkOf S C ls most ss = (a, t, q)) (hT : T ≤ 1152921504606846976) :
    Calls Try.prog 37 #[rp g1, lv, sv, .int .i64 most] w1 fun e w2 => ∃ rv, e = .returned (.tuple #[rv, .int .i64 q]) ∧ Below w.heap.size w w2 ∧ PcsFar w.heap.size none w2 rv (piecesOf q C ls ss) := by
  have hown := seqs_own hs
  have hat := hm.at_
  have hsz := hm.below.size
  by_cases hq : q = 0
  · subst hq
    obtain ⟨-, -, hck⟩ := chkOf_ok hchk
    obtain ⟨-, -, rfl⟩ := content_length (C := C) hck
    refine (done_far w1 hm.ring hC lv ls (hl.below hm.below (Nat.le_refl _)) hu hln sv ss (hs.below hm.below (Nat.le_refl _)) hsl (fun k h0 hk => ?_) most t hchk hT).mono ?_
    · have := hown k h0 hk
      exact ⟨by omega, fun e => by have := hm.own _ e; omega⟩
    · rintro e w2 ⟨v', st', rv, rfl, hok, hp⟩
      refine ⟨rv, rfl, hm.below.trans (hok.but.below hsz hat hm.own), ?_⟩
      unfold piecesOf
      rw [if_pos rfl]
      exact hp.mono hsz
  · refine (done_bad w1 hm.ring hC lv ls (hl.below hm.below (Nat.le_refl _)) sv ss (hs.below hm.below (Nat.le_refl _)) most a t q hchk (by simpa using hq)).mono ?_
    rintro e w2 ⟨rfl, hb⟩
    refine ⟨_, rfl, hm.below.trans (hb.mono hsz), ?_⟩
    unfold piecesOf
    rw [if_neg hq]
    exact PcsFar.nil _ _ _

set_option maxHeartbeats 1600000 in
theorem pieces_ring (w : World) {g : Nat} {v : Value} {S : Nat} {st C : List Int} {T : Nat} (hr : Ring w g v S st T) (hC : lastN S st = lastN S C) (lv : Value) (ls : List Int) (hl : Ints w .u8 lv ls) (hu : U8s ls) (hln : ls.length ≤ 1000000)
    (sv : Value) (ss : List SeqD) (hs : Seqs w sv ss) (hsl : ss.length ≤ 100000) (most a t q : Int) (hchk : chkOf S C ls most ss = (a, t, q)) (hT : T ≤ 1152921504606846976) :
    Calls Try.prog 26 #[rp g, lv, sv, .int .i64 most] w fun e w' => ∃ B rv, e = .returned (.func (.func 51) #[] #[.pointer (some ⟨B, 0, none⟩)]) ∧ w.heap.size ≤ B ∧ Blk w' B 48 #[rv] ∧ PcsFar w.heap.size none w' rv (piecesOf q C ls ss) ∧ Below w.heap.size w w' := by
  have hD := fun w1 g1 v1 (hm : Made w w1 g1 v1 S st T) => done_cl w w1 hm hC lv ls hl hu hln sv ss hs hsl most a t q hchk hT
  have HD := Lib.hid hD
  have HR := Lib.hid hr
  obtain ⟨A1, n1, c1, rfl, -⟩ := hl.get
  obtain ⟨⟨A, c, rfl, -, -, -⟩, -⟩ := hs
  obtain ⟨i0, hi, hz0, hz1, hz2⟩ := info_parts infoBss
  clear hD hr hC hl hu hln hsl hchk hT
  go_enter Try.func26, Try.ntmps26
  go_wp2_with fail
  refine (cl_ring _ HR.out).mono ?_
  rintro e w1 ⟨g1, v1, rfl, hm⟩
  have HD1 := Lib.hid (HD.out w1 g1 v1 hm)
  clear hm HD
  go_wp2_with fail
  refine HD1.out.mono ?_
  rintro e w2 ⟨rv, rfl, hb, hp⟩
  obtain ⟨A3, c3, rfl, -⟩ := hp.form
  obtain ⟨m, hm⟩ : ∃ m, (piecesOf q C ls ss).length = m := ⟨_, rfl⟩
  rw [hm] at hp ⊢
  have HB2 := Lib.hid hb
  have HP2 := Lib.hid hp
  clear hb hp hm HD1
  go_wp2
  go_ret
  have hba : Below w2.heap.size w2 (w2.alloc (.cells #[.slice A3 m c3] 48)) := (Below.refl _ _).alloc (Nat.le_refl _) _
  exact ⟨_, _, rfl, HB2.out.size, Blk.new _ _ _, HP2.out.below hba, HB2.out.trans (hba.mono HB2.out.size)⟩

theorem refRun_all (w : World) (S T : Nat) (cv lv sv : Value) (H ls : List Int) (hH : Ints w .u8 cv (lastN S H)) (hl : Ints w .u8 lv ls) (hu : U8s ls) (ss : List SeqD) (hs : Seqs w sv ss) (hsl : ss.length ≤ 100000) (most a t q : Int) (hchk : chkOf S H ls most ss = (a, t, q)) (hS2 : S ≤ 134217728) (hT : T ≤ 1152921504606846976) :
    Calls Try.prog 24 #[rv S cv T, lv, sv, .int .i64 most] w fun e w' => ∃ A n c T' ov, e = .returned (.tuple #[rv S (.slice A n c) T', ov, .int .i64 q]) ∧ Below w.heap.size w w' ∧ PcsFar w.heap.size (if ls = [] then none else lv.ownBlock) w' ov (piecesOf q H ls ss) := by
  by_cases hq : q = 0
  · subst hq
    obtain ⟨-, -, hck⟩ := chkOf_ok hchk
    obtain ⟨-, -, rfl⟩ := content_length (C := H) hck
    refine (refRun_far w S T cv lv sv H ls hH hl hu ss hs hsl most t hchk hS2 hT).mono ?_
    rintro e w' ⟨bv, ov, rfl, hb, hi, hp⟩
    obtain ⟨A, n, c, rfl, -⟩ := hi.get
    refine ⟨A, n, c, _, ov, rfl, hb, ?_⟩
    unfold piecesOf
    rw [if_pos rfl]
    exact hp
  · have hn : (lastN S H).length = min S H.length := lastN_length _ _
    obtain ⟨A, n, c, rfl, -⟩ := hH.get
    refine (refRun_bad w S T _ lv sv (lastN S H) ls hH hl ss hs most a t q (by rw [hn]; exact hchk) (by simpa using hq)).mono ?_
    rintro e w' ⟨rfl, hb⟩
    refine ⟨A, n, c, T, _, rfl, hb, ?_⟩
    unfold piecesOf
    rw [if_neg hq]
    exact PcsFar.nil _ _ _
end Go.Proofs.Ytndgdehlnmheeaa
