/-
  exec: done, joined, Run.
-/
import Derived.Test.YtndgdehlnmheeaaExRunQ
import Derived.Test.YtndgdehlnmheeaaRgNone
namespace Go.Proofs.Ytndgdehlnmheeaa
set_option linter.all false
set_option maxRecDepth 100000
open Go.RowKit

/-- What an execution leaves. -/
structure RunOk (w w' : World) (g : Nat) (v v' : Value) (S : Nat) (C st' : List Int) (T : Nat) (out : List Int) : Prop where
  ring : Ring w' g v' S st' (T + out.length)
  last : lastN S st' = lastN S (C ++ out)
  own : v'.ownBlock = v.ownBlock ∨ ∀ k, v'.ownBlock = some k → w.heap.size ≤ k
  but : But w w' g v.ownBlock
theorem RunOk.below {w w' w2 : World} {g : Nat} {v v' : Value} {S : Nat} {C st' : List Int} {T : Nat} {out : List Int} (h : RunOk w w' g v v' S C st' T out) (hb : Below w'.heap.size w' w2) : RunOk w w2 g v v' S C st' T out :=
  ⟨h.ring.below hb (Nat.le_refl _), h.last, h.own, h.but.trans (But.of_below hb g v.ownBlock) (.inl rfl)⟩

/-- The check that an execution makes. -/
abbrev chkOf (S : Nat) (C ls : List Int) (most : Int) (ss : List SeqD) : Int × Int × Int := chkR S (min S C.length : Nat) ls.length most ss
theorem chkOf_ok {S : Nat} {C ls : List Int} {most a t : Int} {ss : List SeqD} (h : chkOf S C ls most ss = (a, t, 0)) : 0 ≤ most ∧ most ≤ 131072 ∧ chk S (min S C.length : Nat) most ss 0 ls.length 0 = (a, t, 0) := by
  unfold chkOf chkR at h
  split at h
  · next h1 =>
    obtain ⟨-, -, -, -, h5, h6⟩ := h1
    rw [show min (((min S C.length : Nat) : Int)) (S : Int) = ((min S C.length : Nat) : Int) by omega] at h
    exact ⟨h5, h6, h⟩
  · simp at h

/-- The plan's own block is none of the ring's. -/
def SeqFar (v : Value) (ss : List SeqD) (g : Nat) (vo : Option Nat) : Prop := ∀ k, 0 < ss.length → v.ownBlock = some k → k ≠ g ∧ vo ≠ some k

set_option maxHeartbeats 3200000 in
theorem done_far (w : World) {g : Nat} {v : Value} {S : Nat} {st C : List Int} {T : Nat} (hr : Ring w g v S st T) (hC : lastN S st = lastN S C) (lv : Value) (ls : List Int) (hl : Ints w .u8 lv ls) (hu : U8s ls) (hln : ls.length ≤ 1000000)
    (sv : Value) (ss : List SeqD) (hs : Seqs w sv ss) (hsl : ss.length ≤ 100000) (hsf : SeqFar sv ss g v.ownBlock) (most t : Int) (hchk : chkOf S C ls most ss = (0, t, 0)) (hT : T ≤ 1152921504606846976) :
    Calls Try.prog 37 #[rp g, lv, sv, .int .i64 most] w fun e w' => ∃ v' st' rv, e = .returned (.tuple #[rv, .int .i64 0]) ∧ RunOk w w' g v v' S C st' T (contentL C ls ss) ∧ PcsFar w.heap.size none w' rv (piecesL C ls ss) := by
  have HR := Lib.hid hr
  have HL := Lib.hid hl
  have HS := Lib.hid hs
  obtain ⟨AL, nl, cl, rfl, l1, l2, l3⟩ := hl.get
  obtain rfl : ls.length = nl := l3.1
  obtain ⟨⟨A, c, hv', hlc, hcm, -⟩, -⟩ := hs
  subst hv'
  obtain ⟨h0, h1, h2⟩ := chkOf_ok hchk
  have hm := min_of_lastN hC
  obtain ⟨hn, hhn⟩ : ∃ n, min S C.length = n := ⟨_, rfl⟩
  unfold chkOf at hchk
  rw [hhn] at hm hchk
  have HHN := Lib.hid hhn
  have HM := Lib.hid hm
  have hnb : hn ≤ 134217728 := by have := hr.max; omega
  have HC := Lib.hid hC
  have HU := Lib.hid hu
  have HCH := Lib.hid hchk
  have HCK := Lib.hid h2
  have HSF := Lib.hid hsf
  have HT := Lib.hid hT
  have HSL := Lib.hid hsl
  have HMO := Lib.hid h1
  have hS0 : ((S : Int) == 0) = false := by have := hr.pos; simp; omega
  have hgl := hr.lt
  have hln2 : (ls.length : Int) ≤ 1000000 := by omega
  have HLN := Lib.hid hln
  clear hr hC hl hu hln hsl hsf hchk hT h0 h1 h2 hm l3
  go_enter Try.func37, Try.ntmps37
  go_wp2_with fail
  refine (size_ring _ HR.out).mono ?_
  rintro e w1 ⟨rfl, hw⟩
  obtain rfl : w = w1 := hw.symm
  go_wp2_with fail
  refine (size_ring _ HR.out).mono ?_
  rintro e w1 ⟨rfl, hw⟩
  obtain rfl : w = w1 := hw.symm
  go_wp2_with fail
  refine (len_ring _ HR.out).mono ?_
  rw [HM.out]
  rintro e w3 ⟨rfl, m, hw⟩
  have hb3 : Below w.heap.size w w3 := by rw [hw]; exact below_drewN (Below.refl _ w) m
  have HB3 := Lib.hid hb3
  have HR3 := Lib.hid (HR.out.below hb3 (Nat.le_refl _))
  have HS3 := Lib.hid (HS.out.below hb3 (Nat.le_refl _))
  have HL3 := Lib.hid (HL.out.below hb3 (Nat.le_refl _))
  clear hw hb3
  go_wp2_with fail
  refine (excheck_any _ S hn ls.length most _ ss HS3.out ⟨by omega, by omega⟩).mono ?_
  rw [HCH.out]
  rintro e w4 ⟨rfl, hb⟩
  have HB4 := Lib.hid (HB3.out.trans (hb.mono HB3.out.size))
  have HR4 := Lib.hid (HR3.out.below hb (Nat.le_refl _))
  have HS4 := Lib.hid (HS3.out.below hb (Nat.le_refl _))
  have HL4 := Lib.hid (HL3.out.below hb (Nat.le_refl _))
  clear hb HB3 HR3 HS3 HL3
  go_wp2_with fail
  refine (clone_any _ _ ls HL4.out (by have := HLN.out; omega)).mono ?_
  rintro e w5 ⟨A5, c5, rfl, hrow, hown, hb⟩
  have hb4 := HB4.out.size
  have HB5 := Lib.hid (HB4.out.trans (hb.mono HB4.out.size))
  have HR5 := Lib.hid (HR4.out.below hb (Nat.le_refl _))
  have HS5 := Lib.hid (HS4.out.below hb (Nat.le_refl _))
  have hba : Below w5.heap.size w5 (w5.alloc (.cells #[rp g, .slice A5 ls.length c5] 99)) := (Below.refl _ w5).alloc (Nat.le_refl _) _
  have hvl := fun k => HR.out.row.lt k
  have hb5 := HB5.out.size
  have hr5 := hb.size
  have hcp := hrow.ints
  obtain ⟨A6, n6, c6, he6, hn6, hm6, hat6⟩ := hcp.get
  injection he6 with e1 e2 e3
  subst e1 e2 e3
  have hPC := pieces_any (w5.alloc (.cells #[rp g, .slice A5 ls.length c5] 99)) (x := w5.heap.size) (B := w.heap.size) (HR5.out.below hba (Nat.le_refl _)) HC.out (Blk.new _ _ _) (hat6.below hba (Nat.le_refl _)) ⟨hn6, hm6⟩
    (fun k hk => by have h7 := hown k hk; have h8 := hrow.lt k hk; exact ⟨⟨by omega, by omega⟩, fun e => by have := hvl k e; omega, by simp; omega⟩) (fun e => by have := hvl _ e; omega) ⟨hgl, hb5, by simp⟩ HU.out _ ss (HS5.out.below hba (Nat.le_refl _)) HSL.out
    (fun k hk0 hk => by
      have h7 := HSF.out k hk0 hk
      refine ⟨h7.1, ?_, h7.2⟩
      obtain ⟨A2, c2, he, -, -, h4⟩ := HS.out.at_
      injection he with e1 e2 e3
      subst e1
      obtain ⟨b, off, rfl, hcell⟩ := h4 hk0
      obtain rfl : b = k := by simpa [Value.ownBlock] using hk
      have h9 := World.block_lt_of_cell? w _ (hcell 0 _ (List.getElem?_eq_getElem hk0)).1
      simp at h9
      omega) most t HMO.out HCK.out HT.out
  have HPC := Lib.hid hPC
  clear hb hown hrow hcp hat6 hba hPC hvl HR5 HS5 HL4 HR4 HS4
  go_wp2_with fail
  refine HPC.out.mono ?_
  rintro e w6 ⟨v6, st6, rv6, es6, rfl, hring, hlast, hown, hpcs, hbut⟩
  obtain ⟨A7, c7, hv7, -⟩ := SRow.form hpcs.row
  rw [List.length_map] at hv7
  subst hv7
  have HRG := Lib.hid hring
  have HLA := Lib.hid hlast
  have HOW := Lib.hid hown
  have HPS := Lib.hid (hpcs.far_all (lo := none) (fun k hk => .inl (hpcs.own k hk).1.1) (fun i e p he hp k hk => .inl ((hpcs.el i e p he hp).2.2 k hk).1.1))
  have HBU := Lib.hid hbut
  clear hring hlast hown hpcs hbut
  go_wp2
  go_ret2
  refine ⟨v6, st6, .slice A7 es6.length c7, rfl, ⟨HRG.out, HLA.out, ?_, ?_⟩, HPS.out⟩
  · rcases HOW.out with h | h
    · exact .inl h
    · exact .inr fun k hk => by have := h k hk; simp at this; omega
  · have h9 := HBU.out
    have hsz : (w5.alloc (.cells #[rp g, .slice A5 ls.length c5] 99)).heap.size = w5.heap.size + 1 := by simp
    refine ⟨h9.os.trans HB5.out.os, h9.tape.trans HB5.out.tape, h9.output.trans HB5.out.output, by have := h9.size; omega, fun k hk hg ho => ?_⟩
    refine (h9.block k (by omega) hg (by omega) ho).trans ?_
    exact (Below.heap_alloc w5 _ k (by omega)).trans (HB5.out.block k hk)
theorem done_ok (w : World) {g : Nat} {v : Value} {S : Nat} {st C : List Int} {T : Nat} (hr : Ring w g v S st T) (hC : lastN S st = lastN S C) (lv : Value) (ls : List Int) (hl : Ints w .u8 lv ls) (hu : U8s ls) (hln : ls.length ≤ 1000000)
    (sv : Value) (ss : List SeqD) (hs : Seqs w sv ss) (hsl : ss.length ≤ 100000) (hsf : SeqFar sv ss g v.ownBlock) (most t : Int) (hchk : chkOf S C ls most ss = (0, t, 0)) (hT : T ≤ 1152921504606846976) :
    Calls Try.prog 37 #[rp g, lv, sv, .int .i64 most] w fun e w' => ∃ v' st' rv, e = .returned (.tuple #[rv, .int .i64 0]) ∧ RunOk w w' g v v' S C st' T (contentL C ls ss) ∧ Pcs w' rv (piecesL C ls ss) :=
  (done_far w hr hC lv ls hl hu hln sv ss hs hsl hsf most t hchk hT).mono fun e w' ⟨v', st', rv, h1, h2, h3⟩ => ⟨v', st', rv, h1, h2, h3.pcs⟩

theorem done_bad (w : World) {g : Nat} {v : Value} {S : Nat} {st C : List Int} {T : Nat} (hr : Ring w g v S st T) (hC : lastN S st = lastN S C) (lv : Value) (ls : List Int) (hl : Ints w .u8 lv ls)
    (sv : Value) (ss : List SeqD) (hs : Seqs w sv ss) (most a t q : Int) (hchk : chkOf S C ls most ss = (a, t, q)) (hq : (q == 0) = false) :
    Calls Try.prog 37 #[rp g, lv, sv, .int .i64 most] w fun e w' => e = .returned (.tuple #[.slice none 0 0, .int .i64 q]) ∧ Below w.heap.size w w' := by
  have HR := Lib.hid hr
  have HS := Lib.hid hs
  obtain ⟨AL, nl, cl, rfl, l1, l2, l3⟩ := hl.get
  obtain rfl : ls.length = nl := l3.1
  obtain ⟨⟨A, c, hv', hlc, hcm, -⟩, -⟩ := hs
  subst hv'
  have hm := min_of_lastN hC
  obtain ⟨hn, hhn⟩ : ∃ n, min S C.length = n := ⟨_, rfl⟩
  unfold chkOf at hchk
  rw [hhn] at hm hchk
  have HM := Lib.hid hm
  have hnb : hn ≤ 134217728 := by have := hr.max; omega
  have HCH := Lib.hid hchk
  have hq2 : (q != 0) = true := by simpa using hq
  have hq3 : ¬ q = 0 := by simpa using hq
  have hS0 : ((S : Int) == 0) = false := by have := hr.pos; simp; omega
  have hln2 : (ls.length : Int) ≤ 9223372036854775807 := by omega
  clear hr hC hl hchk hm l3 hhn
  go_enter Try.func37, Try.ntmps37
  go_wp2_with fail
  refine (size_ring _ HR.out).mono ?_
  rintro e w1 ⟨rfl, hw⟩
  obtain rfl : w = w1 := hw.symm
  go_wp2_with fail
  refine (size_ring _ HR.out).mono ?_
  rintro e w1 ⟨rfl, hw⟩
  obtain rfl : w = w1 := hw.symm
  go_wp2_with fail
  refine (len_ring _ HR.out).mono ?_
  rw [HM.out]
  rintro e w3 ⟨rfl, m, hw⟩
  have hb3 : Below w.heap.size w w3 := by rw [hw]; exact below_drewN (Below.refl _ w) m
  have HB3 := Lib.hid hb3
  have HS3 := Lib.hid (HS.out.below hb3 (Nat.le_refl _))
  clear hw hb3
  go_wp2_with fail
  refine (excheck_any _ S hn ls.length most _ ss HS3.out ⟨by omega, by omega⟩).mono ?_
  rw [HCH.out]
  rintro e w4 ⟨rfl, hb⟩
  have HB4 := Lib.hid (HB3.out.trans (hb.mono HB3.out.size))
  clear hb HB3 HS3
  go_wp2
  go_ret2
  exact ⟨rfl, HB4.out⟩
theorem done_no (w : World) {p : Value} (h : NoRing w p) (lv sv : Value) (most : Int) :
    Calls Try.prog 37 #[p, lv, sv, .int .i64 most] w fun e w' => e = .returned (.tuple #[.slice none 0 0, .int .i64 1]) ∧ w' = w := by
  have HN := Lib.hid h
  clear h
  go_enter Try.func37, Try.ntmps37
  go_wp2_with fail
  refine (size_no _ HN.out).mono ?_
  rintro e w1 ⟨rfl, hw⟩
  obtain rfl : w = w1 := hw.symm
  go_wp2
  go_ret2
  exact ⟨rfl, rfl⟩

theorem runFn_any (w : World) (v : Value) : Calls Try.prog 39 #[v] w fun e w' => e = .returned v ∧ w' = w := by
  go_enter Try.func39, Try.ntmps39
  go_wp2
  go_ret
  exact ⟨rfl, rfl⟩

theorem wpList_append_bs {w : World} {ops : Array Oper} {rest : List Oper} {o : Oper} {a : Act} {Q : Exit → Act → World → Prop} (hgd : o.guard = none) (s x : Operand)
    (ho : o.op = .call { callee := .builtin .append, args := #[s, x], argTypes := #[22, 22] })
    (base : Nat) (v : Value) (xs ys : List Int) (hs : a.eval s = v) (hown : Grow w base 5 .u8 v xs)
    (A : Option Addr) (m c : Nat) (hx : a.eval x = .slice A m c) (hr : AtInts w .u8 A m ys) (h63 : xs.length + m ≤ 1000000000000) (hbase : base ≤ w.heap.size)
    (n : Nat) (hn : xs.length + m = n)
    (h : ∀ A' c' w', Grow w' base 5 .u8 (.slice A' n c') (xs ++ ys) → w.grownBy w' v.ownBlock → wpList Try.prog ops Q rest (a.put o.dst (.slice A' n c')) w') : wpList Try.prog ops Q (o :: rest) a w := by
  obtain ⟨i0, hi, hz0, hz1, hz2⟩ := info_parts infoU8
  exact wpList_append_ints w hgd s x 22 ho base 5 i0 (.int .u8 0) 1 Try.underlying22 hi hz0 hz1 hz2 rfl .u8 v xs ys hs hown A m c hx hr (by simp only [maxLen]; omega) (by omega) hbase n hn h

theorem flat_take_succ {ps : List (List Int)} {k : Nat} {p : List Int} (h : ps[k]? = some p) : (ps.take (k + 1)).flatten = (ps.take k).flatten ++ p := by
  rw [List.take_add_one, h, List.flatten_append]; simp

set_option maxHeartbeats 1600000 in
theorem exjoined_any (w : World) (v : Value) (ps : List (List Int)) (h : Pcs w v ps) (hl : ps.flatten.length ≤ 1000000000) :
    Calls Try.prog 38 #[v, .func (.func 39) #[] #[]] w fun e w' => ∃ A c, e = .returned (.slice A ps.flatten.length c) ∧ Grow w' w.heap.size 5 .u8 (.slice A ps.flatten.length c) ps.flatten ∧ Below w.heap.size w w' := by
  have HP := Lib.hid h
  obtain ⟨A, c, hv, h1, h2, -⟩ := h.at_
  obtain ⟨n, hn⟩ : ∃ n, ps.length = n := ⟨_, rfl⟩
  rw [hn] at hv h1
  subst hv
  have HN := Lib.hid hn
  have HL := Lib.hid hl
  have hni : (n : Int) ≤ 9223372036854775807 := by simp only [maxLen] at h2; omega
  clear h hn hl
  go_enter Try.func38, Try.ntmps38
  go_wp2
  go_loopw [4, 9] (fun r i wr => ∃ (k m cc : Nat) (A' : Option Addr), k ≤ n ∧ i = .int .i64 k ∧ r = .slice A' m cc ∧ Hid (Below w.heap.size w wr) ∧ Hid ((ps.take k).flatten.length = m) ∧ Hid (Grow wr w.heap.size 5 .u8 (.slice A' m cc) (ps.take k).flatten)) (fun _ i _ => n - (intOf i).toNat)
  case atStart => exact ⟨0, 0, 0, none, Nat.zero_le _, rfl, rfl, (Below.refl _ _ : Below _ _ _), (rfl : _ = _), (Grow.nil _ _ _ _ : Grow _ _ _ _ _ _)⟩
  case round =>
    obtain ⟨k, m, cc, A', hk, rfl, rfl, HB, HM, HG⟩ := hrel
    have k0 : (0 : Int) ≤ (k : Int) := by omega
    by_cases hlt : k < n
    · have k1 : (k : Int) < (n : Int) := by omega
      obtain ⟨A2, c2, he, -, -, h4⟩ := (HP.out.below HB.out (Nat.le_refl _)).at_
      injection he with e1 e2 e3
      subst e1
      clear e2 e3
      obtain ⟨b, off, rfl, hcell⟩ := h4 (by rw [HN.out]; omega)
      have hxk := List.getElem?_eq_getElem (l := ps) (i := k) (by rw [HN.out]; omega)
      obtain ⟨p, hpe⟩ : ∃ p, ps[k]'(by rw [HN.out]; omega) = p := ⟨_, rfl⟩
      rw [hpe] at hxk
      obtain ⟨e, q0, hie⟩ := hcell k p hxk
      obtain ⟨A5, n5, c5, rfl, -, -, hat⟩ := hie.get
      have hblt := World.block_lt_of_cell? wr _ q0
      have hsu := flat_take_succ hxk
      have hln : ((ps.take (k + 1)).flatten.length) ≤ ps.flatten.length := by
        have h9 := congrArg (fun l => List.length (List.flatten l)) (List.take_append_drop (k + 1) ps)
        simp only [List.flatten_append, List.length_append] at h9
        omega
      rw [hsu, List.length_append, HM.out] at hln
      have HLN : Hid (m + n5 ≤ 1000000000000) := (by have := HL.out; have := hat.1; omega : _ ≤ _)
      have HSU := Lib.hid hsu
      have HAT := Lib.hid hat
      clear hxk hpe hie hat hcell h4 hsu hln
      go_wp2_with (first
        | (go_at_call 39; refine (runFn_any _ _).mono ?_; rintro e w5 ⟨rfl, hw⟩; obtain rfl : wr = w5 := hw.symm)
        | (at_builtin; refine wpList_append_bs rfl _ _ rfl w.heap.size _ (ps.take k).flatten p rfl HG.out A5 n5 c5 rfl HAT.out (by rw [HM.out]; exact HLN.out) HB.out.size (m + n5) (by rw [HM.out]) ?_; intro A6 c6 w6 hg hgr; have HG6 := Lib.hid hg; have HB6 := Lib.hid (HB.out.grown hgr HB.out.size (fun r hr => (World.ownsRow.lt HG.out r hr).1)); clear hg hgr))
      go_roundw
      case rel => exact ⟨k + 1, m + n5, c6, A6, by omega, by go_num, rfl, (HB6.out : Below _ _ _), (by rw [HSU.out, List.length_append, HM.out, HAT.out.1] : _ = _), (HSU.out ▸ HG6.out : Grow _ _ _ _ _ (ps.take (k + 1)).flatten)⟩
      case measure => simp [intOf]; omega
    · obtain rfl : k = n := by omega
      have HT : Hid (ps.take k = ps) := (List.take_of_length_le (by rw [HN.out]; exact Nat.le_refl _) : _ = _)
      go_wp2
      go_ret
      have hm := HM.out
      have hg := HG.out
      rw [HT.out] at hm hg
      subst hm
      exact ⟨_, _, rfl, hg, HB.out⟩

/-- Run, where the check passes, and whose the result is. -/
theorem run_own (w : World) {g : Nat} {v : Value} {S : Nat} {st C : List Int} {T : Nat} (hr : Ring w g v S st T) (hC : lastN S st = lastN S C) (lv : Value) (ls : List Int) (hl : Ints w .u8 lv ls) (hu : U8s ls) (hln : ls.length ≤ 1000000)
    (sv : Value) (ss : List SeqD) (hs : Seqs w sv ss) (hsl : ss.length ≤ 100000) (hsf : SeqFar sv ss g v.ownBlock) (most t : Int) (hchk : chkOf S C ls most ss = (0, t, 0)) (hT : T ≤ 1152921504606846976) :
    Calls Try.prog 16 #[rp g, lv, sv, .int .i64 most] w fun e w' => ∃ v' st' A c, e = .returned (.tuple #[.slice A (contentL C ls ss).length c, .int .i64 0]) ∧ RunOk w w' g v v' S C st' T (contentL C ls ss) ∧ Grow w' w.heap.size 5 .u8 (.slice A (contentL C ls ss).length c) (contentL C ls ss) ∧ ∀ b, (Value.slice A (contentL C ls ss).length c).ownBlock = some b → w.heap.size ≤ b ∧ v'.ownBlock ≠ some b := by
  have hD := done_ok w hr hC lv ls hl hu hln sv ss hs hsl hsf most t hchk hT
  obtain ⟨h0, h1, h2⟩ := chkOf_ok hchk
  have hlen := content_length (C := C) h2
  have HD := Lib.hid hD
  have HLN : Hid ((piecesL C ls ss).flatten.length ≤ 1000000000) := (by have : ((contentL C ls ss).length : Int) ≤ 131072 := (by omega); unfold contentL at this; omega : _ ≤ _)
  obtain ⟨AL, nl, cl, rfl, -⟩ := hl.get
  obtain ⟨⟨A, c, rfl, -⟩, -⟩ := hs
  obtain ⟨q, hq⟩ : ∃ q, (contentL C ls ss).length = q := ⟨_, rfl⟩
  have HQ : Hid ((piecesL C ls ss).flatten.length = q) := (hq : _ = _)
  rw [hq]
  clear hD hr hC hl hu hln hsl hsf hchk hT h0 h1 h2 hlen hq
  unfold rp at *
  go_enter Try.func16, Try.ntmps16
  go_wp2_with fail
  refine HD.out.mono ?_
  rintro e w1 ⟨v1, st1, rv, rfl, hok, hp⟩
  have HP := Lib.hid hp
  have HOK := Lib.hid hok
  obtain ⟨A2, c2, rfl, -⟩ := hp.at_
  clear hp hok HD
  go_wp2_with fail
  refine (exjoined_any _ _ _ HP.out HLN.out).mono ?_
  rw [HQ.out]
  rintro e w2 ⟨A3, c3, rfl, hg, hb⟩
  have HG := Lib.hid hg
  have HB := Lib.hid hb
  clear hg hb
  go_wp2
  go_ret2
  refine ⟨v1, st1, A3, c3, rfl, HOK.out.below HB.out, Grow.mono HG.out HOK.out.but.size, fun b hb => ?_⟩
  have h1 := (World.ownsRow.lt HG.out b hb).1
  have h2 := HOK.out.but.size
  exact ⟨by omega, fun e => by have := HOK.out.ring.row.lt _ e; omega⟩
theorem run_ok (w : World) {g : Nat} {v : Value} {S : Nat} {st C : List Int} {T : Nat} (hr : Ring w g v S st T) (hC : lastN S st = lastN S C) (lv : Value) (ls : List Int) (hl : Ints w .u8 lv ls) (hu : U8s ls) (hln : ls.length ≤ 1000000)
    (sv : Value) (ss : List SeqD) (hs : Seqs w sv ss) (hsl : ss.length ≤ 100000) (hsf : SeqFar sv ss g v.ownBlock) (most t : Int) (hchk : chkOf S C ls most ss = (0, t, 0)) (hT : T ≤ 1152921504606846976) :
    Calls Try.prog 16 #[rp g, lv, sv, .int .i64 most] w fun e w' => ∃ v' st' A c, e = .returned (.tuple #[.slice A (contentL C ls ss).length c, .int .i64 0]) ∧ RunOk w w' g v v' S C st' T (contentL C ls ss) ∧ Grow w' w.heap.size 5 .u8 (.slice A (contentL C ls ss).length c) (contentL C ls ss) :=
  (run_own w hr hC lv ls hl hu hln sv ss hs hsl hsf most t hchk hT).mono fun e w' ⟨v', st', A, c, h1, h2, h3, _⟩ => ⟨v', st', A, c, h1, h2, h3⟩
theorem run_bad (w : World) {g : Nat} {v : Value} {S : Nat} {st C : List Int} {T : Nat} (hr : Ring w g v S st T) (hC : lastN S st = lastN S C) (lv : Value) (ls : List Int) (hl : Ints w .u8 lv ls)
    (sv : Value) (ss : List SeqD) (hs : Seqs w sv ss) (most a t q : Int) (hchk : chkOf S C ls most ss = (a, t, q)) (hq : (q == 0) = false) :
    Calls Try.prog 16 #[rp g, lv, sv, .int .i64 most] w fun e w' => ∃ A c, e = .returned (.tuple #[.slice A 0 c, .int .i64 q]) ∧ Below w.heap.size w w' ∧ Ints w' .u8 (.slice A 0 c) [] := by
  have hD := done_bad w hr hC lv ls hl sv ss hs most a t q hchk hq
  have HD := Lib.hid hD
  obtain ⟨AL, nl, cl, rfl, -⟩ := hl.get
  obtain ⟨⟨A, c, rfl, -⟩, -⟩ := hs
  clear hD hr hC hl hchk hq
  unfold rp at *
  go_enter Try.func16, Try.ntmps16
  go_wp2_with fail
  refine HD.out.mono ?_
  rintro e w1 ⟨rfl, hb⟩
  have HB1 := Lib.hid hb
  clear hb HD
  go_wp2_with fail
  refine (exjoined_any _ _ _ (Pcs.nil _) (by simp)).mono ?_
  simp only [List.flatten_nil, List.length_nil]
  rintro e w2 ⟨A3, c3, rfl, hg, hb⟩
  have HG := Lib.hid hg
  have HB := Lib.hid (HB1.out.trans (hb.mono HB1.out.size))
  clear hg hb
  go_wp2
  go_ret2
  exact ⟨A3, c3, rfl, HB.out, HG.out.ints⟩
theorem run_no (w : World) {p : Value} (h : NoRing w p) (lv sv : Value) (most : Int) :
    Calls Try.prog 16 #[p, lv, sv, .int .i64 most] w fun e w' => ∃ A c, e = .returned (.tuple #[.slice A 0 c, .int .i64 1]) ∧ Below w.heap.size w w' := by
  have HN := Lib.hid h
  clear h
  go_enter Try.func16, Try.ntmps16
  go_wp2_with fail
  refine (done_no _ HN.out lv sv most).mono ?_
  rintro e w1 ⟨rfl, hw⟩
  obtain rfl : w = w1 := hw.symm
  go_wp2_with fail
  refine (exjoined_any _ _ _ (Pcs.nil _) (by simp)).mono ?_
  simp only [List.flatten_nil, List.length_nil]
  rintro e w2 ⟨A3, c3, rfl, hg, hb⟩
  have HB := Lib.hid hb
  clear hg hb
  go_wp2
  go_ret2
  exact ⟨A3, c3, rfl, HB.out⟩
end Go.Proofs.Ytndgdehlnmheeaa
