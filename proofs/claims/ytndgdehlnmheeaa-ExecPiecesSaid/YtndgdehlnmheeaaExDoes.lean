/-
  exec: append onto a full slice; does.
-/
import Derived.Test.YtndgdehlnmheeaaExTake
import Derived.ArgAppend
namespace Go.Proofs.Ytndgdehlnmheeaa
set_option linter.all false
set_option maxRecDepth 100000
open Go.RowKit

theorem wpList_append_full {w : World} {ops : Array Oper} {rest : List Oper} {o : Oper} {a : Act} {Q : Exit → Act → World → Prop} (hgd : o.guard = none) (s x : Operand)
    (ho : o.op = .call { callee := .builtin .append, args := #[s, x], argTypes := #[22, 22] }) {A : Option Addr} {n : Nat} {xs : List Int} (hs : a.eval s = .slice A n n) (hr : AtInts w .u8 A n xs)
    {A2 : Option Addr} {m c2 : Nat} {ys : List Int} (hx : a.eval x = .slice A2 m c2) (hr2 : AtInts w .u8 A2 m ys) (hm : 1 ≤ m) (hl : n + m ≤ 1000000000000) (q : Nat) (hq : n + m = q)
    (h : ∀ A' c' w', Grow w' w.heap.size 5 .u8 (.slice A' q c') (xs ++ ys) → Below w.heap.size w w' → wpList Try.prog ops Q rest (a.put o.dst (.slice A' q c')) w') :
    wpList Try.prog ops Q (o :: rest) a w := by
  obtain ⟨i0, hi, hz, hsz, hb⟩ := info_parts infoU8
  obtain ⟨b2, off2, rfl, hc2⟩ := hr2.2 (by omega)
  refine wpList_append_grows w hgd s x 22 ho 5 i0 (.int .u8 0) 1 1 Try.underlying22 hi hz hsz hb rfl (by decide) A n n (xs.map (Value.int .u8)) hs ?_ (by rw [List.length_map, hr.1, Nat.mul_one]) ?_ ⟨b2, off2, none⟩ m c2 (ys.map (Value.int .u8)) hx (by rw [List.length_map, hr2.1, Nat.mul_one]) ?_ ?_ (by omega) (by simp only [maxLen]; omega) (by omega) ?_
  · intro hA
    rcases Nat.eq_zero_or_pos n with h0 | h0
    · exact ⟨h0, h0⟩
    · obtain ⟨b, off, hA2, -⟩ := hr.2 h0
      rw [hA] at hA2
      cases hA2
  · intro ad hA j u hu
    rw [List.getElem?_map] at hu
    obtain ⟨z, hz1, rfl⟩ := Option.map_eq_some_iff.1 hu
    have hj := (List.getElem?_eq_some_iff.1 hz1).1
    obtain ⟨b, off, hA2, hc⟩ := hr.2 (by rw [hr.1] at hj; omega)
    rw [hA] at hA2
    obtain rfl := Option.some.inj hA2
    rw [add_zero_off]
    exact hc j z hz1
  · intro j u hu
    rw [List.getElem?_map] at hu
    obtain ⟨z, hz1, rfl⟩ := Option.map_eq_some_iff.1 hu
    rw [add_zero_off]
    exact hc2 j z hz1
  · intro u hu
    obtain ⟨z, -, rfl⟩ := List.mem_map.1 hu
    rfl
  · intro v' w' hown hgr
    obtain ⟨A', c', rfl⟩ := ownsRow_form hown
    rw [hq] at hown ⊢
    refine h A' c' w' ?_ ((Below.refl _ w).grown hgr (Nat.le_refl _) (fun k hk => by cases hk))
    unfold Grow
    rw [List.length_append, hr.1, hr2.1, hq, List.map_append]
    exact hown

theorem But2.drewN {w w1 : World} {g x : Nat} {o : Option Nat} (h : But2 w w1 g x o) (n : Nat) : But2 w (w1.drewN n) g x o := ⟨h.os, h.tape, h.output, h.size, h.block⟩
theorem But2.alloc {w w1 : World} {g x : Nat} {o : Option Nat} (h : But2 w w1 g x o) (y : Obj) : But2 w (w1.alloc y) g x o :=
  h.trans (But2.of_below ((Below.refl _ w1).alloc (Nat.le_refl _) y) g x o) (.inl rfl)

/-- What a match copies, behind the stored bytes. -/
abbrev cpOf (S : Nat) (st ls : List Int) (lit len off : Nat) : List Int := copied (lastN off (keepL S (st ++ ls.take lit))) off len
/-- What does leaves. -/
structure Does (w w' : World) (g x : Nat) (v v' : Value) (S : Nat) (st : List Int) (T : Nat) (A : Option Addr) (N c : Nat) (ls : List Int) (lit len off : Nat) (pv : Value) : Prop where
  ring : Ring w' g v' S (keepL S (keepL S (st ++ ls.take lit) ++ cpOf S st ls lit len off)) (T + lit + len)
  own : v'.ownBlock = v.ownBlock ∨ ∀ k, v'.ownBlock = some k → w.heap.size ≤ k
  box : Blk w' x 99 #[rp g, .slice (if c = lit then A else Option.map (fun x => Addr.add x lit) A) (N - lit) (c - lit)]
  lits : AtInts w' .u8 (if c = lit then A else Option.map (fun x => Addr.add x lit) A) (N - lit) (ls.drop lit)
  but : But2 w w' g x v.ownBlock
  piece : Ints w' .u8 pv (ls.take lit ++ cpOf S st ls lit len off)
  pown : ∀ k, pv.ownBlock = some k → w.heap.size ≤ k ∧ v'.ownBlock ≠ some k ∧ k < w'.heap.size

set_option maxHeartbeats 1600000 in
theorem does_any (w : World) {g x : Nat} {v : Value} {S : Nat} {st : List Int} {T : Nat} {A : Option Addr} {N c : Nat} {ls : List Int} (lit len off : Nat) (hr : Ring w g v S st T) (hb : Blk w x 99 #[rp g, .slice A N c]) (hl : AtInts w .u8 A N ls)
    (hc : N ≤ c) (hm : c ≤ 9223372036854775807) (hn : lit ≤ N) (hn2 : lit ≤ 131072) (hlen : 1 ≤ len) (hlen2 : len ≤ 131072) (ho : 1 ≤ off) (ho2 : off ≤ min S (st ++ ls.take lit).length) (hu : U8s ls) (hx : v.ownBlock ≠ some x) (hT : T + lit + len ≤ 9223372036854775807) (hgx : x ≠ g)
    (hfar : ∀ k, (Value.slice A N c).ownBlock = some k → k ≠ g ∧ k ≠ x ∧ v.ownBlock ≠ some k ∧ k < w.heap.size) :
    Calls Try.prog 66 #[.pointer (some ⟨x, 0, none⟩), .agg #[.int .i64 lit, .int .i64 len, .int .i64 off]] w fun e w' => ∃ v' A' c', e = .returned (.slice A' (lit + len) c') ∧ Does w w' g x v v' S st T A N c ls lit len off (.slice A' (lit + len) c') := by
  obtain ⟨w1, hw1⟩ : ∃ w1, w.alloc (.cells #[.int .i64 lit, .int .i64 len, .int .i64 off] 54) = w1 := ⟨_, rfl⟩
  have hbe : Below w.heap.size w w1 := by rw [← hw1]; exact (Below.refl _ w).alloc (Nat.le_refl _) _
  have hsz1 : w1.heap.size = w.heap.size + 1 := by rw [← hw1]; simp
  have hbx : Blk w1 w.heap.size 54 #[.int .i64 lit, .int .i64 len, .int .i64 off] := by rw [← hw1]; exact Blk.new _ _ _
  have HW1 := Lib.hid hw1
  have hxl := hb.lt
  have hgl := hr.lt
  have HT := Lib.hid (fun W (h : Below w.heap.size w W) => takes_any W lit (hr.below h (Nat.le_refl _)) (hb.below h hb.lt) (hl.below h (Nat.le_refl _)) hc hm hn (by omega) hu hx (by omega) hgx)
  have hvl := fun k => hr.row.lt k
  have HVL := Lib.hid hvl
  have c0 := hbx.cell 0
  simp at c0
  have HBX := Lib.hid hbx
  have HBE := Lib.hid hbe
  have HSZ := Lib.hid hsz1
  have HLT := Lib.hid (hl.take hn)
  have HLL := Lib.hid hl
  have HTL := Lib.hid (at_tail (j := lit) (c := c) hl hc hn)
  have HRR := Lib.hid hr
  have HFAR := Lib.hid hfar
  have HO2 := Lib.hid ho2
  have HTT := Lib.hid hT
  have HGX := Lib.hid hgx
  have HX := Lib.hid hx
  clear hw1 hbe hsz1 hbx hr hb hl hu hx hgx hvl hfar ho2 hT
  go_enter Try.func66, Try.ntmps66
  go_wp2_with fail
  rw [HW1.out]
  refine (HT.out _ HBE.out).mono ?_
  rintro e w2 ⟨rfl, v2, ht⟩
  have hs2 := ht.but.size
  have hbx2 : Blk w2 w.heap.size 54 #[.int .i64 lit, .int .i64 len, .int .i64 off] := (ht.but.block w.heap.size (by rw [HSZ.out]; omega) (by omega) (by omega) (fun e => by have := HVL.out _ e.symm; omega)).trans HBX.out
  have hq1 := hbx2.cell 1
  have hq2 := hbx2.cell 2
  simp at hq1 hq2
  have hq0 := ht.box.two.1
  have HBX2 := Lib.hid hbx2
  have HS2 := Lib.hid (And.intro hq0 (And.intro hq1 hq2))
  have HTK := Lib.hid ht
  have HAT2 : Hid (AtInts w2 .u8 A lit (ls.take lit)) := (HLT.out.same (c := c) fun b hb hlt => by
    have hf := HFAR.out b (by rw [own_any A N c lit c]; exact hb)
    exact (ht.but.block b (by rw [HSZ.out]; omega) hf.1 hf.2.1 (fun e => hf.2.2.1 e.symm)).trans (HBE.out.block b hlt) : AtInts _ _ _ _ _)
  have HTL2 : Hid (AtInts w2 .u8 (if c = lit then A else Option.map (fun x => Addr.add x lit) A) (N - lit) (ls.drop lit)) := (HTL.out.same (c := c) fun b hb hlt => by
    have hf := HFAR.out b (by rw [own_cut (n := N) (c := c)] at hb; exact hb)
    exact (ht.but.block b (by rw [HSZ.out]; omega) hf.1 hf.2.1 (fun e => hf.2.2.1 e.symm)).trans (HBE.out.block b hlt) : AtInts _ _ _ _ _)
  have HO3 : Hid (off ≤ min S (keepL S (st ++ ls.take lit)).length) := (by rw [keepL_le]; exact HO2.out : _ ≤ _)
  have hv2l := fun k => ht.ring.row.lt k
  have HV2L := Lib.hid hv2l
  have hgl2 := ht.ring.lt
  have hxne : v2.ownBlock ≠ some x := by
    rcases ht.own with e | e
    · rw [e]; exact HX.out
    · intro e2; have := e x e2; rw [HSZ.out] at this; omega
  have hbne : v2.ownBlock ≠ some w.heap.size := by
    rcases ht.own with e | e
    · rw [e]; intro e2; have := HVL.out _ e2; omega
    · intro e2; have := e _ e2; rw [HSZ.out] at this; omega
  have HNE := Lib.hid (And.intro hxne hbne)
  clear ht hq0 hq1 hq2 hbx2 c0 hv2l hxne hbne
  go_wp2
  go_region_held3 (fun w' => w'.cell? ⟨x, 0, none⟩ = some (rp g) ∧ w'.cell? ⟨w.heap.size, 1, none⟩ = some (.int .i64 len) ∧ w'.cell? ⟨w.heap.size, 2, none⟩ = some (.int .i64 off))
    (first | exact HS2.out | exact HS3.out)
    (first
      | (go_at_call 74; refine (copy_ok w2.drew (HTK.out.ring.drewN 1) off len hlen2 ho HO3.out HTT.out).mono ?_; rintro e w3 ⟨ov, v3, rfl, hcp⟩; obtain ⟨Ao, no, co, rfl, -, -, hat⟩ := hcp.row.ints.get; obtain rfl : len = no := (by have := hat.1; rwa [copied_length] at this); have HAO := Lib.hid hat; have HCP := Lib.hid hcp;
         have HS3 : Hid (w3.cell? ⟨x, 0, none⟩ = some (rp g) ∧ w3.cell? ⟨w.heap.size, 1, none⟩ = some (.int .i64 len) ∧ w3.cell? ⟨w.heap.size, 2, none⟩ = some (.int .i64 off)) := (⟨(World.cell?_of_block (a := ⟨x, 0, none⟩) (hcp.put.but.block x (by have := HTK.out.box.lt; exact this) HGX.out (fun e => HNE.out.1 e.symm))).trans HS2.out.1, (World.cell?_of_block (a := ⟨w.heap.size, 1, none⟩) (hcp.put.but.block w.heap.size HBX2.out.lt (by omega) (fun e => HNE.out.2 e.symm))).trans HS2.out.2.1, (World.cell?_of_block (a := ⟨w.heap.size, 2, none⟩) (hcp.put.but.block w.heap.size HBX2.out.lt (by omega) (fun e => HNE.out.2 e.symm))).trans HS2.out.2.2⟩ : _ ∧ _); clear hat hcp))
  have hkeep : ∀ b, (Value.slice A N c).ownBlock = some b → b < w2.heap.size → w3.heap[b]? = w2.heap[b]? := fun b hb hlt => by
    have hf := HFAR.out b hb
    refine HCP.out.put.but.block b hlt hf.1 (fun e => ?_)
    rcases HTK.out.own with e2 | e2
    · rw [e2] at e; exact hf.2.2.1 e.symm
    · have := e2 b e.symm; rw [HSZ.out] at this; omega
  have HAT3 : Hid (AtInts w3 .u8 A lit (ls.take lit)) := (HAT2.out.same (c := c) fun b hb hlt => hkeep b (by rw [own_any A N c lit c]; exact hb) hlt : AtInts _ _ _ _ _)
  have HTL3 : Hid (AtInts w3 .u8 (if c = lit then A else Option.map (fun x => Addr.add x lit) A) (N - lit) (ls.drop lit)) := (HTL2.out.same (c := c) fun b hb hlt => hkeep b (by rw [own_cut (n := N) (c := c)] at hb; exact hb) hlt : AtInts _ _ _ _ _)
  have hbx3 : Blk w3 x 99 #[rp g, .slice (if c = lit then A else Option.map (fun x => Addr.add x lit) A) (N - lit) (c - lit)] := (HCP.out.put.but.block x (by have := HTK.out.box.lt; exact this) HGX.out (fun e => HNE.out.1 e.symm)).trans HTK.out.box
  have HBX3 := Lib.hid hbx3
  have hs3 := HCP.out.put.but.size
  have hv3l := fun k => HCP.out.put.ring.row.lt k
  have HV3 := Lib.hid hv3l
  clear hkeep hbx3 hv3l
  go_wp2_with (at_builtin; refine wpList_append_full rfl _ _ rfl rfl HAT3.out rfl HAO.out hlen (by omega) (lit + len) rfl ?_; intro A4 c4 w4 hg hbel; have HG4 := Lib.hid hg; have HB4 := Lib.hid hbel; clear hg hbel)
  go_ret
  refine ⟨v3, A4, c4, rfl, HCP.out.put.ring.below HB4.out (Nat.le_refl _), ?_, HBX3.out.below HB4.out HBX3.out.lt, HTL3.out.below HB4.out (Nat.le_refl _), ?_, HG4.out.ints, ?_⟩
  · have h1 : v3.ownBlock = v.ownBlock ∨ ∀ k, v3.ownBlock = some k → w1.heap.size ≤ k := by
      rcases HCP.out.put.own with e | e
      · rw [e]; exact HTK.out.own
      · exact .inr fun k hk => Nat.le_trans hs2 (e k hk)
    rcases h1 with e | e
    · exact .inl e
    · exact .inr fun k hk => by have := e k hk; rw [HSZ.out] at this; omega
  · have b1 := (But2.of_below HBE.out g x v.ownBlock).trans HTK.out.but (.inl rfl)
    have hb9 := HCP.out.put.but
    have b2 : But2 w2 w3 g x v2.ownBlock := ⟨hb9.os, hb9.tape, hb9.output, hb9.size, fun k hk hg _ ho => hb9.block k hk hg ho⟩
    have b3 := But2.of_below HB4.out g x v.ownBlock
    refine (b1.trans b2 ?_).trans b3 (.inl rfl)
    rcases HTK.out.own with e | e
    · exact .inl e
    · exact .inr fun k hk => by have := e k hk; rw [HSZ.out] at this; omega
  · intro k hk
    have h1 := (World.ownsRow.lt HG4.out k hk).1
    refine ⟨?_, fun e => ?_, (World.ownsRow.lt HG4.out k hk).2⟩
    · have : w2.heap.size ≤ w3.heap.size := hs3
      rw [HSZ.out] at hs2
      omega
    · have := HV3.out k e
      omega
end Go.Proofs.Ytndgdehlnmheeaa
