/-
  exec's reference: Run where the check fails.
-/
import Derived.Test.YtndgdehlnmheeaaExRefB
import Derived.Test.YtndgdehlnmheeaaExWhere
namespace Go.Proofs.Ytndgdehlnmheeaa
set_option linter.all false
set_option maxRecDepth 100000
open Go.RowKit

set_option maxHeartbeats 1600000 in
theorem refRun_bad (w : World) (S T : Nat) (cv lv sv : Value) (C ls : List Int) (hC : Ints w .u8 cv C) (hl : Ints w .u8 lv ls) (ss : List SeqD) (hs : Seqs w sv ss) (most a t q : Int) (hchk : chkR S C.length ls.length most ss = (a, t, q)) (hq : (q != 0) = true) :
    Calls Try.prog 24 #[rv S cv T, lv, sv, .int .i64 most] w fun e w' => e = .returned (.tuple #[rv S cv T, .slice none 0 0, .int .i64 q]) ∧ Below w.heap.size w w' := by
  obtain ⟨A1, n1, c1, rfl, b1, b2, hat1⟩ := hC.get
  obtain ⟨A2, n2, c2, rfl, d1, d2, hat2⟩ := hl.get
  obtain rfl : C.length = n1 := hat1.1
  obtain rfl : ls.length = n2 := hat2.1
  have HS := Lib.hid hs
  have HCH := Lib.hid hchk
  obtain ⟨⟨A, c, rfl, -, -, -⟩, -⟩ := hs
  obtain ⟨W0, hW0⟩ : ∃ W0, (w.alloc (.cells #[.int .i64 S, .slice A1 C.length c1, .int .i64 T] 45)).alloc (.cells #[.int .i64 0, .slice none 0 0, .int .i64 0] 45) = W0 := ⟨_, rfl⟩
  have HB0 : Hid (Below w.heap.size w W0) := (by rw [← hW0]; exact ((Below.refl _ w).alloc (Nat.le_refl _) _).alloc (by simp) _ : Below _ _ _)
  have HK0 : Hid (Blk W0 w.heap.size 45 #[.int .i64 S, .slice A1 C.length c1, .int .i64 T]) := (by rw [← hW0]; exact (Blk.new w _ _).below ((Below.refl _ _).alloc (Nat.le_refl _) _) (by simp) : Blk _ _ _ _)
  have HK1 : Hid (Blk W0 (w.heap.size + 1) 45 #[.int .i64 0, .slice none 0 0, .int .i64 0]) := (by
    have := Blk.new (w.alloc (.cells #[.int .i64 S, .slice A1 C.length c1, .int .i64 T] 45)) 45 #[.int .i64 0, .slice none 0 0, .int .i64 0]
    rw [World.size_alloc] at this
    rw [← hW0]; exact this : Blk _ _ _ _)
  have hwh := refWhere_any W0 S C.length ls.length most _ ss (HS.out.below HB0.out (Nat.le_refl _)) ⟨⟨by omega, by omega⟩, ⟨by omega, by omega⟩⟩
  rw [HCH.out] at hwh
  have HWH := Lib.hid hwh
  clear hwh
  have n1i : (C.length : Int) ≤ 9223372036854775807 := by omega
  have n2i : (ls.length : Int) ≤ 9223372036854775807 := by omega
  generalize C.length = n1 at *
  generalize ls.length = n2 at *
  clear hC hl hat1 hat2 hchk
  unfold rv
  go_enter Try.func24, Try.ntmps24
  obtain ⟨r0, r1, r2, -⟩ := HK0.out.three
  go_wp2_with fail
  refine HWH.out.mono ?_
  rintro e w1 ⟨rfl, hb⟩
  have HK2 := Lib.hid (HK0.out.below hb HK0.out.lt)
  have HK3 := Lib.hid (HK1.out.below hb HK1.out.lt)
  have HB2 := Lib.hid (HB0.out.trans (hb.mono HB0.out.size))
  clear hb HK0 HK1 HB0 HWH r0 r1 r2
  obtain ⟨q0, q1, q2, q3, q4, q5⟩ := HK2.out.three
  obtain ⟨z0, z1, z2, z3, z4, z5⟩ := HK3.out.three
  go_wp2
  have hA : Blk (w1.setCell ⟨w.heap.size + 1, 0, none⟩ (.int .i64 S)) (w.heap.size + 1) 45 #[.int .i64 S, .slice none 0 0, .int .i64 0] := (HK3.out.set_ 0 (.int .i64 S)).congr rfl
  have hB : Blk ((w1.setCell ⟨w.heap.size + 1, 0, none⟩ (.int .i64 S)).setCell ⟨w.heap.size + 1, 1, none⟩ (.slice A1 n1 c1)) (w.heap.size + 1) 45 #[.int .i64 S, .slice A1 n1 c1, .int .i64 0] := (hA.set_ 1 (.slice A1 n1 c1)).congr rfl
  have hC : Blk (((w1.setCell ⟨w.heap.size + 1, 0, none⟩ (.int .i64 S)).setCell ⟨w.heap.size + 1, 1, none⟩ (.slice A1 n1 c1)).setCell ⟨w.heap.size + 1, 2, none⟩ (.int .i64 T)) (w.heap.size + 1) 45 #[.int .i64 S, .slice A1 n1 c1, .int .i64 T] := (hB.set_ 2 (.int .i64 T)).congr rfl
  have k0 := hA.three.1
  have k1 := hB.three.2.1
  have k2 := hC.three.2.2.1
  clear z0 z1 z2 q0 q1 q2 hA hB hC
  refine bodyPost_ret (v := .tuple #[.agg #[.int .i64 S, .slice A1 n1 c1, .int .i64 T], .slice none 0 0, .int .i64 q]) (by simp [results, Try.results24, go_sem, k0, k1, k2]) rfl ?_
  exact ⟨rfl, ((HB2.out.setCell (p := ⟨w.heap.size + 1, 0, none⟩) (by show w.heap.size ≤ w.heap.size + 1; omega) (.int .i64 S)).setCell (p := ⟨w.heap.size + 1, 1, none⟩) (by show w.heap.size ≤ w.heap.size + 1; omega) (.slice A1 n1 c1)).setCell (p := ⟨w.heap.size + 1, 2, none⟩) (by show w.heap.size ≤ w.heap.size + 1; omega) (.int .i64 T)⟩

/-- The loop of the reference's Run: the ring's box (at w's end), the result's box behind it. -/
structure RrSt (lo : Option Nat) (w wr : World) (S T : Nat) (H : List Int) (Ab : Option Addr) (nb cb : Nat) (Al : Option Addr) (nl cl : Nat) (rest : List Int) (rv : Value) (ps : List (List Int)) (es : List Value) : Prop where
  below : Below w.heap.size w wr
  box : Blk wr w.heap.size 45 #[.int .i64 S, .slice Ab nb cb, .int .i64 (T + ps.flatten.length : Nat)]
  res : Blk wr (w.heap.size + 1) 45 #[.int .i64 0, .slice none 0 0, .int .i64 0]
  ring : Ints wr .u8 (.slice Ab nb cb) (lastN S (H ++ ps.flatten))
  lits : AtInts w .u8 Al nl rest
  cap : nl ≤ cl ∧ cl ≤ 9223372036854775807
  lown : 0 < nl → (Value.slice Al nl cl).ownBlock = lo
  out : PcSt wr (w.heap.size + 1 + 1) w.heap.size none rv ps es

/-- The relation at the k-th round. -/
def RrRel (lo : Option Nat) (w : World) (S T : Nat) (H ls0 : List Int) (hv most t : Int) (ss : List SeqD) (k : Nat) (Al : Option Addr) (nl cl : Nat) (rv : Value) (wr : World) : Prop :=
  ∃ (Ab : Option Addr) (nb cb : Nat) (rest : List Int) (ps : List (List Int)) (es : List Value), RrSt lo w wr S T H Ab nb cb Al nl cl rest rv ps es ∧ ps.length = k ∧
    chk S hv most (ss.drop k) k rest.length ps.flatten.length = (0, t, 0) ∧ piecesL H ls0 ss = ps ++ piecesL (H ++ ps.flatten) rest (ss.drop k) ∧ U8s rest

/-- Ahead of Copy: the literals are added. -/
structure RrMid (w wr wx : World) (S Tn : Nat) (C1 : List Int) (A7 : Option Addr) (n7 c7 : Nat) (A6 : Option Addr) (n6 c6 : Nat) (t1 : List Int) : Prop where
  below : Below w.heap.size w wx
  but : But wr wx w.heap.size none
  box : Blk wx w.heap.size 45 #[.int .i64 S, .slice A7 n7 c7, .int .i64 Tn]
  ring : Ints wx .u8 (.slice A7 n7 c7) C1
  piece : Grow wx wr.heap.size 5 .u8 (.slice A6 n6 c6) t1

/-- Behind Copy: its ring lies in a block q of its own. -/
structure RrCp (wx wy : World) (S T9 : Nat) (q : Nat) (R : List Int) (A9 : Option Addr) (n9 c9 : Nat) (A8 : Option Addr) (n8 c8 : Nat) (cp : List Int) : Prop where
  below : Below wx.heap.size wx wy
  qge : wx.heap.size ≤ q
  box : Blk wy q 45 #[.int .i64 S, .slice A9 n9 c9, .int .i64 T9]
  ring : Ints wy .u8 (.slice A9 n9 c9) R
  rown : ∀ k, (Value.slice A9 n9 c9).ownBlock = some k → wx.heap.size ≤ k
  cps : Ints wy .u8 (.slice A8 n8 c8) cp

/-- Ahead of the appends. -/
structure RrEnd (w wr W1 : World) (S T9 : Nat) (R : List Int) (A9 : Option Addr) (n9 c9 : Nat) (A6 : Option Addr) (n6 c6 : Nat) (t1 : List Int) (A8 : Option Addr) (n8 c8 : Nat) (cp : List Int) : Prop where
  but : But wr W1 w.heap.size none
  box : Blk W1 w.heap.size 45 #[.int .i64 S, .slice A9 n9 c9, .int .i64 T9]
  ring : Ints W1 .u8 (.slice A9 n9 c9) R
  rown : ∀ k, (Value.slice A9 n9 c9).ownBlock = some k → wr.heap.size ≤ k ∧ (Value.slice A6 n6 c6).ownBlock ≠ some k
  piece : Grow W1 wr.heap.size 5 .u8 (.slice A6 n6 c6) t1
  cps : Ints W1 .u8 (.slice A8 n8 c8) cp

section
variable {lo : Option Nat} {w wr wx wy W1 w2 w3 : World} {S T Tn T9 q : Nat} {H R C1 t1 cp : List Int} {Ab A6 A7 A8 A9 Al Al' A10 : Option Addr} {nb cb n6 c6 n7 c7 n8 c8 n9 c9 nl cl nl' cl' n10 c10 : Nat} {rest rest' : List Int} {rv rv' : Value} {ps : List (List Int)} {es : List Value}

theorem Grow.own {B : Nat} {e : TypeId} {k : IntKind} {v : Value} {xs : List Int} (h : Grow wx B e k v xs) {j : Nat} (hj : v.ownBlock = some j) : B ≤ j ∧ j < wx.heap.size := World.ownsRow.lt h j hj

theorem RrMid.copied (hm : RrMid w wr wx S Tn C1 A7 n7 c7 A6 n6 c6 t1) (hc : RrCp wx wy S T9 q R A9 n9 c9 A8 n8 c8 cp) (hlt : w.heap.size < wr.heap.size) :
    RrEnd w wr (((wy.setCell ⟨w.heap.size, 0, none⟩ (.int .i64 S)).setCell ⟨w.heap.size, 1, none⟩ (.slice A9 n9 c9)).setCell ⟨w.heap.size, 2, none⟩ (.int .i64 T9)) S T9 R A9 n9 c9 A6 n6 c6 t1 A8 n8 c8 cp := by
  have hbx := hm.box.below hc.below hm.box.lt
  have hA : Blk (wy.setCell ⟨w.heap.size, 0, none⟩ (.int .i64 S)) w.heap.size 45 #[.int .i64 S, .slice A7 n7 c7, .int .i64 Tn] := (hbx.set_ 0 (.int .i64 S)).congr rfl
  have hB : Blk ((wy.setCell ⟨w.heap.size, 0, none⟩ (.int .i64 S)).setCell ⟨w.heap.size, 1, none⟩ (.slice A9 n9 c9)) w.heap.size 45 #[.int .i64 S, .slice A9 n9 c9, .int .i64 Tn] := (hA.set_ 1 (.slice A9 n9 c9)).congr rfl
  have hC : Blk (((wy.setCell ⟨w.heap.size, 0, none⟩ (.int .i64 S)).setCell ⟨w.heap.size, 1, none⟩ (.slice A9 n9 c9)).setCell ⟨w.heap.size, 2, none⟩ (.int .i64 T9)) w.heap.size 45 #[.int .i64 S, .slice A9 n9 c9, .int .i64 T9] := (hB.set_ 2 (.int .i64 T9)).congr rfl
  have hsz := hm.but.size
  refine ⟨?_, hC, ints_res hc.ring hbx (fun x e => by cases e) _ _ _, fun k hk => ?_, ?_, ints_res hc.cps hbx (fun x e => by cases e) _ _ _⟩
  · exact (((hm.but.trans (But.of_below hc.below w.heap.size none) (.inl rfl)).set_ 0 (.int .i64 S)).set_ 1 (.slice A9 n9 c9)).set_ 2 (.int .i64 T9)
  · have h1 := hc.rown k hk
    exact ⟨by omega, fun e => by have := hm.piece.own e; omega⟩
  · exact (((hm.piece.below hc.below (Nat.le_refl _)).far (p := ⟨w.heap.size, 0, none⟩) hlt (.int .i64 S)).far (p := ⟨w.heap.size, 1, none⟩) hlt (.slice A9 n9 c9)).far (p := ⟨w.heap.size, 2, none⟩) hlt (.int .i64 T9)

theorem RrCp.late (hb : Below wx.heap.size wx wy) (hz : Blk wy wx.heap.size 45 #[.int .i64 0, .slice none 0 0, .int .i64 0]) (hi : Ints wy .u8 (.slice A9 n9 c9) R) (ho : Ints wy .u8 (.slice A8 n8 c8) cp) (hk : ∀ k, (Value.slice A9 n9 c9).ownBlock = some k → wx.heap.size ≤ k) :
    RrCp wx (((wy.setCell ⟨wx.heap.size, 0, none⟩ (.int .i64 S)).setCell ⟨wx.heap.size, 1, none⟩ (.slice A9 n9 c9)).setCell ⟨wx.heap.size, 2, none⟩ (.int .i64 T9)) S T9 wx.heap.size R A9 n9 c9 A8 n8 c8 cp := by
  have hA : Blk (wy.setCell ⟨wx.heap.size, 0, none⟩ (.int .i64 S)) wx.heap.size 45 #[.int .i64 S, .slice none 0 0, .int .i64 0] := (hz.set_ 0 (.int .i64 S)).congr rfl
  have hB : Blk ((wy.setCell ⟨wx.heap.size, 0, none⟩ (.int .i64 S)).setCell ⟨wx.heap.size, 1, none⟩ (.slice A9 n9 c9)) wx.heap.size 45 #[.int .i64 S, .slice A9 n9 c9, .int .i64 0] := (hA.set_ 1 (.slice A9 n9 c9)).congr rfl
  exact ⟨((hb.setCell (p := ⟨wx.heap.size, 0, none⟩) (Nat.le_refl _) _).setCell (p := ⟨wx.heap.size, 1, none⟩) (Nat.le_refl _) _).setCell (p := ⟨wx.heap.size, 2, none⟩) (Nat.le_refl _) _, Nat.le_refl _, (hB.set_ 2 (.int .i64 T9)).congr rfl,
    ints_res hi hz (fun x e => by cases e) _ _ _, hk, ints_res ho hz (fun x e => by cases e) _ _ _⟩

theorem RrSt.row (h : RrSt lo w wr S T H Ab nb cb Al nl cl rest rv ps es) (hE : RrEnd w wr W1 S T9 R A9 n9 c9 A6 n6 c6 t1 A8 n8 c8 cp) (hgr : W1.grownBy w2 (Value.slice A6 n6 c6).ownBlock) (o : Obj) :
    Below wr.heap.size W1 (w2.alloc o) ∧ PcSt (w2.alloc o) (w.heap.size + 1 + 1) w.heap.size none rv ps es := by
  have hb2 : Below wr.heap.size W1 w2 := (Below.refl wr.heap.size W1).grown hgr hE.but.size (fun r hr => (hE.piece.own hr).1)
  have hs1 := hE.but.size
  have hs2 := hb2.size
  have hb3 : Below wr.heap.size W1 (w2.alloc o) := hb2.alloc (by omega) o
  refine ⟨hb3, h.out.move (g := 0) ⟨hb3.os.trans hE.but.os, hb3.tape.trans hE.but.tape, hb3.output.trans hE.but.output, Nat.le_trans hE.but.size hb3.size, fun k hk _ hx ho => ?_⟩ (by omega) (.inl rfl)⟩
  exact (hb3.block k hk).trans (hE.but.block k hk hx ho)

theorem RrSt.next (h : RrSt lo w wr S T H Ab nb cb Al nl cl rest rv ps es) (hE : RrEnd w wr W1 S T9 R A9 n9 c9 A6 n6 c6 t1 A8 n8 c8 cp) (hgr : W1.grownBy w2 (Value.slice A6 n6 c6).ownBlock)
    (hg : Grow w2 wr.heap.size 5 .u8 (.slice A10 n10 c10) (t1 ++ cp)) (o : Obj) (hr : SRow w3 22 1 rv' (es.map (fun e => [e]) ++ [[.slice A10 n10 c10]])) (hg3 : (w2.alloc o).grownBy w3 rv.ownBlock)
    (ho : rv'.ownBlock = rv.ownBlock ∨ rv'.ownBlock = some (w2.alloc o).heap.size) (hl : AtInts w .u8 Al' nl' rest') (hcap : nl' ≤ cl' ∧ cl' ≤ 9223372036854775807) (hlo : 0 < nl' → (Value.slice Al' nl' cl').ownBlock = lo)
    (hR : R = lastN S (H ++ (ps ++ [t1 ++ cp]).flatten)) (hT : T9 = T + (ps ++ [t1 ++ cp]).flatten.length) :
    RrSt lo w w3 S T H A9 n9 c9 Al' nl' cl' rest' rv' (ps ++ [t1 ++ cp]) (es ++ [.slice A10 n10 c10]) := by
  obtain ⟨hb3, hps⟩ := h.row hE hgr o
  have hlt := h.res.lt
  have hs1 := hE.but.size
  have hs3 := hb3.size
  have hsg := hg3.size
  have hrow : ∀ k, rv.ownBlock = some k → w.heap.size + 1 + 1 ≤ k ∧ k < wr.heap.size := fun k hk => ⟨(h.out.own k hk).1.1, h.out.row.lt k hk⟩
  have hb4 : Below (w.heap.size + 1 + 1) W1 w3 := (hb3.mono (by omega)).grown hg3 (by omega) (fun r hr => (hrow r hr).1)
  have hbox := hE.box.below hb4 (by omega)
  have hres : Blk w3 (w.heap.size + 1) 45 #[.int .i64 0, .slice none 0 0, .int .i64 0] := (h.res.but hE.but (by omega) (by simp)).below hb4 (by omega)
  have hbel : Below w.heap.size w W1 := h.below.trans ⟨hE.but.os, hE.but.tape, hE.but.output, hE.but.size, fun k hk => hE.but.block k (by omega) (by omega) (by simp)⟩
  refine ⟨hbel.trans (hb4.mono (by omega)), by rw [← hT]; exact hbox, hres, ?_, hl, hcap, hlo, ?_⟩
  · rw [← hR]
    refine hE.ring.same fun k hk hkl => ?_
    obtain ⟨a1, a2⟩ := hE.rown k hk
    have e1 : w2.heap[k]? = W1.heap[k]? := hgr.block k hkl (fun e => a2 e.symm)
    have hk2 : k < w2.heap.size := Nat.lt_of_lt_of_le hkl hgr.size
    have e2 : (w2.alloc o).heap[k]? = w2.heap[k]? := Below.heap_alloc w2 o k hk2
    have e3 : w3.heap[k]? = (w2.alloc o).heap[k]? := hg3.block k (by simp; omega) (fun e => by have := (hrow k e.symm).2; omega)
    exact e3.trans (e2.trans e1)
  · have hi : Ints (w2.alloc o) .u8 (.slice A10 n10 c10) (t1 ++ cp) := hg.ints.alloc o
    refine hps.snoc hi (fun k hk => ?_) (by omega) (by omega) (fun k hk => by cases hk) hr hg3 (ho.imp id fun e k hk => by rw [e] at hk; have := Option.some.inj hk; omega)
    have := hg.own hk
    exact ⟨⟨by omega, by omega⟩, by simp, fun e => by have := (hrow k e).2; omega, by simp; omega⟩
end

/-- The next relation. -/
theorem RrRel.next {lo : Option Nat} {w wr W1 w2 w3 : World} {S T T9 : Nat} {H ls0 : List Int} {hv most t : Int} {ss : List SeqD} {k li le ofs : Nat} {Al Al' Ab A6 A8 A9 A10 : Option Addr} {nl cl nl' cl' nb cb n6 c6 n8 c8 n9 c9 n10 c10 : Nat} {rest : List Int} {rv rv' : Value} {ps : List (List Int)} {es : List Value}
    (h : RrSt lo w wr S T H Ab nb cb Al nl cl rest rv ps es) (hE : RrEnd w wr W1 S T9 (lastN S (lastN S (H ++ ps.flatten ++ rest.take li) ++ copied (lastN ofs (lastN S (H ++ ps.flatten ++ rest.take li))) ofs le)) A9 n9 c9 A6 n6 c6 (rest.take li) A8 n8 c8 (copied (lastN ofs (lastN S (H ++ ps.flatten ++ rest.take li))) ofs le))
    (hgr : W1.grownBy w2 (Value.slice A6 n6 c6).ownBlock) (hg : Grow w2 wr.heap.size 5 .u8 (.slice A10 n10 c10) (rest.take li ++ copied (lastN ofs (lastN S (H ++ ps.flatten ++ rest.take li))) ofs le)) (o : Obj)
    (hr : SRow w3 22 1 rv' (es.map (fun e => [e]) ++ [[.slice A10 n10 c10]])) (hg3 : (w2.alloc o).grownBy w3 rv.ownBlock)
    (ho : rv'.ownBlock = rv.ownBlock ∨ rv'.ownBlock = some (w2.alloc o).heap.size) (hl : AtInts w .u8 Al' nl' (rest.drop li)) (hcap : nl' ≤ cl' ∧ cl' ≤ 9223372036854775807) (hlo : 0 < nl' → (Value.slice Al' nl' cl').ownBlock = lo) (hli : li ≤ rest.length) (hofs : ofs ≤ S)
    (hT : T9 = T + ps.flatten.length + li + le) (hpl : ps.length = k) (hs : ss[k]? = some ⟨li, le, ofs⟩)
    (hck : chk S hv most (ss.drop (k + 1)) (k + 1) (rest.length - li) (ps.flatten.length + (li + le)) = (0, t, 0))
    (hpc : piecesL H ls0 ss = ps ++ piecesL (H ++ ps.flatten) rest (ss.drop k)) (hu : U8s rest) :
    RrRel lo w S T H ls0 hv most t ss (k + 1) Al' nl' cl' rv' w3 := by
  have e1 : lastN ofs (lastN S (H ++ ps.flatten ++ rest.take li)) = lastN ofs (H ++ ps.flatten ++ rest.take li) := lastN_lastN _ hofs
  have e2 : rest.take li ++ copied (lastN ofs (lastN S (H ++ ps.flatten ++ rest.take li))) ofs le = pieceL (H ++ ps.flatten) rest ⟨li, le, ofs⟩ := by
    rw [e1]; unfold pieceL; simp only [Int.toNat_natCast]
  have e3 : (ps ++ [rest.take li ++ copied (lastN ofs (lastN S (H ++ ps.flatten ++ rest.take li))) ofs le]).flatten = ps.flatten ++ (rest.take li ++ copied (lastN ofs (lastN S (H ++ ps.flatten ++ rest.take li))) ofs le) := by simp
  have e4 : (rest.take li ++ copied (lastN ofs (lastN S (H ++ ps.flatten ++ rest.take li))) ofs le).length = li + le := by rw [List.length_append, List.length_take, copied_length]; omega
  have hst := RrSt.next h hE hgr hg o hr hg3 ho hl hcap hlo (by rw [lastN_append, e3]; simp only [List.append_assoc]) (by rw [e3, List.length_append, e4]; omega)
  refine ⟨_, _, _, _, _, _, hst, by simp [hpl], ?_, ?_, ?_⟩
  · rw [e3, List.length_append, e4, List.length_drop]
    have e5 : ((rest.length - li : Nat) : Int) = (rest.length : Int) - (li : Int) := by omega
    have e6 : ((ps.flatten.length + (li + le) : Nat) : Int) = (ps.flatten.length : Int) + ((li : Int) + (le : Int)) := by omega
    rw [e5, e6]
    exact hck
  · rw [hpc, drop_cons hs, piecesL, e3, e2, List.append_assoc]
    simp only [Int.toNat_natCast, List.cons_append, List.nil_append, List.append_assoc]
  · exact fun z hz => hu z (List.mem_of_mem_drop hz)

theorem PcSt.moveX {w w' : World} {B x : Nat} {vo : Option Nat} {rv : Value} {ps : List (List Int)} {es : List Value} (h : PcSt w B x vo rv ps es) (hsz : w.heap.size ≤ w'.heap.size) (hb : ∀ k, k < w.heap.size → k ≠ x → vo ≠ some k → w'.heap[k]? = w.heap[k]?) : PcSt w' B x vo rv ps es := by
  refine ⟨h.len, h.row.same fun k hk => hb k (h.row.lt k hk) (h.own k hk).1.2 (h.own k hk).2, h.own, fun i e p he hp => ?_⟩
  obtain ⟨h1, h2, h3⟩ := h.el i e p he hp
  refine ⟨h1.same fun k hk hlt => hb k hlt (h3 k hk).1.2 (h3 k hk).2.1, h2, fun k hk => ?_⟩
  obtain ⟨a1, a2, a3, a4⟩ := h3 k hk
  exact ⟨a1, a2, a3, Nat.lt_of_lt_of_le a4 hsz⟩

theorem PcSt.other {w : World} {B x r : Nat} {vo : Option Nat} {rv : Value} {ps : List (List Int)} {es : List Value} (h : PcSt w B x vo rv ps es) (hr : r < B) : PcSt w 0 r vo rv ps es :=
  ⟨h.len, h.row, fun k hk => ⟨⟨Nat.zero_le _, by have := (h.own k hk).1.1; omega⟩, (h.own k hk).2⟩, fun i e p he hp => by
    obtain ⟨h1, h2, h3⟩ := h.el i e p he hp
    exact ⟨h1, h2, fun k hk => by obtain ⟨a, b, c, d⟩ := h3 k hk; exact ⟨⟨Nat.zero_le _, by have := a.1; omega⟩, b, c, d⟩⟩⟩

/-- Behind the last append: the ring in its box, the result's box still empty. -/
structure RrFin (lo : Option Nat) (w W : World) (S T9 : Nat) (R : List Int) (A9 : Option Addr) (n9 c9 : Nat) (rv : Value) (ps : List (List Int)) (es : List Value) : Prop where
  below : Below w.heap.size w W
  box : Blk W w.heap.size 45 #[.int .i64 S, .slice A9 n9 c9, .int .i64 T9]
  res : Blk W (w.heap.size + 1) 45 #[.int .i64 0, .slice none 0 0, .int .i64 0]
  ring : Ints W .u8 (.slice A9 n9 c9) R
  out : PcSt W 0 (w.heap.size + 1) none rv ps es
  far : PcsFar (w.heap.size + 1 + 1) lo W rv ps

section
variable {lo : Option Nat} {w wr w7 w11 W : World} {S T T7 T9 : Nat} {H R : List Int} {Ab A7 A9 Al : Option Addr} {nb cb n7 c7 n9 c9 nl cl : Nat} {rest : List Int} {rv rv' : Value} {ps : List (List Int)} {es : List Value}

theorem RrSt.fin (h : RrSt lo w wr S T H Ab nb cb Al nl cl rest rv ps es) : RrFin lo w wr S (T + ps.flatten.length) (lastN S (H ++ ps.flatten)) Ab nb cb rv ps es :=
  ⟨h.below, h.box, h.res, h.ring, h.out.other (by omega), h.out.far_all (fun k hk => .inl (h.out.own k hk).1.1) (fun i e p he hp k hk => .inl ((h.out.el i e p he hp).2.2 k hk).1.1)⟩

/-- The ring's box at its new value. -/
theorem RrSt.boxed (h : RrSt lo w wr S T H Ab nb cb Al nl cl rest rv ps es) (hb7 : Below wr.heap.size wr w7) :
    Blk (((w7.setCell ⟨w.heap.size, 0, none⟩ (.int .i64 S)).setCell ⟨w.heap.size, 1, none⟩ (.slice A7 n7 c7)).setCell ⟨w.heap.size, 2, none⟩ (.int .i64 T7)) w.heap.size 45 #[.int .i64 S, .slice A7 n7 c7, .int .i64 T7] ∧
    But wr (((w7.setCell ⟨w.heap.size, 0, none⟩ (.int .i64 S)).setCell ⟨w.heap.size, 1, none⟩ (.slice A7 n7 c7)).setCell ⟨w.heap.size, 2, none⟩ (.int .i64 T7)) w.heap.size none := by
  have hbx := h.box.below hb7 h.box.lt
  have hA : Blk (w7.setCell ⟨w.heap.size, 0, none⟩ (.int .i64 S)) w.heap.size 45 #[.int .i64 S, .slice Ab nb cb, .int .i64 (T + ps.flatten.length : Nat)] := (hbx.set_ 0 (.int .i64 S)).congr rfl
  have hB : Blk ((w7.setCell ⟨w.heap.size, 0, none⟩ (.int .i64 S)).setCell ⟨w.heap.size, 1, none⟩ (.slice A7 n7 c7)) w.heap.size 45 #[.int .i64 S, .slice A7 n7 c7, .int .i64 (T + ps.flatten.length : Nat)] := (hA.set_ 1 (.slice A7 n7 c7)).congr rfl
  exact ⟨(hB.set_ 2 (.int .i64 T7)).congr rfl, (((But.of_below hb7 w.heap.size none).set_ 0 (.int .i64 S)).set_ 1 (.slice A7 n7 c7)).set_ 2 (.int .i64 T7)⟩

/-- The rows ahead of the last append. -/
theorem RrSt.rowT (h : RrSt lo w wr S T H Ab nb cb Al nl cl rest rv ps es) (hB : But wr W w.heap.size none) (o : Obj) : PcSt (W.alloc o) (w.heap.size + 1 + 1) w.heap.size none rv ps es :=
  h.out.moveX (by have := hB.size; simp; omega) fun k hk hx _ => (Below.heap_alloc W o k (Nat.lt_of_lt_of_le hk hB.size)).trans (hB.block k hk hx (by simp))

theorem RrSt.tail (h : RrSt lo w wr S T H Ab nb cb Al nl cl rest rv ps es) (h0 : 0 < nl) (hbx : Blk W w.heap.size 45 #[.int .i64 S, .slice A7 n7 c7, .int .i64 T7]) (hB : But wr W w.heap.size none)
    (hi7 : Ints W .u8 (.slice A7 n7 c7) R) (hk7 : ∀ k, (Value.slice A7 n7 c7).ownBlock = some k → wr.heap.size ≤ k) (o : Obj)
    (hr : SRow w11 22 1 rv' (es.map (fun e => [e]) ++ [[.slice Al nl cl]])) (hg : (W.alloc o).grownBy w11 rv.ownBlock) (ho : rv'.ownBlock = rv.ownBlock ∨ rv'.ownBlock = some (W.alloc o).heap.size) :
    RrFin lo w w11 S T7 R A7 n7 c7 rv' (ps ++ [rest]) (es ++ [.slice Al nl cl]) := by
  have hps := h.rowT hB o
  have hlt := h.res.lt
  have hs1 := hB.size
  have hsz : (W.alloc o).heap.size = W.heap.size + 1 := by simp
  have hrow : ∀ k, rv.ownBlock = some k → w.heap.size + 1 + 1 ≤ k ∧ k < wr.heap.size := fun k hk => ⟨(h.out.own k hk).1.1, h.out.row.lt k hk⟩
  have hb4 : Below (w.heap.size + 1 + 1) W w11 := ((Below.refl _ W).alloc (by omega) o).grown hg (by omega) (fun r hr => (hrow r hr).1)
  have hbel : Below w.heap.size w W := h.below.trans ⟨hB.os, hB.tape, hB.output, hB.size, fun k hk => hB.block k (by omega) (by omega) (by simp)⟩
  have hz : PcSt w11 0 (w.heap.size + 1) none rv' (ps ++ [rest]) (es ++ [.slice Al nl cl]) ∧ PcsFar (w.heap.size + 1 + 1) lo w11 rv' (ps ++ [rest]) := by
    have hl := h.lits.ints (c := cl) h.cap.1 h.cap.2
    obtain ⟨b, off, x, rfl, hb, -, -⟩ := h.lits.at_ h0
    have hi : Ints (W.alloc o) .u8 (.slice (some ⟨b, off, none⟩) nl cl) rest := (hl.below hbel (Nat.le_refl _)).alloc o
    have hq : PcSt w11 0 (w.heap.size + 1) none rv' (ps ++ [rest]) (es ++ [.slice (some ⟨b, off, none⟩) nl cl]) := by
      refine (hps.other (r := w.heap.size + 1) (by omega)).snoc hi (fun k hk => ?_) (Nat.zero_le _) (by omega) (fun k hk => by cases hk) hr hg (ho.imp id fun e k hk => by rw [e] at hk; have := Option.some.inj hk; omega)
      obtain rfl : b = k := Option.some.inj hk
      exact ⟨⟨Nat.zero_le _, by omega⟩, by simp, fun e => by have := (hrow b e).1; omega, by omega⟩
    refine ⟨hq, hq.far_all (fun k hk => ?_) fun i e p he hp k hk => ?_⟩
    · rcases ho with e | e
      · rw [e] at hk; exact .inl (hrow k hk).1
      · rw [e] at hk; have := Option.some.inj hk; exact .inl (by omega)
    · have hlen := h.out.len
      rcases Nat.lt_or_ge i es.length with hlt | hge
      · rw [List.getElem?_append_left hlt] at he
        rw [List.getElem?_append_left (by omega)] at hp
        exact .inl ((h.out.el i e p he hp).2.2 k hk).1.1
      · rw [List.getElem?_append_right hge] at he
        have h9 := (List.getElem?_eq_some_iff.1 he).1
        simp at h9
        rw [show i - es.length = 0 by omega] at he
        simp at he
        subst he
        rw [h.lown h0] at hk
        exact .inr hk
  refine ⟨hbel.trans (hb4.mono (by omega)), hbx.below hb4 (by omega), (h.res.but hB (by omega) (by simp)).below hb4 (by omega), ?_, hz.1, hz.2⟩
  · refine hi7.same fun k hk hkl => ?_
    have a1 := hk7 k hk
    exact (hg.block k (by omega) (fun e => by have := (hrow k e.symm).2; omega)).trans (Below.heap_alloc W o k hkl)

theorem RrFin.finish (h : RrFin lo w W S T9 R A9 n9 c9 rv ps es) (hlo : ∀ k, lo = some k → k < w.heap.size) :
    Blk (((W.setCell ⟨w.heap.size + 1, 0, none⟩ (.int .i64 S)).setCell ⟨w.heap.size + 1, 1, none⟩ (.slice A9 n9 c9)).setCell ⟨w.heap.size + 1, 2, none⟩ (.int .i64 T9)) (w.heap.size + 1) 45 #[.int .i64 S, .slice A9 n9 c9, .int .i64 T9] ∧
    Below w.heap.size w (((W.setCell ⟨w.heap.size + 1, 0, none⟩ (.int .i64 S)).setCell ⟨w.heap.size + 1, 1, none⟩ (.slice A9 n9 c9)).setCell ⟨w.heap.size + 1, 2, none⟩ (.int .i64 T9)) ∧
    Ints (((W.setCell ⟨w.heap.size + 1, 0, none⟩ (.int .i64 S)).setCell ⟨w.heap.size + 1, 1, none⟩ (.slice A9 n9 c9)).setCell ⟨w.heap.size + 1, 2, none⟩ (.int .i64 T9)) .u8 (.slice A9 n9 c9) R ∧
    PcsFar w.heap.size lo (((W.setCell ⟨w.heap.size + 1, 0, none⟩ (.int .i64 S)).setCell ⟨w.heap.size + 1, 1, none⟩ (.slice A9 n9 c9)).setCell ⟨w.heap.size + 1, 2, none⟩ (.int .i64 T9)) rv ps := by
  have hA : Blk (W.setCell ⟨w.heap.size + 1, 0, none⟩ (.int .i64 S)) (w.heap.size + 1) 45 #[.int .i64 S, .slice none 0 0, .int .i64 0] := (h.res.set_ 0 (.int .i64 S)).congr rfl
  have hB : Blk ((W.setCell ⟨w.heap.size + 1, 0, none⟩ (.int .i64 S)).setCell ⟨w.heap.size + 1, 1, none⟩ (.slice A9 n9 c9)) (w.heap.size + 1) 45 #[.int .i64 S, .slice A9 n9 c9, .int .i64 0] := (hA.set_ 1 (.slice A9 n9 c9)).congr rfl
  refine ⟨(hB.set_ 2 (.int .i64 T9)).congr rfl, ((h.below.setCell (p := ⟨w.heap.size + 1, 0, none⟩) (Nat.le_succ _) _).setCell (p := ⟨w.heap.size + 1, 1, none⟩) (Nat.le_succ _) _).setCell (p := ⟨w.heap.size + 1, 2, none⟩) (Nat.le_succ _) _,
    ints_res h.ring h.res (fun x e => by cases e) _ _ _, ?_⟩
  refine (h.far.keep (by simp) fun k hk hx => ?_).mono (by omega)
  have hx' : k ≠ w.heap.size + 1 := by
    rcases hx with hx | hx
    · omega
    · have := hlo k hx; omega
  exact (Below.heap_setCell _ _ _ k hx').trans ((Below.heap_setCell _ _ _ k hx').trans (Below.heap_setCell _ _ _ k hx'))
end
end Go.Proofs.Ytndgdehlnmheeaa
