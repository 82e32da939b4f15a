/-
  exec: pieces, the walk.
-/
import Derived.Test.YtndgdehlnmheeaaExRunP
namespace Go.Proofs.Ytndgdehlnmheeaa
set_option linter.all false
set_option maxRecDepth 100000
open Go.RowKit

/-- What holds when k sequences are done. -/
def PcRel (w0 : World) (g x B : Nat) (v0 : Value) (S : Nat) (C : List Int) (T0 : Nat) (ls0 : List Int) (hv most t : Int) (ss : List SeqD) (k : Nat) (r : Value) (wr : World) : Prop :=
  ∃ (v : Value) (st : List Int) (A : Option Addr) (N c : Nat) (ls : List Int) (ps : List (List Int)) (es : List Value), RunSt w0 wr g x B v0 v S C st T0 A N c ls r ps es ∧ ps.length = k ∧
    chk S hv most (ss.drop k) k ls.length ps.flatten.length = (0, t, 0) ∧ piecesL C ls0 ss = ps ++ piecesL (C ++ ps.flatten) ls (ss.drop k) ∧ U8s ls

theorem u8s_drop {l : List Int} (h : U8s l) (n : Nat) : U8s (l.drop n) := fun z hz => h z (List.mem_of_mem_drop hz)
theorem chk_le {size hv most a t : Int} {ss : List SeqD} {i : Nat} {ls : List Int} {P : Int} (h : chk size hv most ss i ls.length P = (a, t, 0)) : P ≤ t ∧ t ≤ most ∧ P + ls.length ≤ t := by
  induction ss generalizing i ls P with
  | nil =>
    rw [chk] at h
    split at h
    · simp at h
    · simp at h; omega
  | cons s r ih =>
    obtain ⟨h1, h2, h3⟩ := chk_inv h
    obtain ⟨x1, x2, x3, -⟩ := h1
    simp only at x1 x2 x3
    have e : ((ls.drop s.lit.toNat).length : Int) = ls.length - s.lit := by rw [List.length_drop]; omega
    rw [← e] at h3
    have := ih h3
    omega

theorem Seqs.same {w w' : World} {v : Value} {ss : List SeqD} (h : Seqs w v ss) (hs : ∀ b, 0 < ss.length → v.ownBlock = some b → b < w.heap.size → w'.heap[b]? = w.heap[b]?) : Seqs w' v ss := by
  obtain ⟨⟨A, c, h1, h2, h3, h4⟩, hw⟩ := h
  refine ⟨⟨A, c, h1, h2, h3, fun h0 => ?_⟩, hw⟩
  obtain ⟨b, off, hA, hx⟩ := h4 h0
  refine ⟨b, off, hA, fun i s hi => ?_⟩
  obtain ⟨c0, c1, c2⟩ := hx i s hi
  have hb := hs b h0 (by rw [h1, hA]; rfl) (World.block_lt_of_cell? w _ c0)
  exact ⟨(World.cell?_of_block (a := ⟨b, off + i * 3, none⟩) hb).trans c0, (World.cell?_of_block (a := ⟨b, off + i * 3 + 1, none⟩) hb).trans c1, (World.cell?_of_block (a := ⟨b, off + i * 3 + 2, none⟩) hb).trans c2⟩
theorem PcRel.next {w0 wr W2 W3 : World} {g x B : Nat} {v0 v v2 : Value} {S : Nat} {C st : List Int} {T0 : Nat} {ls0 : List Int} {hv most t : Int} {ss : List SeqD} {k : Nat} {r r' pv : Value} {A : Option Addr} {N c : Nat} {ls : List Int} {ps : List (List Int)} {es : List Value} {lit len off : Nat} {o : Obj}
    (h : RunSt w0 wr g x B v0 v S C st T0 A N c ls r ps es) (hpl : ps.length = k) (hck : chk S hv most (ss.drop (k + 1)) (k + 1) ((ls.length : Int) - lit) ((ps.flatten.length : Int) + ((lit : Int) + len)) = (0, t, 0)) (hs : ss[k]? = some ⟨lit, len, off⟩) (hpc : piecesL C ls0 ss = ps ++ piecesL (C ++ ps.flatten) ls (ss.drop k)) (hu : U8s ls)
    (hd : Does wr W2 g x v v2 S st (T0 + ps.flatten.length) A N c ls lit len off pv) (hlit : lit ≤ N) (ho : off ≤ S)
    (hr : SRow W3 22 1 r' (es.map (fun e => [e]) ++ [[pv]])) (hgr : (W2.alloc o).grownBy W3 r.ownBlock) (hown : r'.ownBlock = r.ownBlock ∨ r'.ownBlock = some (W2.alloc o).heap.size) :
    PcRel w0 g x B v0 S C T0 ls0 hv most t ss (k + 1) r' W3 := by
  have hn := h.next hd hlit ho hr hgr hown
  have hN := h.lits.1
  refine ⟨v2, _, _, _, _, _, _, _, hn, by simp [hpl], ?_, ?_, u8s_drop hu lit⟩
  · have e1 : ((ls.drop lit).length : Int) = (ls.length : Int) - lit := by rw [List.length_drop]; omega
    have e2 : ((ps ++ [pieceL (C ++ ps.flatten) ls ⟨lit, len, off⟩]).flatten.length : Int) = (ps.flatten.length : Int) + ((lit : Int) + len) := by
      have h9 := pieceL_length (C := C ++ ps.flatten) (ls := ls) (s := ⟨lit, len, off⟩) (by simp only [Int.toNat_natCast]; omega)
      simp only [Int.toNat_natCast] at h9
      rw [List.flatten_append, List.length_append]
      simp only [List.flatten_cons, List.flatten_nil, List.append_nil]
      rw [h9]
      push_cast
      omega
    rw [e1, e2]
    exact hck
  · rw [hpc, drop_cons hs, piecesL, List.append_assoc, List.flatten_append]
    simp

set_option maxHeartbeats 3200000 in
theorem pieces_any (w0 : World) {g x B : Nat} {v0 : Value} {S : Nat} {st0 C : List Int} {T0 : Nat} {A0 : Option Addr} {N0 c0 : Nat} {ls0 : List Int} (hr : Ring w0 g v0 S st0 T0) (hC : lastN S st0 = lastN S C) (hb : Blk w0 x 99 #[rp g, .slice A0 N0 c0]) (hl : AtInts w0 .u8 A0 N0 ls0)
    (hcap : N0 ≤ c0 ∧ c0 ≤ 9223372036854775807) (hfar : ∀ k, (Value.slice A0 N0 c0).ownBlock = some k → Mine B x k ∧ v0.ownBlock ≠ some k ∧ k < w0.heap.size) (hx : v0.ownBlock ≠ some x) (hgB : g < B ∧ B ≤ x ∧ x < w0.heap.size) (hu : U8s ls0)
    (v : Value) (ss : List SeqD) (hs : Seqs w0 v ss) (hsl : ss.length ≤ 100000) (hsf : ∀ k, 0 < ss.length → v.ownBlock = some k → k ≠ g ∧ k ≠ x ∧ v0.ownBlock ≠ some k) (most t : Int) (hmost : most ≤ 131072) (hchk : chk S (min S C.length : Nat) most ss 0 ls0.length 0 = (0, t, 0)) (hT : T0 ≤ 1152921504606846976) :
    Calls Try.prog 55 #[.pointer (some ⟨x, 0, none⟩), v] w0 fun e w' => ∃ v' st' rv es, e = .returned rv ∧ Ring w' g v' S st' (T0 + (contentL C ls0 ss).length) ∧ lastN S st' = lastN S (C ++ contentL C ls0 ss) ∧
      (v'.ownBlock = v0.ownBlock ∨ ∀ k, v'.ownBlock = some k → w0.heap.size ≤ k) ∧ PcSt w' B x v'.ownBlock rv (piecesL C ls0 ss) es ∧ But2 w0 w' g x v0.ownBlock := by
  have HS := Lib.hid hs
  have HST : Hid (PcRel w0 g x B v0 S C T0 ls0 (min S C.length : Nat) most t ss 0 (.slice none 0 0) w0) :=
    (⟨v0, st0, A0, N0, c0, ls0, [], [], ⟨by simpa using hr, by simpa using hC, .inl rfl, hb, hl, hcap, hfar, hx, But2.refl _ _ _ _, PcSt.start _ _ _ _, (fun k hk => by cases hk), hgB⟩, rfl, by simpa using hchk, by simp, hu⟩ : PcRel _ _ _ _ _ _ _ _ _ _ _ _ _ _ _ _)
  obtain ⟨⟨A, c, hv', hlc, hcm, -⟩, -⟩ := hs
  obtain ⟨n, hn⟩ : ∃ n, ss.length = n := ⟨_, rfl⟩
  rw [hn] at hv' hlc hsl
  subst hv'
  have HN := Lib.hid hn
  have hni : (n : Int) ≤ 9223372036854775807 := by omega
  have HSM := Lib.hid hr.max
  have HT := Lib.hid hT
  have HSF := Lib.hid hsf
  clear hr hC hb hl hcap hfar hx hu hn hchk hT hsf
  go_enter Try.func55, Try.ntmps55
  go_wp2
  go_loopw [4, 9] (fun r i wr => ∃ (k : Nat) (A4 : Option Addr) (c4 : Nat), k ≤ n ∧ i = .int .i64 k ∧ r = .slice A4 k c4 ∧ Hid (PcRel w0 g x B v0 S C T0 ls0 (min S C.length : Nat) most t ss k (.slice A4 k c4) wr)) (fun _ i _ => n - (intOf i).toNat)
  case atStart => exact ⟨0, none, 0, Nat.zero_le _, rfl, rfl, (HST.out : PcRel _ _ _ _ _ _ _ _ _ _ _ _ _ _ _ _)⟩
  case round =>
    clear HST
    obtain ⟨k, A4, c4, hk, rfl, rfl, HR⟩ := hrel
    obtain ⟨vk, st, Ak, Nk, ck, ls, ps, es, hst, hpl, hck, hpc, huk⟩ := HR.out
    by_cases hlt : k < n
    · have hxk := List.getElem?_eq_getElem (l := ss) (i := k) (by rw [HN.out]; omega)
      obtain ⟨⟨lit, len, offs⟩, hse⟩ : ∃ s, ss[k]'(by rw [HN.out]; omega) = s := ⟨_, rfl⟩
      rw [hse] at hxk
      have hsq := HS.out.same (w' := wr) fun b h0 hb hlt2 => by
        have hf := HSF.out b h0 hb
        exact hst.but.block b hlt2 hf.1 hf.2.1 (fun e => hf.2.2 e.symm)
      obtain ⟨A2, c2, he, -, -, h4⟩ := hsq.at_
      injection he with e1 e2 e3
      subst e1
      clear e2 e3
      obtain ⟨b, off, rfl, hcell⟩ := h4 (by rw [HN.out]; omega)
      obtain ⟨q0, q1, q2⟩ := hcell k _ hxk
      simp only at q0 q1 q2
      rw [drop_cons hxk] at hck
      obtain ⟨h1, h2, h3⟩ := chk_inv hck
      have hlet := chk_le (ls := ls.drop lit.toNat) (by
        have e9 : ((ls.drop lit.toNat).length : Int) = (ls.length : Int) - lit := by
          obtain ⟨x1, x2, -⟩ := h1
          simp only at x1 x2
          rw [List.length_drop]; omega
        rw [e9]; exact h3)
      obtain ⟨x1, x2, x3, x4, x5, x6, x7⟩ := h1
      simp only at x1 x2 x3 x4 x5 x6 x7 h3 hlet
      obtain ⟨li, rfl⟩ := Int.eq_ofNat_of_zero_le x1
      obtain ⟨le, rfl⟩ := Int.eq_ofNat_of_zero_le (by omega : 0 ≤ len)
      obtain ⟨ofs, rfl⟩ := Int.eq_ofNat_of_zero_le (by omega : 0 ≤ offs)
      have hNl := hst.lits.1
      have hxl := hst.box.lt
      have hD : ∀ W, Below wr.heap.size wr W → Calls Try.prog 66 #[.pointer (some ⟨x, 0, none⟩), .agg #[.int .i64 li, .int .i64 le, .int .i64 ofs]] W fun e w' => ∃ v' A' c', e = .returned (.slice A' (li + le) c') ∧ Does W w' g x vk v' S st (T0 + ps.flatten.length) Ak Nk ck ls li le ofs (.slice A' (li + le) c') := fun W hW => by
        have hs2 := hst.below hW
        have hwz := hW.size
        refine does_any W li le ofs hs2.ring hs2.box hs2.lits hs2.cap.1 hs2.cap.2 (by omega) (by omega) (by omega) (by omega) (by omega) ?_ huk hs2.hx (by have := HT.out; omega) (by have := hs2.gB; omega) (fun k hk => ?_)
        · have h5 := min_of_lastN (lastN_app_eq (c := ls.take li) hst.last)
          rw [h5]
          simp only [List.length_append, List.length_take]
          omega
        · obtain ⟨a1, a2, a3⟩ := hst.far k hk
          have := hst.gB
          exact ⟨by omega, a1.2, a2, by have := hst.but.size; omega⟩
      have HD := Lib.hid hD
      have HX := Lib.hid hxk
      have H3 := Lib.hid h3
      have HST := Lib.hid hst
      have HPL := Lib.hid hpl
      have HPC := Lib.hid hpc
      have HUK := Lib.hid huk
      have HLI : Hid (li ≤ Nk ∧ ofs ≤ S) := (by omega : _ ∧ _)
      have k0 : (0 : Int) ≤ (k : Int) := by omega
      have k1 : (k : Int) < (n : Int) := by omega
      have hblt := World.block_lt_of_cell? wr _ q0
      clear hD hxk hse hsq hcell h4 h2 h3 hck hpc hpl huk x1 x2 x3 x4 x5 x6 x7 hlet hNl hst
      have hBA := (Below.refl wr.heap.size wr).alloc (Nat.le_refl _) (.cells #[.int .i64 li, .int .i64 le, .int .i64 ofs] 54)
      have HBA := Lib.hid hBA
      clear hBA
      go_wp2_with fail
      refine (HD.out _ HBA.out).mono ?_
      rintro e w2 ⟨v2, A5, c5, rfl, hd⟩
      have hst1 := HST.out.below HBA.out
      have HRW := Lib.hid ((hst1.pcs.move hd.but hst1.gB.1 hd.own).below ((Below.refl w2.heap.size w2).alloc (Nat.le_refl _) (.cells #[.slice A5 (li + le) c5] 22)) (by have := hst1.gB; omega)).row
      have HEL : Hid (es.length = k) := (by rw [← HPL.out]; exact hst1.pcs.len : _ = _)
      have HST1 := Lib.hid hst1
      have HDD := Lib.hid hd
      clear hd hst1 HD HR
      go_wp2_with (at_builtin; refine wpList_append_pc rfl _ _ rfl rfl HRW.out w2.heap.size (.slice A5 (li + le) c5) rfl (Blk.new w2 _ _) rfl (by rw [HEL.out]; omega) (k + 1) (by rw [HEL.out]) ?_; intro A6 c6 w3 hrow hgrow hown; have H6 := Lib.hid hrow; have H7 := Lib.hid hgrow; have H8 := Lib.hid hown; clear hrow hgrow hown)
      go_roundw
      case rel => exact ⟨k + 1, A6, c6, by omega, by go_num, rfl, (PcRel.next HST1.out HPL.out H3.out HX.out HPC.out HUK.out HDD.out HLI.out.1 HLI.out.2 H6.out H7.out H8.out : PcRel _ _ _ _ _ _ _ _ _ _ _ _ _ _ _ _)⟩
      case measure => simp [intOf]; omega
    · obtain rfl : k = n := by omega
      have hdn : ss.drop k = [] := List.drop_of_length_le (by rw [HN.out]; exact Nat.le_refl _)
      rw [hdn] at hck hpc
      have hle := chk_le hck
      have hNl := hst.lits.1
      obtain ⟨q0, q1, f0, f1⟩ := hst.box.two
      have hcont : contentL C ls0 ss = (piecesL C ls0 ss).flatten := rfl
      by_cases h0 : Nk = 0
      · have hls : ls = [] := List.eq_nil_of_length_eq_zero (by omega)
        subst hls
        rw [piecesL, if_pos rfl, List.append_nil] at hpc
        rw [hpc] at hcont
        have HC := Lib.hid hcont
        have HP := Lib.hid hpc
        have HST := Lib.hid hst
        subst h0
        clear hck hpc hcont hst hle hNl hdn HR
        go_wp2
        go_ret
        rw [HC.out, HP.out]
        exact ⟨vk, st, _, es, rfl, HST.out.ring, HST.out.last, HST.out.own, HST.out.pcs, HST.out.but⟩
      · have hls : ls ≠ [] := fun e => by rw [e] at hNl; simp at hNl; omega
        rw [piecesL, if_neg hls] at hpc
        rw [hpc] at hcont
        have HC := Lib.hid hcont
        have HP := Lib.hid hpc
        have HST := Lib.hid hst
        have HPL := Lib.hid hpl
        have hTk := takes_any wr Nk hst.ring hst.box hst.lits hst.cap.1 hst.cap.2 (Nat.le_refl _) (by omega) huk hst.hx (by have := HT.out; omega) (by have := hst.gB; omega)
        have HTK := Lib.hid hTk
        have hN0 : (0 : Int) < (Nk : Int) := by omega
        have hN1 : (Nk : Int) ≤ 9223372036854775807 := by omega
        clear hck hpc hcont hst hle hNl hdn hTk h0 hls HR hpl huk
        go_wp2_with fail
        refine HTK.out.mono ?_
        rintro e w2 ⟨rfl, v2, hd⟩
        have HRW := Lib.hid ((HST.out.pcs.move hd.but HST.out.gB.1 hd.own).below ((Below.refl w2.heap.size w2).alloc (Nat.le_refl _) (.cells #[.slice Ak Nk Nk] 22)) (by have := HST.out.gB; omega)).row
        have HEL : Hid (es.length = k) := (by rw [← HPL.out]; exact HST.out.pcs.len : _ = _)
        have HDD := Lib.hid hd
        clear hd HTK q0 q1 f0 f1
        go_wp2_with (at_builtin; refine wpList_append_pc rfl _ _ rfl rfl HRW.out w2.heap.size (.slice Ak Nk Nk) rfl (Blk.new w2 _ _) rfl (by rw [HEL.out]; omega) (k + 1) (by rw [HEL.out]) ?_; intro A6 c6 w3 hrow hgrow hown; have H6 := Lib.hid hrow; have H7 := Lib.hid hgrow; have H8 := Lib.hid hown; clear hrow hgrow hown)
        go_ret
        rw [HC.out, HP.out]
        obtain ⟨st', t1, t2, t3, t4, t5⟩ := HST.out.tail_ HDD.out H6.out H7.out H8.out
        exact ⟨v2, st', _, _, rfl, t1, t2, t3, t4, t5⟩
end Go.Proofs.Ytndgdehlnmheeaa
