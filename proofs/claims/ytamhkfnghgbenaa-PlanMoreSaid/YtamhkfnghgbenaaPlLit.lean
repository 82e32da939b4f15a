/-
  plan: the literals of a step; joined; Literals.
-/
import Derived.Test.YtamhkfnghgbenaaPlVerify
namespace Go.Proofs.Ytamhkfnghgbenaa
set_option linter.all false
set_option maxRecDepth 100000
open Go.RowKit

set_option maxHeartbeats 1600000 in
theorem litFn_any (w : World) (p : Nat) (A : Option Addr) (n c : Nat) (dd : List Int) (x : StepD) (a l : Nat) (ha : x.pos = a) (hl : x.s.lit = l) (hal : a + l ≤ n) (hc : n ≤ c) (hcm : a + l ≤ 131072) (_hcc : c ≤ 9223372036854775807) (hp : w.cell? ⟨p, 0, none⟩ = some (.slice A n c)) (hd : AtInts w .u8 A n dd) :
    Calls Try.prog 37 #[x.val, .pointer (some ⟨p, 0, none⟩)] w fun e w' => ∃ A' cc, e = .returned (.slice A' l cc) ∧ AtInts w' .u8 A' l ((dd.drop a).take l) ∧ Below w.heap.size w w' := by
  obtain ⟨⟨lit, len, off⟩, number, pos, size, have_, window⟩ := x
  simp only at ha hl
  subst ha hl
  have hm := fun W => match_any W ⟨⟨l, len, off⟩, number, a, size, have_, window⟩ ⟨by simp only; omega, by simp only; omega⟩ ⟨by simp only; omega, by simp only; omega⟩
  obtain ⟨m, hm1⟩ : ∃ m, a + l = m := ⟨_, rfl⟩
  have HM : Hid ((a : Int) + (l : Int) = (m : Int)) := (by omega : (a : Int) + (l : Int) = (m : Int))
  have HMX := Lib.hid hm
  have hlt : p < w.heap.size := World.block_lt_of_cell? w _ hp
  have HBK : Hid (Blk (w.alloc (.cells #[.int .i64 l, .int .i64 len, .int .i64 off, .int .i64 number, .int .i64 a, .int .i64 size, .int .i64 have_, .int .i64 window] 71)) w.heap.size 71 (StepD.cells ⟨⟨l, len, off⟩, number, a, size, have_, window⟩)) := (Blk.new w _ _ : Blk _ _ _ _)
  have hB0 := (Below.refl w.heap.size w).alloc (Nat.le_refl _) (.cells #[.int .i64 l, .int .i64 len, .int .i64 off, .int .i64 number, .int .i64 a, .int .i64 size, .int .i64 have_, .int .i64 window] 71)
  have HB := Lib.hid hB0
  have HP := Lib.hid ((hB0.cell (p := ⟨p, 0, none⟩) hlt).trans hp)
  have HLT : Hid (p < (w.alloc (.cells #[.int .i64 l, .int .i64 len, .int .i64 off, .int .i64 number, .int .i64 a, .int .i64 size, .int .i64 have_, .int .i64 window] 71)).heap.size) := (by simp; omega : p < _)
  have HS : Hid (AtInts w .u8 A n dd) := (hd : AtInts _ _ _ _ _)
  have i1 : (0 : Int) ≤ (a : Int) := by omega
  have i2 : (a : Int) ≤ (m : Int) := by omega
  have i3 : (m : Int) ≤ (c : Int) := by omega
  have n2 : a ≤ m := by omega
  have n3 : m ≤ c := by omega
  have hml : m - a = l := by omega
  have HML := Lib.hid hml
  have HMA := Lib.hid hm1
  clear hm hp hd hm1 hB0 hml
  unfold StepD.val StepD.cells
  go_enter Try.func37, Try.ntmps37
  go_wp2
  generalize w.alloc (.cells #[.int .i64 l, .int .i64 len, .int .i64 off, .int .i64 number, .int .i64 a, .int .i64 size, .int .i64 have_, .int .i64 window] 71) = W0 at HB HBK HP HLT ⊢
  go_region_held3 (fun w' => w'.cell? ⟨p, 0, none⟩ = some (.slice A n c) ∧ w'.cell? ⟨w.heap.size, 0, none⟩ = some (.int .i64 l) ∧ w'.cell? ⟨w.heap.size, 1, none⟩ = some (.int .i64 len) ∧ w'.cell? ⟨w.heap.size, 2, none⟩ = some (.int .i64 off) ∧ w'.cell? ⟨w.heap.size, 3, none⟩ = some (.int .i64 number) ∧
      w'.cell? ⟨w.heap.size, 4, none⟩ = some (.int .i64 a) ∧ w'.cell? ⟨w.heap.size, 5, none⟩ = some (.int .i64 size) ∧ w'.cell? ⟨w.heap.size, 6, none⟩ = some (.int .i64 have_) ∧ w'.cell? ⟨w.heap.size, 7, none⟩ = some (.int .i64 window))
    (first | exact ⟨HP.out, HBK.out.step⟩ | exact ⟨HP3.out, HBK3.out.step⟩)
    (first
      | (go_at_call 34; refine (HMX.out _).mono ?_; (try simp only); rw [HM.out]; rintro e w3 ⟨rfl, hb⟩; have HBK3 := Lib.hid ((show Blk W0.drew _ _ _ from HBK.out).below hb HBK.out.lt); have HP3 := Lib.hid ((hb.cell (p := ⟨p, 0, none⟩) HLT.out).trans HP.out); have HB3 := Lib.hid (HB.out.drew.trans (hb.mono HB.out.size)); clear hb))
  all_goals go_wp2
  all_goals
    go_ret
    refine ⟨_, ⟨_, by rw [← HML.out]; rfl⟩, ?_, HB3.out⟩
    have hd3 := HS.out.below HB3.out (Nat.le_refl _)
    have hm2 := HMA.out
    refine ⟨by rw [List.length_take, List.length_drop, hd3.1]; omega, fun h0 => ?_⟩
    obtain ⟨b, o, hA, -⟩ := hd3.2 (by omega)
    obtain ⟨-, hx⟩ := hd3.sub hA (i := a) (m := l) (by omega)
    subst hA
    first
      | (exfalso; omega)
      | (rw [show Option.map (fun x => Addr.add x a) (some (⟨b, o, none⟩ : Addr)) = some ⟨b, o + a, none⟩ by simp [Addr.add]]; exact hx h0)

/-- The literals of the first k sequences. -/
def litsTo (ss : List SeqD) (dd : List Int) : Nat → List Int
  | 0 => []
  | k + 1 => litsTo ss dd k ++ (match ss[k]? with
    | none => []
    | some s => (dd.drop (posL (ss.take k)).toNat).take s.lit.toNat)
theorem litsTo_le (ss : List SeqD) (dd : List Int) : ∀ k, (litsTo ss dd k).length ≤ k * dd.length
  | 0 => by simp [litsTo]
  | k + 1 => by
    have h := litsTo_le ss dd k
    unfold litsTo
    rw [List.length_append, Nat.succ_mul]
    cases ss[k]? with
    | none => simp; omega
    | some s => simp only [List.length_take, List.length_drop]; omega

theorem posL_mono {size hv wd : Int} {ss : List SeqD} {m : Nat} (hm : m ≤ ss.length) (h : Good 1 size hv wd ss m) : ∀ {k : Nat}, k ≤ m → posL (ss.take k) ≤ posL (ss.take m) := by
  intro k hk
  induction m with
  | zero =>
    obtain rfl : k = 0 := by omega
    exact Int.le_refl _
  | succ m ih =>
    rcases Nat.lt_or_ge m k with h1 | h1
    · obtain rfl : k = m + 1 := by omega
      exact Int.le_refl _
    · have hx := List.getElem?_eq_getElem (l := ss) (i := m) (by omega)
      have h2 := ih (by omega) (fun i s hi => h i s (by omega)) h1
      obtain ⟨⟨o1, o2, -, -⟩, -⟩ := h m _ (by omega) hx
      have h3 := posL_take_succ hx
      simp only [stepAt] at o1 o2
      omega

set_option maxHeartbeats 1600000 in
theorem joined_any (w : World) (p : Nat) (A : Option Addr) (n c : Nat) (dd : List Int) (A4 : Option Addr) (n4 c4 : Nat) (ss : List SeqD) (hl : ss.length ≤ 100) (hn : nGood ss = n4) (hpos : posL (ss.take n4) ≤ n) (hc : n ≤ c) (hcm : n ≤ 131072) (hcc : c ≤ 9223372036854775807) (hp : w.cell? ⟨p, 0, none⟩ = some (.slice A n c)) (hd : AtInts w .u8 A n dd) (hr : StRow w (.slice A4 n4 c4) (stepsOf 131072 0 0 ss n4)) :
    Calls Try.prog 36 #[.slice A4 n4 c4, .func (.func 37) #[] #[.pointer (some ⟨p, 0, none⟩)]] w fun e w' => ∃ A' cc, e = .returned (.slice A' (litsTo ss dd n4).length cc) ∧ Grow w' w.heap.size 5 .u8 (.slice A' (litsTo ss dd n4).length cc) (litsTo ss dd n4) ∧ Below w.heap.size w w' := by
  have HD := Lib.hid hd
  have HR := Lib.hid hr
  have HP := Lib.hid hp
  have hnl := nGood_le ss
  rw [hn] at hnl
  have HNL := Lib.hid hnl
  have hgd := nGood_good ss
  rw [hn] at hgd
  have HGD := Lib.hid hgd
  have hn4 : (n4 : Int) ≤ 9223372036854775807 := by omega
  have HPOS := Lib.hid hpos
  have HL := Lib.hid hl
  have HLT : Hid (p < w.heap.size) := (World.block_lt_of_cell? w _ hp : p < w.heap.size)
  clear hd hr hp hn hnl hgd hpos
  go_enter Try.func36, Try.ntmps36
  go_wp2
  go_loopw [4, 9] (fun v i wr => ∃ (k m cc : Nat) (A' : Option Addr), k ≤ n4 ∧ i = .int .i64 k ∧ v = .slice A' m cc ∧ Hid (Below w.heap.size w wr) ∧ Hid ((litsTo ss dd k).length = m) ∧ Hid (Grow wr w.heap.size 5 .u8 (.slice A' m cc) (litsTo ss dd k))) (fun _ i _ => n4 - (intOf i).toNat)
  case atStart => exact ⟨0, 0, 0, none, Nat.zero_le _, rfl, rfl, (Below.refl _ _ : Below _ _ _), (rfl : (litsTo ss dd 0).length = 0), (Grow.nil _ _ _ _ : Grow _ _ _ _ _ _)⟩
  case round =>
    obtain ⟨k, m, cc, A', hk, rfl, rfl, HB, HM, HG⟩ := hrel
    have k0 : (0 : Int) ≤ (k : Int) := by omega
    by_cases hlt : k < n4
    · have k1 : (k : Int) < (n4 : Int) := by omega
      have hxk := List.getElem?_eq_getElem (l := ss) (i := k) (by have := HNL.out; omega)
      obtain ⟨⟨lit, len, offs⟩, hse⟩ : ∃ s, ss[k]'(by have := HNL.out; omega) = s := ⟨_, rfl⟩
      rw [hse] at hxk
      obtain ⟨g, hA, -, hgl, p0, p1, p2, p3, p4, p5, p6, p7⟩ := StRow.at_ (SRow.below HR.out HB.out (Nat.le_refl _)) HNL.out hlt hxk
      subst hA
      have hp1 := Good.pos (size := 131072) (by omega) (by have := HNL.out; omega : k ≤ ss.length) (fun i s hi => HGD.out i s (by omega))
      have hp2 := posL_mono HNL.out HGD.out (k := k + 1) (by omega)
      obtain ⟨⟨o1, o2, o3, o4⟩, -⟩ := HGD.out k _ hlt hxk
      have hps := posL_take_succ hxk
      have hlk : litsTo ss dd (k + 1) = litsTo ss dd k ++ (dd.drop (posL (ss.take k)).toNat).take lit.toNat := by rw [litsTo, hxk]
      obtain ⟨P, hP⟩ : ∃ P, posL (ss.take k) = P := ⟨_, rfl⟩
      simp only [stepAt] at o1 o2 o3 o4
      rw [hP] at hp1 hps o3 o4 p4 hlk
      simp only at hps p0 p1 p2
      have hpos := HPOS.out
      obtain ⟨a, rfl⟩ := Int.eq_ofNat_of_zero_le hp1.1
      obtain ⟨l, rfl⟩ := Int.eq_ofNat_of_zero_le o1
      have HLK : Hid (litsTo ss dd (k + 1) = litsTo ss dd k ++ (dd.drop a).take l) := (hlk : _ = _)
      have hal : a + l ≤ n := by omega
      have HAL := Lib.hid hal
      have hB1 := HB.out.alloc HB.out.size (.cells #[.int .i64 l, .int .i64 len, .int .i64 offs, .int .i64 k, .int .i64 a, .int .i64 131072, .int .i64 0, .int .i64 0] 71)
      have HB1 := Lib.hid hB1
      have HG1 := Lib.hid (HG.out.below ((Below.refl wr.heap.size wr).alloc (Nat.le_refl _) (.cells #[.int .i64 l, .int .i64 len, .int .i64 offs, .int .i64 k, .int .i64 a, .int .i64 131072, .int .i64 0, .int .i64 0] 71)) (Nat.le_refl _))
      clear hxk hse hp1 hp2 o1 o2 o3 o4 hps hlk hP hpos hal hB1
      have hmb : m + l ≤ 1000000000000 := by
        have h1 := litsTo_le ss dd k
        rw [HM.out, HD.out.1] at h1
        have h2 : k * n ≤ 100 * 131072 := Nat.mul_le_mul (by have := HNL.out; have := HL.out; omega) hcm
        have := HAL.out
        omega
      have HMB := Lib.hid hmb
      clear hmb
      go_wp2_with (first
        | (go_at_call 37; refine (litFn_any _ p A n c dd ⟨⟨l, len, offs⟩, k, a, 131072, 0, 0⟩ a l rfl rfl HAL.out hc (by have := HAL.out; omega) hcc ((HB1.out.cell (p := ⟨p, 0, none⟩) HLT.out).trans HP.out) (HD.out.below HB1.out (Nat.le_refl _))).mono ?_; rintro e w5 ⟨A5, c5, rfl, hat, hb⟩; have HAT5 := Lib.hid hat; have HG5 := Lib.hid (HG1.out.below hb (Nat.le_refl _)); have HB5 := Lib.hid (HB1.out.trans (hb.mono HB1.out.size)); clear hat hb)
        | (at_builtin; refine wpList_append_ints_any rfl _ _ rfl w.heap.size _ (litsTo ss dd k) ((dd.drop a).take l) rfl HG5.out A5 l c5 rfl HAT5.out (by rw [HM.out]; exact HMB.out) HB5.out.size (m + l) (by rw [HM.out]) ?_; intro A6 c6 w6 hg hgr; have HG6 := Lib.hid hg; have HB6 := Lib.hid (HB5.out.grown hgr HB5.out.size (fun r hr => (World.ownsRow.lt HG5.out r hr).1)); clear hg hgr))
      go_roundw
      case rel => exact ⟨k + 1, m + l, c6, A6, by omega, by go_num, rfl, (HB6.out : Below _ _ _), (by rw [HLK.out, List.length_append, HM.out, List.length_take, List.length_drop, HD.out.1]; have := HAL.out; omega : (litsTo ss dd (k + 1)).length = m + l), (HLK.out ▸ HG6.out : Grow _ _ _ _ _ (litsTo ss dd (k + 1)))⟩
      case measure => simp [intOf]; omega
    · obtain rfl : k = n4 := by omega
      go_wp2
      go_ret
      have hm := HM.out
      subst hm
      exact ⟨_, _, rfl, HG.out, HB.out⟩
end Go.Proofs.Ytamhkfnghgbenaa
