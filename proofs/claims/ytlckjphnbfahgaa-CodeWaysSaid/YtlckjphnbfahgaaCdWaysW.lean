/-
  CodeWays: the walk.
-/
import Derived.Test.YtlckjphnbfahgaaCdAwakeM
import Derived.Test.YtlckjphnbfahgaaCdFew
import Derived.Test.YtlckjphnbfahgaaCdNeeds
import Derived.Deep.Cut
namespace Go.Proofs.Ytlckjphnbfahgaa
open Go.RowKit
attribute [local go_sem] Oper.semAt_some
namespace Cd
/-- a row of truths -/
def BRow (w : World) (v : Value) (l : List Bool) : Prop :=
  ∃ (a : Option Addr) (c : Nat), v = .slice a l.length c ∧ l.length ≤ 140737488355328 ∧ (l ≠ [] → ∃ b o, a = some ⟨b, o, none⟩ ∧ b < w.heap.size ∧ ∀ j, (h : j < l.length) → w.cell? ⟨b, o + j, none⟩ = some (.bool l[j]))
end Cd
set_option maxRecDepth 100000 in
set_option maxHeartbeats 16000000 in
theorem CodeWays_walk {F : Nat → Prop} (p : Cd.Prog) (vc vk vn vw : Value) (k : Nat) (ways : List Bool) (w : World) (hp : Cd.PRep F w p vc vk vn) (hw : Cd.PWf p) (hk : k < 256) (hways : Cd.BRow w vw ways) :
    Calls Try.prog 4 #[.agg #[vc, vk, vn], .int .u8 k, vw] w fun e w' => e = .returned (.bool true) ∧ Below w.heap.size w w' := by
  obtain ⟨a1, c1, a2, c2, a3, c3, rfl, rfl, rfl⟩ := hp.forms
  obtain ⟨aw, cw, rfl, hwl, hwc⟩ := hways
  obtain ⟨w1, hw1⟩ : ∃ w1, w.alloc (.cells #[.slice a1 p.codes.length c1, .slice a2 p.consts.length c2, .slice a3 p.names.length c3] 26) = w1 := ⟨_, rfl⟩
  obtain ⟨hb1, hs1, hbp⟩ := Cd.boxP hw1
  have haw := awake_any w1
  have HP := Lib.hid hp
  have HW := Lib.hid hw
  have HB1 := Lib.hid hb1
  have HS1 := Lib.hid hs1
  have HBP := Lib.hid hbp
  have HWC := Lib.hid hwc
  clear hp hw hb1 hs1 hbp hwc
  go_enter Try.func4, Try.ntmps4
  go_wp2_with (first | (go_at_call 7; refine haw.mono ?_; clear haw hw1; rintro e w2 ⟨rfl, hb2⟩; obtain ⟨p0, p1, p2⟩ := HBP.out w2 hb2; have HB2 : Hid (Below w.heap.size w w2) := HB1.out.trans (hb2.mono HB1.out.size); have HB12 := Lib.hid hb2; have hfew := few_any p _ _ _ w2 (HP.out.below HB2.out) HW.out; clear hb2) | (go_at_call 8; refine hfew.mono ?_; clear hfew p0 p1 p2; rintro e w3 ⟨⟨fb, rfl⟩, hb3⟩; refine Hid.out ?_))
  refine Lib.hid ?_
  have HB13 : Hid (Below w1.heap.size w1 w3) := HB12.out.trans (hb3.mono HB12.out.size)
  have HB3 : Hid (Below w.heap.size w w3) := HB2.out.trans (hb3.mono HB2.out.size)
  clear hb3 HB12 HB2
  cases fb with
  | false =>
    have haw := awake_any w3
    go_wp2_with (go_at_call 7; refine haw.mono ?_; clear haw; rintro e w4 ⟨rfl, hb4⟩)
    go_ret
    exact ⟨rfl, HB3.out.trans (hb4.mono HB3.out.size)⟩
  | true =>
    obtain ⟨p0, p1, p2⟩ := HBP.out w3 HB13.out
    have hck := check_any p _ _ _ w3 (HP.out.below HB3.out) HW.out
    rcases Cd.check_is p with h0 | h0
    case inr =>
      rw [h0] at hck
      go_wp2_with (first | (go_at_call 11; refine hck.mono ?_; clear hck p0 p1 p2; rintro e w4 ⟨rfl, hb4⟩; have haw := awake_any w4; have HB4 : Hid (Below w.heap.size w w4) := HB3.out.trans (hb4.mono HB3.out.size); clear hb4) | (go_at_call 7; refine haw.mono ?_; clear haw; rintro e w5 ⟨rfl, hb5⟩))
      go_ret
      exact ⟨rfl, HB4.out.trans (hb5.mono HB4.out.size)⟩
    case inl =>
      rw [h0] at hck
      go_upto_region 3 with (go_at_call 11; refine hck.mono ?_; clear hck p0 p1 p2; rintro e w4 ⟨rfl, hb4⟩; have HB4 : Hid (Below w.heap.size w w4) := HB3.out.trans (hb4.mono HB3.out.size); have HB14 : Hid (Below w1.heap.size w1 w4) := HB13.out.trans (hb4.mono HB13.out.size); clear hb4)
      obtain ⟨hne, hlc, hgood⟩ := Cd.check_codes h0
      have hcp : 0 < p.codes.length := List.length_pos_iff.2 hne
      have hkm : k % p.codes.length < p.codes.length := Nat.mod_lt _ hcp
      obtain ⟨q, hq⟩ : ∃ q, k % p.codes.length = q := ⟨_, rfl⟩
      rw [hq] at hkm
      obtain ⟨fin, hfin⟩ := (Cd.good_good (hgood p.codes[q] (List.getElem_mem hkm))).ways hgood
      obtain ⟨b, o, rfl, -, hbl, x0, x1, x2, x3, vi, x4, hi⟩ := Cd.code_at (HP.out.below HB4.out).codes q hkm
      obtain ⟨ai, ci, rfl⟩ := hi.form
      obtain ⟨c, hc⟩ : ∃ c, c = p.codes[q] := ⟨_, rfl⟩
      rw [← hc] at x0 x1 x2 x3 x4 hi hfin
      obtain ⟨p0, p1, p2⟩ := HBP.out w4 HB14.out
      have hcpi : (0 : Int) < (p.codes.length : Int) := by omega
      have hqi : (q : Int) < (p.codes.length : Int) := by omega
      have hq0 : (0 : Int) ≤ (q : Int) := by omega
      have hk0 : (0 : Int) ≤ (k : Int) := by omega
      have hk256 : (k : Int) < 256 := by omega
      have hmod : (k : Int) % (p.codes.length : Int) = (q : Int) := by rw [← hq]; exact (Int.natCast_emod k p.codes.length).symm
      obtain ⟨wA, hwA⟩ : ∃ wA, w4.alloc (.cells #[.int .i64 0, .int .i64 0, .int .i64 0, .int .i64 0, .slice none 0 0] 39) = wA := ⟨_, rfl⟩
      obtain ⟨hbA, -⟩ := Cd.below_new (Below.refl _ w4) hwA (Nat.le_refl _)
      obtain ⟨pA0, -, -⟩ := HBP.out wA (HB14.out.trans (hbA.mono HB14.out.size))
      have hcl : ∀ i, wA.cell? ⟨b, i, none⟩ = w4.cell? ⟨b, i, none⟩ := fun i => hbA.cell (p := ⟨b, i, none⟩) hbl
      have y0 := (hcl _).trans x0
      have y1 := (hcl _).trans x1
      have y2 := (hcl _).trans x2
      have y3 := (hcl _).trans x3
      have y4 := (hcl _).trans x4
      clear hbA hcl p1 p2 hne hq hc
      subst hwA
      go_region
      obtain ⟨wB, hwB⟩ : ∃ wB, w4.alloc (.cells #[.int .i64 c.params, .int .i64 c.rest, .int .i64 c.caps, .int .i64 c.max, .slice ai c.ins.length ci] 39) = wB := ⟨_, rfl⟩
      obtain ⟨hbB, hsB, hbcB⟩ := Cd.boxC hwB
      obtain ⟨w5, hw5⟩ : ∃ w5, wB.drew = w5 := ⟨_, rfl⟩
      rw [hwB, hw5]
      have hbB5 : Below wB.heap.size wB w5 := by rw [← hw5]; exact (Below.refl _ wB).drew
      have HB5 : Hid (Below w.heap.size w w5) := HB4.out.trans ((hbB.trans (hbB5.mono hbB.size)).mono HB4.out.size)
      obtain ⟨D, hD⟩ : ∃ D, w4.heap.size = D := ⟨_, rfl⟩
      rw [hD] at hbcB ⊢
      have HC5 : Hid (∀ W, Below w5.heap.size w5 W → W.cell? ⟨D, 3, none⟩ = some (.int .i64 c.max) ∧ W.cell? ⟨D, 4, none⟩ = some (.slice ai c.ins.length ci)) := fun W hW => (hbcB W (hbB5.trans (hW.mono hbB5.size))).2.2.2
      have HI : Hid (Cd.InsRow F w5 (.slice ai c.ins.length ci) c.ins) := hi.below (hD ▸ hbB.trans (hbB5.mono hbB.size))
      have HF := Lib.hid hfin
      have HWR : Hid (∀ W, Below w.heap.size w W → ∀ s, (h : s < ways.length) → ∃ b o, aw = some ⟨b, o, none⟩ ∧ W.cell? ⟨b, o + s, none⟩ = some (.bool ways[s])) := fun W hW s hs => by
        obtain ⟨b, o, e, hb, hc⟩ := HWC.out (by intro e; rw [e] at hs; simp at hs)
        exact ⟨b, o, e, (hW.cell (p := ⟨b, o + s, none⟩) hb).trans (hc s hs)⟩
      have h0i := hfin.few.1
      clear hbB hsB hbcB hbB5 hw5 hwB hD hi hfin x0 x1 x2 x3 x4 y0 y1 y2 y3 y4 p0 pA0 hmod hcp hkm hcpi hqi hq0 hgood hbl
      go_wp2
      go_loopw [8, 9, 10] (fun va vn vs wr => ∃ (i s : Nat), va = .int .i64 i ∧ vn = .int .i64 (Cd.g fin i) ∧ vs = .int .i64 s ∧ i < c.ins.length ∧ s ≤ i ∧ Hid (Below w5.heap.size w5 wr)) (fun va _ _ _ => c.ins.length - (intOf va).toNat)
      case atStart => exact ⟨0, 0, rfl, by rw [HF.out.zero], rfl, by omega, Nat.le_refl _, Below.refl _ _⟩
      case round =>
        obtain ⟨i, s, rfl, rfl, rfl, hi, hsi, HBR⟩ := hrel
        have HB : Hid (Below w.heap.size w wr) := HB5.out.trans (HBR.out.mono HB5.out.size)
        obtain ⟨q3, q4⟩ := HC5.out wr HBR.out
        have hfine := HF.out.fine i hi
        have hlen := HF.out.few.2
        have hmaxc := HF.out.max
        have hokx := HF.out.ok i hi
        obtain ⟨hfew, hjmp, hpa, hpb⟩ := HF.out.fews i hi
        obtain ⟨b, o, rfl, -, x0, x1, x2⟩ := Cd.ins_at (HI.out.below HBR.out) i hi
        obtain ⟨x, hx⟩ : ∃ x, c.ins[i] = x := ⟨_, rfl⟩
        rw [hx] at hfine hokx hfew hjmp hpa hpb x0 x1 x2
        obtain ⟨w6, hw6⟩ : ∃ w6, wr.alloc (.cells #[.int .i64 x.o, .int .i64 x.a, .int .i64 x.b] 41) = w6 := ⟨_, rfl⟩
        obtain ⟨hb6, -⟩ := Cd.below_new (Below.refl _ wr) hw6 (Nat.le_refl _)
        have hX := Cd.InsAt.new hw6
        have HX := Lib.hid hX
        obtain ⟨z0, z1, z2⟩ := hX
        have hnd := needs09_any x hokx hpa hpb w6
        have hnd1 := hfine.nd
        have hnd2 := hfine.mx
        have hl0 := Cd.leaves_pos x.o
        have hl1 := Cd.leaves_le x.o
        have hn0 := hfew.1.1
        have hen := Cd.leaves_eq hokx.some
        have hj5 := Cd.jumps_eq hokx.some
        have HEND := Lib.hid hfine.ends
        have HNEXT := Lib.hid hfine.next
        obtain ⟨V, hV⟩ : ∃ V, Cd.g fin i = V := ⟨_, rfl⟩
        obtain ⟨N, hN⟩ : ∃ N, Cd.need x = N := ⟨_, rfl⟩
        obtain ⟨L, hL⟩ : ∃ L, (Cd.op x.o).leaves = L := ⟨_, rfl⟩
        rw [hV, hN] at hnd1
        rw [hV] at hnd2
        rw [hN, hL] at hnd
        rw [hL] at hl0 hl1
        rw [hN] at hn0
        rw [hV, hN] at HEND
        rw [hV, hN, hL, HF.out.len] at HNEXT
        rw [hV]
        have HB6 : Hid (Below w5.heap.size w5 w6) := HBR.out.trans (hb6.mono HBR.out.size)
        have HH := Lib.hid hen
        have HJ := Lib.hid hj5
        have HJM := Lib.hid hjmp
        obtain ⟨b6, hb6e⟩ : ∃ b6, wr.heap.size = b6 := ⟨_, rfl⟩
        rw [hb6e] at z0 z1 z2 HX
        have g1 : decide ((i : Int) < 0) = false := decide_eq_false (by omega)
        have g2 : decide ((c.ins.length : Int) ≤ (i : Int)) = false := decide_eq_false (by omega)
        have g3 : decide ((c.ins.length : Int) < (s : Int)) = false := decide_eq_false (by omega)
        have g4 : decide (c.max < V) = false := decide_eq_false (by omega)
        have hii : (i : Int) < (c.ins.length : Int) := by omega
        have g5 : decide (V < N) = false := decide_eq_false (by omega)
        clear hfine hokx hfew hjmp hpa hpb hx hb6 hV hN hL hen hj5
        go_upto_region 11 with (go_at_call 14; refine hnd.mono ?_; clear hnd hw6 hb6e x0 x1 x2 z0 z1 z2 q3 q4; rintro e w7 ⟨rfl, hb7⟩; obtain ⟨z0, z1, -⟩ := HX.out.keep ((Keep.refl (fun _ => False) w6).below hb7) id; have HB7 : Hid (Below w5.heap.size w5 w7) := HB6.out.trans (hb7.mono HB6.out.size); clear hb7)
        by_cases e14 : x.o = 14
        · have f14 : (x.o == 14) = true := beq_iff_eq.2 e14
          have hvn := HEND.out (HH.out.2 (.inl e14))
          have f2 : (V == N) = true := beq_iff_eq.2 hvn
          clear e14 hvn
          go_wp2
          go_ret
          exact ⟨rfl, HB5.out.trans (HB7.out.mono HB5.out.size)⟩
        have f14 : (x.o == 14) = false := beq_eq_false_iff_ne.2 e14
        by_cases e15 : x.o = 15
        · have f15 : (x.o == 15) = true := beq_iff_eq.2 e15
          have hvn := HEND.out (HH.out.2 (.inr e15))
          have f2 : (V == N) = true := beq_iff_eq.2 hvn
          clear e14 e15 hvn
          go_wp2
          go_ret
          exact ⟨rfl, HB5.out.trans (HB7.out.mono HB5.out.size)⟩
        have f15 : (x.o == 15) = false := beq_eq_false_iff_ne.2 e15
        have HNX0 : Hid (_ ∧ (_ → _) ∧ (_ → _)) := HNEXT.out (by
          cases h : (Cd.op x.o).en with
          | false => rfl
          | true => exact absurd (HH.out.1 h) (fun h => h.elim e14 e15))
        obtain ⟨n2, hn2⟩ : ∃ n2, V - N + L = n2 := ⟨_, rfl⟩
        rw [hn2] at HNX0
        have HNX := Lib.hid HNX0.out.2
        have hwr : wrap64 (V + wrap64 (L - N)) = n2 := by unfold wrap64; omega
        have hws : V + (L - N) = n2 := by omega
        have hwi : (i : Int) + 1 < 10000 := by omega
        clear HNX0 HEND HNEXT HH e14 e15
        go_upto_region 15 with fail
        try simp only [hwr]
        try simp only [hws]
        clear hwr hws hn2
        by_cases e10 : x.o = 10
        · have f10 : (x.o == 10) = true := beq_iff_eq.2 e10
          have hnx := HNX.out.1 (HJ.out.2 (.inl e10))
          have hjm := HJM.out (HJ.out.2 (.inl e10))
          obtain ⟨a, ha⟩ : ∃ a : Nat, x.a = (a : Int) := ⟨x.a.toNat, by omega⟩
          rw [ha] at z1 hnx hjm
          rw [Int.toNat_natCast] at hnx
          clear ha
          go_wp2
          go_roundw
          case rel => exact ⟨a, s + 1, rfl, by rw [hnx.2], by simp, hnx.1, by omega, HB7⟩
          case measure => simp [intOf]; omega
        have f10 : (x.o == 10) = false := beq_eq_false_iff_ne.2 e10
        by_cases e11 : x.o = 11
        · have f11 : (x.o == 11) = true := beq_iff_eq.2 e11
          by_cases hs : s < ways.length
          · have hsd : decide ((s : Int) < (ways.length : Int)) = true := decide_eq_true (by omega)
            have hsi : (s : Int) < (ways.length : Int) := by omega
            have hs0 : (0 : Int) ≤ (s : Int) := by omega
            obtain ⟨bw, ow, rfl, zw⟩ := HWR.out w7 (HB5.out.trans (HB7.out.mono HB5.out.size)) s hs
            obtain ⟨y, hy⟩ : ∃ y, ways[s] = y := ⟨_, rfl⟩
            rw [hy] at zw
            clear hy
            cases y with
            | true =>
              have hnx := HNX.out.1 (HJ.out.2 (.inr e11))
              have hjm := HJM.out (HJ.out.2 (.inr e11))
              obtain ⟨a, ha⟩ : ∃ a : Nat, x.a = (a : Int) := ⟨x.a.toNat, by omega⟩
              rw [ha] at z1 hnx hjm
              rw [Int.toNat_natCast] at hnx
              clear ha
              go_wp2
              go_roundw
              case rel => exact ⟨a, s + 1, rfl, by rw [hnx.2], by simp, hnx.1, by omega, HB7⟩
              case measure => simp [intOf]; omega
            | false =>
              have hnx := HNX.out.2 e10
              go_wp2
              go_roundw
              case rel => exact ⟨i + 1, s + 1, by simp, by rw [hnx.2], by simp, hnx.1, by omega, HB7⟩
              case measure => simp [intOf]; omega
          · have hsd : decide ((s : Int) < (ways.length : Int)) = false := decide_eq_false (by omega)
            have hnx := HNX.out.2 e10
            go_wp2
            go_roundw
            case rel => exact ⟨i + 1, s + 1, by simp, by rw [hnx.2], by simp, hnx.1, by omega, HB7⟩
            case measure => simp [intOf]; omega
        have f11 : (x.o == 11) = false := beq_eq_false_iff_ne.2 e11
        have hnx := HNX.out.2 e10
        go_wp2
        go_roundw
        case rel => exact ⟨i + 1, s + 1, by simp, by rw [hnx.2], by simp, hnx.1, by omega, HB7⟩
        case measure => simp [intOf]; omega
end Go.Proofs.Ytlckjphnbfahgaa
