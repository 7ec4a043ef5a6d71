/-
  Several texts of this proof in one: CdRM2, CdLinesR, CdShelf, CdLinesI, CdTold.
-/
import Derived.Test.YtlckjphnbfahgaaGreatDoorCdAt
import Derived.Test.YtlckjphnbfahgaaGreatDoorDtAll
import Derived.Test.YtlckjphnbfahgaaGreatDoorDtEq
import Derived.Test.YtlckjphnbfahgaaGreatDoorDtMade
import Derived.Test.YtlckjphnbfahgaaGreatDoorCdCheckP
import Derived.Test.YtlckjphnbfahgaaGreatDoorCdOper
import Derived.Lib.AppendStr
import Derived.Deep.Cut
import Derived.Test.YtlckjphnbfahgaaGreatDoorTbSymR
import Derived.Test.YtlckjphnbfahgaaGreatDoorCdRM1
import Derived.Deep.RegionHeld3
import Derived.Deep.QuietTactic
import Derived.BigQuiet
import Derived.Test.YtlckjphnbfahgaaGreatDoorCodeLinesLawZM1
import Derived.Test.YtlckjphnbfahgaaGreatDoorCdOpen
import Derived.Lib.QuietBelow
import Derived.Test.YtlckjphnbfahgaaGreatDoorCdName
import Derived.Test.YtlckjphnbfahgaaGreatDoorCdLinesP
import Derived.Shelf.LaysM
import Derived.Shelf.Strconv.Itoa3
import Derived.Test.YtlckjphnbfahgaaGreatDoorProg
import Derived.RangeFuncNested
import Derived.RangeFuncBound
import Derived.RangeFuncCalls
import Derived.RangeFuncLeaves
import Derived.Shelf.Abstract
import Derived.Shelf.RegionOpen
import Derived.WalkKit
import Derived.OwnWalkIn
import Derived.TacticsInMore
import Derived.LoopNIn
import Derived.LoopIn
import Derived.Maps.OwnIn
import Derived.Maps.AppendAt
import Derived.Lib.AppendIntMem
import Derived.RangeFuncBox
import Derived.Lib.SmallJoins
namespace Go.Proofs.YtlckjphnbfahgaaGreatDoor
open Go.RowKit
attribute [local go_sem] Oper.semAt_some
def Cd.sizeD (x : Dt.D) : Nat := if Dt.check x = 0 then (Dt.pre x).length else 0
set_option maxRecDepth 100000 in
set_option maxHeartbeats 4000000 in
theorem rSize_any {F : Nat → Prop} (x : Dt.D) (vm vl vt : Value) (w : World) (hW : Dt.Wf x) (hR : Dt.Rep F w x vm vl vt) :
    Calls Tryz.prog 18 #[.agg #[.int .i64 x.k, .int .i64 x.n, .string x.s, vm, vl, vt]] w fun e w' => e = .returned (.int .i64 (Cd.sizeD x : Nat)) ∧ Below w.heap.size w w' := by
  have hb0 : Below w.heap.size w (w.alloc (.cells #[.int .i64 x.k, .int .i64 x.n, .string x.s, vm, vl, vt] 52)) := (Below.refl _ _).alloc (Nat.le_refl _) _
  have hw := rAll_any x vm vl vt _ hW (hR.below hb0)
  have HB := Lib.hid hb0
  obtain ⟨a1, n1, q1, a2, n2, q2, a3, n3, q3, rfl, rfl, rfl⟩ := hR.forms
  clear hR hW hb0
  go_enter Tryz.func18, Tryz.ntmps18
  go_wp2_with fail
  refine hw.mono ?_
  rintro e w1 ⟨vp, ls, rfl, hK, hp, hd, hl, hb1⟩
  obtain ⟨ap, cp, rfl⟩ := Dt.row_form hK
  have HL : Hid ((ls.length : Int) = (Cd.sizeD x : Nat)) := by
    show _ = _
    unfold Cd.sizeD
    rw [← List.length_map (f := Dt.P.d), hd]
    split <;> rfl
  have HB1 : Hid (Below w.heap.size w w1) := HB.out.trans (hb1.mono HB.out.size)
  clear hw hK hp hd hl hb1
  go_wp2
  go_ret
  exact ⟨by rw [HL.out]; rfl, HB1.out⟩
set_option maxRecDepth 100000 in
set_option maxHeartbeats 8000000 in
theorem few_any {F : Nat → Prop} (p : Cd.Prog) (vc vk vn : Value) (w : World) (hp : Cd.PRep F w p vc vk vn) (hw : Cd.PWf p) :
    Calls Tryz.prog 5 #[.agg #[vc, vk, vn]] w fun e w' => (∃ b, e = .returned (.bool b)) ∧ Below w.heap.size w w' := by
  obtain ⟨a1, c1, a2, c2, a3, c3, rfl, rfl, rfl⟩ := hp.forms
  obtain ⟨w1, hw1⟩ : ∃ w1, w.alloc (.cells #[.slice a1 p.codes.length c1, .slice a2 p.consts.length c2, .slice a3 p.names.length c3] 26) = w1 := ⟨_, rfl⟩
  obtain ⟨hb1, hs1, hbp⟩ := Cd.boxP hw1
  obtain ⟨p0, p1, p2⟩ := hbp w1 (Below.refl _ _)
  have HP := Lib.hid hp
  have HW := Lib.hid hw
  have HB1 := Lib.hid hb1
  have HS1 := Lib.hid hs1
  have HBP := Lib.hid hbp
  clear hp hw hb1 hs1 hbp
  by_cases l1 : 40 < p.codes.length
  · have l1' : (40 : Int) < (p.codes.length : Int) := by omega
    go_enter Tryz.func5, Tryz.ntmps5
    go_wp2
    go_ret
    exact ⟨⟨_, rfl⟩, HB1.out⟩
  have l1' : decide ((40 : Int) < (p.codes.length : Int)) = false := decide_eq_false (by omega)
  by_cases l2 : 60 < p.consts.length
  · have l2' : decide ((60 : Int) < (p.consts.length : Int)) = true := decide_eq_true (by omega)
    clear l1 l2
    go_enter Tryz.func5, Tryz.ntmps5
    go_wp2
    go_ret
    exact ⟨⟨_, rfl⟩, HB1.out⟩
  have l2' : decide ((60 : Int) < (p.consts.length : Int)) = false := decide_eq_false (by omega)
  by_cases l3 : 60 < p.names.length
  · have l3' : decide ((60 : Int) < (p.names.length : Int)) = true := decide_eq_true (by omega)
    clear l1 l2 l3
    go_enter Tryz.func5, Tryz.ntmps5
    go_wp2
    go_ret
    exact ⟨⟨_, rfl⟩, HB1.out⟩
  have l3' : decide ((60 : Int) < (p.names.length : Int)) = false := decide_eq_false (by omega)
  have hl1 : p.codes.length ≤ 40 := by omega
  have hl2 : p.consts.length ≤ 60 := by omega
  have hl3 : p.names.length ≤ 60 := by omega
  clear l1 l2 l3
  go_enter Tryz.func5, Tryz.ntmps5
  go_wp2
  clear l1' l2' l3'
  go_loopw [28] (fun v wr => ∃ k : Nat, v = .int .i64 k ∧ k ≤ p.codes.length ∧ Hid (Below w1.heap.size w1 wr)) (fun v _ => p.codes.length - (intOf v).toNat)
  case atStart => exact ⟨0, rfl, by omega, Below.refl _ _⟩
  case round =>
    obtain ⟨k, rfl, hk, HBR⟩ := hrel
    obtain ⟨p0', p1', p2'⟩ := HBP.out wr HBR.out
    by_cases hlt : k < p.codes.length
    · have hlti : (k : Int) < (p.codes.length : Int) := by omega
      have HB : Hid (Below w.heap.size w wr) := HB1.out.trans (HBR.out.mono HB1.out.size)
      obtain ⟨b, o, rfl, -, -, x0, x1, x2, x3, vi, x4, hi⟩ := Cd.code_at (HP.out.below HB.out).codes k hlt
      obtain ⟨ai, ci, rfl⟩ := hi.form
      obtain ⟨c, hc⟩ : ∃ c, c = p.codes[k] := ⟨_, rfl⟩
      rw [← hc] at x0 x1 x2 x3 x4
      have HBN : Hid (Below w1.heap.size w1 (wr.alloc (.cells #[.int .i64 c.params, .int .i64 c.rest, .int .i64 c.caps, .int .i64 c.max, .slice ai c.ins.length ci] 47))) := HBR.out.alloc HBR.out.size _
      clear hi hc
      by_cases h4 : 400 < c.ins.length
      · have h4' : (400 : Int) < (c.ins.length : Int) := by omega
        go_wp2
        go_ret
        exact ⟨⟨_, rfl⟩, HB1.out.trans (HBN.out.mono HB1.out.size)⟩
      · have h4' : decide ((400 : Int) < (c.ins.length : Int)) = false := decide_eq_false (by omega)
        clear h4
        go_wp2
        go_roundw
        case rel => exact ⟨k + 1, by simp, by omega, HBN⟩
        case measure => simp [intOf]; omega
    · have hge : (p.codes.length : Int) ≤ (k : Int) := by omega
      have hd : decide (k < p.codes.length) = false := decide_eq_false hlt
      have hd' : (k < p.codes.length) = False := eq_false hlt
      clear hlt p0 p1 p2
      go_wp2
      try simp only [hd, hd', decide_false]
      clear hd hd'
      go_loopw [40] (fun v wz => ∃ k : Nat, v = .int .i64 k ∧ k ≤ p.consts.length ∧ Hid (Below w1.heap.size w1 wz)) (fun v _ => p.consts.length - (intOf v).toNat)
      case atStart => exact ⟨0, rfl, by omega, HBR⟩
      case round =>
        clear hge hk p0' p1' p2' HBR
        obtain ⟨k, rfl, hk, HBR⟩ := hrel
        obtain ⟨p0', p1', p2'⟩ := HBP.out _ HBR.out
        by_cases hlt : k < p.consts.length
        · have hlti : (k : Int) < (p.consts.length : Int) := by omega
          have HB : Hid (Below w.heap.size w _) := HB1.out.trans (HBR.out.mono HB1.out.size)
          obtain ⟨b, o, vm, vl, vt, rfl, -, ⟨x0, x1, x2, x3, x4, x5⟩, hrep⟩ := Cd.const_at (HP.out.below HB.out).consts k hlt
          have hwf := Cd.wfs_at HW.out.wk k hlt
          obtain ⟨x, hx⟩ : ∃ x, x = p.consts[k] := ⟨_, rfl⟩
          rw [← hx] at x0 x1 x2 hrep hwf
          obtain ⟨am, cm, al, c_l, at_, ct, rfl, rfl, rfl⟩ : ∃ am cm al c_l at_ ct, vm = .slice am x.m.length cm ∧ vl = .slice al x.l.length c_l ∧ vt = .slice at_ x.t.length ct := by
            obtain ⟨⟨a1, c1, h1, _⟩, ⟨a2, c2, h2, _⟩, ⟨a3, c3, h3, _⟩⟩ := (Dt.rep_iff _ _ x vm vl vt).1 hrep
            exact ⟨_, _, _, _, _, _, h1, h2, h3⟩
          obtain ⟨w4, hw4⟩ : ∃ w4, wr.alloc (.cells #[.int .i64 x.k, .int .i64 x.n, .string x.s, .slice am x.m.length cm, .slice al x.l.length c_l, .slice at_ x.t.length ct] 52) = w4 := ⟨_, rfl⟩
          have hb4 : Below wr.heap.size wr w4 := by rw [← hw4]; exact (Below.refl _ _).alloc (Nat.le_refl _) _
          have hsix := Dt.six_of' wr x (.slice am x.m.length cm) (.slice al x.l.length c_l) (.slice at_ x.t.length ct) 52
          rw [hw4] at hsix
          obtain ⟨z0, z1, z2, z3, z4, z5⟩ := hsix
          simp only [Nat.zero_add] at z0 z1 z2 z3 z4 z5
          have hsz := rSize_any x _ _ _ w4 hwf (hrep.below hb4)
          obtain ⟨Z, hZ⟩ : ∃ Z : Int, Z = (Cd.sizeD x : Nat) := ⟨_, rfl⟩
          rw [← hZ] at hsz
          have HB4 : Hid (Below w1.heap.size w1 w4) := HBR.out.trans (hb4.mono HBR.out.size)
          clear hx hb4 hrep hwf hZ
          by_cases g0 : 1000 < x.s.size
          · have g0' : decide ((1000 : Int) < (x.s.size : Int)) = true := decide_eq_true (by omega)
            clear g0
            go_wp2
            go_ret
            exact ⟨⟨_, rfl⟩, HB1.out.trans (HB4.out.mono HB1.out.size)⟩
          have g0' : decide ((1000 : Int) < (x.s.size : Int)) = false := decide_eq_false (by omega)
          clear g0
          by_cases g1 : 100 < x.m.length
          · have g1' : decide ((100 : Int) < (x.m.length : Int)) = true := decide_eq_true (by omega)
            clear g1
            go_wp2
            go_ret
            exact ⟨⟨_, rfl⟩, HB1.out.trans (HB4.out.mono HB1.out.size)⟩
          have g1' : decide ((100 : Int) < (x.m.length : Int)) = false := decide_eq_false (by omega)
          clear g1
          by_cases g2 : 300 < x.l.length
          · have g2' : decide ((300 : Int) < (x.l.length : Int)) = true := decide_eq_true (by omega)
            clear g2
            go_wp2
            go_ret
            exact ⟨⟨_, rfl⟩, HB1.out.trans (HB4.out.mono HB1.out.size)⟩
          have g2' : decide ((300 : Int) < (x.l.length : Int)) = false := decide_eq_false (by omega)
          clear g2
          by_cases g3 : 10 < x.t.length
          · have g3' : decide ((10 : Int) < (x.t.length : Int)) = true := decide_eq_true (by omega)
            clear g3
            go_wp2
            go_ret
            exact ⟨⟨_, rfl⟩, HB1.out.trans (HB4.out.mono HB1.out.size)⟩
          have g3' : decide ((10 : Int) < (x.t.length : Int)) = false := decide_eq_false (by omega)
          clear g3
          by_cases g5 : 400 < Z
          · go_wp2_with (go_at_call 18; refine hsz.mono ?_; clear hsz; rintro e w9 ⟨rfl, hb9⟩; have HB9 : Hid (Below w1.heap.size w1 w9) := HB4.out.trans (hb9.mono HB4.out.size); clear hb9)
            go_ret
            exact ⟨⟨_, rfl⟩, HB1.out.trans (HB9.out.mono HB1.out.size)⟩
          · have g5' : decide (400 < Z) = false := decide_eq_false g5
            clear g5
            go_wp2_with (go_at_call 18; refine hsz.mono ?_; clear hsz; rintro e w9 ⟨rfl, hb9⟩; have HB9 : Hid (Below w1.heap.size w1 w9) := HB4.out.trans (hb9.mono HB4.out.size); clear hb9)
            go_roundw
            case rel => exact ⟨k + 1, by simp, by omega, HB9⟩
            case measure => simp [intOf]; omega
        · have hge : (p.consts.length : Int) ≤ (k : Int) := by omega
          have hd' : (k < p.consts.length) = False := eq_false hlt
          clear hlt
          go_wp2
          try simp only [hd', decide_false]
          clear hd'
          go_loopw [75] (fun v wz => ∃ k : Nat, v = .int .i64 k ∧ k ≤ p.names.length ∧ Hid (Below w1.heap.size w1 wz)) (fun v _ => p.names.length - (intOf v).toNat)
          case atStart => exact ⟨0, rfl, by omega, HBR⟩
          case round =>
            clear hge hk p0' p1' p2' HBR
            obtain ⟨k, rfl, hk, HBR⟩ := hrel
            by_cases hlt : k < p.names.length
            · have hlti : (k : Int) < (p.names.length : Int) := by omega
              have HB : Hid (Below w.heap.size w _) := HB1.out.trans (HBR.out.mono HB1.out.size)
              obtain ⟨b, o, rfl, -, x0⟩ := Cd.name_at (HP.out.below HB.out).names k hlt
              obtain ⟨x, hx⟩ : ∃ x, x = p.names[k] := ⟨_, rfl⟩
              rw [← hx] at x0
              clear hx
              by_cases g0 : 1000 < x.size
              · have g0' : decide ((1000 : Int) < (x.size : Int)) = true := decide_eq_true (by omega)
                clear g0
                go_wp2
                go_ret
                exact ⟨⟨_, rfl⟩, HB.out⟩
              · have g0' : decide ((1000 : Int) < (x.size : Int)) = false := decide_eq_false (by omega)
                clear g0
                go_wp2
                go_roundw
                case rel => exact ⟨k + 1, by simp, by omega, HBR⟩
                case measure => simp [intOf]; omega
            · have hge : (p.names.length : Int) ≤ (k : Int) := by omega
              clear hlt
              go_wp2
              go_ret
              exact ⟨⟨_, rfl⟩, HB1.out.trans (HBR.out.mono HB1.out.size)⟩
end Go.Proofs.YtlckjphnbfahgaaGreatDoor
namespace Go.Proofs.YtlckjphnbfahgaaGreatDoor
open Go.RowKit
attribute [local go_sem] Oper.semAt_some
namespace Dt
mutual
theorem strip_iff : ∀ d : D, strip false d = d ↔ (pre d).all (fun x => x.m.isEmpty) = true
  | .mk k n s m l t => by
    rw [strip, pre, List.all_cons, List.all_append, Bool.and_eq_true, Bool.and_eq_true, ← strips_iff l, ← strips_iff t]
    simp only [Bool.false_eq_true, if_false, D.mk.injEq, true_and]
    show _ ↔ m.isEmpty = true ∧ _
    rw [List.isEmpty_iff]
    constructor
    · rintro ⟨h1, h2, h3⟩
      exact ⟨h1.symm, h2, h3⟩
    · rintro ⟨h1, h2, h3⟩
      exact ⟨h1.symm, h2, h3⟩
theorem strips_iff : ∀ l : List D, strips false l = l ↔ (pres l).all (fun x => x.m.isEmpty) = true
  | [] => by simp [strips, pres]
  | d :: r => by
    rw [strips, pres, List.all_append, Bool.and_eq_true, ← strip_iff d, ← strips_iff r, List.cons.injEq]
end
theorem bset {w : World} {b i : Nat} {cs : Array Value} {t : TypeId} {v : Value} (h : w.heap[b]? = some (.cells cs t (0, 0))) : (w.setCell ⟨b, i, none⟩ v).heap[b]? = some (.cells (cs.setIfInBounds i v) t (0, 0)) := by
  show ((w.heap.modify b _))[b]? = _
  rw [Array.getElem?_modify, if_pos rfl, h]
  rfl
/-- a checked datum is plain just where it is itself without marks -/
theorem same_plain {d : D} (h : check d = 0) : sameD d (strip false d) = Cd.plainD d := by
  unfold Cd.plainD sameD
  rw [h]
  by_cases e : strip false d = d
  · rw [e, h, (strip_iff d).1 e, (eqD_iff d d).2 rfl]
    rfl
  · have h1 : eqD d (strip false d) = false := by
      cases h2 : eqD d (strip false d) with
      | false => rfl
      | true => exact absurd ((eqD_iff _ _).1 h2).symm e
    have h3 : (pre d).all (fun x => x.m.isEmpty) = false := by
      cases h2 : (pre d).all (fun x => x.m.isEmpty) with
      | false => rfl
      | true => exact absurd ((strip_iff d).2 h2) e
    rw [h1, h3]
    simp
theorem sameD_comm (a b : D) : sameD a b = sameD b a := by
  unfold sameD
  have : eqD a b = eqD b a := by
    cases h1 : eqD a b with
    | true =>
      have := (eqD_iff a b).1 h1
      subst this
      exact h1.symm
    | false =>
      cases h2 : eqD b a with
      | false => rfl
      | true =>
        have := (eqD_iff b a).1 h2
        subst this
        rw [h1] at h2
        exact h2
  rw [this, Bool.and_comm (decide (check a = 0))]
mutual
theorem strip_wf : ∀ d : D, Wf d → Wf (strip false d)
  | .mk k n s m l t, h => by
    rw [strip, Wf]
    rw [Wf] at h
    obtain ⟨h1, h2, h3, h4, h5, h6, h7⟩ := h
    exact ⟨h1, h2, by simp, by rw [strips_length]; exact h4, by rw [strips_length]; exact h5, strips_wf l h6, strips_wf t h7⟩
theorem strips_wf : ∀ l : List D, Wfs l → Wfs (strips false l)
  | [], _ => by rw [strips]; trivial
  | d :: r, h => by rw [strips]; exact ⟨strip_wf d h.1, strips_wf r h.2⟩
end
end Dt
set_option maxRecDepth 100000 in
set_option maxHeartbeats 4000000 in
theorem rPlain_ok {F : Nat → Prop} (x : Dt.D) (vm vl vt : Value) (w : World) (hW : Dt.Wf x) (hR : Dt.Rep F w x vm vl vt) (hc : Dt.check x = 0) :
    Calls Tryz.prog 39 #[.agg #[.int .i64 x.k, .int .i64 x.n, .string x.s, vm, vl, vt]] w fun e w' => Dt.Fresh w.heap.size w' (Dt.strip false x) e ∧ Below w.heap.size w w' := by
  obtain ⟨⟨am, cm, rfl, _⟩, ⟨al, c_l, rfl, _⟩, ⟨at_, ct, rfl, _⟩⟩ := (Dt.rep_iff _ _ x vm vl vt).1 hR
  obtain ⟨w1, hw1⟩ : ∃ w1, w.alloc (.cells #[.int .i64 x.k, .int .i64 x.n, .string x.s, .slice am x.m.length cm, .slice al x.l.length c_l, .slice at_ x.t.length ct] 52) = w1 := ⟨_, rfl⟩
  have hsix := Dt.six_of' w x (.slice am x.m.length cm) (.slice al x.l.length c_l) (.slice at_ x.t.length ct) 52
  rw [hw1] at hsix
  obtain ⟨hb1, hs1⟩ := Cd.below_new (Below.refl _ w) hw1 (Nat.le_refl _)
  obtain ⟨w2, hw2⟩ : ∃ w2, w1.alloc (.cells #[.int .i64 0, .int .i64 0, .string ⟨#[]⟩, .slice none 0 0, .slice none 0 0, .slice none 0 0] 52) = w2 := ⟨_, rfl⟩
  obtain ⟨hb2, hs2⟩ := Cd.below_new (Below.refl _ w1) hw2 (Nat.le_refl _)
  have hB := (by rw [← hw2]; exact heap_alloc_new w1 _ : w2.heap[w1.heap.size]? = some (.cells #[.int .i64 0, .int .i64 0, .string ⟨#[]⟩, .slice none 0 0, .slice none 0 0, .slice none 0 0] 52 (0, 0)))
  have HB2 : Hid (Below w.heap.size w w2) := hb1.trans (hb2.mono hb1.size)
  have HSIX : Hid (∀ W, Below w2.heap.size w2 W → Dt.Six W w.heap.size 0 x (.slice am x.m.length cm) (.slice al x.l.length c_l) (.slice at_ x.t.length ct)) := fun W hW => Dt.Six.keep (Dt.Six.keep hsix ((Keep.refl (fun _ => False) w1).below hb2) (block_lt_of_cell hsix.1) id) ((Keep.refl (fun _ => False) w2).below hW) (by omega) id
  obtain ⟨x0, x1, x2, x3, x4, x5⟩ := HSIX.out w2 (Below.refl _ _)
  simp only [Nat.zero_add] at x0 x1 x2 x3 x4 x5
  have hck := rCheck_any x _ _ _ w2 hW (hR.below HB2.out)
  rw [hc] at hck
  have HMK : Hid (∀ W, Below w2.heap.size w2 W → Calls Tryz.prog 56 #[.agg #[.int .i64 x.k, .int .i64 x.n, .string x.s, .slice am x.m.length cm, .slice al x.l.length c_l, .slice at_ x.t.length ct], .bool false] W fun e w' => Dt.Fresh W.heap.size w' (Dt.strip false x) e ∧ Below W.heap.size W w') := fun W hWb => Dt.made_any false x F _ _ _ W hW (Dt.fine_of_check hc) ((hR.below HB2.out).below hWb)
  have HBB := Lib.hid hB
  have HS : Hid (w1.heap.size = w.heap.size + 1 ∧ w2.heap.size = w.heap.size + 2) := ⟨hs1, by omega⟩
  clear hsix hb1 hb2 hs1 hs2 hB hW hR hc
  go_enter Tryz.func39, Tryz.ntmps39
  go_upto_region 3 with (go_at_call 37; refine hck.mono ?_; clear hck hw1 hw2 x0 x1 x2 x3 x4 x5; rintro e w3 ⟨rfl, hb3⟩; have HB3 := Lib.hid hb3; obtain ⟨x0, x1, x2, x3, x4, x5⟩ := HSIX.out w3 hb3; simp only [Nat.zero_add] at x0 x1 x2 x3 x4 x5; clear hb3)
  have hmk := HMK.out w3 HB3.out
  go_wp2_with (go_at_call 56; refine hmk.mono ?_; clear hmk x0 x1 x2 x3 x4 x5; rintro e w4 ⟨⟨um, ul, ut, rfl, hr4⟩, hb4⟩; refine Hid.out ?_)
  refine Lib.hid ?_
  obtain ⟨b1, m1, p1, b2, m2, p2, b3, m3, p3, rfl, rfl, rfl⟩ := hr4.forms
  obtain ⟨B, hBe⟩ : ∃ B, w1.heap.size = B := ⟨_, rfl⟩
  have hB4 : w4.heap[B]? = some (.cells #[.int .i64 0, .int .i64 0, .string ⟨#[]⟩, .slice none 0 0, .slice none 0 0, .slice none 0 0] 52 (0, 0)) := (hb4.block B (by have := HS.out; have := HB3.out.size; omega)).trans ((HB3.out.block B (by have := HS.out; omega)).trans (hBe ▸ HBB.out))
  obtain ⟨y, hy⟩ : ∃ y, y = Dt.strip false x := ⟨_, rfl⟩
  rw [← hy] at hr4 ⊢
  have HY := Lib.hid hy
  have e0 : w4.cell? ⟨B, 0, none⟩ = some (.int .i64 0) := by rw [Lib.cell_of_heap hB4]; rfl
  have e1 : w4.cell? ⟨B, 1, none⟩ = some (.int .i64 0) := by rw [Lib.cell_of_heap hB4]; rfl
  have e2 : w4.cell? ⟨B, 2, none⟩ = some (.string ⟨#[]⟩) := by rw [Lib.cell_of_heap hB4]; rfl
  have e3 : w4.cell? ⟨B, 3, none⟩ = some (.slice none 0 0) := by rw [Lib.cell_of_heap hB4]; rfl
  have e4 : w4.cell? ⟨B, 4, none⟩ = some (.slice none 0 0) := by rw [Lib.cell_of_heap hB4]; rfl
  have e5 : w4.cell? ⟨B, 5, none⟩ = some (.slice none 0 0) := by rw [Lib.cell_of_heap hB4]; rfl
  have f0 : w4.frozen? ⟨B, 0, none⟩ = false := Lib.frozen_of_heap hB4 0
  have f1 : w4.frozen? ⟨B, 1, none⟩ = false := Lib.frozen_of_heap hB4 1
  have f2 : w4.frozen? ⟨B, 2, none⟩ = false := Lib.frozen_of_heap hB4 2
  have f3 : w4.frozen? ⟨B, 3, none⟩ = false := Lib.frozen_of_heap hB4 3
  have f4 : w4.frozen? ⟨B, 4, none⟩ = false := Lib.frozen_of_heap hB4 4
  have f5 : w4.frozen? ⟨B, 5, none⟩ = false := Lib.frozen_of_heap hB4 5
  obtain ⟨wF, hwF⟩ : ∃ wF, (((((w4.setCell ⟨B, 0, none⟩ (.int .i64 y.k)).setCell ⟨B, 1, none⟩ (.int .i64 y.n)).setCell ⟨B, 2, none⟩ (.string y.s)).setCell ⟨B, 3, none⟩ (.slice b1 m1 p1)).setCell ⟨B, 4, none⟩ (.slice b2 m2 p2)).setCell ⟨B, 5, none⟩ (.slice b3 m3 p3) = wF := ⟨_, rfl⟩
  have hkF : Keep (fun j => j = B) w4 wF := by
    rw [← hwF]
    exact ((((((Keep.refl (fun j => j = B) w4).setCell rfl 0 _).setCell rfl 1 _).setCell rfl 2 _).setCell rfl 3 _).setCell rfl 4 _).setCell rfl 5 _
  have hBF : wF.heap[B]? = some (.cells #[.int .i64 y.k, .int .i64 y.n, .string y.s, .slice b1 m1 p1, .slice b2 m2 p2, .slice b3 m3 p3] 52 (0, 0)) := by
    rw [← hwF]
    exact Dt.bset (Dt.bset (Dt.bset (Dt.bset (Dt.bset (Dt.bset hB4)))))
  have z0 : wF.cell? ⟨B, 0, none⟩ = some (.int .i64 y.k) := by rw [Lib.cell_of_heap hBF]; rfl
  have z1 : wF.cell? ⟨B, 1, none⟩ = some (.int .i64 y.n) := by rw [Lib.cell_of_heap hBF]; rfl
  have z2 : wF.cell? ⟨B, 2, none⟩ = some (.string y.s) := by rw [Lib.cell_of_heap hBF]; rfl
  have z3 : wF.cell? ⟨B, 3, none⟩ = some (.slice b1 m1 p1) := by rw [Lib.cell_of_heap hBF]; rfl
  have z4 : wF.cell? ⟨B, 4, none⟩ = some (.slice b2 m2 p2) := by rw [Lib.cell_of_heap hBF]; rfl
  have z5 : wF.cell? ⟨B, 5, none⟩ = some (.slice b3 m3 p3) := by rw [Lib.cell_of_heap hBF]; rfl
  have hs3 := HB3.out.size
  have HRF : Hid (Dt.Rep (fun j => w.heap.size ≤ j) wF y (.slice b1 m1 p1) (.slice b2 m2 p2) (.slice b3 m3 p3)) := Dt.Rep.mono (fun j hj _ => by have := HS.out; omega) y (Dt.Rep.keep hkF (fun j hj _ e => by have := HS.out; omega) y hr4)
  have HBF : Hid (Below w.heap.size w wF) := ((HB2.out.trans (HB3.out.mono HB2.out.size)).trans (hb4.mono (by have := HS.out; omega))).trans (hkF.to_below (fun j e => by have := HS.out; omega) (by have := HS.out; have := hb4.size; omega))
  clear hB4 hkF hBF hr4 hb4 hs3 hy
  go_wp2
  exact bodyPost_ret (v := .agg #[.int .i64 y.k, .int .i64 y.n, .string y.s, .slice b1 m1 p1, .slice b2 m2 p2, .slice b3 m3 p3]) (by simp [results, Tryz.results39, go_sem, hBe, z0, z1, z2, z3, z4, z5]) rfl (by rw [← HY.out]; exact ⟨⟨_, _, _, rfl, HRF.out⟩, HBF.out⟩)
end Go.Proofs.YtlckjphnbfahgaaGreatDoor
namespace Go.Proofs.YtlckjphnbfahgaaGreatDoor
open Go.RowKit
set_option maxRecDepth 100000 in
set_option maxHeartbeats 2000000 in
theorem SymbolR2_any (s : ByteArray) (w : World) (hs : s.size ≤ 140737488355328) :
    Calls Tryz.prog 40 #[.string s] w fun e w' => e = .returned (.bool (Lx.symbol s.data.toList)) ∧ w = w' := by
  obtain ⟨R, hR⟩ : ∃ R, Lx.symbol s.data.toList = R := ⟨_, rfl⟩
  rw [hR]
  unfold Lx.symbol at hR
  rw [← ByteArray.toList_eq] at hR
  cases h1 : (s.toList == [43])
  case true =>
    have HF : Hid (R = true) := by show _ = _; rw [← hR, h1]; rfl
    clear hR
    go_enter Tryz.func40, Tryz.ntmps40
    go_wp2
    go_ret
    exact ⟨by rw [HF.out]; rfl, rfl⟩
  cases h2 : (s.toList == [45])
  case true =>
    have HF : Hid (R = true) := by show _ = _; rw [← hR, h1, h2]; rfl
    clear hR
    go_enter Tryz.func40, Tryz.ntmps40
    go_wp2
    go_ret
    exact ⟨by rw [HF.out]; rfl, rfl⟩
  cases h3 : (s.toList == [46, 46, 46])
  case true =>
    have HF : Hid (R = true) := by show _ = _; rw [← hR, h1, h2, h3]; rfl
    clear hR
    go_enter Tryz.func40, Tryz.ntmps40
    go_wp2
    go_ret
    exact ⟨by rw [HF.out]; rfl, rfl⟩
  rw [h1, h2, h3, ByteArray.toList_eq] at hR
  simp only [Bool.false_or] at hR
  have hlen : s.data.toList.length = s.size := Fx.size_toList s
  by_cases h0 : s.size = 0
  · have h0i : (s.size : Int) < 1 := by omega
    have HF : Hid (R = false) := by
      show _ = _
      rw [← hR, show s.data.toList = [] from List.length_eq_zero_iff.1 (by omega)]; rfl
    clear hR
    go_enter Tryz.func40, Tryz.ntmps40
    go_wp2
    go_ret
    exact ⟨by rw [HF.out]; rfl, rfl⟩
  have h0i : ¬ (s.size : Int) < 1 := by omega
  have hpos : 0 < s.size := by omega
  by_cases h32 : 32 < s.size
  · have h32i : 32 < (s.size : Int) := by omega
    have HF : Hid (R = false) := by
      show _ = _
      rw [← hR, hlen, decide_eq_false (show ¬ s.size ≤ 32 by omega)]; simp
    clear hR
    go_enter Tryz.func40, Tryz.ntmps40
    go_wp2
    go_ret
    exact ⟨by rw [HF.out]; rfl, rfl⟩
  have h32i : ¬ 32 < (s.size : Int) := by omega
  have hcons : s.data.toList = s[0] :: Lx.tl s 1 := by
    have := Lx.tl_cons s 0 hpos
    rw [← this]; unfold Lx.tl; simp
  have hR2 : R = (Lx.begins s[0] && (Lx.goes s[0] && (Lx.tl s 1).all Lx.goes)) := by
    rw [← hR, hlen, decide_eq_true (show s.size ≤ 32 by omega), hcons]
    simp
  have hl := letterR_any s[0] w
  cases hb : Lx.begins s[0]
  · have HF : Hid (R = false) := by show _ = _; rw [hR2, hb]; rfl
    rw [hb] at hl
    clear hR hR2 hcons hlen
    go_enter Tryz.func40, Tryz.ntmps40
    go_wp2_with fail
    refine hl.mono ?_
    rintro e w1 ⟨rfl, rfl⟩
    go_wp2
    go_ret
    exact ⟨by rw [HF.out]; rfl, rfl⟩
  have H1 : Hid (R = (Lx.tl s 1).all Lx.goes) := by
    show _ = _; rw [hR2, hb, Lx.goes_more, hb]; simp
  rw [hb] at hl
  clear hR hR2 hcons hlen
  go_enter Tryz.func40, Tryz.ntmps40
  go_wp2_with fail
  refine hl.mono ?_
  rintro e w1 ⟨rfl, rfl⟩
  clear hl
  go_wp2_with fail
  go_loop [3] (fun vi => ∃ k : Nat, vi = .int .i64 k ∧ 1 ≤ k ∧ k ≤ s.size ∧ Hid (R = (Lx.tl s k).all Lx.goes)) (fun vi => s.size - (intOf vi).toNat)
  case atStart => exact ⟨1, rfl, by omega, by omega, H1⟩
  case round =>
    obtain ⟨k, rfl, hk1, hk, HR⟩ := hrel
    by_cases hlt : k < s.size
    case neg =>
      have hge : ¬ (k : Int) < (s.size : Int) := by omega
      have HE : Hid (R = true) := by show _ = _; rw [HR.out, Lx.tl_nil s k (by omega)]; rfl
      go_wp2
      go_ret
      exact ⟨by rw [HE.out]; rfl, rfl⟩
    have hlti : (k : Int) < (s.size : Int) := by omega
    have hr := HR.out
    rw [Lx.tl_cons s k hlt, List.all_cons, Lx.goes_more] at hr
    have hl2 := letterR_any s[k] w
    have hi2 := isInR_any s[k] Lx.moreB w (by decide)
    cases hb2 : Lx.begins s[k]
    · rw [hb2] at hl2 hr
      cases hm : Lx.moreB.data.toList.contains s[k]
      · rw [hm] at hi2 hr
        have HE : Hid (R = false) := hr
        clear hr HR hb2 hm
        go_wp2_with fail
        refine hl2.mono ?_
        rintro e w1 ⟨rfl, rfl⟩
        go_wp2_with fail
        refine hi2.mono ?_
        rintro e w1 ⟨rfl, rfl⟩
        go_wp2
        go_ret
        exact ⟨by rw [HE.out]; rfl, rfl⟩
      · rw [hm] at hi2 hr
        have HN : Hid (R = (Lx.tl s (k + 1)).all Lx.goes) := by show _ = _; rw [hr]; simp
        clear hr HR hb2 hm
        go_wp2_with fail
        refine hl2.mono ?_
        rintro e w1 ⟨rfl, rfl⟩
        go_wp2_with fail
        refine hi2.mono ?_
        rintro e w1 ⟨rfl, rfl⟩
        go_wp2
        go_round
        case rel => exact ⟨k + 1, by go_num, by omega, by omega, HN⟩
        case measure => simp [intOf]; omega
    · rw [hb2] at hl2 hr
      have HN : Hid (R = (Lx.tl s (k + 1)).all Lx.goes) := by show _ = _; rw [hr]; simp
      clear hr HR hb2
      go_wp2_with fail
      refine hl2.mono ?_
      rintro e w1 ⟨rfl, rfl⟩
      go_wp2
      go_round
      case rel => exact ⟨k + 1, by go_num, by omega, by omega, HN⟩
      case measure => simp [intOf]; omega
end Go.Proofs.YtlckjphnbfahgaaGreatDoor
namespace Go.Proofs.YtlckjphnbfahgaaGreatDoor
open Go.RowKit
attribute [local go_sem] Oper.semAt_some
namespace Cd
theorem dr {w w' : World} (h : Below w.drew.heap.size w.drew w') : Below w.heap.size w w' := ((Below.refl _ w).drew).trans h
theorem any_take {l : List Dt.D} {d : Dt.D} {k : Nat} : ((l.take k).any fun y => Dt.sameD y d) = true ↔ ∃ i, ∃ h : i < l.length, i < k ∧ Dt.sameD d l[i] = true := by
  rw [List.any_eq_true]
  constructor
  · rintro ⟨y, hy, h⟩
    obtain ⟨i, hi, rfl⟩ := List.getElem_of_mem hy
    rw [List.length_take] at hi
    refine ⟨i, by omega, by omega, ?_⟩
    rw [List.getElem_take] at h
    rw [Dt.sameD_comm]
    exact h
  · rintro ⟨i, hi, hk, h⟩
    refine ⟨l[i], ?_, by rw [Dt.sameD_comm]; exact h⟩
    have hlt : i < (l.take k).length := by rw [List.length_take]; omega
    have e : (l.take k)[i] = l[i] := List.getElem_take
    rw [← e]
    exact List.getElem_mem hlt
theorem cont_take {l : List ByteArray} {s : ByteArray} {k : Nat} : (l.take k).contains s = true ↔ ∃ i, ∃ h : i < l.length, i < k ∧ s = l[i] := by
  rw [List.contains_iff_mem]
  constructor
  · intro hy
    obtain ⟨i, hi, h⟩ := List.getElem_of_mem hy
    rw [List.length_take] at hi
    rw [List.getElem_take] at h
    exact ⟨i, by omega, by omega, h.symm⟩
  · rintro ⟨i, hi, hk, rfl⟩
    have hlt : i < (l.take k).length := by rw [List.length_take]; omega
    have e : (l.take k)[i] = l[i] := List.getElem_take
    rw [← e]
    exact List.getElem_mem hlt
end Cd
set_option maxRecDepth 100000 in
set_option maxHeartbeats 16000000 in
theorem rCheck09_any {F : Nat → Prop} (p : Cd.Prog) (vc vk vn : Value) (w : World) (hp : Cd.PRep F w p vc vk vn) (hw : Cd.PWf p) :
    Calls Tryz.prog 19 #[.agg #[vc, vk, vn]] w fun e w' => e = .returned (.int .i64 (Cd.checkP p)) ∧ Below w.heap.size w w' := by
  obtain ⟨a1, c1, a2, c2, a3, c3, rfl, rfl, rfl⟩ := hp.forms
  obtain ⟨R, hR⟩ : ∃ R, R = Cd.checkP p := ⟨_, rfl⟩
  rw [← hR]
  obtain ⟨w1, hw1⟩ : ∃ w1, w.alloc (.cells #[.slice a1 p.codes.length c1, .slice a2 p.consts.length c2, .slice a3 p.names.length c3] 26) = w1 := ⟨_, rfl⟩
  obtain ⟨hb1, hs1, hbp⟩ := Cd.boxP hw1
  obtain ⟨p0, p1, p2⟩ := hbp w1 (Below.refl _ _)
  have HP := Lib.hid hp
  have HW := Lib.hid hw
  have HNS := Lib.hid hw.wn
  have HB1 := Lib.hid hb1
  have HS1 := Lib.hid hs1
  have HBP := Lib.hid hbp
  have HR := Lib.hid hR
  clear hp hw hb1 hs1 hbp hR
  by_cases l0 : p.codes.length = 0
  · have l0' : decide ((p.codes.length : Int) < 1) = true := decide_eq_true (by omega)
    have HE : Hid (R = 90) := by show _ = _; rw [HR.out]; exact Cd.check_far (.inl l0)
    clear HR l0
    go_enter Tryz.func19, Tryz.ntmps19
    go_wp2
    go_ret
    exact ⟨by rw [HE.out]; rfl, HB1.out⟩
  have l0' : decide ((p.codes.length : Int) < 1) = false := decide_eq_false (by omega)
  by_cases l1 : 1024 < p.codes.length
  · have l1' : decide ((1024 : Int) < (p.codes.length : Int)) = true := decide_eq_true (by omega)
    have HE : Hid (R = 90) := by show _ = _; rw [HR.out]; exact Cd.check_far (.inr (.inl l1))
    clear HR l0 l1
    go_enter Tryz.func19, Tryz.ntmps19
    go_wp2
    go_ret
    exact ⟨by rw [HE.out]; rfl, HB1.out⟩
  have l1' : decide ((1024 : Int) < (p.codes.length : Int)) = false := decide_eq_false (by omega)
  by_cases l2 : 1024 < p.consts.length
  · have l2' : decide ((1024 : Int) < (p.consts.length : Int)) = true := decide_eq_true (by omega)
    have HE : Hid (R = 90) := by show _ = _; rw [HR.out]; exact Cd.check_far (.inr (.inr (.inl l2)))
    clear HR l0 l1 l2
    go_enter Tryz.func19, Tryz.ntmps19
    go_wp2
    go_ret
    exact ⟨by rw [HE.out]; rfl, HB1.out⟩
  have l2' : decide ((1024 : Int) < (p.consts.length : Int)) = false := decide_eq_false (by omega)
  by_cases l3 : 1024 < p.names.length
  · have l3' : decide ((1024 : Int) < (p.names.length : Int)) = true := decide_eq_true (by omega)
    have HE : Hid (R = 90) := by show _ = _; rw [HR.out]; exact Cd.check_far (.inr (.inr (.inr (.inl l3))))
    clear HR l0 l1 l2 l3
    go_enter Tryz.func19, Tryz.ntmps19
    go_wp2
    go_ret
    exact ⟨by rw [HE.out]; rfl, HB1.out⟩
  have l3' : decide ((1024 : Int) < (p.names.length : Int)) = false := decide_eq_false (by omega)
  have hpos : (0 : Int) < (p.codes.length : Int) := by omega
  obtain ⟨b, o, rfl, -, -, x0, -, x2, -⟩ := Cd.code_at (HP.out.below HB1.out).codes 0 (by omega)
  obtain ⟨d, hd⟩ : ∃ d, d = p.codes[0]'(by omega) := ⟨_, rfl⟩
  rw [← hd] at x0 x2
  simp only [Nat.zero_mul, Nat.add_zero] at x0 x2
  have hhd : p.codes.head? = some d := by
    rw [hd, List.head?_eq_getElem?, List.getElem?_eq_getElem (by omega)]
  by_cases h0 : d.params = 0
  case neg =>
    have h0' : (d.params != 0) = true := bne_iff_ne.2 h0
    have HE : Hid (R = 90) := by show _ = _; rw [HR.out]; exact Cd.check_far (.inr (.inr (.inr (.inr (by rw [hhd]; simp [h0])))))
    clear HR l0 l1 l2 l3 h0 hd hhd
    go_enter Tryz.func19, Tryz.ntmps19
    go_wp2
    go_ret
    exact ⟨by rw [HE.out]; rfl, HB1.out⟩
  have h0' : (d.params != 0) = false := bne_eq_false_iff_eq.2 h0
  by_cases h2 : d.caps = 0
  case neg =>
    have h2' : (d.caps != 0) = true := bne_iff_ne.2 h2
    have HE : Hid (R = 90) := by show _ = _; rw [HR.out]; exact Cd.check_far (.inr (.inr (.inr (.inr (by rw [hhd]; simp [h2])))))
    clear HR l0 l1 l2 l3 h0 h2 hd hhd
    go_enter Tryz.func19, Tryz.ntmps19
    go_wp2
    go_ret
    exact ⟨by rw [HE.out]; rfl, HB1.out⟩
  have h2' : (d.caps != 0) = false := bne_eq_false_iff_eq.2 h2
  have HFAR : Hid (¬ Cd.Far p) := by
    show ¬ _
    rintro (h | h | h | h | h)
    · exact l0 h
    · exact l1 h
    · exact l2 h
    · exact l3 h
    · rw [hhd] at h
      simp [h0, h2] at h
  have hl1 : p.codes.length ≤ 1024 := by omega
  have hl2 : p.consts.length ≤ 1024 := by omega
  have hl3 : p.names.length ≤ 1024 := by omega
  clear l0 l1 l2 l3 h0 h2 hd hhd
  go_enter Tryz.func19, Tryz.ntmps19
  go_wp2
  clear l0' l1' l2' l3' h0' h2' x0 x2 p0 p1 p2 hw1
  go_loopw [3] (fun v wr => ∃ k : Nat, v = .int .i64 k ∧ k ≤ p.consts.length ∧ Hid (∀ i, i < k → Cd.constOk p i = true) ∧ Hid (Below w1.heap.size w1 wr)) (fun v _ => p.consts.length - (intOf v).toNat)
  case atStart => exact ⟨0, rfl, by omega, fun i hi => by omega, Below.refl _ _⟩
  case round =>
    obtain ⟨k, rfl, hk, HK, HBR⟩ := hrel
    obtain ⟨p0, p1, p2⟩ := HBP.out _ HBR.out
    by_cases hlt : k < p.consts.length
    · have hlti : (k : Int) < (p.consts.length : Int) := by omega
      have hk0 : (0 : Int) ≤ (k : Int) := by omega
      have HB : Hid (Below w.heap.size w wr) := HB1.out.trans (HBR.out.mono HB1.out.size)
      obtain ⟨b, o, vm, vl, vt, rfl, hbl, ⟨x0, x1, x2, x3, x4, x5⟩, hrep⟩ := Cd.const_at (HP.out.below HB.out).consts k hlt
      have hwf := Cd.wfs_at HW.out.wk k hlt
      have hok := Cd.constOk_at hlt
      have hno := fun h => Cd.check_const k hlt h
      have HXK : Hid (∃ h : k < p.consts.length, True) := ⟨hlt, trivial⟩
      obtain ⟨x, hx⟩ : ∃ x, x = p.consts[k] := ⟨_, rfl⟩
      have HXE := Lib.hid hx
      rw [← hx] at x0 x1 x2 hrep hwf hok
      obtain ⟨⟨am, cm, rfl, _⟩, ⟨al, c_l, rfl, _⟩, ⟨at_, ct, rfl, _⟩⟩ := (Dt.rep_iff _ _ x vm vl vt).1 hrep
      have HKP : Hid (∀ W, Below wr.heap.size wr W → W.cell? ⟨w.heap.size, 1, none⟩ = some (.slice (some ⟨b, o, none⟩) p.consts.length c2) ∧ W.cell? ⟨b, o + k * 6, none⟩ = some (.int .i64 x.k) ∧ W.cell? ⟨b, o + k * 6 + 1, none⟩ = some (.int .i64 x.n) ∧ W.cell? ⟨b, o + k * 6 + 2, none⟩ = some (.string x.s) ∧ W.cell? ⟨b, o + k * 6 + 3, none⟩ = some (.slice am x.m.length cm) ∧ W.cell? ⟨b, o + k * 6 + 4, none⟩ = some (.slice al x.l.length c_l) ∧ W.cell? ⟨b, o + k * 6 + 5, none⟩ = some (.slice at_ x.t.length ct)) := fun W hW => by
        have hc : ∀ i, W.cell? ⟨b, i, none⟩ = wr.cell? ⟨b, i, none⟩ := fun i => hW.cell (p := ⟨b, i, none⟩) hbl
        exact ⟨(HBP.out W (HBR.out.trans (hW.mono HBR.out.size))).2.1, (hc _).trans x0, (hc _).trans x1, (hc _).trans x2, (hc _).trans x3, (hc _).trans x4, (hc _).trans x5⟩
      obtain ⟨C, hC⟩ : ∃ C, Dt.check x = C := ⟨_, rfl⟩
      have HCK : Hid (∀ W, Below wr.heap.size wr W → Calls Tryz.prog 37 #[.agg #[.int .i64 x.k, .int .i64 x.n, .string x.s, .slice am x.m.length cm, .slice al x.l.length c_l, .slice at_ x.t.length ct]] W fun e w' => e = .returned (.int .i64 C) ∧ Below W.heap.size W w') := fun W hW => by
        have := rCheck_any x _ _ _ W hwf (hrep.below hW)
        rw [hC] at this
        exact this
      have HPL : Hid (C = 0 → ∀ W, Below wr.heap.size wr W → Calls Tryz.prog 39 #[.agg #[.int .i64 x.k, .int .i64 x.n, .string x.s, .slice am x.m.length cm, .slice al x.l.length c_l, .slice at_ x.t.length ct]] W fun e w' => Dt.Fresh W.heap.size w' (Dt.strip false x) e ∧ Below W.heap.size W w') := fun h W hW => rPlain_ok x _ _ _ W hwf (hrep.below hW) (hC.trans h)
      obtain ⟨PL, hPL⟩ : ∃ PL, Cd.plainD x = PL := ⟨_, rfl⟩
      obtain ⟨y, hy⟩ : ∃ y, y = Dt.strip false x := ⟨_, rfl⟩
      rw [← hy] at HPL
      have HSM : Hid (C = 0 → ∀ W (um ul ut : Value), Below wr.heap.size wr W → Dt.Rep (fun _ => True) W y um ul ut → Calls Tryz.prog 38 #[.agg #[.int .i64 x.k, .int .i64 x.n, .string x.s, .slice am x.m.length cm, .slice al x.l.length c_l, .slice at_ x.t.length ct], .agg #[.int .i64 y.k, .int .i64 y.n, .string y.s, um, ul, ut]] W fun e w' => e = .returned (.bool PL) ∧ Below W.heap.size W w') := fun h W um ul ut hW hr => by
        have := rSame_any x y _ _ _ um ul ut W hwf (by rw [hy]; exact Dt.strip_wf x hwf) (hrep.below hW) hr
        rw [hy, Dt.same_plain (hC.trans h), hPL] at this
        rw [hy]
        exact this
      have HCP : Hid (C ≠ 0 → PL = false) := fun h => by
        rw [← hPL]
        unfold Cd.plainD
        rw [hC, decide_eq_false h]
        rfl
      rw [hPL] at hok
      obtain ⟨A, hA⟩ : ∃ A, ((p.consts.take k).any fun y => Dt.sameD y x) = A := ⟨_, rfl⟩
      rw [hA] at hok
      have HA := Lib.hid hA
      have HOK := Lib.hid hok
      have HNO := Lib.hid hno
      have HS0 := HKP.out _ ((Below.refl _ wr).drew)
      have HWFX := Lib.hid hwf
      have HREP := Lib.hid hrep
      have HBL := Lib.hid hbl
      clear hx hwf hok hno hC hPL hy hA hrep
      by_cases hc0 : C = 0
      case neg =>
        have hcb : (C != 0) = true := bne_iff_ne.2 hc0
        have HE : Hid (R = 90) := by show _ = _; rw [HR.out]; exact HNO.out (by rw [HOK.out, HCP.out hc0]; rfl)
        clear HR HNO HOK
        go_wp2_with fail
        clear x0 x1 x2 x3 x4 x5 p0 p1 p2
        refine wp_region_noPanic ?_
        refine wp_region_held_drew (S := fun W => W.cell? ⟨w.heap.size, 1, none⟩ = some (.slice (some ⟨b, o, none⟩) p.consts.length c2) ∧ W.cell? ⟨b, o + k * 6, none⟩ = some (.int .i64 x.k) ∧ W.cell? ⟨b, o + k * 6 + 1, none⟩ = some (.int .i64 x.n) ∧ W.cell? ⟨b, o + k * 6 + 2, none⟩ = some (.string x.s) ∧ W.cell? ⟨b, o + k * 6 + 3, none⟩ = some (.slice am x.m.length cm) ∧ W.cell? ⟨b, o + k * 6 + 4, none⟩ = some (.slice al x.l.length c_l) ∧ W.cell? ⟨b, o + k * 6 + 5, none⟩ = some (.slice at_ x.t.length ct)) (by kernel_rfl) HS0 (fun hHeld => ?_)
        refine wpAnyH_take (i := 0) (oi := ⟨_, _, _, _, _, _⟩) (v := ?_) rfl (by kernel_rfl) (by kernel_rfl) (by kernel_rfl) (fun _ _ _ h => h) (Or.inl ⟨by rfl, ?_⟩) (by assumption) ?_
        rotate_left
        · intro w hSw
          clear hSw
          go_simp
          try with_reducible rfl
        simp only [Act.put, List.setIfInBounds_toArray, List.set_cons_zero, List.set_cons_succ]
        refine wpAnyH_take (i := 2) (oi := ⟨_, _, _, _, _, _⟩) (v := ?_) rfl (by kernel_rfl) (by kernel_rfl) (by kernel_rfl) (fun _ _ _ h => h) (Or.inl ⟨by rfl, ?_⟩) (by assumption) ?_
        rotate_left
        · intro w hSw
          clear hSw
          go_simp
          try with_reducible rfl
        simp only [Act.put, List.setIfInBounds_toArray, List.set_cons_zero, List.set_cons_succ]
        refine wpAnyH_take (i := 1) (oi := ⟨_, _, _, _, _, _⟩) (v := ?_) rfl (by kernel_rfl) (by kernel_rfl) (by kernel_rfl) (fun _ _ _ h => h) (Or.inl ⟨by rfl, ?_⟩) (by assumption) ?_
        rotate_left
        · intro w hSw
          obtain ⟨s0, s1, s2, s3, s4, s5, s6⟩ := hSw
          go_simp
          try with_reducible rfl
        simp only [Act.put, List.setIfInBounds_toArray, List.set_cons_zero, List.set_cons_succ]
        refine wpAnyH_take (i := 3) (oi := ⟨_, _, _, _, _, _⟩) (v := ?_) rfl (by kernel_rfl) (by kernel_rfl) (by kernel_rfl) (fun _ _ _ h => h) (Or.inl ⟨by rfl, ?_⟩) (by assumption) ?_
        rotate_left
        · intro w hSw
          clear hSw
          go_simp
          try with_reducible rfl
        simp only [Act.put, List.setIfInBounds_toArray, List.set_cons_zero, List.set_cons_succ]
        refine wpAnyH_take (i := 4) (oi := ⟨_, _, _, _, _, _⟩) (v := ?_) rfl (by kernel_rfl) (by kernel_rfl) (by kernel_rfl) (fun _ _ _ h => h) (Or.inl ⟨by rfl, ?_⟩) (by assumption) ?_
        rotate_left
        · intro w hSw
          obtain ⟨s0, s1, s2, s3, s4, s5, s6⟩ := hSw
          go_simp
          try with_reducible rfl
        simp only [Act.put, List.setIfInBounds_toArray, List.set_cons_zero, List.set_cons_succ]
        refine wpAnyH_ready (rs := [5]) (by kernel_rfl) (by simp) ?_
        refine AllReadyH.cons (o := ⟨_, _, _, _, _, _⟩) rfl (fun K hK => ?_) AllReadyH.nil
        go_simp
        refine (HCK.out _ ((Below.refl _ _).drew)).mono ?_
        rintro e w7 ⟨rfl, hb7⟩
        have HB7 : Hid (Below wr.heap.size wr w7) := Cd.dr hb7
        clear hb7
        dsimp only
        refine hK.out _ _ ?_ (fun hHeld => ?_)
        · exact HKP.out _ HB7.out
        clear hK K
        try simp only [Act.put, List.setIfInBounds_toArray, List.set_cons_zero, List.set_cons_succ]
        refine wpAnyH_take (i := 6) (oi := ⟨_, _, _, _, _, _⟩) (v := .bool true) rfl (by kernel_rfl) (by kernel_rfl) (by kernel_rfl) (fun _ _ _ h => h) (Or.inl ⟨by rfl, ?_⟩) (by assumption) ?_
        · intro w hSw
          clear hSw
          go_simp
          try with_reducible rfl
        simp only [Act.put, List.setIfInBounds_toArray, List.set_cons_zero, List.set_cons_succ]
        refine wpAnyH_take (i := 7) (oi := ⟨_, _, _, _, _, _⟩) (v := .bool true) rfl (by kernel_rfl) (by kernel_rfl) (by kernel_rfl) (fun _ _ _ h => h) (Or.inl ⟨by rfl, ?_⟩) (by assumption) ?_
        · intro w hSw
          clear hSw
          go_simp
          try with_reducible rfl
        simp only [Act.put, List.setIfInBounds_toArray, List.set_cons_zero, List.set_cons_succ]
        refine wpAnyH_take (i := 8) (oi := ⟨_, _, _, _, _, _⟩) (v := undef) rfl (by kernel_rfl) (by kernel_rfl) (by kernel_rfl) (fun _ _ _ h => h) (Or.inr ⟨by rfl, rfl⟩) (by assumption) ?_
        simp only [Act.put, List.setIfInBounds_toArray, List.set_cons_zero, List.set_cons_succ]
        refine wpAnyH_take (i := 9) (oi := ⟨_, _, _, _, _, _⟩) (v := undef) rfl (by kernel_rfl) (by kernel_rfl) (by kernel_rfl) (fun _ _ _ h => h) (Or.inr ⟨by rfl, rfl⟩) (by assumption) ?_
        simp only [Act.put, List.setIfInBounds_toArray, List.set_cons_zero, List.set_cons_succ]
        refine wpAnyH_take (i := 10) (oi := ⟨_, _, _, _, _, _⟩) (v := undef) rfl (by kernel_rfl) (by kernel_rfl) (by kernel_rfl) (fun _ _ _ h => h) (Or.inr ⟨by rfl, rfl⟩) (by assumption) ?_
        simp only [Act.put, List.setIfInBounds_toArray, List.set_cons_zero, List.set_cons_succ]
        refine wpAnyH_take (i := 11) (oi := ⟨_, _, _, _, _, _⟩) (v := undef) rfl (by kernel_rfl) (by kernel_rfl) (by kernel_rfl) (fun _ _ _ h => h) (Or.inr ⟨by rfl, rfl⟩) (by assumption) ?_
        simp only [Act.put, List.setIfInBounds_toArray, List.set_cons_zero, List.set_cons_succ]
        refine wpAnyH_take (i := 12) (oi := ⟨_, _, _, _, _, _⟩) (v := undef) rfl (by kernel_rfl) (by kernel_rfl) (by kernel_rfl) (fun _ _ _ h => h) (Or.inr ⟨by rfl, rfl⟩) (by assumption) ?_
        simp only [Act.put, List.setIfInBounds_toArray, List.set_cons_zero, List.set_cons_succ]
        refine wpAnyH_take (i := 13) (oi := ⟨_, _, _, _, _, _⟩) (v := undef) rfl (by kernel_rfl) (by kernel_rfl) (by kernel_rfl) (fun _ _ _ h => h) (Or.inr ⟨by rfl, rfl⟩) (by assumption) ?_
        simp only [Act.put, List.setIfInBounds_toArray, List.set_cons_zero, List.set_cons_succ]
        refine wpAnyH_take (i := 14) (oi := ⟨_, _, _, _, _, _⟩) (v := undef) rfl (by kernel_rfl) (by kernel_rfl) (by kernel_rfl) (fun _ _ _ h => h) (Or.inr ⟨by rfl, rfl⟩) (by assumption) ?_
        simp only [Act.put, List.setIfInBounds_toArray, List.set_cons_zero, List.set_cons_succ]
        refine wpAnyH_take (i := 15) (oi := ⟨_, _, _, _, _, _⟩) (v := undef) rfl (by kernel_rfl) (by kernel_rfl) (by kernel_rfl) (fun _ _ _ h => h) (Or.inr ⟨by rfl, rfl⟩) (by assumption) ?_
        simp only [Act.put, List.setIfInBounds_toArray, List.set_cons_zero, List.set_cons_succ]
        refine wpAnyH_take (i := 16) (oi := ⟨_, _, _, _, _, _⟩) (v := undef) rfl (by kernel_rfl) (by kernel_rfl) (by kernel_rfl) (fun _ _ _ h => h) (Or.inr ⟨by rfl, rfl⟩) (by assumption) ?_
        simp only [Act.put, List.setIfInBounds_toArray, List.set_cons_zero, List.set_cons_succ]
        refine wpAnyH_take (i := 17) (oi := ⟨_, _, _, _, _, _⟩) (v := undef) rfl (by kernel_rfl) (by kernel_rfl) (by kernel_rfl) (fun _ _ _ h => h) (Or.inr ⟨by rfl, rfl⟩) (by assumption) ?_
        simp only [Act.put, List.setIfInBounds_toArray, List.set_cons_zero, List.set_cons_succ]
        refine wpAnyH_ready (rs := [18]) (by kernel_rfl) (by simp) ?_
        refine AllReadyH.cons (o := ⟨_, _, _, _, _, _⟩) rfl (fun K hK => ?_) AllReadyH.nil
        go_simp
        refine hK.out _ _ ?_ (fun hHeld => ?_)
        · exact HKP.out _ HB7.out
        clear hK K
        try simp only [Act.put, List.setIfInBounds_toArray, List.set_cons_zero, List.set_cons_succ]
        refine wpAnyH_ready (rs := [19]) (by kernel_rfl) (by simp) ?_
        refine AllReadyH.cons (o := ⟨_, _, _, _, _, _⟩) rfl (fun K hK => ?_) AllReadyH.nil
        go_simp
        refine hK.out _ _ ?_ (fun hHeld => ?_)
        · exact HKP.out _ HB7.out
        clear hK K
        try simp only [Act.put, List.setIfInBounds_toArray, List.set_cons_zero, List.set_cons_succ]
        refine wpAnyH_take (i := 20) (oi := ⟨_, _, _, _, _, _⟩) (v := undef) rfl (by kernel_rfl) (by kernel_rfl) (by kernel_rfl) (fun _ _ _ h => h) (Or.inr ⟨by rfl, rfl⟩) (by assumption) ?_
        simp only [Act.put, List.setIfInBounds_toArray, List.set_cons_zero, List.set_cons_succ]
        refine wpAnyH_take (i := 21) (oi := ⟨_, _, _, _, _, _⟩) (v := ?_) rfl (by kernel_rfl) (by kernel_rfl) (by kernel_rfl) (fun _ _ _ h => h) (Or.inl ⟨by rfl, ?_⟩) (by assumption) ?_
        rotate_left
        · intro w hSw
          clear hSw
          go_simp
          try with_reducible rfl
        simp only [Act.put, List.setIfInBounds_toArray, List.set_cons_zero, List.set_cons_succ]
        refine wpAnyH_done (by kernel_rfl) ?_ _
        refine NoPanic.normal ?_
        go_wp2
        go_ret
        exact ⟨by rw [HE.out]; rfl, HB.out.trans (HB7.out.mono HB.out.size)⟩
      subst hc0
      cases PL with
      | false =>
        have HE : Hid (R = 90) := by show _ = _; rw [HR.out]; exact HNO.out (by rw [HOK.out]; rfl)
        clear HR HNO HOK
        go_wp2_with fail
        clear x0 x1 x2 x3 x4 x5 p0 p1 p2
        refine wp_region_noPanic ?_
        refine wp_region_held_drew (S := fun W => W.cell? ⟨w.heap.size, 1, none⟩ = some (.slice (some ⟨b, o, none⟩) p.consts.length c2) ∧ W.cell? ⟨b, o + k * 6, none⟩ = some (.int .i64 x.k) ∧ W.cell? ⟨b, o + k * 6 + 1, none⟩ = some (.int .i64 x.n) ∧ W.cell? ⟨b, o + k * 6 + 2, none⟩ = some (.string x.s) ∧ W.cell? ⟨b, o + k * 6 + 3, none⟩ = some (.slice am x.m.length cm) ∧ W.cell? ⟨b, o + k * 6 + 4, none⟩ = some (.slice al x.l.length c_l) ∧ W.cell? ⟨b, o + k * 6 + 5, none⟩ = some (.slice at_ x.t.length ct)) (by kernel_rfl) HS0 (fun hHeld => ?_)
        refine wpAnyH_take (i := 0) (oi := ⟨_, _, _, _, _, _⟩) (v := ?_) rfl (by kernel_rfl) (by kernel_rfl) (by kernel_rfl) (fun _ _ _ h => h) (Or.inl ⟨by rfl, ?_⟩) (by assumption) ?_
        rotate_left
        · intro w hSw
          clear hSw
          go_simp
          try with_reducible rfl
        simp only [Act.put, List.setIfInBounds_toArray, List.set_cons_zero, List.set_cons_succ]
        refine wpAnyH_take (i := 2) (oi := ⟨_, _, _, _, _, _⟩) (v := ?_) rfl (by kernel_rfl) (by kernel_rfl) (by kernel_rfl) (fun _ _ _ h => h) (Or.inl ⟨by rfl, ?_⟩) (by assumption) ?_
        rotate_left
        · intro w hSw
          clear hSw
          go_simp
          try with_reducible rfl
        simp only [Act.put, List.setIfInBounds_toArray, List.set_cons_zero, List.set_cons_succ]
        refine wpAnyH_take (i := 1) (oi := ⟨_, _, _, _, _, _⟩) (v := ?_) rfl (by kernel_rfl) (by kernel_rfl) (by kernel_rfl) (fun _ _ _ h => h) (Or.inl ⟨by rfl, ?_⟩) (by assumption) ?_
        rotate_left
        · intro w hSw
          obtain ⟨s0, s1, s2, s3, s4, s5, s6⟩ := hSw
          go_simp
          try with_reducible rfl
        simp only [Act.put, List.setIfInBounds_toArray, List.set_cons_zero, List.set_cons_succ]
        refine wpAnyH_take (i := 3) (oi := ⟨_, _, _, _, _, _⟩) (v := ?_) rfl (by kernel_rfl) (by kernel_rfl) (by kernel_rfl) (fun _ _ _ h => h) (Or.inl ⟨by rfl, ?_⟩) (by assumption) ?_
        rotate_left
        · intro w hSw
          clear hSw
          go_simp
          try with_reducible rfl
        simp only [Act.put, List.setIfInBounds_toArray, List.set_cons_zero, List.set_cons_succ]
        refine wpAnyH_take (i := 4) (oi := ⟨_, _, _, _, _, _⟩) (v := ?_) rfl (by kernel_rfl) (by kernel_rfl) (by kernel_rfl) (fun _ _ _ h => h) (Or.inl ⟨by rfl, ?_⟩) (by assumption) ?_
        rotate_left
        · intro w hSw
          obtain ⟨s0, s1, s2, s3, s4, s5, s6⟩ := hSw
          go_simp
          try with_reducible rfl
        simp only [Act.put, List.setIfInBounds_toArray, List.set_cons_zero, List.set_cons_succ]
        refine wpAnyH_ready (rs := [5]) (by kernel_rfl) (by simp) ?_
        refine AllReadyH.cons (o := ⟨_, _, _, _, _, _⟩) rfl (fun K hK => ?_) AllReadyH.nil
        go_simp
        refine (HCK.out _ ((Below.refl _ _).drew)).mono ?_
        rintro e w7 ⟨rfl, hb7⟩
        have HB7 : Hid (Below wr.heap.size wr w7) := Cd.dr hb7
        clear hb7
        dsimp only
        refine hK.out _ _ ?_ (fun hHeld => ?_)
        · exact HKP.out _ HB7.out
        clear hK K
        try simp only [Act.put, List.setIfInBounds_toArray, List.set_cons_zero, List.set_cons_succ]
        refine wpAnyH_take (i := 6) (oi := ⟨_, _, _, _, _, _⟩) (v := .bool false) rfl (by kernel_rfl) (by kernel_rfl) (by kernel_rfl) (fun _ _ _ h => h) (Or.inl ⟨by rfl, ?_⟩) (by assumption) ?_
        · intro w hSw
          clear hSw
          go_simp
          try with_reducible rfl
        simp only [Act.put, List.setIfInBounds_toArray, List.set_cons_zero, List.set_cons_succ]
        refine wpAnyH_take (i := 7) (oi := ⟨_, _, _, _, _, _⟩) (v := .bool false) rfl (by kernel_rfl) (by kernel_rfl) (by kernel_rfl) (fun _ _ _ h => h) (Or.inl ⟨by rfl, ?_⟩) (by assumption) ?_
        · intro w hSw
          clear hSw
          go_simp
          try with_reducible rfl
        simp only [Act.put, List.setIfInBounds_toArray, List.set_cons_zero, List.set_cons_succ]
        refine wpAnyH_take (i := 8) (oi := ⟨_, _, _, _, _, _⟩) (v := ?_) rfl (by kernel_rfl) (by kernel_rfl) (by kernel_rfl) (fun _ _ _ h => h) (Or.inl ⟨by rfl, ?_⟩) (by assumption) ?_
        rotate_left
        · intro w hSw
          clear hSw
          go_simp
          try with_reducible rfl
        simp only [Act.put, List.setIfInBounds_toArray, List.set_cons_zero, List.set_cons_succ]
        refine wpAnyH_take (i := 10) (oi := ⟨_, _, _, _, _, _⟩) (v := ?_) rfl (by kernel_rfl) (by kernel_rfl) (by kernel_rfl) (fun _ _ _ h => h) (Or.inl ⟨by rfl, ?_⟩) (by assumption) ?_
        rotate_left
        · intro w hSw
          clear hSw
          go_simp
          try with_reducible rfl
        simp only [Act.put, List.setIfInBounds_toArray, List.set_cons_zero, List.set_cons_succ]
        refine wpAnyH_take (i := 13) (oi := ⟨_, _, _, _, _, _⟩) (v := ?_) rfl (by kernel_rfl) (by kernel_rfl) (by kernel_rfl) (fun _ _ _ h => h) (Or.inl ⟨by rfl, ?_⟩) (by assumption) ?_
        rotate_left
        · intro w hSw
          clear hSw
          go_simp
          try with_reducible rfl
        simp only [Act.put, List.setIfInBounds_toArray, List.set_cons_zero, List.set_cons_succ]
        refine wpAnyH_take (i := 15) (oi := ⟨_, _, _, _, _, _⟩) (v := ?_) rfl (by kernel_rfl) (by kernel_rfl) (by kernel_rfl) (fun _ _ _ h => h) (Or.inl ⟨by rfl, ?_⟩) (by assumption) ?_
        rotate_left
        · intro w hSw
          clear hSw
          go_simp
          try with_reducible rfl
        simp only [Act.put, List.setIfInBounds_toArray, List.set_cons_zero, List.set_cons_succ]
        refine wpAnyH_take (i := 9) (oi := ⟨_, _, _, _, _, _⟩) (v := ?_) rfl (by kernel_rfl) (by kernel_rfl) (by kernel_rfl) (fun _ _ _ h => h) (Or.inl ⟨by rfl, ?_⟩) (by assumption) ?_
        rotate_left
        · intro w hSw
          obtain ⟨s0, s1, s2, s3, s4, s5, s6⟩ := hSw
          go_simp
          try with_reducible rfl
        simp only [Act.put, List.setIfInBounds_toArray, List.set_cons_zero, List.set_cons_succ]
        refine wpAnyH_take (i := 14) (oi := ⟨_, _, _, _, _, _⟩) (v := ?_) rfl (by kernel_rfl) (by kernel_rfl) (by kernel_rfl) (fun _ _ _ h => h) (Or.inl ⟨by rfl, ?_⟩) (by assumption) ?_
        rotate_left
        · intro w hSw
          obtain ⟨s0, s1, s2, s3, s4, s5, s6⟩ := hSw
          go_simp
          try with_reducible rfl
        simp only [Act.put, List.setIfInBounds_toArray, List.set_cons_zero, List.set_cons_succ]
        refine wpAnyH_take (i := 11) (oi := ⟨_, _, _, _, _, _⟩) (v := ?_) rfl (by kernel_rfl) (by kernel_rfl) (by kernel_rfl) (fun _ _ _ h => h) (Or.inl ⟨by rfl, ?_⟩) (by assumption) ?_
        rotate_left
        · intro w hSw
          clear hSw
          go_simp
          try with_reducible rfl
        simp only [Act.put, List.setIfInBounds_toArray, List.set_cons_zero, List.set_cons_succ]
        refine wpAnyH_take (i := 16) (oi := ⟨_, _, _, _, _, _⟩) (v := ?_) rfl (by kernel_rfl) (by kernel_rfl) (by kernel_rfl) (fun _ _ _ h => h) (Or.inl ⟨by rfl, ?_⟩) (by assumption) ?_
        rotate_left
        · intro w hSw
          clear hSw
          go_simp
          try with_reducible rfl
        simp only [Act.put, List.setIfInBounds_toArray, List.set_cons_zero, List.set_cons_succ]
        refine wpAnyH_take (i := 12) (oi := ⟨_, _, _, _, _, _⟩) (v := ?_) rfl (by kernel_rfl) (by kernel_rfl) (by kernel_rfl) (fun _ _ _ h => h) (Or.inl ⟨by rfl, ?_⟩) (by assumption) ?_
        rotate_left
        · intro w hSw
          obtain ⟨s0, s1, s2, s3, s4, s5, s6⟩ := hSw
          go_simp
          try with_reducible rfl
        simp only [Act.put, List.setIfInBounds_toArray, List.set_cons_zero, List.set_cons_succ]
        refine wpAnyH_take (i := 17) (oi := ⟨_, _, _, _, _, _⟩) (v := ?_) rfl (by kernel_rfl) (by kernel_rfl) (by kernel_rfl) (fun _ _ _ h => h) (Or.inl ⟨by rfl, ?_⟩) (by assumption) ?_
        rotate_left
        · intro w hSw
          obtain ⟨s0, s1, s2, s3, s4, s5, s6⟩ := hSw
          go_simp
          try with_reducible rfl
        simp only [Act.put, List.setIfInBounds_toArray, List.set_cons_zero, List.set_cons_succ]
        refine wpAnyH_ready (rs := [18]) (by kernel_rfl) (by simp) ?_
        refine AllReadyH.cons (o := ⟨_, _, _, _, _, _⟩) rfl (fun K hK => ?_) AllReadyH.nil
        go_simp
        refine (HPL.out (by first | rfl | trivial) _ HB7.out).mono ?_
        rintro e w8 ⟨⟨um, ul, ut, rfl, hr8⟩, hb8⟩
        obtain ⟨b1, m1, q1, b2, m2, q2, b3, m3, q3, rfl, rfl, rfl⟩ := hr8.forms
        have HB8 : Hid (Below wr.heap.size wr w8) := HB7.out.trans (hb8.mono HB7.out.size)
        have HR8 : Hid (Dt.Rep (fun _ => True) w8 y (.slice b1 m1 q1) (.slice b2 m2 q2) (.slice b3 m3 q3)) := Dt.Rep.mono (fun _ _ _ => trivial) y hr8
        clear hr8 hb8
        dsimp only
        refine hK.out _ _ ?_ (fun hHeld => ?_)
        · exact HKP.out _ HB8.out
        clear hK K
        try simp only [Act.put, List.setIfInBounds_toArray, List.set_cons_zero, List.set_cons_succ]
        refine wpAnyH_ready (rs := [19]) (by kernel_rfl) (by simp) ?_
        refine AllReadyH.cons (o := ⟨_, _, _, _, _, _⟩) rfl (fun K hK => ?_) AllReadyH.nil
        go_simp
        refine (HSM.out (by first | rfl | trivial) _ _ _ _ HB8.out HR8.out).mono ?_
        rintro e w9 ⟨rfl, hb9⟩
        have HB9 : Hid (Below wr.heap.size wr w9) := HB8.out.trans (hb9.mono HB8.out.size)
        clear hb9
        dsimp only
        refine hK.out _ _ ?_ (fun hHeld => ?_)
        · exact HKP.out _ HB9.out
        clear hK K
        try simp only [Act.put, List.setIfInBounds_toArray, List.set_cons_zero, List.set_cons_succ]
        refine wpAnyH_take (i := 20) (oi := ⟨_, _, _, _, _, _⟩) (v := ?_) rfl (by kernel_rfl) (by kernel_rfl) (by kernel_rfl) (fun _ _ _ h => h) (Or.inl ⟨by rfl, ?_⟩) (by assumption) ?_
        rotate_left
        · intro w hSw
          clear hSw
          go_simp
          try with_reducible rfl
        simp only [Act.put, List.setIfInBounds_toArray, List.set_cons_zero, List.set_cons_succ]
        refine wpAnyH_take (i := 21) (oi := ⟨_, _, _, _, _, _⟩) (v := ?_) rfl (by kernel_rfl) (by kernel_rfl) (by kernel_rfl) (fun _ _ _ h => h) (Or.inl ⟨by rfl, ?_⟩) (by assumption) ?_
        rotate_left
        · intro w hSw
          clear hSw
          go_simp
          try with_reducible rfl
        simp only [Act.put, List.setIfInBounds_toArray, List.set_cons_zero, List.set_cons_succ]
        refine wpAnyH_done (by kernel_rfl) ?_ _
        refine NoPanic.normal ?_
        go_wp2
        go_ret
        exact ⟨by rw [HE.out]; rfl, HB.out.trans (HB9.out.mono HB.out.size)⟩
      | true =>
        go_wp2_with fail
        clear x0 x1 x2 x3 x4 x5 p0 p1 p2
        refine wp_region_noPanic ?_
        refine wp_region_held_drew (S := fun W => W.cell? ⟨w.heap.size, 1, none⟩ = some (.slice (some ⟨b, o, none⟩) p.consts.length c2) ∧ W.cell? ⟨b, o + k * 6, none⟩ = some (.int .i64 x.k) ∧ W.cell? ⟨b, o + k * 6 + 1, none⟩ = some (.int .i64 x.n) ∧ W.cell? ⟨b, o + k * 6 + 2, none⟩ = some (.string x.s) ∧ W.cell? ⟨b, o + k * 6 + 3, none⟩ = some (.slice am x.m.length cm) ∧ W.cell? ⟨b, o + k * 6 + 4, none⟩ = some (.slice al x.l.length c_l) ∧ W.cell? ⟨b, o + k * 6 + 5, none⟩ = some (.slice at_ x.t.length ct)) (by kernel_rfl) HS0 (fun hHeld => ?_)
        refine wpAnyH_take (i := 0) (oi := ⟨_, _, _, _, _, _⟩) (v := ?_) rfl (by kernel_rfl) (by kernel_rfl) (by kernel_rfl) (fun _ _ _ h => h) (Or.inl ⟨by rfl, ?_⟩) (by assumption) ?_
        rotate_left
        · intro w hSw
          clear hSw
          go_simp
          try with_reducible rfl
        simp only [Act.put, List.setIfInBounds_toArray, List.set_cons_zero, List.set_cons_succ]
        refine wpAnyH_take (i := 2) (oi := ⟨_, _, _, _, _, _⟩) (v := ?_) rfl (by kernel_rfl) (by kernel_rfl) (by kernel_rfl) (fun _ _ _ h => h) (Or.inl ⟨by rfl, ?_⟩) (by assumption) ?_
        rotate_left
        · intro w hSw
          clear hSw
          go_simp
          try with_reducible rfl
        simp only [Act.put, List.setIfInBounds_toArray, List.set_cons_zero, List.set_cons_succ]
        refine wpAnyH_take (i := 1) (oi := ⟨_, _, _, _, _, _⟩) (v := ?_) rfl (by kernel_rfl) (by kernel_rfl) (by kernel_rfl) (fun _ _ _ h => h) (Or.inl ⟨by rfl, ?_⟩) (by assumption) ?_
        rotate_left
        · intro w hSw
          obtain ⟨s0, s1, s2, s3, s4, s5, s6⟩ := hSw
          go_simp
          try with_reducible rfl
        simp only [Act.put, List.setIfInBounds_toArray, List.set_cons_zero, List.set_cons_succ]
        refine wpAnyH_take (i := 3) (oi := ⟨_, _, _, _, _, _⟩) (v := ?_) rfl (by kernel_rfl) (by kernel_rfl) (by kernel_rfl) (fun _ _ _ h => h) (Or.inl ⟨by rfl, ?_⟩) (by assumption) ?_
        rotate_left
        · intro w hSw
          clear hSw
          go_simp
          try with_reducible rfl
        simp only [Act.put, List.setIfInBounds_toArray, List.set_cons_zero, List.set_cons_succ]
        refine wpAnyH_take (i := 4) (oi := ⟨_, _, _, _, _, _⟩) (v := ?_) rfl (by kernel_rfl) (by kernel_rfl) (by kernel_rfl) (fun _ _ _ h => h) (Or.inl ⟨by rfl, ?_⟩) (by assumption) ?_
        rotate_left
        · intro w hSw
          obtain ⟨s0, s1, s2, s3, s4, s5, s6⟩ := hSw
          go_simp
          try with_reducible rfl
        simp only [Act.put, List.setIfInBounds_toArray, List.set_cons_zero, List.set_cons_succ]
        refine wpAnyH_ready (rs := [5]) (by kernel_rfl) (by simp) ?_
        refine AllReadyH.cons (o := ⟨_, _, _, _, _, _⟩) rfl (fun K hK => ?_) AllReadyH.nil
        go_simp
        refine (HCK.out _ ((Below.refl _ _).drew)).mono ?_
        rintro e w7 ⟨rfl, hb7⟩
        have HB7 : Hid (Below wr.heap.size wr w7) := Cd.dr hb7
        clear hb7
        dsimp only
        refine hK.out _ _ ?_ (fun hHeld => ?_)
        · exact HKP.out _ HB7.out
        clear hK K
        try simp only [Act.put, List.setIfInBounds_toArray, List.set_cons_zero, List.set_cons_succ]
        refine wpAnyH_take (i := 6) (oi := ⟨_, _, _, _, _, _⟩) (v := .bool false) rfl (by kernel_rfl) (by kernel_rfl) (by kernel_rfl) (fun _ _ _ h => h) (Or.inl ⟨by rfl, ?_⟩) (by assumption) ?_
        · intro w hSw
          clear hSw
          go_simp
          try with_reducible rfl
        simp only [Act.put, List.setIfInBounds_toArray, List.set_cons_zero, List.set_cons_succ]
        refine wpAnyH_take (i := 7) (oi := ⟨_, _, _, _, _, _⟩) (v := .bool false) rfl (by kernel_rfl) (by kernel_rfl) (by kernel_rfl) (fun _ _ _ h => h) (Or.inl ⟨by rfl, ?_⟩) (by assumption) ?_
        · intro w hSw
          clear hSw
          go_simp
          try with_reducible rfl
        simp only [Act.put, List.setIfInBounds_toArray, List.set_cons_zero, List.set_cons_succ]
        refine wpAnyH_take (i := 8) (oi := ⟨_, _, _, _, _, _⟩) (v := ?_) rfl (by kernel_rfl) (by kernel_rfl) (by kernel_rfl) (fun _ _ _ h => h) (Or.inl ⟨by rfl, ?_⟩) (by assumption) ?_
        rotate_left
        · intro w hSw
          clear hSw
          go_simp
          try with_reducible rfl
        simp only [Act.put, List.setIfInBounds_toArray, List.set_cons_zero, List.set_cons_succ]
        refine wpAnyH_take (i := 10) (oi := ⟨_, _, _, _, _, _⟩) (v := ?_) rfl (by kernel_rfl) (by kernel_rfl) (by kernel_rfl) (fun _ _ _ h => h) (Or.inl ⟨by rfl, ?_⟩) (by assumption) ?_
        rotate_left
        · intro w hSw
          clear hSw
          go_simp
          try with_reducible rfl
        simp only [Act.put, List.setIfInBounds_toArray, List.set_cons_zero, List.set_cons_succ]
        refine wpAnyH_take (i := 13) (oi := ⟨_, _, _, _, _, _⟩) (v := ?_) rfl (by kernel_rfl) (by kernel_rfl) (by kernel_rfl) (fun _ _ _ h => h) (Or.inl ⟨by rfl, ?_⟩) (by assumption) ?_
        rotate_left
        · intro w hSw
          clear hSw
          go_simp
          try with_reducible rfl
        simp only [Act.put, List.setIfInBounds_toArray, List.set_cons_zero, List.set_cons_succ]
        refine wpAnyH_take (i := 15) (oi := ⟨_, _, _, _, _, _⟩) (v := ?_) rfl (by kernel_rfl) (by kernel_rfl) (by kernel_rfl) (fun _ _ _ h => h) (Or.inl ⟨by rfl, ?_⟩) (by assumption) ?_
        rotate_left
        · intro w hSw
          clear hSw
          go_simp
          try with_reducible rfl
        simp only [Act.put, List.setIfInBounds_toArray, List.set_cons_zero, List.set_cons_succ]
        refine wpAnyH_take (i := 9) (oi := ⟨_, _, _, _, _, _⟩) (v := ?_) rfl (by kernel_rfl) (by kernel_rfl) (by kernel_rfl) (fun _ _ _ h => h) (Or.inl ⟨by rfl, ?_⟩) (by assumption) ?_
        rotate_left
        · intro w hSw
          obtain ⟨s0, s1, s2, s3, s4, s5, s6⟩ := hSw
          go_simp
          try with_reducible rfl
        simp only [Act.put, List.setIfInBounds_toArray, List.set_cons_zero, List.set_cons_succ]
        refine wpAnyH_take (i := 14) (oi := ⟨_, _, _, _, _, _⟩) (v := ?_) rfl (by kernel_rfl) (by kernel_rfl) (by kernel_rfl) (fun _ _ _ h => h) (Or.inl ⟨by rfl, ?_⟩) (by assumption) ?_
        rotate_left
        · intro w hSw
          obtain ⟨s0, s1, s2, s3, s4, s5, s6⟩ := hSw
          go_simp
          try with_reducible rfl
        simp only [Act.put, List.setIfInBounds_toArray, List.set_cons_zero, List.set_cons_succ]
        refine wpAnyH_take (i := 11) (oi := ⟨_, _, _, _, _, _⟩) (v := ?_) rfl (by kernel_rfl) (by kernel_rfl) (by kernel_rfl) (fun _ _ _ h => h) (Or.inl ⟨by rfl, ?_⟩) (by assumption) ?_
        rotate_left
        · intro w hSw
          clear hSw
          go_simp
          try with_reducible rfl
        simp only [Act.put, List.setIfInBounds_toArray, List.set_cons_zero, List.set_cons_succ]
        refine wpAnyH_take (i := 16) (oi := ⟨_, _, _, _, _, _⟩) (v := ?_) rfl (by kernel_rfl) (by kernel_rfl) (by kernel_rfl) (fun _ _ _ h => h) (Or.inl ⟨by rfl, ?_⟩) (by assumption) ?_
        rotate_left
        · intro w hSw
          clear hSw
          go_simp
          try with_reducible rfl
        simp only [Act.put, List.setIfInBounds_toArray, List.set_cons_zero, List.set_cons_succ]
        refine wpAnyH_take (i := 12) (oi := ⟨_, _, _, _, _, _⟩) (v := ?_) rfl (by kernel_rfl) (by kernel_rfl) (by kernel_rfl) (fun _ _ _ h => h) (Or.inl ⟨by rfl, ?_⟩) (by assumption) ?_
        rotate_left
        · intro w hSw
          obtain ⟨s0, s1, s2, s3, s4, s5, s6⟩ := hSw
          go_simp
          try with_reducible rfl
        simp only [Act.put, List.setIfInBounds_toArray, List.set_cons_zero, List.set_cons_succ]
        refine wpAnyH_take (i := 17) (oi := ⟨_, _, _, _, _, _⟩) (v := ?_) rfl (by kernel_rfl) (by kernel_rfl) (by kernel_rfl) (fun _ _ _ h => h) (Or.inl ⟨by rfl, ?_⟩) (by assumption) ?_
        rotate_left
        · intro w hSw
          obtain ⟨s0, s1, s2, s3, s4, s5, s6⟩ := hSw
          go_simp
          try with_reducible rfl
        simp only [Act.put, List.setIfInBounds_toArray, List.set_cons_zero, List.set_cons_succ]
        refine wpAnyH_ready (rs := [18]) (by kernel_rfl) (by simp) ?_
        refine AllReadyH.cons (o := ⟨_, _, _, _, _, _⟩) rfl (fun K hK => ?_) AllReadyH.nil
        go_simp
        refine (HPL.out (by first | rfl | trivial) _ HB7.out).mono ?_
        rintro e w8 ⟨⟨um, ul, ut, rfl, hr8⟩, hb8⟩
        obtain ⟨b1, m1, q1, b2, m2, q2, b3, m3, q3, rfl, rfl, rfl⟩ := hr8.forms
        have HB8 : Hid (Below wr.heap.size wr w8) := HB7.out.trans (hb8.mono HB7.out.size)
        have HR8 : Hid (Dt.Rep (fun _ => True) w8 y (.slice b1 m1 q1) (.slice b2 m2 q2) (.slice b3 m3 q3)) := Dt.Rep.mono (fun _ _ _ => trivial) y hr8
        clear hr8 hb8
        dsimp only
        refine hK.out _ _ ?_ (fun hHeld => ?_)
        · exact HKP.out _ HB8.out
        clear hK K
        try simp only [Act.put, List.setIfInBounds_toArray, List.set_cons_zero, List.set_cons_succ]
        refine wpAnyH_ready (rs := [19]) (by kernel_rfl) (by simp) ?_
        refine AllReadyH.cons (o := ⟨_, _, _, _, _, _⟩) rfl (fun K hK => ?_) AllReadyH.nil
        go_simp
        refine (HSM.out (by first | rfl | trivial) _ _ _ _ HB8.out HR8.out).mono ?_
        rintro e w9 ⟨rfl, hb9⟩
        have HB9 : Hid (Below wr.heap.size wr w9) := HB8.out.trans (hb9.mono HB8.out.size)
        clear hb9
        dsimp only
        refine hK.out _ _ ?_ (fun hHeld => ?_)
        · exact HKP.out _ HB9.out
        clear hK K
        try simp only [Act.put, List.setIfInBounds_toArray, List.set_cons_zero, List.set_cons_succ]
        refine wpAnyH_take (i := 20) (oi := ⟨_, _, _, _, _, _⟩) (v := ?_) rfl (by kernel_rfl) (by kernel_rfl) (by kernel_rfl) (fun _ _ _ h => h) (Or.inl ⟨by rfl, ?_⟩) (by assumption) ?_
        rotate_left
        · intro w hSw
          clear hSw
          go_simp
          try with_reducible rfl
        simp only [Act.put, List.setIfInBounds_toArray, List.set_cons_zero, List.set_cons_succ]
        refine wpAnyH_take (i := 21) (oi := ⟨_, _, _, _, _, _⟩) (v := ?_) rfl (by kernel_rfl) (by kernel_rfl) (by kernel_rfl) (fun _ _ _ h => h) (Or.inl ⟨by rfl, ?_⟩) (by assumption) ?_
        rotate_left
        · intro w hSw
          clear hSw
          go_simp
          try with_reducible rfl
        simp only [Act.put, List.setIfInBounds_toArray, List.set_cons_zero, List.set_cons_succ]
        refine wpAnyH_done (by kernel_rfl) ?_ _
        refine NoPanic.normal ?_
        have HB19 : Hid (Below w1.heap.size w1 w9) := HBR.out.trans (HB9.out.mono HBR.out.size)
        clear HB9 HB8 HB7 HR8 HCK HPL HSM HCP HKP HS0
        go_wp2
        go_loopw [4] (fun v wz => ∃ i : Nat, v = .int .i64 i ∧ i ≤ k ∧ Hid (∀ j, (hj : j < p.consts.length) → j < i → Dt.sameD x p.consts[j] = false) ∧ Hid (Below w1.heap.size w1 wz)) (fun v _ => k - (intOf v).toNat)
        case atStart => exact ⟨0, rfl, by omega, fun j _ hj => by omega, HB19⟩
        case round =>
          clear HB19 HB HBR
          obtain ⟨i, rfl, hik, HJ, HBR⟩ := hrel
          have HB : Hid (Below w.heap.size w wr) := HB1.out.trans (HBR.out.mono HB1.out.size)
          by_cases hil : i < k
          · have hili : (i : Int) < (k : Int) := by omega
            have hi0 : (0 : Int) ≤ (i : Int) := by omega
            have hin : i < p.consts.length := by omega
            have hini : (i : Int) < (p.consts.length : Int) := by omega
            obtain ⟨b', o', um, ul, ut, e', hbl', ⟨y0, y1, y2, y3, y4, y5⟩, hrep2⟩ := Cd.const_at (HP.out.below HB.out).consts i hin
            cases e'
            obtain ⟨b', o', vm, vl, vt, e', -, ⟨x0, x1, x2, x3, x4, x5⟩, hrep⟩ := Cd.const_at (HP.out.below HB.out).consts k hlt
            cases e'
            have hwf2 := Cd.wfs_at HW.out.wk i hin
            rw [← HXE.out] at x0 x1 x2 hrep
            obtain ⟨z, hz⟩ : ∃ z, z = p.consts[i] := ⟨_, rfl⟩
            have HZE := Lib.hid hz
            rw [← hz] at y0 y1 y2 hrep2 hwf2
            obtain ⟨⟨am, cm, rfl, _⟩, ⟨al, c_l, rfl, _⟩, ⟨at_, ct, rfl, _⟩⟩ := (Dt.rep_iff _ _ x vm vl vt).1 hrep
            obtain ⟨⟨am2, cm2, rfl, _⟩, ⟨al2, cl2, rfl, _⟩, ⟨at2, ct2, rfl, _⟩⟩ := (Dt.rep_iff _ _ z um ul ut).1 hrep2
            have HKP2 : Hid (∀ W, Below wr.heap.size wr W → W.cell? ⟨w.heap.size, 1, none⟩ = some (.slice (some ⟨b, o, none⟩) p.consts.length c2) ∧ W.cell? ⟨b, o + k * 6, none⟩ = some (.int .i64 x.k) ∧ W.cell? ⟨b, o + k * 6 + 1, none⟩ = some (.int .i64 x.n) ∧ W.cell? ⟨b, o + k * 6 + 2, none⟩ = some (.string x.s) ∧ W.cell? ⟨b, o + k * 6 + 3, none⟩ = some (.slice am x.m.length cm) ∧ W.cell? ⟨b, o + k * 6 + 4, none⟩ = some (.slice al x.l.length c_l) ∧ W.cell? ⟨b, o + k * 6 + 5, none⟩ = some (.slice at_ x.t.length ct) ∧ W.cell? ⟨b, o + i * 6, none⟩ = some (.int .i64 z.k) ∧ W.cell? ⟨b, o + i * 6 + 1, none⟩ = some (.int .i64 z.n) ∧ W.cell? ⟨b, o + i * 6 + 2, none⟩ = some (.string z.s) ∧ W.cell? ⟨b, o + i * 6 + 3, none⟩ = some (.slice am2 z.m.length cm2) ∧ W.cell? ⟨b, o + i * 6 + 4, none⟩ = some (.slice al2 z.l.length cl2) ∧ W.cell? ⟨b, o + i * 6 + 5, none⟩ = some (.slice at2 z.t.length ct2)) := fun W hW => by
              have hc : ∀ i, W.cell? ⟨b, i, none⟩ = wr.cell? ⟨b, i, none⟩ := fun i => hW.cell (p := ⟨b, i, none⟩) hbl'
              exact ⟨(HBP.out W (HBR.out.trans (hW.mono HBR.out.size))).2.1, (hc _).trans x0, (hc _).trans x1, (hc _).trans x2, (hc _).trans x3, (hc _).trans x4, (hc _).trans x5, (hc _).trans y0, (hc _).trans y1, (hc _).trans y2, (hc _).trans y3, (hc _).trans y4, (hc _).trans y5⟩
            have p1 := (HKP2.out wr (Below.refl _ _)).1
            obtain ⟨E, hE⟩ : ∃ E, Dt.sameD x z = E := ⟨_, rfl⟩
            have HSI : Hid (∀ W, Below wr.heap.size wr W → Calls Tryz.prog 38 #[.agg #[.int .i64 x.k, .int .i64 x.n, .string x.s, .slice am x.m.length cm, .slice al x.l.length c_l, .slice at_ x.t.length ct], .agg #[.int .i64 z.k, .int .i64 z.n, .string z.s, .slice am2 z.m.length cm2, .slice al2 z.l.length cl2, .slice at2 z.t.length ct2]] W fun e w' => e = .returned (.bool E) ∧ Below W.heap.size W w') := fun W hW => by
              have := rSame_any x z _ _ _ _ _ _ W HWFX.out hwf2 (hrep.below hW) (hrep2.below hW)
              rw [hE] at this
              exact this
            have HEE := Lib.hid hE
            have HS2 := HKP2.out _ ((Below.refl _ wr).drew)
            clear hwf2 hrep hrep2 hz hE hbl' x0 x1 x2 x3 x4 x5 y0 y1 y2 y3 y4 y5
            cases E with
            | true =>
              have HE : Hid (R = 90) := by
                show _ = _
                rw [HR.out]
                refine HNO.out ?_
                rw [HOK.out, ← HA.out, Cd.any_take.2 ⟨i, hin, hil, by rw [← HZE.out]; exact HEE.out⟩]
                rfl
              clear HR HNO HOK HA
              go_wp2_with fail
              clear p1
              refine wp_region_noPanic ?_
              refine wp_region_held_drew (S := fun W => W.cell? ⟨w.heap.size, 1, none⟩ = some (.slice (some ⟨b, o, none⟩) p.consts.length c2) ∧ W.cell? ⟨b, o + k * 6, none⟩ = some (.int .i64 x.k) ∧ W.cell? ⟨b, o + k * 6 + 1, none⟩ = some (.int .i64 x.n) ∧ W.cell? ⟨b, o + k * 6 + 2, none⟩ = some (.string x.s) ∧ W.cell? ⟨b, o + k * 6 + 3, none⟩ = some (.slice am x.m.length cm) ∧ W.cell? ⟨b, o + k * 6 + 4, none⟩ = some (.slice al x.l.length c_l) ∧ W.cell? ⟨b, o + k * 6 + 5, none⟩ = some (.slice at_ x.t.length ct) ∧ W.cell? ⟨b, o + i * 6, none⟩ = some (.int .i64 z.k) ∧ W.cell? ⟨b, o + i * 6 + 1, none⟩ = some (.int .i64 z.n) ∧ W.cell? ⟨b, o + i * 6 + 2, none⟩ = some (.string z.s) ∧ W.cell? ⟨b, o + i * 6 + 3, none⟩ = some (.slice am2 z.m.length cm2) ∧ W.cell? ⟨b, o + i * 6 + 4, none⟩ = some (.slice al2 z.l.length cl2) ∧ W.cell? ⟨b, o + i * 6 + 5, none⟩ = some (.slice at2 z.t.length ct2)) (by kernel_rfl) HS2 (fun hHeld => ?_)
              refine wpAnyH_take (i := 0) (oi := ⟨_, _, _, _, _, _⟩) (v := ?_) rfl (by kernel_rfl) (by kernel_rfl) (by kernel_rfl) (fun _ _ _ h => h) (Or.inl ⟨by rfl, ?_⟩) (by assumption) ?_
              rotate_left
              · intro w hSw
                clear hSw
                go_simp
                try with_reducible rfl
              simp only [Act.put, List.setIfInBounds_toArray, List.set_cons_zero, List.set_cons_succ]
              refine wpAnyH_take (i := 2) (oi := ⟨_, _, _, _, _, _⟩) (v := ?_) rfl (by kernel_rfl) (by kernel_rfl) (by kernel_rfl) (fun _ _ _ h => h) (Or.inl ⟨by rfl, ?_⟩) (by assumption) ?_
              rotate_left
              · intro w hSw
                clear hSw
                go_simp
                try with_reducible rfl
              simp only [Act.put, List.setIfInBounds_toArray, List.set_cons_zero, List.set_cons_succ]
              refine wpAnyH_take (i := 5) (oi := ⟨_, _, _, _, _, _⟩) (v := ?_) rfl (by kernel_rfl) (by kernel_rfl) (by kernel_rfl) (fun _ _ _ h => h) (Or.inl ⟨by rfl, ?_⟩) (by assumption) ?_
              rotate_left
              · intro w hSw
                clear hSw
                go_simp
                try with_reducible rfl
              simp only [Act.put, List.setIfInBounds_toArray, List.set_cons_zero, List.set_cons_succ]
              refine wpAnyH_take (i := 7) (oi := ⟨_, _, _, _, _, _⟩) (v := ?_) rfl (by kernel_rfl) (by kernel_rfl) (by kernel_rfl) (fun _ _ _ h => h) (Or.inl ⟨by rfl, ?_⟩) (by assumption) ?_
              rotate_left
              · intro w hSw
                clear hSw
                go_simp
                try with_reducible rfl
              simp only [Act.put, List.setIfInBounds_toArray, List.set_cons_zero, List.set_cons_succ]
              refine wpAnyH_take (i := 1) (oi := ⟨_, _, _, _, _, _⟩) (v := ?_) rfl (by kernel_rfl) (by kernel_rfl) (by kernel_rfl) (fun _ _ _ h => h) (Or.inl ⟨by rfl, ?_⟩) (by assumption) ?_
              rotate_left
              · intro w hSw
                obtain ⟨s0, s1, s2, s3, s4, s5, s6, s7, s8, s9, s10, s11, s12⟩ := hSw
                go_simp
                try with_reducible rfl
              simp only [Act.put, List.setIfInBounds_toArray, List.set_cons_zero, List.set_cons_succ]
              refine wpAnyH_take (i := 6) (oi := ⟨_, _, _, _, _, _⟩) (v := ?_) rfl (by kernel_rfl) (by kernel_rfl) (by kernel_rfl) (fun _ _ _ h => h) (Or.inl ⟨by rfl, ?_⟩) (by assumption) ?_
              rotate_left
              · intro w hSw
                obtain ⟨s0, s1, s2, s3, s4, s5, s6, s7, s8, s9, s10, s11, s12⟩ := hSw
                go_simp
                try with_reducible rfl
              simp only [Act.put, List.setIfInBounds_toArray, List.set_cons_zero, List.set_cons_succ]
              refine wpAnyH_take (i := 3) (oi := ⟨_, _, _, _, _, _⟩) (v := ?_) rfl (by kernel_rfl) (by kernel_rfl) (by kernel_rfl) (fun _ _ _ h => h) (Or.inl ⟨by rfl, ?_⟩) (by assumption) ?_
              rotate_left
              · intro w hSw
                clear hSw
                go_simp
                try with_reducible rfl
              simp only [Act.put, List.setIfInBounds_toArray, List.set_cons_zero, List.set_cons_succ]
              refine wpAnyH_take (i := 8) (oi := ⟨_, _, _, _, _, _⟩) (v := ?_) rfl (by kernel_rfl) (by kernel_rfl) (by kernel_rfl) (fun _ _ _ h => h) (Or.inl ⟨by rfl, ?_⟩) (by assumption) ?_
              rotate_left
              · intro w hSw
                clear hSw
                go_simp
                try with_reducible rfl
              simp only [Act.put, List.setIfInBounds_toArray, List.set_cons_zero, List.set_cons_succ]
              refine wpAnyH_take (i := 4) (oi := ⟨_, _, _, _, _, _⟩) (v := ?_) rfl (by kernel_rfl) (by kernel_rfl) (by kernel_rfl) (fun _ _ _ h => h) (Or.inl ⟨by rfl, ?_⟩) (by assumption) ?_
              rotate_left
              · intro w hSw
                obtain ⟨s0, s1, s2, s3, s4, s5, s6, s7, s8, s9, s10, s11, s12⟩ := hSw
                go_simp
                try with_reducible rfl
              simp only [Act.put, List.setIfInBounds_toArray, List.set_cons_zero, List.set_cons_succ]
              refine wpAnyH_take (i := 9) (oi := ⟨_, _, _, _, _, _⟩) (v := ?_) rfl (by kernel_rfl) (by kernel_rfl) (by kernel_rfl) (fun _ _ _ h => h) (Or.inl ⟨by rfl, ?_⟩) (by assumption) ?_
              rotate_left
              · intro w hSw
                obtain ⟨s0, s1, s2, s3, s4, s5, s6, s7, s8, s9, s10, s11, s12⟩ := hSw
                go_simp
                try with_reducible rfl
              simp only [Act.put, List.setIfInBounds_toArray, List.set_cons_zero, List.set_cons_succ]
              refine wpAnyH_ready (rs := [10]) (by kernel_rfl) (by simp) ?_
              refine AllReadyH.cons (o := ⟨_, _, _, _, _, _⟩) rfl (fun K hK => ?_) AllReadyH.nil
              go_simp
              refine (HSI.out _ ((Below.refl _ _).drew)).mono ?_
              rintro e w7 ⟨rfl, hb7⟩
              have HB7 : Hid (Below wr.heap.size wr w7) := Cd.dr hb7
              clear hb7
              dsimp only
              refine hK.out _ _ ?_ (fun hHeld => ?_)
              · exact HKP2.out _ HB7.out
              clear hK K
              try simp only [Act.put, List.setIfInBounds_toArray, List.set_cons_zero, List.set_cons_succ]
              refine wpAnyH_done (by kernel_rfl) ?_ _
              refine NoPanic.normal ?_
              go_wp2
              go_ret
              exact ⟨by rw [HE.out]; rfl, HB.out.trans (HB7.out.mono HB.out.size)⟩
            | false =>
              go_wp2_with fail
              clear p1
              refine wp_region_noPanic ?_
              refine wp_region_held_drew (S := fun W => W.cell? ⟨w.heap.size, 1, none⟩ = some (.slice (some ⟨b, o, none⟩) p.consts.length c2) ∧ W.cell? ⟨b, o + k * 6, none⟩ = some (.int .i64 x.k) ∧ W.cell? ⟨b, o + k * 6 + 1, none⟩ = some (.int .i64 x.n) ∧ W.cell? ⟨b, o + k * 6 + 2, none⟩ = some (.string x.s) ∧ W.cell? ⟨b, o + k * 6 + 3, none⟩ = some (.slice am x.m.length cm) ∧ W.cell? ⟨b, o + k * 6 + 4, none⟩ = some (.slice al x.l.length c_l) ∧ W.cell? ⟨b, o + k * 6 + 5, none⟩ = some (.slice at_ x.t.length ct) ∧ W.cell? ⟨b, o + i * 6, none⟩ = some (.int .i64 z.k) ∧ W.cell? ⟨b, o + i * 6 + 1, none⟩ = some (.int .i64 z.n) ∧ W.cell? ⟨b, o + i * 6 + 2, none⟩ = some (.string z.s) ∧ W.cell? ⟨b, o + i * 6 + 3, none⟩ = some (.slice am2 z.m.length cm2) ∧ W.cell? ⟨b, o + i * 6 + 4, none⟩ = some (.slice al2 z.l.length cl2) ∧ W.cell? ⟨b, o + i * 6 + 5, none⟩ = some (.slice at2 z.t.length ct2)) (by kernel_rfl) HS2 (fun hHeld => ?_)
              refine wpAnyH_take (i := 0) (oi := ⟨_, _, _, _, _, _⟩) (v := ?_) rfl (by kernel_rfl) (by kernel_rfl) (by kernel_rfl) (fun _ _ _ h => h) (Or.inl ⟨by rfl, ?_⟩) (by assumption) ?_
              rotate_left
              · intro w hSw
                clear hSw
                go_simp
                try with_reducible rfl
              simp only [Act.put, List.setIfInBounds_toArray, List.set_cons_zero, List.set_cons_succ]
              refine wpAnyH_take (i := 2) (oi := ⟨_, _, _, _, _, _⟩) (v := ?_) rfl (by kernel_rfl) (by kernel_rfl) (by kernel_rfl) (fun _ _ _ h => h) (Or.inl ⟨by rfl, ?_⟩) (by assumption) ?_
              rotate_left
              · intro w hSw
                clear hSw
                go_simp
                try with_reducible rfl
              simp only [Act.put, List.setIfInBounds_toArray, List.set_cons_zero, List.set_cons_succ]
              refine wpAnyH_take (i := 5) (oi := ⟨_, _, _, _, _, _⟩) (v := ?_) rfl (by kernel_rfl) (by kernel_rfl) (by kernel_rfl) (fun _ _ _ h => h) (Or.inl ⟨by rfl, ?_⟩) (by assumption) ?_
              rotate_left
              · intro w hSw
                clear hSw
                go_simp
                try with_reducible rfl
              simp only [Act.put, List.setIfInBounds_toArray, List.set_cons_zero, List.set_cons_succ]
              refine wpAnyH_take (i := 7) (oi := ⟨_, _, _, _, _, _⟩) (v := ?_) rfl (by kernel_rfl) (by kernel_rfl) (by kernel_rfl) (fun _ _ _ h => h) (Or.inl ⟨by rfl, ?_⟩) (by assumption) ?_
              rotate_left
              · intro w hSw
                clear hSw
                go_simp
                try with_reducible rfl
              simp only [Act.put, List.setIfInBounds_toArray, List.set_cons_zero, List.set_cons_succ]
              refine wpAnyH_take (i := 1) (oi := ⟨_, _, _, _, _, _⟩) (v := ?_) rfl (by kernel_rfl) (by kernel_rfl) (by kernel_rfl) (fun _ _ _ h => h) (Or.inl ⟨by rfl, ?_⟩) (by assumption) ?_
              rotate_left
              · intro w hSw
                obtain ⟨s0, s1, s2, s3, s4, s5, s6, s7, s8, s9, s10, s11, s12⟩ := hSw
                go_simp
                try with_reducible rfl
              simp only [Act.put, List.setIfInBounds_toArray, List.set_cons_zero, List.set_cons_succ]
              refine wpAnyH_take (i := 6) (oi := ⟨_, _, _, _, _, _⟩) (v := ?_) rfl (by kernel_rfl) (by kernel_rfl) (by kernel_rfl) (fun _ _ _ h => h) (Or.inl ⟨by rfl, ?_⟩) (by assumption) ?_
              rotate_left
              · intro w hSw
                obtain ⟨s0, s1, s2, s3, s4, s5, s6, s7, s8, s9, s10, s11, s12⟩ := hSw
                go_simp
                try with_reducible rfl
              simp only [Act.put, List.setIfInBounds_toArray, List.set_cons_zero, List.set_cons_succ]
              refine wpAnyH_take (i := 3) (oi := ⟨_, _, _, _, _, _⟩) (v := ?_) rfl (by kernel_rfl) (by kernel_rfl) (by kernel_rfl) (fun _ _ _ h => h) (Or.inl ⟨by rfl, ?_⟩) (by assumption) ?_
              rotate_left
              · intro w hSw
                clear hSw
                go_simp
                try with_reducible rfl
              simp only [Act.put, List.setIfInBounds_toArray, List.set_cons_zero, List.set_cons_succ]
              refine wpAnyH_take (i := 8) (oi := ⟨_, _, _, _, _, _⟩) (v := ?_) rfl (by kernel_rfl) (by kernel_rfl) (by kernel_rfl) (fun _ _ _ h => h) (Or.inl ⟨by rfl, ?_⟩) (by assumption) ?_
              rotate_left
              · intro w hSw
                clear hSw
                go_simp
                try with_reducible rfl
              simp only [Act.put, List.setIfInBounds_toArray, List.set_cons_zero, List.set_cons_succ]
              refine wpAnyH_take (i := 4) (oi := ⟨_, _, _, _, _, _⟩) (v := ?_) rfl (by kernel_rfl) (by kernel_rfl) (by kernel_rfl) (fun _ _ _ h => h) (Or.inl ⟨by rfl, ?_⟩) (by assumption) ?_
              rotate_left
              · intro w hSw
                obtain ⟨s0, s1, s2, s3, s4, s5, s6, s7, s8, s9, s10, s11, s12⟩ := hSw
                go_simp
                try with_reducible rfl
              simp only [Act.put, List.setIfInBounds_toArray, List.set_cons_zero, List.set_cons_succ]
              refine wpAnyH_take (i := 9) (oi := ⟨_, _, _, _, _, _⟩) (v := ?_) rfl (by kernel_rfl) (by kernel_rfl) (by kernel_rfl) (fun _ _ _ h => h) (Or.inl ⟨by rfl, ?_⟩) (by assumption) ?_
              rotate_left
              · intro w hSw
                obtain ⟨s0, s1, s2, s3, s4, s5, s6, s7, s8, s9, s10, s11, s12⟩ := hSw
                go_simp
                try with_reducible rfl
              simp only [Act.put, List.setIfInBounds_toArray, List.set_cons_zero, List.set_cons_succ]
              refine wpAnyH_ready (rs := [10]) (by kernel_rfl) (by simp) ?_
              refine AllReadyH.cons (o := ⟨_, _, _, _, _, _⟩) rfl (fun K hK => ?_) AllReadyH.nil
              go_simp
              refine (HSI.out _ ((Below.refl _ _).drew)).mono ?_
              rintro e w7 ⟨rfl, hb7⟩
              have HB7 : Hid (Below wr.heap.size wr w7) := Cd.dr hb7
              clear hb7
              dsimp only
              refine hK.out _ _ ?_ (fun hHeld => ?_)
              · exact HKP2.out _ HB7.out
              clear hK K
              try simp only [Act.put, List.setIfInBounds_toArray, List.set_cons_zero, List.set_cons_succ]
              refine wpAnyH_done (by kernel_rfl) ?_ _
              refine NoPanic.normal ?_
              go_wp2
              go_roundw
              case rel =>
                refine ⟨i + 1, by simp, by omega, fun j hj hji => ?_, HBR.out.trans (HB7.out.mono HBR.out.size)⟩
                by_cases e : j = i
                · subst e
                  rw [← HZE.out]
                  exact HEE.out
                · exact HJ.out j hj (by omega)
              case measure => simp [intOf]; omega
          · obtain rfl : i = k := by omega
            have hge : ((i : Int) < (i : Int)) = False := eq_false (by omega)
            have HCK2 : Hid (Cd.constOk p i = true) := by
              show _ = _
              rw [HOK.out, ← HA.out]
              have : ((p.consts.take i).any fun y => Dt.sameD y x) = false := by
                cases e : ((p.consts.take i).any fun y => Dt.sameD y x) with
                | false => rfl
                | true =>
                  obtain ⟨j, hj, hji, h⟩ := Cd.any_take.1 e
                  rw [HJ.out j hj hji] at h
                  cases h
              rw [this]
              rfl
            clear hil
            go_wp2
            go_roundw
            case rel =>
              refine ⟨i + 1, by simp, by omega, fun j hj => ?_, HBR⟩
              by_cases e : j = i
              · rw [e]; exact HCK2.out
              · exact HK.out j (by omega)
            case measure => simp [intOf]; omega
    · have hge : (p.consts.length : Int) ≤ (k : Int) := by omega
      obtain rfl : k = p.consts.length := by omega
      have HKC : Hid (∀ i, i < p.consts.length → Cd.constOk p i = true) := fun i hi => HK.out i hi
      clear hlt HK
      go_wp2
      clear p0 p1 p2 hge hk
      go_loopw [5] (fun v wz => ∃ k : Nat, v = .int .i64 k ∧ k ≤ p.names.length ∧ Hid (∀ i, i < k → Cd.nameOk p i = true) ∧ Hid (Below w1.heap.size w1 wz)) (fun v _ => p.names.length - (intOf v).toNat)
      case atStart => exact ⟨0, rfl, by omega, fun i hi => by omega, HBR⟩
      case round =>
        clear HBR
        obtain ⟨k, rfl, hk, HK, HBR⟩ := hrel
        obtain ⟨p0, p1, p2⟩ := HBP.out _ HBR.out
        by_cases hlt : k < p.names.length
        · have hlti : (k : Int) < (p.names.length : Int) := by omega
          have hk0 : (0 : Int) ≤ (k : Int) := by omega
          have HB : Hid (Below w.heap.size w wr) := HB1.out.trans (HBR.out.mono HB1.out.size)
          obtain ⟨b, o, rfl, hbl, x0⟩ := Cd.name_at (HP.out.below HB.out).names k hlt
          have hok := Cd.nameOk_at hlt
          have hno := fun h => Cd.check_name k hlt h
          have hsz := HNS.out p.names[k] (List.getElem_mem hlt)
          obtain ⟨sx, hs⟩ : ∃ s, s = p.names[k] := ⟨_, rfl⟩
          have HSX := Lib.hid hs
          rw [← hs] at x0 hok hsz
          have hsy := SymbolR2_any sx wr hsz
          obtain ⟨A, hA⟩ : ∃ A, A = Lx.symbol sx.data.toList := ⟨_, rfl⟩
          rw [← hA] at hsy hok
          have HOK := Lib.hid hok
          have HNO := Lib.hid hno
          clear hs hA hok hno hsz
          cases A with
          | false =>
            have HE : Hid (R = 90) := by show _ = _; rw [HR.out]; exact HNO.out (by rw [HOK.out]; rfl)
            clear HR HOK HNO
            go_wp2_with (go_at_call 40; refine hsy.mono ?_; clear hsy; rintro e w9 ⟨rfl, rfl⟩)
            go_ret
            exact ⟨by rw [HE.out]; rfl, HB.out⟩
          | true =>
            go_wp2_with (go_at_call 40; refine hsy.mono ?_; clear hsy; rintro e w9 ⟨rfl, rfl⟩)
            clear x0 p0 p1 p2
            go_loopw [6] (fun v wz => ∃ i : Nat, v = .int .i64 i ∧ i ≤ k ∧ Hid (∀ j, (hj : j < p.names.length) → j < i → sx ≠ p.names[j]) ∧ Hid (Below w1.heap.size w1 wz)) (fun v _ => k - (intOf v).toNat)
            case atStart => exact ⟨0, rfl, by omega, fun j _ hj => by omega, HBR⟩
            case round =>
              clear HB HBR
              obtain ⟨i, rfl, hik, HJ, HBR⟩ := hrel
              have HB : Hid (Below w.heap.size w wr) := HB1.out.trans (HBR.out.mono HB1.out.size)
              obtain ⟨p0, p1, p2⟩ := HBP.out _ HBR.out
              by_cases hil : i < k
              · have hili : (i : Int) < (k : Int) := by omega
                have hi0 : (0 : Int) ≤ (i : Int) := by omega
                have hin : i < p.names.length := by omega
                have hini : (i : Int) < (p.names.length : Int) := by omega
                obtain ⟨b', o', e', -, y0⟩ := Cd.name_at (HP.out.below HB.out).names i hin
                cases e'
                obtain ⟨b', o', e', -, x0⟩ := Cd.name_at (HP.out.below HB.out).names k hlt
                cases e'
                rw [← HSX.out] at x0
                obtain ⟨sz, hsz⟩ : ∃ s, s = p.names[i] := ⟨_, rfl⟩
                have HSZ := Lib.hid hsz
                rw [← hsz] at y0
                clear hsz
                by_cases heq : sx = sz
                · have hse : (sx.toList == sz.toList) = true := by rw [heq]; exact beq_self_eq_true _
                  have hse2 : (sx == sz) = true := by rw [heq]; exact beq_self_eq_true _
                  have HE : Hid (R = 90) := by
                    show _ = _
                    rw [HR.out]
                    refine HNO.out ?_
                    rw [HOK.out, Cd.cont_take.2 ⟨i, hin, hil, by rw [heq]; exact HSZ.out⟩]
                    rfl
                  clear HR HOK HNO heq
                  go_wp2_with fail
                  go_quiet (fail)
                  go_wp2
                  go_ret
                  exact ⟨by rw [HE.out]; rfl, Dt.bdrew HB.out _⟩
                · have b1 : (sx.data == sz.data) = false := by rw [beq_eq_false_iff_ne]; intro e; apply heq; cases sx; cases sz; cases e; rfl
                  have b3 : (sx == sz) = false := b1
                  have b4 : (sx.toList == sz.toList) = false := by
                    rw [ByteArray.toList_eq, ByteArray.toList_eq]
                    rw [beq_eq_false_iff_ne]
                    intro e
                    rw [beq_eq_false_iff_ne] at b1
                    exact b1 (Array.toList_inj.1 e)
                  have HJN : Hid (∀ j, (hj : j < p.names.length) → j < i + 1 → sx ≠ p.names[j]) := fun j hj hji => by
                    by_cases e : j = i
                    · subst e
                      rw [← HSZ.out]
                      exact heq
                    · exact HJ.out j hj (by omega)
                  clear heq
                  go_wp2_with fail
                  go_quiet (fail)
                  go_wp2
                  go_roundw
                  case rel => exact ⟨i + 1, by simp, by omega, HJN, Dt.bdrew HBR.out _⟩
                  case measure => simp [intOf]; omega
              · obtain rfl : i = k := by omega
                have hge : ((i : Int) < (i : Int)) = False := eq_false (by omega)
                have HCK2 : Hid (Cd.nameOk p i = true) := by
                  show _ = _
                  rw [HOK.out]
                  have : ((p.names.take i).contains sx) = false := by
                    cases e : ((p.names.take i).contains sx) with
                    | false => rfl
                    | true =>
                      obtain ⟨j, hj, hji, h⟩ := Cd.cont_take.1 e
                      exact absurd h (HJ.out j hj hji)
                  rw [this]
                  rfl
                clear hil
                go_wp2
                go_roundw
                case rel =>
                  refine ⟨i + 1, by simp, by omega, fun j hj => ?_, HBR⟩
                  by_cases e : j = i
                  · rw [e]; exact HCK2.out
                  · exact HK.out j (by omega)
                case measure => simp [intOf]; omega
        · obtain rfl : k = p.names.length := by omega
          have HKN : Hid (∀ i, i < p.names.length → Cd.nameOk p i = true) := fun i hi => HK.out i hi
          clear hlt HK
          go_wp2
          clear p0 p1 p2 hk
          go_loopw [7] (fun v wz => ∃ k : Nat, v = .int .i64 k ∧ k ≤ p.codes.length ∧ Hid (∀ i, (hi : i < p.codes.length) → i < k → Cd.good p p.codes[i] = true) ∧ Hid (Below w1.heap.size w1 wz)) (fun v _ => p.codes.length - (intOf v).toNat)
          case atStart => exact ⟨0, rfl, by omega, fun i _ hi => by omega, HBR⟩
          case round =>
            clear HBR
            obtain ⟨k, rfl, hk, HK, HBR⟩ := hrel
            obtain ⟨p0, p1, p2⟩ := HBP.out _ HBR.out
            by_cases hlt : k < p.codes.length
            · have hlti : (k : Int) < (p.codes.length : Int) := by omega
              have hk0 : (0 : Int) ≤ (k : Int) := by omega
              have HB : Hid (Below w.heap.size w wr) := HB1.out.trans (HBR.out.mono HB1.out.size)
              have hpr := HP.out.below HB.out
              obtain ⟨b, o, hao, -, hbl, x0, x1, x2, x3, vi, x4, hi⟩ := Cd.code_at hpr.codes k hlt
              cases hao
              obtain ⟨ai, ci, rfl⟩ := hi.form
              have hlen := (HW.out.wc p.codes[k] (List.getElem_mem hlt)).2.2.2.2
              have hno := fun h => Cd.check_code k hlt h
              obtain ⟨c, hc⟩ : ∃ c, c = p.codes[k] := ⟨_, rfl⟩
              have HCE := Lib.hid hc
              rw [← hc] at x0 x1 x2 x3 x4 hi hlen hno
              have HKP3 : Hid (∀ W, Below wr.heap.size wr W → W.cell? ⟨w.heap.size, 0, none⟩ = some (.slice (some ⟨b, o, none⟩) p.codes.length c1) ∧ W.cell? ⟨w.heap.size, 1, none⟩ = some (.slice a2 p.consts.length c2) ∧ W.cell? ⟨w.heap.size, 2, none⟩ = some (.slice a3 p.names.length c3) ∧ W.cell? ⟨b, o + k * 5, none⟩ = some (.int .i64 c.params) ∧ W.cell? ⟨b, o + k * 5 + 1, none⟩ = some (.int .i64 c.rest) ∧ W.cell? ⟨b, o + k * 5 + 2, none⟩ = some (.int .i64 c.caps) ∧ W.cell? ⟨b, o + k * 5 + 3, none⟩ = some (.int .i64 c.max) ∧ W.cell? ⟨b, o + k * 5 + 4, none⟩ = some (.slice ai c.ins.length ci)) := fun W hW => by
                have hc : ∀ i, W.cell? ⟨b, i, none⟩ = wr.cell? ⟨b, i, none⟩ := fun i => hW.cell (p := ⟨b, i, none⟩) hbl
                obtain ⟨y0, y1, y2⟩ := HBP.out W (HBR.out.trans (hW.mono HBR.out.size))
                exact ⟨y0, y1, y2, (hc _).trans x0, (hc _).trans x1, (hc _).trans x2, (hc _).trans x3, (hc _).trans x4⟩
              obtain ⟨E, hE⟩ : ∃ E, E = Cd.good p c := ⟨_, rfl⟩
              have HCO : Hid (∀ W, Below wr.heap.size wr W → Calls Tryz.prog 41 #[.agg #[.slice (some ⟨b, o, none⟩) p.codes.length c1, .slice a2 p.consts.length c2, .slice a3 p.names.length c3], .agg #[.int .i64 c.params, .int .i64 c.rest, .int .i64 c.caps, .int .i64 c.max, .slice ai c.ins.length ci]] W fun e w' => e = .returned (.bool E) ∧ Below W.heap.size W w') := fun W hW => by
                have := rcodes_any p c _ _ _ _ W (hpr.below hW) (hi.below hW) hlen.1 hlen.2
                rw [← hE] at this
                exact this
              have HS3 := HKP3.out _ ((Below.refl _ wr).drew)
              have HEE := Lib.hid hE
              have HNO := Lib.hid hno
              rw [← hE] at HNO
              clear hc hpr hi hlen hno hE hbl x0 x1 x2 x3 x4
              cases E with
              | false =>
                have HE : Hid (R = 90) := by show _ = _; rw [HR.out]; exact HNO.out rfl
                clear HR HNO
                go_wp2_with fail
                clear p0 p1 p2
                refine wp_region_noPanic ?_
                refine wp_region_held_drew (S := fun W => W.cell? ⟨w.heap.size, 0, none⟩ = some (.slice (some ⟨b, o, none⟩) p.codes.length c1) ∧ W.cell? ⟨w.heap.size, 1, none⟩ = some (.slice a2 p.consts.length c2) ∧ W.cell? ⟨w.heap.size, 2, none⟩ = some (.slice a3 p.names.length c3) ∧ W.cell? ⟨b, o + k * 5, none⟩ = some (.int .i64 c.params) ∧ W.cell? ⟨b, o + k * 5 + 1, none⟩ = some (.int .i64 c.rest) ∧ W.cell? ⟨b, o + k * 5 + 2, none⟩ = some (.int .i64 c.caps) ∧ W.cell? ⟨b, o + k * 5 + 3, none⟩ = some (.int .i64 c.max) ∧ W.cell? ⟨b, o + k * 5 + 4, none⟩ = some (.slice ai c.ins.length ci)) (by kernel_rfl) HS3 (fun hHeld => ?_)
                refine wpAnyH_take (i := 1) (oi := ⟨_, _, _, _, _, _⟩) (v := ?_) rfl (by kernel_rfl) (by kernel_rfl) (by kernel_rfl) (fun _ _ _ h => h) (Or.inl ⟨by rfl, ?_⟩) (by assumption) ?_
                rotate_left
                · intro w hSw
                  clear hSw
                  go_simp
                  try with_reducible rfl
                simp only [Act.put, List.setIfInBounds_toArray, List.set_cons_zero, List.set_cons_succ]
                refine wpAnyH_take (i := 3) (oi := ⟨_, _, _, _, _, _⟩) (v := ?_) rfl (by kernel_rfl) (by kernel_rfl) (by kernel_rfl) (fun _ _ _ h => h) (Or.inl ⟨by rfl, ?_⟩) (by assumption) ?_
                rotate_left
                · intro w hSw
                  clear hSw
                  go_simp
                  try with_reducible rfl
                simp only [Act.put, List.setIfInBounds_toArray, List.set_cons_zero, List.set_cons_succ]
                refine wpAnyH_take (i := 0) (oi := ⟨_, _, _, _, _, _⟩) (v := ?_) rfl (by kernel_rfl) (by kernel_rfl) (by kernel_rfl) (fun _ _ _ h => h) (Or.inl ⟨by rfl, ?_⟩) (by assumption) ?_
                rotate_left
                · intro w hSw
                  obtain ⟨s0, s1, s2, s3, s4, s5, s6, s7⟩ := hSw
                  go_simp
                  try with_reducible rfl
                simp only [Act.put, List.setIfInBounds_toArray, List.set_cons_zero, List.set_cons_succ]
                refine wpAnyH_take (i := 2) (oi := ⟨_, _, _, _, _, _⟩) (v := ?_) rfl (by kernel_rfl) (by kernel_rfl) (by kernel_rfl) (fun _ _ _ h => h) (Or.inl ⟨by rfl, ?_⟩) (by assumption) ?_
                rotate_left
                · intro w hSw
                  obtain ⟨s0, s1, s2, s3, s4, s5, s6, s7⟩ := hSw
                  go_simp
                  try with_reducible rfl
                simp only [Act.put, List.setIfInBounds_toArray, List.set_cons_zero, List.set_cons_succ]
                refine wpAnyH_take (i := 4) (oi := ⟨_, _, _, _, _, _⟩) (v := ?_) rfl (by kernel_rfl) (by kernel_rfl) (by kernel_rfl) (fun _ _ _ h => h) (Or.inl ⟨by rfl, ?_⟩) (by assumption) ?_
                rotate_left
                · intro w hSw
                  clear hSw
                  go_simp
                  try with_reducible rfl
                simp only [Act.put, List.setIfInBounds_toArray, List.set_cons_zero, List.set_cons_succ]
                refine wpAnyH_take (i := 5) (oi := ⟨_, _, _, _, _, _⟩) (v := ?_) rfl (by kernel_rfl) (by kernel_rfl) (by kernel_rfl) (fun _ _ _ h => h) (Or.inl ⟨by rfl, ?_⟩) (by assumption) ?_
                rotate_left
                · intro w hSw
                  obtain ⟨s0, s1, s2, s3, s4, s5, s6, s7⟩ := hSw
                  go_simp
                  try with_reducible rfl
                simp only [Act.put, List.setIfInBounds_toArray, List.set_cons_zero, List.set_cons_succ]
                refine wpAnyH_ready (rs := [6]) (by kernel_rfl) (by simp) ?_
                refine AllReadyH.cons (o := ⟨_, _, _, _, _, _⟩) rfl (fun K hK => ?_) AllReadyH.nil
                go_simp
                refine (HCO.out _ ((Below.refl _ _).drew)).mono ?_
                rintro e w7 ⟨rfl, hb7⟩
                have HB7 : Hid (Below wr.heap.size wr w7) := Cd.dr hb7
                clear hb7
                dsimp only
                refine hK.out _ _ ?_ (fun hHeld => ?_)
                · exact HKP3.out _ HB7.out
                clear hK K
                try simp only [Act.put, List.setIfInBounds_toArray, List.set_cons_zero, List.set_cons_succ]
                refine wpAnyH_take (i := 7) (oi := ⟨_, _, _, _, _, _⟩) (v := ?_) rfl (by kernel_rfl) (by kernel_rfl) (by kernel_rfl) (fun _ _ _ h => h) (Or.inl ⟨by rfl, ?_⟩) (by assumption) ?_
                rotate_left
                · intro w hSw
                  clear hSw
                  go_simp
                  try with_reducible rfl
                simp only [Act.put, List.setIfInBounds_toArray, List.set_cons_zero, List.set_cons_succ]
                refine wpAnyH_done (by kernel_rfl) ?_ _
                refine NoPanic.normal ?_
                go_wp2
                go_ret
                exact ⟨by rw [HE.out]; rfl, HB.out.trans (HB7.out.mono HB.out.size)⟩
              | true =>
                go_wp2_with fail
                clear p0 p1 p2
                refine wp_region_noPanic ?_
                refine wp_region_held_drew (S := fun W => W.cell? ⟨w.heap.size, 0, none⟩ = some (.slice (some ⟨b, o, none⟩) p.codes.length c1) ∧ W.cell? ⟨w.heap.size, 1, none⟩ = some (.slice a2 p.consts.length c2) ∧ W.cell? ⟨w.heap.size, 2, none⟩ = some (.slice a3 p.names.length c3) ∧ W.cell? ⟨b, o + k * 5, none⟩ = some (.int .i64 c.params) ∧ W.cell? ⟨b, o + k * 5 + 1, none⟩ = some (.int .i64 c.rest) ∧ W.cell? ⟨b, o + k * 5 + 2, none⟩ = some (.int .i64 c.caps) ∧ W.cell? ⟨b, o + k * 5 + 3, none⟩ = some (.int .i64 c.max) ∧ W.cell? ⟨b, o + k * 5 + 4, none⟩ = some (.slice ai c.ins.length ci)) (by kernel_rfl) HS3 (fun hHeld => ?_)
                refine wpAnyH_take (i := 1) (oi := ⟨_, _, _, _, _, _⟩) (v := ?_) rfl (by kernel_rfl) (by kernel_rfl) (by kernel_rfl) (fun _ _ _ h => h) (Or.inl ⟨by rfl, ?_⟩) (by assumption) ?_
                rotate_left
                · intro w hSw
                  clear hSw
                  go_simp
                  try with_reducible rfl
                simp only [Act.put, List.setIfInBounds_toArray, List.set_cons_zero, List.set_cons_succ]
                refine wpAnyH_take (i := 3) (oi := ⟨_, _, _, _, _, _⟩) (v := ?_) rfl (by kernel_rfl) (by kernel_rfl) (by kernel_rfl) (fun _ _ _ h => h) (Or.inl ⟨by rfl, ?_⟩) (by assumption) ?_
                rotate_left
                · intro w hSw
                  clear hSw
                  go_simp
                  try with_reducible rfl
                simp only [Act.put, List.setIfInBounds_toArray, List.set_cons_zero, List.set_cons_succ]
                refine wpAnyH_take (i := 0) (oi := ⟨_, _, _, _, _, _⟩) (v := ?_) rfl (by kernel_rfl) (by kernel_rfl) (by kernel_rfl) (fun _ _ _ h => h) (Or.inl ⟨by rfl, ?_⟩) (by assumption) ?_
                rotate_left
                · intro w hSw
                  obtain ⟨s0, s1, s2, s3, s4, s5, s6, s7⟩ := hSw
                  go_simp
                  try with_reducible rfl
                simp only [Act.put, List.setIfInBounds_toArray, List.set_cons_zero, List.set_cons_succ]
                refine wpAnyH_take (i := 2) (oi := ⟨_, _, _, _, _, _⟩) (v := ?_) rfl (by kernel_rfl) (by kernel_rfl) (by kernel_rfl) (fun _ _ _ h => h) (Or.inl ⟨by rfl, ?_⟩) (by assumption) ?_
                rotate_left
                · intro w hSw
                  obtain ⟨s0, s1, s2, s3, s4, s5, s6, s7⟩ := hSw
                  go_simp
                  try with_reducible rfl
                simp only [Act.put, List.setIfInBounds_toArray, List.set_cons_zero, List.set_cons_succ]
                refine wpAnyH_take (i := 4) (oi := ⟨_, _, _, _, _, _⟩) (v := ?_) rfl (by kernel_rfl) (by kernel_rfl) (by kernel_rfl) (fun _ _ _ h => h) (Or.inl ⟨by rfl, ?_⟩) (by assumption) ?_
                rotate_left
                · intro w hSw
                  clear hSw
                  go_simp
                  try with_reducible rfl
                simp only [Act.put, List.setIfInBounds_toArray, List.set_cons_zero, List.set_cons_succ]
                refine wpAnyH_take (i := 5) (oi := ⟨_, _, _, _, _, _⟩) (v := ?_) rfl (by kernel_rfl) (by kernel_rfl) (by kernel_rfl) (fun _ _ _ h => h) (Or.inl ⟨by rfl, ?_⟩) (by assumption) ?_
                rotate_left
                · intro w hSw
                  obtain ⟨s0, s1, s2, s3, s4, s5, s6, s7⟩ := hSw
                  go_simp
                  try with_reducible rfl
                simp only [Act.put, List.setIfInBounds_toArray, List.set_cons_zero, List.set_cons_succ]
                refine wpAnyH_ready (rs := [6]) (by kernel_rfl) (by simp) ?_
                refine AllReadyH.cons (o := ⟨_, _, _, _, _, _⟩) rfl (fun K hK => ?_) AllReadyH.nil
                go_simp
                refine (HCO.out _ ((Below.refl _ _).drew)).mono ?_
                rintro e w7 ⟨rfl, hb7⟩
                have HB7 : Hid (Below wr.heap.size wr w7) := Cd.dr hb7
                clear hb7
                dsimp only
                refine hK.out _ _ ?_ (fun hHeld => ?_)
                · exact HKP3.out _ HB7.out
                clear hK K
                try simp only [Act.put, List.setIfInBounds_toArray, List.set_cons_zero, List.set_cons_succ]
                refine wpAnyH_take (i := 7) (oi := ⟨_, _, _, _, _, _⟩) (v := ?_) rfl (by kernel_rfl) (by kernel_rfl) (by kernel_rfl) (fun _ _ _ h => h) (Or.inl ⟨by rfl, ?_⟩) (by assumption) ?_
                rotate_left
                · intro w hSw
                  clear hSw
                  go_simp
                  try with_reducible rfl
                simp only [Act.put, List.setIfInBounds_toArray, List.set_cons_zero, List.set_cons_succ]
                refine wpAnyH_done (by kernel_rfl) ?_ _
                refine NoPanic.normal ?_
                go_wp2
                go_roundw
                case rel =>
                  refine ⟨k + 1, by simp, by omega, fun i hi hik => ?_, HBR.out.trans (HB7.out.mono HBR.out.size)⟩
                  by_cases e : i = k
                  · subst e
                    rw [← HCE.out, ← HEE.out]
                  · exact HK.out i hi (by omega)
                case measure => simp [intOf]; omega
            · obtain rfl : k = p.codes.length := by omega
              have HE : Hid (R = 0) := by
                show _ = _
                rw [HR.out]
                exact Cd.check_yes HFAR.out HKC.out HKN.out (fun i hi => HK.out i hi hi)
              have HB : Hid (Below w.heap.size w wr) := HB1.out.trans (HBR.out.mono HB1.out.size)
              clear hlt HK
              go_wp2
              go_ret
              exact ⟨by rw [HE.out]; rfl, HB.out⟩
end Go.Proofs.YtlckjphnbfahgaaGreatDoor
namespace Go.Proofs.YtlckjphnbfahgaaGreatDoor
open Go.RowKit
end Go.Proofs.YtlckjphnbfahgaaGreatDoor
namespace Go.Proofs.YtlckjphnbfahgaaGreatDoor
open Go.RowKit Go.Sort
attribute [local go_sem] Oper.semAt_some
namespace Cd
/-- what Depths answers, in plain terms -/
def depL (p : Prog) (k : Int) : List Int × Int :=
  if checkP p ≠ 0 then ([], checkP p) else if k < 0 ∨ (p.codes.length : Int) ≤ k then ([], 6)
  else match p.codes[k.toNat]? with
    | some c => match flowW c.ins 0 (start c.ins.length) 0 with
      | some (fin, _) => (fin, 0)
      | none => ([], 0)
    | none => ([], 0)
theorem depPost {p : Prog} {k : Int} {w w' : World} {e : Ending} (h : DepthsPost p k w e w') : ∃ a c, e = .returned (.tuple #[.slice a (depL p k).1.length c, .int .i64 (depL p k).2]) ∧ Dt.IRow (fun _ => True) w' (.slice a (depL p k).1.length c) (depL p k).1 ∧ Below w.heap.size w w' := by
  unfold DepthsPost at h
  by_cases h0 : checkP p ≠ 0
  · rw [if_pos h0] at h
    have e1 : depL p k = ([], checkP p) := by unfold depL; rw [if_pos h0]
    rw [e1]
    exact ⟨none, 0, h.1, ⟨none, 0, rfl, Nat.le_refl _, fun h => absurd rfl h⟩, h.2⟩
  · rw [if_neg h0] at h
    by_cases h1 : k < 0 ∨ (p.codes.length : Int) ≤ k
    · rw [if_pos h1] at h
      have e1 : depL p k = ([], 6) := by unfold depL; rw [if_neg h0, if_pos h1]
      rw [e1]
      exact ⟨none, 0, h.1, ⟨none, 0, rfl, Nat.le_refl _, fun h => absurd rfl h⟩, h.2⟩
    · rw [if_neg h1] at h
      obtain ⟨c, fin, g, h2, h3, h4, h5, h6, h7⟩ := h
      have e1 : depL p k = (fin, 0) := by unfold depL; rw [if_neg h0, if_neg h1, h2]; simp only; rw [h3]
      rw [e1]
      exact ⟨some ⟨g, 0, none⟩, _, h5, own_ints h6 rfl, h7⟩
theorem flowW_len : ∀ (r : List Ins) (j : Nat) (ah : List Int) (most : Int) {fin : List Int} {M : Int}, flowW r j ah most = some (fin, M) → fin.length = ah.length
  | [], j, ah, most, fin, M, h => by rw [flowW] at h; cases h; rfl
  | x :: r, j, ah, most, fin, M, h => by
    rw [flowW] at h
    have hreach : ∀ {a b : List Int} {q v : Int}, reach a q v = some b → b.length = a.length := fun h => by
      unfold reach at h
      split at h
      · cases h
      split at h
      · cases h
      · cases h
        rw [List.length_set]
    split at h
    · cases h
    split at h
    · exact flowW_len r (j + 1) ah _ h
    · cases hs : stepW x j ah with
      | none => rw [hs] at h; cases h
      | some ah1 =>
        rw [hs] at h
        rw [flowW_len r (j + 1) ah1 _ h]
        unfold stepW at hs
        simp only at hs
        split at hs
        · cases hs
        · rename_i ah2 h2
          have e2 : ah2.length = ah.length := by
            split at h2
            · exact hreach h2
            · cases h2; rfl
          split at hs
          · rw [hreach hs, e2]
          · cases hs; exact e2
theorem depL_len {p : Prog} (hw : PWf p) (k : Int) : (depL p k).1.length ≤ 140737488355328 := by
  unfold depL
  split
  · simp
  split
  · simp
  cases hc : p.codes[k.toNat]? with
  | none => simp
  | some c =>
    simp only
    cases hf : flowW c.ins 0 (start c.ins.length) 0 with
    | none => simp
    | some r =>
      obtain ⟨fin, M⟩ := r
      simp only
      rw [flowW_len _ _ _ _ hf]
      have : (start c.ins.length).length = c.ins.length := by unfold start; simp
      rw [this]
      exact (hw.wc c (List.mem_of_getElem? hc)).2.2.2.2.1
end Cd
end Go.Proofs.YtlckjphnbfahgaaGreatDoor
namespace Go.Proofs.YtlckjphnbfahgaaGreatDoor
open Go.RowKit Go.Sort
attribute [local go_sem] Oper.semAt_some
namespace Cd
/-- lines as they are handed back -/
def LinesPost (ls : List ByteArray) (w : World) (e : Ending) (w' : World) : Prop := ∃ a c, e = .returned (.slice a ls.length c) ∧ w'.ownsRow w.heap.size 9 1 (.slice a ls.length c) ls.length (ls.map Value.string) ∧ Below w.heap.size w w'
theorem linesNone {w w' : World} (h : Below w.heap.size w w') : LinesPost [] w (.returned (.slice none 0 0)) w' := ⟨none, 0, rfl, World.ownsRow_nil _ _ _ _, h⟩
theorem nmL (n : Int) : ∃ N : List UInt8, nm n = ⟨N.toArray⟩ ∧ (nm n).data.toList = N ∧ N.length ≤ 10 := ⟨(nm n).data.toList, by cases nm n; rfl, rfl, nm_len n⟩
theorem insBox {w w1 : World} {x y z : Value} (h : w.alloc (.cells #[x, y, z] 55) = w1) : ∀ W, Below w1.heap.size w1 W → W.cell? ⟨w.heap.size, 0, none⟩ = some x ∧ W.cell? ⟨w.heap.size, 1, none⟩ = some y ∧ W.cell? ⟨w.heap.size, 2, none⟩ = some z := by
  intro W hW
  have h1 := (hW.block w.heap.size (by rw [← h]; simp)).trans (box_heap h)
  exact ⟨by rw [hcell h1]; rfl, by rw [hcell h1]; rfl, by rw [hcell h1]; rfl⟩
theorem strNew (w : World) (s : ByteArray) {w1 : World} (h : w.alloc (.cells #[.string s] 9) = w1) : Ap.Src w1 (.slice (some ⟨w.heap.size, 0, none⟩) 1 1) 1 [.string s] :=
  .inr ⟨_, _, rfl, fun j u hu => by
    rw [add_off, Nat.zero_add, hcell (box_heap h)]
    match j, hu with
    | 0, hu => exact hu
    | j + 1, hu => simp at hu⟩
end Cd
set_option maxRecDepth 100000 in
set_option maxHeartbeats 16000000 in
theorem rLines_any {F : Nat → Prop} (p : Cd.Prog) (k : Int) (vc vk vn : Value) (w : World) (hp : Cd.PRep F w p vc vk vn) (hw : Cd.PWf p) :
    Calls Tryz.prog 6 #[.agg #[vc, vk, vn], .int .i64 k] w (Cd.LinesPost (Cd.linesOf p k) w) := by
  obtain ⟨a1, c1, a2, c2, a3, c3, rfl, rfl, rfl⟩ := hp.forms
  obtain ⟨w1, hw1⟩ : ∃ w1, w.alloc (.cells #[.slice a1 p.codes.length c1, .slice a2 p.consts.length c2, .slice a3 p.names.length c3] 26) = w1 := ⟨_, rfl⟩
  obtain ⟨hb1, hs1, hbp⟩ := Cd.boxP hw1
  obtain ⟨p0, p1, p2⟩ := hbp w1 (Below.refl _ _)
  have hck := rCheck09_any p _ _ _ w1 (hp.below hb1) hw
  have HB1 := Lib.hid hb1
  have HBP := Lib.hid hbp
  have HS1 : Hid (w1.heap.size = w.heap.size + 1) := hs1
  by_cases h0 : Cd.checkP p = 0
  case neg =>
    rw [Cd.linesOf_no (.inl h0)]
    obtain ⟨R, hR⟩ : ∃ R, Cd.checkP p = R := ⟨_, rfl⟩
    rw [hR] at hck h0
    have h0' : (R != 0) = true := bne_iff_ne.2 h0
    clear hp hw hb1 hbp hR h0 hs1
    go_enter Tryz.func6, Tryz.ntmps6
    go_wp2_with (go_at_call 19; refine hck.mono ?_; clear hck hw1 p0 p1 p2; rintro e w2 ⟨rfl, hb2⟩; have HB2 := Lib.hid hb2; clear hb2)
    go_ret
    exact Cd.linesNone (HB1.out.trans (HB2.out.mono HB1.out.size))
  rw [h0] at hck
  by_cases h1 : k < 0 ∨ (p.codes.length : Int) ≤ k
  · rw [Cd.linesOf_no (.inr h1)]
    by_cases h2 : k < 0
    · have h2' : decide (k < 0) = true := decide_eq_true h2
      clear hp hw hb1 hbp h1 h0 hs1
      go_enter Tryz.func6, Tryz.ntmps6
      go_wp2_with (go_at_call 19; refine hck.mono ?_; clear hck hw1 p0 p1 p2; rintro e w2 ⟨rfl, hb2⟩; have HB2 := Lib.hid hb2; obtain ⟨p0, p1, p2⟩ := HBP.out w2 hb2; clear hb2)
      go_ret
      exact Cd.linesNone (HB1.out.trans (HB2.out.mono HB1.out.size))
    · have h2' : decide (k < 0) = false := decide_eq_false h2
      have h3' : decide ((p.codes.length : Int) ≤ k) = true := decide_eq_true (by omega)
      clear hp hw hb1 hbp h1 h2 h0 hs1
      go_enter Tryz.func6, Tryz.ntmps6
      go_wp2_with (go_at_call 19; refine hck.mono ?_; clear hck hw1 p0 p1 p2; rintro e w2 ⟨rfl, hb2⟩; have HB2 := Lib.hid hb2; obtain ⟨p0, p1, p2⟩ := HBP.out w2 hb2; clear hb2)
      go_ret
      exact Cd.linesNone (HB1.out.trans (HB2.out.mono HB1.out.size))
  · obtain ⟨j, rfl⟩ : ∃ j : Nat, k = (j : Int) := ⟨k.toNat, by omega⟩
    have hj : j < p.codes.length := by omega
    have hji : (j : Int) < (p.codes.length : Int) := by omega
    have h3' : decide ((p.codes.length : Int) ≤ (j : Int)) = false := decide_eq_false (by omega)
    have hj0 : (0 : Int) ≤ (j : Int) := by omega
    have h3n : decide (p.codes.length ≤ j) = false := decide_eq_false (by omega)
    have h2' : decide ((j : Int) < 0) = false := decide_eq_false (by omega)
    rw [Cd.linesOf_yes h0 hj]
    obtain ⟨-, -, hg⟩ := Cd.check_codes h0
    have hgd := Cd.good_good (hg p.codes[j] (List.getElem_mem hj))
    obtain ⟨b, o, rfl, -, hbl, x0, x1, x2, x3, vi, x4, hi⟩ := Cd.code_at hp.codes j hj
    have hwfx := (hw.wc p.codes[j] (List.getElem_mem hj)).2.2.2.2.2
    have hok : ∀ i, (h : i < p.codes[j].ins.length) → 1 ≤ p.codes[j].ins[i].o ∧ p.codes[j].ins[i].o ≤ 16 ∧ 0 ≤ p.codes[j].ins[i].a ∧ 0 ≤ p.codes[j].ins[i].b ∧ p.codes[j].ins[i].a ≤ 9223372036854775807 ∧ p.codes[j].ins[i].b ≤ 9223372036854775807 := fun i h => by
      have h1 := hgd.ins i h
      have h2 := Cd.ins_pos h1 hg
      have h3 := hwfx p.codes[j].ins[i] (List.getElem_mem h)
      exact ⟨h1.some.1, h1.some.2, h2.1, h2.2, h3.2.1.2, h3.2.2.2⟩
    have hl1 : 1 ≤ p.codes[j].ins.length := List.length_pos_iff.2 hgd.ne
    have hl2 := hgd.len
    obtain ⟨c, hc⟩ : ∃ c, c = p.codes[j] := ⟨_, rfl⟩
    rw [← hc] at hi hl1 hl2 hok ⊢
    obtain ⟨ai, ci, rfl, -, hic⟩ := hi
    obtain ⟨g, og, rfl, -, hgl, hic⟩ := hic (List.length_pos_iff.1 hl1)
    have HOK := Lib.hid hok
    have HIC : Hid (∀ W, Below w1.heap.size w1 W → ∀ i, (h : i < c.ins.length) → W.cell? ⟨g, og + i * 3, none⟩ = some (.int .i64 c.ins[i].o) ∧ W.cell? ⟨g, og + i * 3 + 1, none⟩ = some (.int .i64 c.ins[i].a) ∧ W.cell? ⟨g, og + i * 3 + 2, none⟩ = some (.int .i64 c.ins[i].b)) := fun W hW i h =>
      have hc : ∀ i, W.cell? ⟨g, i, none⟩ = w.cell? ⟨g, i, none⟩ := fun i => (hb1.trans (hW.mono hb1.size)).cell (p := ⟨g, i, none⟩) hgl
      ⟨(hc _).trans (hic i h).1, (hc _).trans (hic i h).2.1, (hc _).trans (hic i h).2.2⟩
    have HX4 : Hid (∀ W, Below w1.heap.size w1 W → W.cell? ⟨b, o + j * 5 + 4, none⟩ = some (.slice (some ⟨g, og, none⟩) c.ins.length ci)) := fun W hW => ((hb1.trans (hW.mono hb1.size)).cell (p := ⟨b, o + j * 5 + 4, none⟩) hbl).trans x4
    have HL : Hid (1 ≤ c.ins.length ∧ c.ins.length ≤ 4096) := ⟨hl1, hl2⟩
    obtain ⟨i9, hi9, hz0, hz1, hz2⟩ := info_parts Cd.infoStr
    have HJ1 := Lib.hid hi9
    have HJZ0 := Lib.hid hz0
    have HJZ1 := Lib.hid hz1
    have HJZ2 := Lib.hid hz2
    clear hp hw hb1 hbp h1 h0 hg hgd hwfx hok hc x0 x1 x2 x3 x4 hic hgl hbl hl1 hl2 hs1 hi9 hz0 hz1 hz2 hj
    go_enter Tryz.func6, Tryz.ntmps6
    go_wp2_with (go_at_call 19; refine hck.mono ?_; clear hck hw1 p0 p1 p2; rintro e w2 ⟨rfl, hb2⟩; have HB2 := Lib.hid hb2; obtain ⟨p0, p1, p2⟩ := HBP.out w2 hb2; clear hb2)
    clear p0 p1 p2
    go_loopw [5, 6] (fun v i wr => ∃ (k : Nat) (ao : Option Addr) (co : Nat), v = .slice ao k co ∧ i = .int .i64 k ∧ k ≤ c.ins.length ∧ Hid (wr.ownsRow w1.heap.size 9 1 (.slice ao k co) k ((Cd.linesN c k).map Value.string)) ∧ Hid (Below w1.heap.size w1 wr)) (fun _ i _ => c.ins.length - (intOf i).toNat)
    case atStart => exact ⟨0, none, 0, rfl, rfl, by omega, World.ownsRow_nil _ _ _ _, HB2⟩
    case round =>
      clear HB2
      obtain ⟨k, ao, co, rfl, rfl, hk, HROW, HB2⟩ := hrel
      obtain ⟨p0, p1, p2⟩ := HBP.out _ HB2.out
      have x4 := HX4.out _ HB2.out
      by_cases hlt : k < c.ins.length
      · have hlti : (k : Int) < (c.ins.length : Int) := by omega
        have hk0 : (0 : Int) ≤ (k : Int) := by omega
        obtain ⟨y0, y1, y2⟩ := HIC.out _ HB2.out k hlt
        obtain ⟨g1, g2, g3, g4, g5, g6⟩ := HOK.out k hlt
        have hsucc := Cd.linesN_succ c k
        rw [List.getD_eq_getElem?_getD, List.getElem?_eq_getElem hlt, Option.getD_some] at hsucc
        obtain ⟨x, hx⟩ : ∃ x, c.ins[k] = x := ⟨_, rfl⟩
        rw [hx] at y0 y1 y2 g1 g2 g3 g4 g5 g6 hsucc
        obtain ⟨xo, xa, xb⟩ := x
        simp only at y0 y1 y2 g1 g2 g3 g4 g5 g6
        obtain ⟨ua, rfl⟩ := Int.eq_ofNat_of_zero_le g3
        obtain ⟨ub, rfl⟩ := Int.eq_ofNat_of_zero_le g4
        obtain ⟨N, hN1, hN2, hN3⟩ := Cd.nmL xo
        have hsl : Cd.lineB k ⟨xo, ua, ub⟩ = ⟨(Cd.s2 k ⟨xo, ua, ub⟩).toArray⟩ := rfl
        rw [hsl] at hsucc
        have hpb := Cd.pb_iff g1 g2
        have hpa := @Cd.pb_a xo
        unfold Cd.s2 Cd.s1 Cd.s0 at hsucc
        simp only [hN2, Int.toNat_natCast] at hsucc
        have hld := Cd.decD_len k (by have := HL.out.2; omega)
        have hla := Cd.decD_len ua (by omega)
        have hlb := Cd.decD_len ub (by omega)
        have hdk := fun w => digits09_any k (by have := HL.out.2; omega) w
        have hda := fun w => digits09_any ua (by omega) w
        have hdb := fun w => digits09_any ub (by omega) w
        have hnm := fun w => rName_any xo w
        have htk := fun w => takes_any xo g1 g2 w
        rw [hN1] at hnm
        obtain ⟨DK, hDK⟩ : ∃ DK, Lib.decDigits k = DK := ⟨_, rfl⟩
        obtain ⟨DA, hDA⟩ : ∃ DA, Lib.decDigits ua = DA := ⟨_, rfl⟩
        obtain ⟨DB, hDB⟩ : ∃ DB, Lib.decDigits ub = DB := ⟨_, rfl⟩
        rw [hDK] at hdk hld hsucc
        rw [hDA] at hda hla hsucc
        rw [hDB] at hdb hlb hsucc
        obtain ⟨T, hT⟩ : ∃ T, decide ((Cd.op xo).a ≠ 0) = T := ⟨_, rfl⟩
        obtain ⟨PB, hPB⟩ : ∃ PB, (Cd.op xo).pb = PB := ⟨_, rfl⟩
        rw [hT] at htk hpa hsucc
        rw [hPB] at hpb hpa hsucc
        have f1 := fun w => Cd.cat (x := DK) (y := [32]) (by omega) (by simp) w
        obtain ⟨S1, hS1⟩ : ∃ S, DK ++ [32] = S := ⟨_, rfl⟩
        rw [hS1] at f1 hsucc
        have hl1 : S1.length ≤ 30 := by rw [← hS1]; simp; omega
        have f2 := fun w => Cd.cat (x := S1) (y := N) (by omega) (by omega) w
        obtain ⟨S2, hS2⟩ : ∃ S, S1 ++ N = S := ⟨_, rfl⟩
        rw [hS2] at f2 hsucc
        have hl2 : S2.length ≤ 50 := by rw [← hS2]; simp; omega
        have f3 := fun w => Cd.cat (x := [32]) (y := DA) (by simp) (by omega) w
        obtain ⟨S3, hS3⟩ : ∃ S, [32] ++ DA = S := ⟨_, rfl⟩
        rw [hS3] at f3 hsucc
        have hl3 : S3.length ≤ 30 := by rw [← hS3]; simp; omega
        have f4 := fun w => Cd.cat (x := S2) (y := S3) (by omega) (by omega) w
        obtain ⟨S4, hS4⟩ : ∃ S, S2 ++ S3 = S := ⟨_, rfl⟩
        rw [hS4] at f4 hsucc
        have hl4 : S4.length ≤ 100 := by rw [← hS4]; simp; omega
        have f5 := fun w => Cd.cat (x := [32]) (y := DB) (by simp) (by omega) w
        obtain ⟨S5, hS5⟩ : ∃ S, [32] ++ DB = S := ⟨_, rfl⟩
        rw [hS5] at f5 hsucc
        have hl5 : S5.length ≤ 30 := by rw [← hS5]; simp; omega
        have f6 := fun w => Cd.cat (x := S4) (y := S5) (by omega) (by omega) w
        obtain ⟨S6, hS6⟩ : ∃ S, S4 ++ S5 = S := ⟨_, rfl⟩
        rw [hS6] at f6
        have HS6 := Lib.hid hS6
        have hm1 : k + 1 ≤ maxLen := by unfold maxLen; have := HL.out.2; omega
        have hm2 : (k + 1) * 16 ≤ 140737488355328 := by have := HL.out.2; omega
        obtain ⟨wx, hwx⟩ : ∃ wx, wr.alloc (.cells #[.int .i64 xo, .int .i64 (ua : Int), .int .i64 (ub : Int)] 55) = wx := ⟨_, rfl⟩
        have hxb := Cd.insBox hwx
        obtain ⟨hbx, hsx⟩ := Cd.below_new (Below.refl _ wr) hwx (Nat.le_refl _)
        obtain ⟨X, hX⟩ : ∃ X, wr.heap.size = X := ⟨_, rfl⟩
        rw [hX] at hxb hsx
        have HXB := Lib.hid hxb
        have HBX := Lib.hid hbx
        have HSX : Hid (wr.heap.size = X ∧ wx.heap.size = X + 1) := ⟨hX, hsx⟩
        have HDA := Lib.hid hda
        have HDB := Lib.hid hdb
        have HTK := Lib.hid htk
        clear hxb hbx hsx hda hdb htk hx hN1 hN2 hN3 hsl hla hlb hld hDK hDA hDB hS1 hS2 hS3 hS4 hS5 hS6 hl1 hl2 hl3 hl4 hl5 g1 g2 g3 g4 g5 g6 hT hPB
        have z0 := (HXB.out wx (Below.refl _ _)).1
        have i0 := cell_regrown z0
        have cV1 : ∀ d os, Calls Tryz.prog 20 #[.int .i64 (k : Int)] (grow (redrawn wx d) os) fun e w'' => e = .returned (.string ⟨DK.toArray⟩) ∧ ∃ p : Regrown, w'' = grow (redrawn wx p.d) p.os := fun d os => Calls.regrown_of (hdk _)
        have cV2 : ∀ d os, Calls Tryz.prog 8 #[.int .i64 xo] (grow (redrawn wx d) os) fun e w'' => e = .returned (.string ⟨N.toArray⟩) ∧ ∃ p : Regrown, w'' = grow (redrawn wx p.d) p.os := fun d os => Calls.regrown_of (hnm _)
        clear hdk hnm
        go_upto_region 8 with fail
        clear hwx p0 p1 p2 x4 y0 y1 y2 z0
        refine wp_region_quiet_below (by kernel_rfl) (by kernel_rfl) ?_
        repeat (go_big_quiet_step (first | exact cV1 _ _ | exact cV2 _ _))
        refine wpQuiet_nil ?_
        intro _ hw'
        obtain ⟨⟨dq, osq⟩, hw''⟩ := hw'
        subst hw''
        have hbq := below_regrown wx dq osq
        obtain ⟨w5, hw5⟩ : ∃ w5, grow (redrawn wx dq) osq = w5 := ⟨_, rfl⟩
        rw [hw5] at hbq ⊢
        have HB5 := Lib.hid hbq
        obtain ⟨z0, z1, z2⟩ := HXB.out w5 hbq
        have htk5 := HTK.out w5
        clear cV1 cV2 i0 hw5 hbq f1 f2
        cases T with
        | false =>
          cases PB with
          | true => exact absurd (hpa rfl) (by decide)
          | false =>
            have e12 : (xo == 12) = false := hpb.symm
            simp only [Bool.false_eq_true, if_false] at hsucc
            clear hpb hpa f3 f4 f5 f6
            go_wp2_with (go_at_call 21; refine htk5.mono ?_; clear htk5; rintro e w' ⟨rfl, rfl⟩; refine Hid.out ?_)
            refine Lib.hid ?_
            have HSUCC := Lib.hid hsucc
            obtain ⟨w8, hw8⟩ : ∃ w8, w5.alloc (.cells #[.string ⟨S2.toArray⟩] 9) = w8 := ⟨_, rfl⟩
            obtain ⟨hb8, hs8⟩ := Cd.below_new (Below.refl _ w5) hw8 (Nat.le_refl _)
            have hbr : Below wr.heap.size wr w8 := (HBX.out.trans (HB5.out.mono HBX.out.size)).trans (hb8.mono (Nat.le_trans HBX.out.size HB5.out.size))
            have HOWN7 := Lib.hid (Dt.own_below HROW.out hbr)
            have HSRC := Lib.hid (Cd.strNew w5 ⟨S2.toArray⟩ hw8)
            have HBS7 : Hid (w1.heap.size ≤ w8.heap.size) := Nat.le_trans HB2.out.size hbr.size
            have HBR := Lib.hid hbr
            clear hsucc hb8 hs8 hbr
            go_wp2_with (at_builtin; refine Ap.list rfl _ _ 24 rfl w1.heap.size 9 i9 (.string ⟨#[]⟩) 1 16 Tryz.underlying24 HJ1.out HJZ0.out HJZ1.out HJZ2.out rfl (by decide) (.slice ao k co) k ((Cd.linesN c k).map Value.string) rfl HOWN7.out (.slice (some ⟨w5.heap.size, 0, none⟩) 1 1) 1 [.string ⟨S2.toArray⟩] rfl HSRC.out rfl (by simp [Value.oneCell']) hm1 hm2 HBS7.out ?_; intro v9 w9 hown9 hgr9 hat9; obtain ⟨a9, c9, rfl⟩ := Dt.row_form hown9)
            have HOWN9 : Hid (w9.ownsRow w1.heap.size 9 1 (.slice a9 (k + 1) c9) (k + 1) ((Cd.linesN c (k + 1)).map Value.string)) := by
              show World.ownsRow _ _ _ _ _ _ _
              rw [HSUCC.out, List.map_append]
              exact hown9
            have HB9 : Hid (Below w1.heap.size w1 w9) := (HB2.out.trans (HBR.out.mono HB2.out.size)).trans ((Cd.keep_grown hgr9).to_below (fun j e => (HROW.out.lt j e).1) HBS7.out)
            clear hown9 hgr9 hat9
            go_wp2
            go_roundw
            case rel => exact ⟨k + 1, a9, c9, rfl, by simp, by omega, HOWN9, HB9⟩
            case measure => simp [intOf]; omega
        | true =>
          have hda5 := HDA.out w5
          cases PB with
          | false =>
            have e12 : (xo == 12) = false := hpb.symm
            simp only [Bool.false_eq_true, if_false, if_true] at hsucc
            clear hpb hpa f5 f6
            go_wp2_with (first | (go_at_call 21; refine htk5.mono ?_; clear htk5; rintro e w' ⟨rfl, rfl⟩) | (go_at_call 20; refine hda5.mono ?_; clear hda5 z0 z1 z2; rintro e w6 ⟨rfl, hb6⟩; have HB6 : Hid (Below wx.heap.size wx w6) := HB5.out.trans (hb6.mono HB5.out.size); clear hb6; refine Hid.out ?_))
            refine Lib.hid ?_
            obtain ⟨z0, z1, z2⟩ := HXB.out w6 HB6.out
            have HSUCC := Lib.hid hsucc
            obtain ⟨w8, hw8⟩ : ∃ w8, w6.alloc (.cells #[.string ⟨S4.toArray⟩] 9) = w8 := ⟨_, rfl⟩
            obtain ⟨hb8, hs8⟩ := Cd.below_new (Below.refl _ w6) hw8 (Nat.le_refl _)
            have hbr : Below wr.heap.size wr w8 := (HBX.out.trans (HB6.out.mono HBX.out.size)).trans (hb8.mono (Nat.le_trans HBX.out.size HB6.out.size))
            have HOWN7 := Lib.hid (Dt.own_below HROW.out hbr)
            have HSRC := Lib.hid (Cd.strNew w6 ⟨S4.toArray⟩ hw8)
            have HBS7 : Hid (w1.heap.size ≤ w8.heap.size) := Nat.le_trans HB2.out.size hbr.size
            have HBR := Lib.hid hbr
            clear hsucc hb8 hs8 hbr
            go_wp2_with (at_builtin; refine Ap.list rfl _ _ 24 rfl w1.heap.size 9 i9 (.string ⟨#[]⟩) 1 16 Tryz.underlying24 HJ1.out HJZ0.out HJZ1.out HJZ2.out rfl (by decide) (.slice ao k co) k ((Cd.linesN c k).map Value.string) rfl HOWN7.out (.slice (some ⟨w6.heap.size, 0, none⟩) 1 1) 1 [.string ⟨S4.toArray⟩] rfl HSRC.out rfl (by simp [Value.oneCell']) hm1 hm2 HBS7.out ?_; intro v9 w9 hown9 hgr9 hat9; obtain ⟨a9, c9, rfl⟩ := Dt.row_form hown9)
            have HOWN9 : Hid (w9.ownsRow w1.heap.size 9 1 (.slice a9 (k + 1) c9) (k + 1) ((Cd.linesN c (k + 1)).map Value.string)) := by
              show World.ownsRow _ _ _ _ _ _ _
              rw [HSUCC.out, List.map_append]
              exact hown9
            have HB9 : Hid (Below w1.heap.size w1 w9) := (HB2.out.trans (HBR.out.mono HB2.out.size)).trans ((Cd.keep_grown hgr9).to_below (fun j e => (HROW.out.lt j e).1) HBS7.out)
            clear hown9 hgr9 hat9
            go_wp2
            go_roundw
            case rel => exact ⟨k + 1, a9, c9, rfl, by simp, by omega, HOWN9, HB9⟩
            case measure => simp [intOf]; omega
          | true =>
            have e12 : (xo == 12) = true := hpb.symm
            simp only [if_true] at hsucc
            rw [HS6.out] at hsucc
            clear hpb hpa
            go_wp2_with (first | (go_at_call 21; refine htk5.mono ?_; clear htk5; rintro e w' ⟨rfl, rfl⟩) | (go_at_call 20; refine hda5.mono ?_; clear hda5 z0 z1 z2; rintro e w6 ⟨rfl, hb6⟩; have HB6 : Hid (Below wx.heap.size wx w6) := HB5.out.trans (hb6.mono HB5.out.size); clear hb6; obtain ⟨z0, z1, z2⟩ := HXB.out w6 HB6.out; have hdb6 := HDB.out w6) | (go_at_call 20; refine hdb6.mono ?_; clear hdb6 z0 z1 z2; rintro e w7 ⟨rfl, hb7⟩; have HB7 : Hid (Below wx.heap.size wx w7) := HB6.out.trans (hb7.mono HB6.out.size); clear hb7; refine Hid.out ?_))
            refine Lib.hid ?_
            have HSUCC := Lib.hid hsucc
            obtain ⟨w8, hw8⟩ : ∃ w8, w7.alloc (.cells #[.string ⟨S6.toArray⟩] 9) = w8 := ⟨_, rfl⟩
            obtain ⟨hb8, hs8⟩ := Cd.below_new (Below.refl _ w7) hw8 (Nat.le_refl _)
            have hbr : Below wr.heap.size wr w8 := (HBX.out.trans (HB7.out.mono HBX.out.size)).trans (hb8.mono (Nat.le_trans HBX.out.size HB7.out.size))
            have HOWN7 := Lib.hid (Dt.own_below HROW.out hbr)
            have HSRC := Lib.hid (Cd.strNew w7 ⟨S6.toArray⟩ hw8)
            have HBS7 : Hid (w1.heap.size ≤ w8.heap.size) := Nat.le_trans HB2.out.size hbr.size
            have HBR := Lib.hid hbr
            clear hsucc hb8 hs8 hbr
            go_wp2_with (at_builtin; refine Ap.list rfl _ _ 24 rfl w1.heap.size 9 i9 (.string ⟨#[]⟩) 1 16 Tryz.underlying24 HJ1.out HJZ0.out HJZ1.out HJZ2.out rfl (by decide) (.slice ao k co) k ((Cd.linesN c k).map Value.string) rfl HOWN7.out (.slice (some ⟨w7.heap.size, 0, none⟩) 1 1) 1 [.string ⟨S6.toArray⟩] rfl HSRC.out rfl (by simp [Value.oneCell']) hm1 hm2 HBS7.out ?_; intro v9 w9 hown9 hgr9 hat9; obtain ⟨a9, c9, rfl⟩ := Dt.row_form hown9)
            have HOWN9 : Hid (w9.ownsRow w1.heap.size 9 1 (.slice a9 (k + 1) c9) (k + 1) ((Cd.linesN c (k + 1)).map Value.string)) := by
              show World.ownsRow _ _ _ _ _ _ _
              rw [HSUCC.out, List.map_append]
              exact hown9
            have HB9 : Hid (Below w1.heap.size w1 w9) := (HB2.out.trans (HBR.out.mono HB2.out.size)).trans ((Cd.keep_grown hgr9).to_below (fun j e => (HROW.out.lt j e).1) HBS7.out)
            clear hown9 hgr9 hat9
            go_wp2
            go_roundw
            case rel => exact ⟨k + 1, a9, c9, rfl, by simp, by omega, HOWN9, HB9⟩
            case measure => simp [intOf]; omega
      · obtain rfl : k = c.ins.length := by omega
        have hge : (c.ins.length : Int) ≤ (c.ins.length : Int) := Int.le_refl _
        have HE : Hid (Cd.LinesPost (Cd.linesN c c.ins.length) w (.returned (.slice ao c.ins.length co)) wr) := by
          refine ⟨ao, co, by rw [Cd.linesN_len], ?_, HB1.out.trans (HB2.out.mono HB1.out.size)⟩
          rw [Cd.linesN_len]
          exact Cd.own_base HROW.out HB1.out.size
        clear hlt
        go_wp2
        go_ret
        exact HE.out
end Go.Proofs.YtlckjphnbfahgaaGreatDoor
namespace Go.Proofs
open Go.Shelf
def Tryz.laysM171_ren : Go.Shelf.Ren := ⟨fun | 171 => 24 | 243 => 42 | 246 => 61 | 283 => 74 | 284 => 75 | 285 => 76 | 286 => 77 | 129 => 88 | 317 => 87 | 318 => 89 | 319 => 90 | 320 => 91 | 337 => 101 | 338 => 102 | n => n, fun | 3 => 3 | 9 => 9 | 2 => 2 | 4 => 4 | 171 => 115 | 0 => 0 | 53 => 116 | 37 => 37 | 5 => 5 | 173 => 119 | 212 => 134 | 51 => 126 | 20 => 20 | 213 => 135 | 46 => 77 | 232 => 148 | 233 => 149 | n => n, fun | 17 => 0 | 18 => 2 | 19 => 3 | n => n⟩
theorem Tryz.laysM171 : Go.Proofs.LaysM.n171 Tryz.prog Tryz.laysM171_ren := {
  mixed := by kernel_rfl
  f129 := Tryz.func88.trans (congrArg some (by kernel_rfl))
  f171 := Tryz.func24.trans (congrArg some (by kernel_rfl))
  f243 := Tryz.func42.trans (congrArg some (by kernel_rfl))
  f246 := Tryz.func61.trans (congrArg some (by kernel_rfl))
  f283 := Tryz.func74.trans (congrArg some (by kernel_rfl))
  f284 := Tryz.func75.trans (congrArg some (by kernel_rfl))
  f285 := Tryz.func76.trans (congrArg some (by kernel_rfl))
  f286 := Tryz.func77.trans (congrArg some (by kernel_rfl))
  f317 := Tryz.func87.trans (congrArg some (by kernel_rfl))
  f318 := Tryz.func89.trans (congrArg some (by kernel_rfl))
  f319 := Tryz.func90.trans (congrArg some (by kernel_rfl))
  f320 := Tryz.func91.trans (congrArg some (by kernel_rfl))
  f337 := Tryz.func101.trans (congrArg some (by kernel_rfl))
  f338 := Tryz.func102.trans (congrArg some (by kernel_rfl))
  t0 := Tryz.underlying0
  a0 := Tryz.isAgg0
  z0 := Tryz.sizeOf0
  v0 := Tryz.zeroValue0
  t2 := Tryz.underlying2
  a2 := Tryz.isAgg2
  z2 := Tryz.sizeOf2
  v2 := Tryz.zeroValue2
  t3 := Tryz.underlying3
  a3 := Tryz.isAgg3
  z3 := Tryz.sizeOf3
  v3 := Tryz.zeroValue3
  t4 := Tryz.underlying4
  a4 := Tryz.isAgg4
  z4 := Tryz.sizeOf4
  v4 := Tryz.zeroValue4
  t5 := Tryz.underlying5
  a5 := Tryz.isAgg5
  z5 := Tryz.sizeOf5
  v5 := Tryz.zeroValue5
  t9 := Tryz.underlying9
  a9 := Tryz.isAgg9
  z9 := Tryz.sizeOf9
  v9 := Tryz.zeroValue9
  t20 := Tryz.underlying20
  a20 := Tryz.isAgg20
  z20 := Tryz.sizeOf20
  v20 := Tryz.zeroValue20
  t37 := Tryz.underlying37
  a37 := Tryz.isAgg37
  z37 := Tryz.sizeOf37
  v37 := Tryz.zeroValue37
  t46 := Tryz.underlying77
  a46 := Tryz.isAgg77
  z46 := Tryz.sizeOf77
  v46 := Tryz.zeroValue77
  t51 := Tryz.underlying126
  a51 := Tryz.isAgg126
  z51 := Tryz.sizeOf126
  v51 := Tryz.zeroValue126
  t53 := Tryz.underlying116
  a53 := Tryz.isAgg116
  z53 := Tryz.sizeOf116
  v53 := Tryz.zeroValue116
  t171 := Tryz.underlying115
  a171 := Tryz.isAgg115
  z171 := Tryz.sizeOf115
  v171 := Tryz.zeroValue115
  t173 := Tryz.underlying119
  a173 := Tryz.isAgg119
  z173 := Tryz.sizeOf119
  v173 := Tryz.zeroValue119
  t212 := Tryz.underlying134
  a212 := Tryz.isAgg134
  z212 := Tryz.sizeOf134
  v212 := Tryz.zeroValue134
  t213 := Tryz.underlying135
  a213 := Tryz.isAgg135
  z213 := Tryz.sizeOf135
  t232 := Tryz.underlying148
  a232 := Tryz.isAgg148
  z232 := Tryz.sizeOf148
  v232 := Tryz.zeroValue148
  t233 := Tryz.underlying149
  a233 := Tryz.isAgg149
  z233 := Tryz.sizeOf149
  v233 := Tryz.zeroValue149
  g17 := by kernel_rfl
  g18 := by kernel_rfl
  g19 := by kernel_rfl
  i0 := by kernel_rfl
  i2 := by kernel_rfl
  i3 := by kernel_rfl
  i4 := by kernel_rfl
  i5 := by kernel_rfl
  i9 := by kernel_rfl
  i20 := by kernel_rfl
  i37 := by kernel_rfl
  i46 := by kernel_rfl
  i51 := by kernel_rfl
  i53 := by kernel_rfl
  i171 := by kernel_rfl
  i173 := by kernel_rfl
  i212 := by kernel_rfl
  i232 := by kernel_rfl
  i233 := by kernel_rfl
  m17 := by kernel_rfl
  m18 := by kernel_rfl
  m19 := by kernel_rfl }
open Go.RowKit Go.Sort Go.Lib in
theorem Tryz.strconv_Itoa (n : Int) (h0 : -9223372036854775808 ≤ n) (h1 : n ≤ 9223372036854775807) (w : World) (htab : Lib.TabIs Tryz.prog w "internal/strconv.uint64pow10" .u64 Lib.pow10Tab) :
    Calls Tryz.prog 24 #[.int .i64 n] w fun e w' => e = .returned (.string ⟨(Lib.itoa n).toArray⟩) ∧ ∃ k os, w' = grow (w.drewN k) os := Any.strconv_Itoa Tryz.laysM171 n h0 h1 w htab
end Go.Proofs
namespace Go.Proofs.YtlckjphnbfahgaaGreatDoor
open Go.RowKit Go.Sort Go.Shelf
attribute [local go_sem] Oper.semAt_some
namespace Cd
/-- the library's table lies as it does -/
def T10 (w : World) : Prop := Lib.TabIs Tryz.prog w "internal/strconv.uint64pow10" .u64 Lib.pow10Tab
theorem T10.on {w w' : World} (h : T10 w) (hb : Below w.heap.size w w') : T10 w' := (Lib.tabBelow_of_tabIs h) w' hb
theorem below_grow (w : World) (os : Array Obj) : Below w.heap.size w (grow w os) := ⟨rfl, rfl, rfl, by simp [grow], fun k hk => by simp [grow, Array.getElem?_append, hk]⟩
theorem itoa_any (u : Nat) (hu : u ≤ 9223372036854775807) (w : World) (hT : T10 w) : Calls Tryz.prog 24 #[.int .i64 (u : Int)] w fun e w' => e = .returned (.string ⟨(Lib.decDigits u).toArray⟩) ∧ Below w.heap.size w w' := by
  refine (Tryz.strconv_Itoa (u : Int) (by omega) (by omega) w hT).mono ?_
  rintro e w' ⟨rfl, k, os, rfl⟩
  rw [Lib.itoa_nonneg]
  exact ⟨rfl, (Dt.bdrew (Below.refl _ w) k).trans (below_grow (w.drewN k) os)⟩
theorem linesN_pre (c : Code) {k n : Nat} (h : k ≤ n) : linesN c k <+: linesN c n := by
  obtain ⟨d, rfl⟩ : ∃ d, n = k + d := ⟨n - k, by omega⟩
  clear h
  induction d with
  | zero => exact List.prefix_refl _
  | succ d ih => rw [← Nat.add_assoc, linesN_succ]; exact ih.trans (List.prefix_append _ _)
theorem grown_of_below {w w' : World} (h : Below w.heap.size w w') : w.grownBy w' none := ⟨h.os, h.tape, h.output, h.size, fun k hk _ => h.block k hk⟩
theorem opBox {w w1 : World} {a b c d e f g : Value} (h : w.alloc (.cells #[a, b, c, d, e, f, g] 58) = w1) : ∀ W, Below w1.heap.size w1 W → W.cell? ⟨w.heap.size, 0, none⟩ = some a ∧ W.cell? ⟨w.heap.size, 1, none⟩ = some b ∧ W.cell? ⟨w.heap.size, 5, none⟩ = some f := by
  intro W hW
  have h1 := (hW.block w.heap.size (by rw [← h]; simp)).trans (box_heap h)
  exact ⟨by rw [hcell h1]; rfl, by rw [hcell h1]; rfl, by rw [hcell h1]; rfl⟩
set_option maxRecDepth 100000 in
theorem lenIns (base : Option Addr) (n c : Nat) (w : World) : (Builtin.len_ #[45] 3 #[.slice base n c]).run Tryz.prog w = .ok (goInt n) w := run_len_slice (P := Tryz.prog) (w := w) 45 3 base n c rfl
set_option maxRecDepth 100000 in
theorem lenCodes (base : Option Addr) (n c : Nat) (w : World) : (Builtin.len_ #[22] 3 #[.slice base n c]).run Tryz.prog w = .ok (goInt n) w := run_len_slice (P := Tryz.prog) (w := w) 22 3 base n c rfl
end Cd
attribute [local go_sem] Cd.lenIns Cd.lenCodes
set_option maxRecDepth 100000 in
set_option maxHeartbeats 16000000 in
theorem Lines1_in {F : Nat → Prop} (n : Nat) (hn : 2 ≤ n) (l Bp Bk : Nat) (p : Cd.Prog) (k : Int) (a1 a2 a3 : Option Addr) (c1 c2 c3 : Nat) (w : World) (hp : Cd.PRep F w p (.slice a1 p.codes.length c1) (.slice a2 p.consts.length c2) (.slice a3 p.names.length c3)) (hw : Cd.PWf p) (hT : Cd.T10 w)
    (J Jx : List ByteArray → World → Prop) (xs : List ByteArray) (hxs : xs = Cd.linesOf p k) (W : World) (hW : Below w.heap.size w W) (hJ : AbidesFrom W.heap.size J)
    (hY : ∀ pre x W1, J pre W1 → pre.length < xs.length → YieldAt Fence.wide (n - 1) Tryz.prog l #[.string x] W1 fun e W' =>
      (e = .returned (.bool true) ∧ J (pre ++ [x]) W' ∧ Below w.heap.size W1 W') ∨ (e = .returned (.bool false) ∧ Jx (pre ++ [x]) W'))
    (hBp : w.cell? ⟨Bp, 0, none⟩ = some (.slice a1 p.codes.length c1) ∧ w.cell? ⟨Bp, 1, none⟩ = some (.slice a2 p.consts.length c2) ∧ w.cell? ⟨Bp, 2, none⟩ = some (.slice a3 p.names.length c3)) (hBk : w.cell? ⟨Bk, 0, none⟩ = some (.int .i64 k)) (h0 : J [] W) :
    CallsIn Fence.wide n Tryz.prog 23 #[.func (.yield l) #[] #[], .pointer (some ⟨Bp, 0, none⟩), .pointer (some ⟨Bk, 0, none⟩)] W fun e W' => (∃ v, e = .returned v) ∧
      ((∃ ys, ys = xs ∧ J ys W') ∨ (∃ pre, pre <+: xs ∧ Jx pre W')) := by
  have HBP : Hid (∀ W, Below w.heap.size w W → (W.cell? ⟨Bp, 0, none⟩ = some (.slice a1 p.codes.length c1) ∧ W.cell? ⟨Bp, 1, none⟩ = some (.slice a2 p.consts.length c2) ∧ W.cell? ⟨Bp, 2, none⟩ = some (.slice a3 p.names.length c3)) ∧ W.cell? ⟨Bk, 0, none⟩ = some (.int .i64 k)) := fun W hW =>
    ⟨⟨(hW.cell (block_lt_of_cell hBp.1)).trans hBp.1, (hW.cell (block_lt_of_cell hBp.2.1)).trans hBp.2.1, (hW.cell (block_lt_of_cell hBp.2.2)).trans hBp.2.2⟩, (hW.cell (block_lt_of_cell hBk)).trans hBk⟩
  obtain ⟨⟨p0, p1, p2⟩, k0⟩ := HBP.out W hW
  have HIT : Hid (∀ (u : Nat) (W : World), u ≤ 9223372036854775807 → Below w.heap.size w W → Calls Tryz.prog 24 #[.int .i64 (u : Int)] W fun e w' => e = .returned (.string ⟨(Lib.decDigits u).toArray⟩) ∧ Below W.heap.size W w') := fun u W hu hW => Cd.itoa_any u hu W (hT.on hW)
  have hck := check_any p _ _ _ W (hp.below hW) hw
  have HW := Lib.hid hW
  have HJ := Lib.hid hJ
  have HY := Lib.hid hY
  have HJ0 := Lib.hid h0
  have hn1 : 1 ≤ n := by omega
  clear hJ hY h0 hT hBp hBk
  by_cases h0 : Cd.checkP p = 0
  case neg =>
    rw [Cd.linesOf_no (.inl h0)] at hxs
    obtain ⟨R, hR⟩ : ∃ R, Cd.checkP p = R := ⟨_, rfl⟩
    rw [hR] at hck h0
    have h0' : (R != 0) = true := bne_iff_ne.2 h0
    subst hxs
    clear hp hw hR h0 hW
    refine callsIn_of_wp Tryz.func23 rfl trivial ?_ rfl
    simp only [Tryz.ntmps23, List.size_toArray, List.length_cons, List.length_nil, Nat.reduceAdd, Nat.reduceSub, Array.replicate_succ, Array.replicate_zero, List.push_toArray, List.append_toArray, List.nil_append, List.cons_append]
    gi_wp2_with (refine ⟨trivial, ?_⟩; gi_at_call 17; refine (callsIn_wide.2 hck).mono ?_; clear hck p0 p1 p2 k0; rintro e w2 ⟨rfl, hb2⟩; have HB2 := Lib.hid hb2; clear hb2)
    refine bodyPost_ret (results_none rfl _ _ _) rfl ?_
    exact ⟨⟨_, rfl⟩, .inl ⟨_, rfl, HJ.out [] W w2 none HJ0.out (Cd.grown_of_below HB2.out) (by simp)⟩⟩
  rw [h0] at hck
  by_cases h1 : k < 0 ∨ (p.codes.length : Int) ≤ k
  · rw [Cd.linesOf_no (.inr h1)] at hxs
    subst hxs
    by_cases h2 : k < 0
    · have h2' : decide (k < 0) = true := decide_eq_true h2
      clear hp hw h1 h0 hW
      refine callsIn_of_wp Tryz.func23 rfl trivial ?_ rfl
      simp only [Tryz.ntmps23, List.size_toArray, List.length_cons, List.length_nil, Nat.reduceAdd, Nat.reduceSub, Array.replicate_succ, Array.replicate_zero, List.push_toArray, List.append_toArray, List.nil_append, List.cons_append]
      gi_wp2_with (refine ⟨trivial, ?_⟩; gi_at_call 17; refine (callsIn_wide.2 hck).mono ?_; clear hck p0 p1 p2 k0; rintro e w2 ⟨rfl, hb2⟩; have HB2 := Lib.hid hb2; obtain ⟨⟨p0, p1, p2⟩, k0⟩ := HBP.out w2 (HW.out.trans (hb2.mono HW.out.size)); clear hb2)
      refine bodyPost_ret (results_none rfl _ _ _) rfl ?_
      exact ⟨⟨_, rfl⟩, .inl ⟨_, rfl, HJ.out [] W w2 none HJ0.out (Cd.grown_of_below HB2.out) (by simp)⟩⟩
    · have h2' : decide (k < 0) = false := decide_eq_false h2
      have h3' : decide ((p.codes.length : Int) ≤ k) = true := decide_eq_true (by omega)
      clear hp hw h1 h0 hW h2
      refine callsIn_of_wp Tryz.func23 rfl trivial ?_ rfl
      simp only [Tryz.ntmps23, List.size_toArray, List.length_cons, List.length_nil, Nat.reduceAdd, Nat.reduceSub, Array.replicate_succ, Array.replicate_zero, List.push_toArray, List.append_toArray, List.nil_append, List.cons_append]
      gi_wp2_with (refine ⟨trivial, ?_⟩; gi_at_call 17; refine (callsIn_wide.2 hck).mono ?_; clear hck p0 p1 p2 k0; rintro e w2 ⟨rfl, hb2⟩; have HB2 := Lib.hid hb2; obtain ⟨⟨p0, p1, p2⟩, k0⟩ := HBP.out w2 (HW.out.trans (hb2.mono HW.out.size)); clear hb2)
      refine bodyPost_ret (results_none rfl _ _ _) rfl ?_
      exact ⟨⟨_, rfl⟩, .inl ⟨_, rfl, HJ.out [] W w2 none HJ0.out (Cd.grown_of_below HB2.out) (by simp)⟩⟩
  · obtain ⟨j, rfl⟩ : ∃ j : Nat, k = (j : Int) := ⟨k.toNat, by omega⟩
    have hj : j < p.codes.length := by omega
    have hji : (j : Int) < (p.codes.length : Int) := by omega
    have h3' : decide ((p.codes.length : Int) ≤ (j : Int)) = false := decide_eq_false (by omega)
    have hj0 : (0 : Int) ≤ (j : Int) := by omega
    have h2' : decide ((j : Int) < 0) = false := decide_eq_false (by omega)
    have h3n : decide (p.codes.length ≤ j) = false := decide_eq_false (by omega)
    rw [Cd.linesOf_yes h0 hj] at hxs
    obtain ⟨-, -, hg⟩ := Cd.check_codes h0
    have hgd := Cd.good_good (hg p.codes[j] (List.getElem_mem hj))
    obtain ⟨b, o, rfl, -, hbl, x0, x1, x2, x3, vi, x4, hi⟩ := Cd.code_at hp.codes j hj
    have hwfx := (hw.wc p.codes[j] (List.getElem_mem hj)).2.2.2.2.2
    have hok : ∀ i, (h : i < p.codes[j].ins.length) → 1 ≤ p.codes[j].ins[i].o ∧ p.codes[j].ins[i].o ≤ 16 ∧ 0 ≤ p.codes[j].ins[i].a ∧ 0 ≤ p.codes[j].ins[i].b ∧ p.codes[j].ins[i].a ≤ 9223372036854775807 ∧ p.codes[j].ins[i].b ≤ 9223372036854775807 := fun i h => by
      have h1 := hgd.ins i h
      have h2 := Cd.ins_pos h1 hg
      have h3 := hwfx p.codes[j].ins[i] (List.getElem_mem h)
      exact ⟨h1.some.1, h1.some.2, h2.1, h2.2, h3.2.1.2, h3.2.2.2⟩
    have hl1 : 1 ≤ p.codes[j].ins.length := List.length_pos_iff.2 hgd.ne
    have hl2 := hgd.len
    obtain ⟨c, hc⟩ : ∃ c, c = p.codes[j] := ⟨_, rfl⟩
    rw [← hc] at hi hl1 hl2 hok hxs
    obtain ⟨ai, ci, rfl, -, hic⟩ := hi
    obtain ⟨g, og, rfl, -, hgl, hic⟩ := hic (List.length_pos_iff.1 hl1)
    have HOK := Lib.hid hok
    have HIC : Hid (∀ W, Below w.heap.size w W → ∀ i, (h : i < c.ins.length) → W.cell? ⟨g, og + i * 3, none⟩ = some (.int .i64 c.ins[i].o) ∧ W.cell? ⟨g, og + i * 3 + 1, none⟩ = some (.int .i64 c.ins[i].a) ∧ W.cell? ⟨g, og + i * 3 + 2, none⟩ = some (.int .i64 c.ins[i].b)) := fun W hW i h =>
      have hc : ∀ i, W.cell? ⟨g, i, none⟩ = w.cell? ⟨g, i, none⟩ := fun i => hW.cell (p := ⟨g, i, none⟩) hgl
      ⟨(hc _).trans (hic i h).1, (hc _).trans (hic i h).2.1, (hc _).trans (hic i h).2.2⟩
    have HX4 : Hid (∀ W, Below w.heap.size w W → W.cell? ⟨b, o + j * 5 + 4, none⟩ = some (.slice (some ⟨g, og, none⟩) c.ins.length ci)) := fun W hW => (hW.cell (p := ⟨b, o + j * 5 + 4, none⟩) hbl).trans x4
    have HL : Hid (1 ≤ c.ins.length ∧ c.ins.length ≤ 4096) := ⟨hl1, hl2⟩
    have HXS := Lib.hid hxs
    have HXL : Hid (xs.length = c.ins.length) := by show _ = _; rw [hxs, Cd.linesN_len]
    clear hp hw h1 h0 hg hgd hwfx hok hc x0 x1 x2 x3 x4 hic hgl hbl hl1 hl2 hj hxs hW
    refine callsIn_of_wp Tryz.func23 rfl trivial ?_ rfl
    simp only [Tryz.ntmps23, List.size_toArray, List.length_cons, List.length_nil, Nat.reduceAdd, Nat.reduceSub, Array.replicate_succ, Array.replicate_zero, List.push_toArray, List.append_toArray, List.nil_append, List.cons_append]
    gi_wp2_with (refine ⟨trivial, ?_⟩; gi_at_call 17; refine (callsIn_wide.2 hck).mono ?_; clear hck p0 p1 p2 k0; rintro e w2 ⟨rfl, hb2⟩; have HB2 : Hid (Below w.heap.size w w2) := HW.out.trans (hb2.mono HW.out.size); have HJ2 := Lib.hid (HJ.out [] W w2 none HJ0.out (Cd.grown_of_below hb2) (by simp)); obtain ⟨⟨p0, p1, p2⟩, k0⟩ := HBP.out w2 HB2.out; have x4 := HX4.out w2 HB2.out; have hs2 := hb2.size; clear hb2)
    clear p0 p1 p2 k0 x4
    gi_loopw [30] (fun i wr => ∃ k : Nat, i = .int .i64 k ∧ k ≤ c.ins.length ∧ Hid (J (Cd.linesN c k) wr) ∧ Hid (Below w.heap.size w wr) ∧ W.heap.size ≤ wr.heap.size) (fun i _ => c.ins.length - (intOf i).toNat)
    case atStart => exact ⟨0, rfl, by omega, HJ2, HB2, hs2⟩
    case round =>
      clear HB2 HJ2 hs2
      obtain ⟨k, rfl, hk, HJK, HB2, hsW⟩ := hrel
      by_cases hlt : k < c.ins.length
      · have hlti : (k : Int) < (c.ins.length : Int) := by omega
        have hk0 : (0 : Int) ≤ (k : Int) := by omega
        have hk4 : (k : Int) < 4096 := by have := HL.out.2; omega
        obtain ⟨y0, y1, y2⟩ := HIC.out _ HB2.out k hlt
        obtain ⟨g1, g2, g3, g4, g5, g6⟩ := HOK.out k hlt
        have hsucc := Cd.linesN_succ c k
        rw [List.getD_eq_getElem?_getD, List.getElem?_eq_getElem hlt, Option.getD_some] at hsucc
        obtain ⟨x, hx⟩ : ∃ x, c.ins[k] = x := ⟨_, rfl⟩
        rw [hx] at y0 y1 y2 g1 g2 g3 g4 g5 g6 hsucc
        obtain ⟨xo, xa, xb⟩ := x
        simp only at y0 y1 y2 g1 g2 g3 g4 g5 g6
        obtain ⟨ua, rfl⟩ := Int.eq_ofNat_of_zero_le g3
        obtain ⟨ub, rfl⟩ := Int.eq_ofNat_of_zero_le g4
        obtain ⟨N, hN1, hN2, hN3⟩ := Cd.nmL xo
        have hsl : Cd.lineB k ⟨xo, ua, ub⟩ = ⟨(Cd.s2 k ⟨xo, ua, ub⟩).toArray⟩ := rfl
        rw [hsl] at hsucc
        have hpa := @Cd.pb_a xo
        unfold Cd.s2 Cd.s1 Cd.s0 at hsucc
        simp only [hN2, Int.toNat_natCast] at hsucc
        have hld := Cd.decD_len k (by have := HL.out.2; omega)
        have hla := Cd.decD_len ua (by omega)
        have hlb := Cd.decD_len ub (by omega)
        have HDK : Hid (∀ W, Below w.heap.size w W → Calls Tryz.prog 24 #[.int .i64 (k : Int)] W fun e w' => e = .returned (.string ⟨(Lib.decDigits k).toArray⟩) ∧ Below W.heap.size W w') := fun W hW => HIT.out k W (by have := HL.out.2; omega) hW
        have HDA : Hid (∀ W, Below w.heap.size w W → Calls Tryz.prog 24 #[.int .i64 (ua : Int)] W fun e w' => e = .returned (.string ⟨(Lib.decDigits ua).toArray⟩) ∧ Below W.heap.size W w') := fun W hW => HIT.out ua W (by omega) hW
        have HDB : Hid (∀ W, Below w.heap.size w W → Calls Tryz.prog 24 #[.int .i64 (ub : Int)] W fun e w' => e = .returned (.string ⟨(Lib.decDigits ub).toArray⟩) ∧ Below W.heap.size W w') := fun W hW => HIT.out ub W (by omega) hW
        obtain ⟨DK, hDK⟩ : ∃ DK, Lib.decDigits k = DK := ⟨_, rfl⟩
        obtain ⟨DA, hDA⟩ : ∃ DA, Lib.decDigits ua = DA := ⟨_, rfl⟩
        obtain ⟨DB, hDB⟩ : ∃ DB, Lib.decDigits ub = DB := ⟨_, rfl⟩
        rw [hDK] at HDK hld hsucc
        rw [hDA] at HDA hla hsucc
        rw [hDB] at HDB hlb hsucc
        obtain ⟨T, hT⟩ : ∃ T, decide ((Cd.op xo).a ≠ 0) = T := ⟨_, rfl⟩
        obtain ⟨ov, hov⟩ : ∃ ov, Cd.op xo = ov := ⟨_, rfl⟩
        have hops := ops_any xo
        obtain ⟨ob, hob⟩ : ∃ ob, (Cd.opT xo).isSome = ob := ⟨_, rfl⟩
        have hopv : Cd.opV xo = .agg #[.string ⟨N.toArray⟩, .int .i64 (ov.a : Int), .int .i64 ov.needs, .int .i64 ov.leaves, .bool ov.pa, .bool ov.pb, .bool ov.en] := by unfold Cd.opV; rw [hN1, hov]
        rw [hob, hopv] at hops
        rw [hov] at hT hpa hsucc
        rw [hT] at hpa hsucc
        obtain ⟨A, hA⟩ : ∃ A, ov.a = A := ⟨_, rfl⟩
        obtain ⟨PB, hPB⟩ : ∃ PB, ov.pb = PB := ⟨_, rfl⟩
        rw [hPB] at hpa hsucc hops
        rw [hA] at hT hops
        have hAT : ((A : Int) != 0) = T := by rw [← hT]; by_cases e : A = 0 <;> simp [e]
        have f1 := fun w => Cd.cat (x := DK) (y := [32]) (by omega) (by simp) w
        obtain ⟨S1, hS1⟩ : ∃ S, DK ++ [32] = S := ⟨_, rfl⟩
        rw [hS1] at f1 hsucc
        have hl1 : S1.length ≤ 30 := by rw [← hS1]; simp; omega
        have f2 := fun w => Cd.cat (x := S1) (y := N) (by omega) (by omega) w
        obtain ⟨S2, hS2⟩ : ∃ S, S1 ++ N = S := ⟨_, rfl⟩
        rw [hS2] at f2 hsucc
        have hl2 : S2.length ≤ 50 := by rw [← hS2]; simp; omega
        have f3 := fun w => Cd.cat (x := [32]) (y := DA) (by simp) (by omega) w
        obtain ⟨S3, hS3⟩ : ∃ S, [32] ++ DA = S := ⟨_, rfl⟩
        rw [hS3] at f3 hsucc
        have hl3 : S3.length ≤ 30 := by rw [← hS3]; simp; omega
        have f4 := fun w => Cd.cat (x := S2) (y := S3) (by omega) (by omega) w
        obtain ⟨S4, hS4⟩ : ∃ S, S2 ++ S3 = S := ⟨_, rfl⟩
        rw [hS4] at f4 hsucc
        have hl4 : S4.length ≤ 100 := by rw [← hS4]; simp; omega
        have f5 := fun w => Cd.cat (x := [32]) (y := DB) (by simp) (by omega) w
        obtain ⟨S5, hS5⟩ : ∃ S, [32] ++ DB = S := ⟨_, rfl⟩
        rw [hS5] at f5 hsucc
        have hl5 : S5.length ≤ 30 := by rw [← hS5]; simp; omega
        have f6 := fun w => Cd.cat (x := S4) (y := S5) (by omega) (by omega) w
        obtain ⟨S6, hS6⟩ : ∃ S, S4 ++ S5 = S := ⟨_, rfl⟩
        rw [hS6] at f6
        have HS6 := Lib.hid hS6
        obtain ⟨wx, hwx⟩ : ∃ wx, wr.alloc (.cells #[.int .i64 xo, .int .i64 (ua : Int), .int .i64 (ub : Int)] 55) = wx := ⟨_, rfl⟩
        have hxb := Cd.insBox hwx
        obtain ⟨hbx, hsx⟩ := Cd.below_new (Below.refl _ wr) hwx (Nat.le_refl _)
        obtain ⟨X, hX⟩ : ∃ X, wr.heap.size = X := ⟨_, rfl⟩
        rw [hX] at hxb hsx
        have HXB := Lib.hid hxb
        have HBX := Lib.hid hbx
        have hopx := hops wx
        obtain ⟨z0, z1, z2⟩ := HXB.out wx (Below.refl _ _)
        have HPRE := Lib.hid (Cd.linesN_pre c hlt)
        clear hxb hbx hsx hx hN1 hN2 hN3 hsl hla hlb hld hDK hDA hDB hS1 hS2 hS3 hS4 hS5 hS6 hl1 hl2 hl3 hl4 hl5 g1 g2 g3 g4 g5 g6 hT hPB hops hob hopv hov hA
        gi_wp2_with (refine ⟨trivial, ?_⟩; gi_at_call 22; refine (callsIn_wide.2 hopx).mono ?_; clear hopx z0 z1 z2; rintro e w3 ⟨rfl, hb3⟩; refine Hid.out ?_)
        refine Lib.hid ?_
        clear hwx y0 y1 y2
        obtain ⟨w4, hw4⟩ : ∃ w4, w3.alloc (.cells #[.string ⟨N.toArray⟩, .int .i64 (A : Int), .int .i64 ov.needs, .int .i64 ov.leaves, .bool ov.pa, .bool PB, .bool ov.en] 58) = w4 := ⟨_, rfl⟩
        have hob := Cd.opBox hw4
        obtain ⟨hb4, hs4⟩ := Cd.below_new (Below.refl _ w3) hw4 (Nat.le_refl _)
        obtain ⟨O, hO⟩ : ∃ O, w3.heap.size = O := ⟨_, rfl⟩
        rw [hO] at hob hs4
        have HOB := Lib.hid hob
        have HBR4 : Hid (Below wr.heap.size wr w4) := HBX.out.trans ((hb3.trans (hb4.mono hb3.size)).mono HBX.out.size)
        have HXB4 : Hid (∀ W, Below w4.heap.size w4 W → W.cell? ⟨X, 0, none⟩ = some (.int .i64 xo) ∧ W.cell? ⟨X, 1, none⟩ = some (.int .i64 (ua : Int)) ∧ W.cell? ⟨X, 2, none⟩ = some (.int .i64 (ub : Int))) := fun W hW => HXB.out W ((hb3.trans (hb4.mono hb3.size)).trans (hW.mono (hb3.trans (hb4.mono hb3.size)).size))
        have HBW4 : Hid (Below w.heap.size w w4) := HB2.out.trans (HBR4.out.mono HB2.out.size)
        clear hob hb3 hb4 hs4 HXB HBX
        obtain ⟨o0, o1, o5⟩ := HOB.out w4 (Below.refl _ _)
        gi_wp2
        clear hw4 o0 o1 o5
        refine wpIn_region_any (by kernel_rfl) ?_
        have HBD : Hid (Below w4.heap.size w4 w4.drew) := (Below.refl _ w4).drew
        refine wpAnyIn_take (i := 0) (v := ?_) rfl rfl (by kernel_rfl) (by kernel_rfl) (by kernel_rfl) (fun _ _ _ h => h) ⟨Or.inl ⟨by rfl, ?_⟩, fun _ => rfl⟩ ?_
        rotate_left
        · intro w9
          go_simp
          try with_reducible rfl
        simp only [Act.put, List.setIfInBounds_toArray]
        refine wpAnyIn_take (i := 3) (v := ?_) rfl rfl (by kernel_rfl) (by kernel_rfl) (by kernel_rfl) (fun _ _ _ h => h) ⟨Or.inl ⟨by rfl, ?_⟩, fun _ => rfl⟩ ?_
        rotate_left
        · intro w9
          go_simp
          try with_reducible rfl
        simp only [Act.put]
        refine wpAnyIn_ready (rs := [1, 4]) (by kernel_rfl) (by simp) ?_
        refine AllReadyIn.cons rfl (fun K hK => ?_) ?_
        · go_simp
          refine ⟨trivial, ?_⟩
          gi_at_call 24
          refine (callsIn_wide.2 (HDK.out _ (HBW4.out.trans (HBD.out.mono HBW4.out.size)))).mono ?_
          rintro e W5 ⟨rfl, hb5⟩
          have HB5 : Hid (Below w4.heap.size w4 W5) := HBD.out.trans (hb5.mono HBD.out.size)
          obtain ⟨o0, o1, o5⟩ := HOB.out W5 HB5.out
          clear hb5
          dsimp only
          first | (refine hK _ _ ?_; clear hK K) | skip
          try simp only [Act.put, List.setIfInBounds_toArray, List.set_cons_zero, List.set_cons_succ]
          refine wpAnyIn_take (i := 2) (v := ?_) rfl rfl (by kernel_rfl) (by kernel_rfl) (by kernel_rfl) (fun _ _ _ h => h) ⟨Or.inl ⟨by rfl, ?_⟩, fun _ => rfl⟩ ?_
          rotate_left
          · intro w9
            go_simp
            try with_reducible rfl
          simp only [Act.put, List.setIfInBounds_toArray]
          refine wpAnyIn_ready (rs := [4]) (by kernel_rfl) (by simp) ?_
          refine AllReadyIn.cons rfl (fun K hK => ?_) AllReadyIn.nil
          go_simp
          first | (refine hK _ _ ?_; clear hK K) | skip
          try simp only [Act.put, List.setIfInBounds_toArray, List.set_cons_zero, List.set_cons_succ]
          refine wpAnyIn_take (i := 5) (v := ?_) rfl rfl (by kernel_rfl) (by kernel_rfl) (by kernel_rfl) (fun _ _ _ h => h) ⟨Or.inl ⟨by rfl, ?_⟩, fun _ => rfl⟩ ?_
          rotate_left
          · intro w9
            go_simp
            try with_reducible rfl
          simp only [Act.put, List.setIfInBounds_toArray]
          refine wpAnyIn_ready (rs := [6]) (by kernel_rfl) (by simp) ?_
          refine AllReadyIn.cons rfl (fun K hK => ?_) AllReadyIn.nil
          go_simp
          first | (refine hK _ _ ?_; clear hK K) | skip
          try simp only [Act.put, List.setIfInBounds_toArray, List.set_cons_zero, List.set_cons_succ]
          refine wpAnyIn_done (by kernel_rfl) ?_ _
          obtain ⟨z0, z1, z2⟩ := HXB4.out W5 HB5.out
          cases T with
          | false =>
            cases PB with
            | true => exact absurd (hpa rfl) (by decide)
            | false =>
              simp only [Bool.false_eq_true, if_false] at hsucc
              clear hpa f1 f2 f3 f4 f5 f6
              have HSUCC := Lib.hid hsucc
              have HBRW : Hid (Below wr.heap.size wr W5) := HBR4.out.trans (HB5.out.mono HBR4.out.size)
              obtain ⟨fn, tmps, assign, body, hy, hR⟩ := HY.out _ ⟨S2.toArray⟩ W5 (HJ.out _ _ _ none HJK.out (Cd.grown_of_below HBRW.out) (by simp)) (by rw [Cd.linesN_len, HXL.out]; omega)
              clear hsucc
              gi_wp2
              refine hR.mono ?_
              rintro e W9 (⟨rfl, hJ9, hk9⟩ | ⟨rfl, hJx9⟩)
              · have HB9 : Hid (Below w.heap.size w W9) := (HB2.out.trans (HBRW.out.mono HB2.out.size)).trans hk9
                have HJ9 : Hid (J (Cd.linesN c (k + 1)) W9) := by
                  show J _ _
                  rw [HSUCC.out]
                  exact hJ9
                have hs9 : W.heap.size ≤ W9.heap.size := by have h1 := HBRW.out.size; have h2 := hk9.size; omega
                clear hJ9 hk9
                gi_wp2
                go_roundw
                case rel => exact ⟨k + 1, by simp, by omega, HJ9, HB9, hs9⟩
                case measure => simp [intOf]; omega
              · have HJ9 : Hid (Jx (Cd.linesN c (k + 1)) W9) := by
                  show Jx _ _
                  rw [HSUCC.out]
                  exact hJx9
                clear hJx9
                gi_wp2
                refine bodyPost_ret (results_none rfl _ _ _) rfl ?_
                exact ⟨⟨_, rfl⟩, .inr ⟨_, by rw [HXS.out]; exact HPRE.out, HJ9.out⟩⟩
          | true =>
            gi_wp2_with (refine ⟨trivial, ?_⟩; gi_at_call 24; refine (callsIn_wide.2 (HDA.out _ (HBW4.out.trans (HB5.out.mono HBW4.out.size)))).mono ?_; clear z0 z1 z2 o0 o1 o5; rintro e W6 ⟨rfl, hb6⟩; have HB6 : Hid (Below w4.heap.size w4 W6) := HB5.out.trans (hb6.mono HB5.out.size); clear hb6; obtain ⟨z0, z1, z2⟩ := HXB4.out W6 HB6.out; obtain ⟨o0, o1, o5⟩ := HOB.out W6 HB6.out; refine Hid.out ?_)
            refine Lib.hid ?_
            cases PB with
            | false =>
              simp only [Bool.false_eq_true, if_false, if_true] at hsucc
              clear hpa f1 f2 f5 f6
              have HSUCC := Lib.hid hsucc
              have HBRW : Hid (Below wr.heap.size wr W6) := HBR4.out.trans (HB6.out.mono HBR4.out.size)
              obtain ⟨fn, tmps, assign, body, hy, hR⟩ := HY.out _ ⟨S4.toArray⟩ W6 (HJ.out _ _ _ none HJK.out (Cd.grown_of_below HBRW.out) (by simp)) (by rw [Cd.linesN_len, HXL.out]; omega)
              clear hsucc
              gi_wp2
              refine hR.mono ?_
              rintro e W9 (⟨rfl, hJ9, hk9⟩ | ⟨rfl, hJx9⟩)
              · have HB9 : Hid (Below w.heap.size w W9) := (HB2.out.trans (HBRW.out.mono HB2.out.size)).trans hk9
                have HJ9 : Hid (J (Cd.linesN c (k + 1)) W9) := by
                  show J _ _
                  rw [HSUCC.out]
                  exact hJ9
                have hs9 : W.heap.size ≤ W9.heap.size := by have h1 := HBRW.out.size; have h2 := hk9.size; omega
                clear hJ9 hk9
                gi_wp2
                go_roundw
                case rel => exact ⟨k + 1, by simp, by omega, HJ9, HB9, hs9⟩
                case measure => simp [intOf]; omega
              · have HJ9 : Hid (Jx (Cd.linesN c (k + 1)) W9) := by
                  show Jx _ _
                  rw [HSUCC.out]
                  exact hJx9
                clear hJx9
                gi_wp2
                refine bodyPost_ret (results_none rfl _ _ _) rfl ?_
                exact ⟨⟨_, rfl⟩, .inr ⟨_, by rw [HXS.out]; exact HPRE.out, HJ9.out⟩⟩
            | true =>
              simp only [if_true] at hsucc
              rw [HS6.out] at hsucc
              clear hpa f1 f2
              gi_wp2_with (refine ⟨trivial, ?_⟩; gi_at_call 24; refine (callsIn_wide.2 (HDB.out _ (HBW4.out.trans (HB6.out.mono HBW4.out.size)))).mono ?_; clear z0 z1 z2 o0 o1 o5; rintro e W7 ⟨rfl, hb7⟩; have HB7 : Hid (Below w4.heap.size w4 W7) := HB6.out.trans (hb7.mono HB6.out.size); clear hb7; refine Hid.out ?_)
              refine Lib.hid ?_
              have HSUCC := Lib.hid hsucc
              have HBRW : Hid (Below wr.heap.size wr W7) := HBR4.out.trans (HB7.out.mono HBR4.out.size)
              obtain ⟨fn, tmps, assign, body, hy, hR⟩ := HY.out _ ⟨S6.toArray⟩ W7 (HJ.out _ _ _ none HJK.out (Cd.grown_of_below HBRW.out) (by simp)) (by rw [Cd.linesN_len, HXL.out]; omega)
              clear hsucc
              gi_wp2
              refine hR.mono ?_
              rintro e W9 (⟨rfl, hJ9, hk9⟩ | ⟨rfl, hJx9⟩)
              · have HB9 : Hid (Below w.heap.size w W9) := (HB2.out.trans (HBRW.out.mono HB2.out.size)).trans hk9
                have HJ9 : Hid (J (Cd.linesN c (k + 1)) W9) := by
                  show J _ _
                  rw [HSUCC.out]
                  exact hJ9
                have hs9 : W.heap.size ≤ W9.heap.size := by have h1 := HBRW.out.size; have h2 := hk9.size; omega
                clear hJ9 hk9
                gi_wp2
                go_roundw
                case rel => exact ⟨k + 1, by simp, by omega, HJ9, HB9, hs9⟩
                case measure => simp [intOf]; omega
              · have HJ9 : Hid (Jx (Cd.linesN c (k + 1)) W9) := by
                  show Jx _ _
                  rw [HSUCC.out]
                  exact hJx9
                clear hJx9
                gi_wp2
                refine bodyPost_ret (results_none rfl _ _ _) rfl ?_
                exact ⟨⟨_, rfl⟩, .inr ⟨_, by rw [HXS.out]; exact HPRE.out, HJ9.out⟩⟩
        refine AllReadyIn.cons rfl (fun K hK => ?_) AllReadyIn.nil
        have o0 := (HOB.out _ HBD.out).1
        go_simp
        clear o0
        first | (refine hK _ _ ?_; clear hK K) | skip
        try simp only [Act.put, List.setIfInBounds_toArray, List.set_cons_zero, List.set_cons_succ]
        refine wpAnyIn_ready (rs := [1]) (by kernel_rfl) (by simp) ?_
        refine AllReadyIn.cons rfl (fun K hK => ?_) AllReadyIn.nil
        go_simp
        refine ⟨trivial, ?_⟩
        gi_at_call 24
        refine (callsIn_wide.2 (HDK.out _ (HBW4.out.trans (HBD.out.mono HBW4.out.size)))).mono ?_
        rintro e W5 ⟨rfl, hb5⟩
        have HB5 : Hid (Below w4.heap.size w4 W5) := HBD.out.trans (hb5.mono HBD.out.size)
        obtain ⟨o0, o1, o5⟩ := HOB.out W5 HB5.out
        clear hb5
        dsimp only
        first | (refine hK _ _ ?_; clear hK K) | skip
        try simp only [Act.put, List.setIfInBounds_toArray, List.set_cons_zero, List.set_cons_succ]
        refine wpAnyIn_take (i := 2) (v := ?_) rfl rfl (by kernel_rfl) (by kernel_rfl) (by kernel_rfl) (fun _ _ _ h => h) ⟨Or.inl ⟨by rfl, ?_⟩, fun _ => rfl⟩ ?_
        rotate_left
        · intro w9
          go_simp
          try with_reducible rfl
        simp only [Act.put, List.setIfInBounds_toArray]
        refine wpAnyIn_take (i := 5) (v := ?_) rfl rfl (by kernel_rfl) (by kernel_rfl) (by kernel_rfl) (fun _ _ _ h => h) ⟨Or.inl ⟨by rfl, ?_⟩, fun _ => rfl⟩ ?_
        rotate_left
        · intro w9
          go_simp
          try with_reducible rfl
        simp only [Act.put]
        refine wpAnyIn_ready (rs := [6]) (by kernel_rfl) (by simp) ?_
        refine AllReadyIn.cons rfl (fun K hK => ?_) AllReadyIn.nil
        go_simp
        first | (refine hK _ _ ?_; clear hK K) | skip
        try simp only [Act.put, List.setIfInBounds_toArray, List.set_cons_zero, List.set_cons_succ]
        refine wpAnyIn_done (by kernel_rfl) ?_ _
        obtain ⟨z0, z1, z2⟩ := HXB4.out W5 HB5.out
        cases T with
        | false =>
          cases PB with
          | true => exact absurd (hpa rfl) (by decide)
          | false =>
            simp only [Bool.false_eq_true, if_false] at hsucc
            clear hpa f1 f2 f3 f4 f5 f6
            have HSUCC := Lib.hid hsucc
            have HBRW : Hid (Below wr.heap.size wr W5) := HBR4.out.trans (HB5.out.mono HBR4.out.size)
            obtain ⟨fn, tmps, assign, body, hy, hR⟩ := HY.out _ ⟨S2.toArray⟩ W5 (HJ.out _ _ _ none HJK.out (Cd.grown_of_below HBRW.out) (by simp)) (by rw [Cd.linesN_len, HXL.out]; omega)
            clear hsucc
            gi_wp2
            refine hR.mono ?_
            rintro e W9 (⟨rfl, hJ9, hk9⟩ | ⟨rfl, hJx9⟩)
            · have HB9 : Hid (Below w.heap.size w W9) := (HB2.out.trans (HBRW.out.mono HB2.out.size)).trans hk9
              have HJ9 : Hid (J (Cd.linesN c (k + 1)) W9) := by
                show J _ _
                rw [HSUCC.out]
                exact hJ9
              have hs9 : W.heap.size ≤ W9.heap.size := by have h1 := HBRW.out.size; have h2 := hk9.size; omega
              clear hJ9 hk9
              gi_wp2
              go_roundw
              case rel => exact ⟨k + 1, by simp, by omega, HJ9, HB9, hs9⟩
              case measure => simp [intOf]; omega
            · have HJ9 : Hid (Jx (Cd.linesN c (k + 1)) W9) := by
                show Jx _ _
                rw [HSUCC.out]
                exact hJx9
              clear hJx9
              gi_wp2
              refine bodyPost_ret (results_none rfl _ _ _) rfl ?_
              exact ⟨⟨_, rfl⟩, .inr ⟨_, by rw [HXS.out]; exact HPRE.out, HJ9.out⟩⟩
        | true =>
          gi_wp2_with (refine ⟨trivial, ?_⟩; gi_at_call 24; refine (callsIn_wide.2 (HDA.out _ (HBW4.out.trans (HB5.out.mono HBW4.out.size)))).mono ?_; clear z0 z1 z2 o0 o1 o5; rintro e W6 ⟨rfl, hb6⟩; have HB6 : Hid (Below w4.heap.size w4 W6) := HB5.out.trans (hb6.mono HB5.out.size); clear hb6; obtain ⟨z0, z1, z2⟩ := HXB4.out W6 HB6.out; obtain ⟨o0, o1, o5⟩ := HOB.out W6 HB6.out; refine Hid.out ?_)
          refine Lib.hid ?_
          cases PB with
          | false =>
            simp only [Bool.false_eq_true, if_false, if_true] at hsucc
            clear hpa f1 f2 f5 f6
            have HSUCC := Lib.hid hsucc
            have HBRW : Hid (Below wr.heap.size wr W6) := HBR4.out.trans (HB6.out.mono HBR4.out.size)
            obtain ⟨fn, tmps, assign, body, hy, hR⟩ := HY.out _ ⟨S4.toArray⟩ W6 (HJ.out _ _ _ none HJK.out (Cd.grown_of_below HBRW.out) (by simp)) (by rw [Cd.linesN_len, HXL.out]; omega)
            clear hsucc
            gi_wp2
            refine hR.mono ?_
            rintro e W9 (⟨rfl, hJ9, hk9⟩ | ⟨rfl, hJx9⟩)
            · have HB9 : Hid (Below w.heap.size w W9) := (HB2.out.trans (HBRW.out.mono HB2.out.size)).trans hk9
              have HJ9 : Hid (J (Cd.linesN c (k + 1)) W9) := by
                show J _ _
                rw [HSUCC.out]
                exact hJ9
              have hs9 : W.heap.size ≤ W9.heap.size := by have h1 := HBRW.out.size; have h2 := hk9.size; omega
              clear hJ9 hk9
              gi_wp2
              go_roundw
              case rel => exact ⟨k + 1, by simp, by omega, HJ9, HB9, hs9⟩
              case measure => simp [intOf]; omega
            · have HJ9 : Hid (Jx (Cd.linesN c (k + 1)) W9) := by
                show Jx _ _
                rw [HSUCC.out]
                exact hJx9
              clear hJx9
              gi_wp2
              refine bodyPost_ret (results_none rfl _ _ _) rfl ?_
              exact ⟨⟨_, rfl⟩, .inr ⟨_, by rw [HXS.out]; exact HPRE.out, HJ9.out⟩⟩
          | true =>
            simp only [if_true] at hsucc
            rw [HS6.out] at hsucc
            clear hpa f1 f2
            gi_wp2_with (refine ⟨trivial, ?_⟩; gi_at_call 24; refine (callsIn_wide.2 (HDB.out _ (HBW4.out.trans (HB6.out.mono HBW4.out.size)))).mono ?_; clear z0 z1 z2 o0 o1 o5; rintro e W7 ⟨rfl, hb7⟩; have HB7 : Hid (Below w4.heap.size w4 W7) := HB6.out.trans (hb7.mono HB6.out.size); clear hb7; refine Hid.out ?_)
            refine Lib.hid ?_
            have HSUCC := Lib.hid hsucc
            have HBRW : Hid (Below wr.heap.size wr W7) := HBR4.out.trans (HB7.out.mono HBR4.out.size)
            obtain ⟨fn, tmps, assign, body, hy, hR⟩ := HY.out _ ⟨S6.toArray⟩ W7 (HJ.out _ _ _ none HJK.out (Cd.grown_of_below HBRW.out) (by simp)) (by rw [Cd.linesN_len, HXL.out]; omega)
            clear hsucc
            gi_wp2
            refine hR.mono ?_
            rintro e W9 (⟨rfl, hJ9, hk9⟩ | ⟨rfl, hJx9⟩)
            · have HB9 : Hid (Below w.heap.size w W9) := (HB2.out.trans (HBRW.out.mono HB2.out.size)).trans hk9
              have HJ9 : Hid (J (Cd.linesN c (k + 1)) W9) := by
                show J _ _
                rw [HSUCC.out]
                exact hJ9
              have hs9 : W.heap.size ≤ W9.heap.size := by have h1 := HBRW.out.size; have h2 := hk9.size; omega
              clear hJ9 hk9
              gi_wp2
              go_roundw
              case rel => exact ⟨k + 1, by simp, by omega, HJ9, HB9, hs9⟩
              case measure => simp [intOf]; omega
            · have HJ9 : Hid (Jx (Cd.linesN c (k + 1)) W9) := by
                show Jx _ _
                rw [HSUCC.out]
                exact hJx9
              clear hJx9
              gi_wp2
              refine bodyPost_ret (results_none rfl _ _ _) rfl ?_
              exact ⟨⟨_, rfl⟩, .inr ⟨_, by rw [HXS.out]; exact HPRE.out, HJ9.out⟩⟩
      · obtain rfl : k = c.ins.length := by omega
        have hge : (c.ins.length : Int) ≤ (c.ins.length : Int) := Int.le_refl _
        clear hlt
        gi_wp2
        go_end0
        exact ⟨⟨_, rfl⟩, .inl ⟨_, HXS.out.symm, HJK.out⟩⟩
end Go.Proofs.YtlckjphnbfahgaaGreatDoor
namespace Go.Proofs.YtlckjphnbfahgaaGreatDoor
open Go.RowKit Go.Sort Go.Shelf
attribute [local go_sem] Oper.semAt_some
namespace Cd
theorem prefix_take {α : Type} {pre xs : List α} {m : Nat} (h : pre <+: xs) (hm : m ≤ pre.length) : pre.take m = xs.take m := by
  obtain ⟨r, rfl⟩ := h
  rw [List.take_append_of_le_length hm]
theorem below_put {n0 : Nat} (W : World) (l : Nat) (o' : Obj) (h : n0 ≤ l) : Below n0 W (W.putObj l o') := by
  have hg := grownBy_putObj' W l o'
  by_cases hn : n0 ≤ W.heap.size
  · exact ⟨hg.os, hg.tape, hg.output, hg.size, fun k hk => hg.block k (by omega) (fun e => by cases e; omega)⟩
  · refine ⟨hg.os, hg.tape, hg.output, hg.size, fun k hk => ?_⟩
    by_cases hk2 : k < W.heap.size
    · exact hg.block k hk2 (fun e => by cases e; omega)
    · unfold World.putObj
      simp [Array.getElem?_eq_none (Nat.le_of_not_lt hk2)]
      omega
theorem one_new (w : World) (x : Value) (t : TypeId) : ∀ j u, [x][j]? = some u → (w.alloc (.cells #[x] t)).cell? ((⟨w.heap.size, 0, none⟩ : Addr).add j) = some u := by
  have h := World.alloc_heap_new w (.cells #[x] t)
  intro j u hu
  match j, hu with
  | 0, hu => unfold World.cell?; rw [show ((⟨w.heap.size, 0, none⟩ : Addr).add 0) = ⟨w.heap.size, 0, none⟩ from rfl]; rw [h]; simpa using hu
  | j + 1, hu => simp at hu
theorem eqlIn_seqS (d : Nat) (f : Fn) (ts lb : Array Value) (w : World) : (Op.equalIn (d + 1) 34 (.func f ts lb) .nilFunc).run Tryz.prog w = .ok false w := by
  simp [Op.equalIn, run_underlying Tryz.underlying34]
theorem eql_seqS (f : Fn) (ts lb : Array Value) (w : World) : (binOp .eql 34 (.func f ts lb) .nilFunc).run Tryz.prog w = .ok (.bool false) w := by
  have h := eqlIn_seqS 9999 f ts lb w
  have h2 : (Op.equal 34 (.func f ts lb) .nilFunc).run Tryz.prog w = .ok false w := h
  show ((do pure (.bool (← Op.equal 34 (.func f ts lb) .nilFunc)) : Sem Value)).run _ _ = _
  rw [Sem.run_bind, h2]
  rfl
end Cd
set_option maxRecDepth 100000 in
set_option maxHeartbeats 8000000 in
theorem cdTold_gen (Bp Bk : Nat) (xs : List ByteArray) (m : Nat) (hm : m ≤ 1048576) (w : World) (hlen : xs.length ≤ 4096)
    (hst : ∀ W0, Below w.heap.size w W0 → SeqStopsK Fence.wide 8 Tryz.prog 23 #[.pointer (some ⟨Bp, 0, none⟩), .pointer (some ⟨Bk, 0, none⟩)] (fun x : ByteArray => #[.string x]) (Below w.heap.size) (fun ys => ys = xs) (fun pre => pre <+: xs) xs.length W0) :
    Calls Tryz.prog 10 #[.func (.func 23) #[] #[.pointer (some ⟨Bp, 0, none⟩), .pointer (some ⟨Bk, 0, none⟩)], .int .i64 (m : Int)] w fun e W' => ∃ v, e = .returned v ∧ W'.ownsRow w.heap.size 9 1 v (xs.take m).length ((xs.take m).map Value.string) ∧ Below w.heap.size w W' := by
  obtain ⟨i0, hi, hz0, hz1, hz2⟩ := info_parts Cd.infoStr
  refine (callsIn_wide (n := 9)).1 ?_
  refine callsIn_of_wp_marks Tryz.func10 rfl trivial ?_ rfl
  simp only [Tryz.ntmps10, List.size_toArray, List.length_cons, List.length_nil, Nat.reduceAdd, Nat.reduceSub, Array.replicate_succ, Array.replicate_zero, List.push_toArray, List.append_toArray, List.nil_append, List.cons_append]
  gi_wp2
  simp only [Cd.eql_seqS]
  gi_wp2
  have bM := Boxed.new w 3 (.int .i64 (m : Int))
  have bL := Boxed.new (w.alloc (.cells #[.int .i64 (m : Int)] 3)) 24 (.slice none 0 0)
  rw [World.size_alloc] at bL
  have hB0 : Below w.heap.size w ((w.alloc (.cells #[.int .i64 (m : Int)] 3)).alloc (.cells #[.slice none 0 0] 24)) := ((Below.refl _ w).alloc (Nat.le_refl _) _).alloc (by simp) _
  have hsz : ((w.alloc (.cells #[.int .i64 (m : Int)] 3)).alloc (.cells #[.slice none 0 0] 24)).heap.size = w.heap.size + 2 := by simp
  have bM1 := bM.alloc (.cells #[.slice none 0 0] 24)
  obtain ⟨W0, hW0⟩ : ∃ W0, (w.alloc (.cells #[.int .i64 (m : Int)] 3)).alloc (.cells #[.slice none 0 0] 24) = W0 := ⟨_, rfl⟩
  rw [hW0] at bM1 bL hB0 hsz ⊢
  clear hW0 bM
  refine wpIn_rangeFunc_ownH (n := 9) rfl (by omega) (gf := 23) (lb := #[.pointer (some ⟨Bp, 0, none⟩), .pointer (some ⟨Bk, 0, none⟩)]) rfl trivial (enters_of Tryz.func23 (by kernel_rfl) rfl)
    (hst W0 hB0) (fun h k => h.trans k) (fun W l o o' hl h ho hw => Cd.below_put W l o' (by omega)) (Below.refl _ _) (fun _ => rfl)
    (fun pre W => ((∃ v, Boxed W (w.heap.size + 1) 24 v ∧ W.ownsRow w.heap.size 9 1 v pre.length (pre.map Value.string) ∧ pre.length ≤ m) ∧ Boxed W w.heap.size 3 (.int .i64 (m : Int))) ∧ Below w.heap.size w W)
    (fun c pre W => (∃ v, Boxed W (w.heap.size + 1) 24 v ∧ W.ownsRow w.heap.size 9 1 v (pre.take m).length ((pre.take m).map Value.string) ∧ (c = .exit 0 ∧ m ≤ pre.length)) ∧ Below w.heap.size w W)
    (OwnFrom.and (OwnFrom.and (Own.from (holdsRow_own w.heap.size (w.heap.size + 1) 24 9 1 (fun (pre : List ByteArray) => pre.length) (fun (pre : List ByteArray) => pre.map Value.string) (fun (pre : List ByteArray) _ => pre.length ≤ m)) _) (Own.from (boxed_own w.heap.size 3 (fun (_ : List ByteArray) => Value.int .i64 (m : Int))) _)) (ownFrom_below (Nat.le_refl _) (by omega)))
    (fun c => OwnFrom.and (Own.from (holdsRow_own w.heap.size (w.heap.size + 1) 24 9 1 (fun (pre : List ByteArray) => (pre.take m).length) (fun (pre : List ByteArray) => (pre.take m).map Value.string) (fun (pre : List ByteArray) _ => c = .exit 0 ∧ m ≤ pre.length)) _) (ownFrom_below (Nat.le_refl _) (by omega)))
    ⟨⟨⟨_, bL, World.ownsRow_nil _ _ _ _, by simp⟩, bM1⟩, hB0⟩
    (fun x a' _ => a' = { tmps := #[.func (.func 23) #[] #[.pointer (some ⟨Bp, 0, none⟩), .pointer (some ⟨Bk, 0, none⟩)], .int .i64 (m : Int), undef, .pointer (some ⟨w.heap.size, 0, none⟩), .slice none 0 0, .pointer (some ⟨w.heap.size + 1, 0, none⟩), .string x, .func (.func 23) #[] #[.pointer (some ⟨Bp, 0, none⟩), .pointer (some ⟨Bk, 0, none⟩)], .bool false, .func (.func 23) #[] #[.pointer (some ⟨Bp, 0, none⟩), .pointer (some ⟨Bk, 0, none⟩)], .string x, undef, undef, undef, undef, undef, undef, undef, undef, undef], defers := [] })
    (fun x a' _ X Y row hs hg hr => hs)
    ?assign ?body ?done ?stop
  case assign =>
    rintro l pre x W K ⟨⟨⟨v, hv, hrow, hpm⟩, hM⟩, hB⟩ hK
    gi_wp2
    exact hK _ _ (KeepsFrom.refl _ _) (Below.refl _ _) ⟨⟨⟨v, hv, hrow, hpm⟩, hM⟩, hB⟩ rfl
  case body =>
    rintro l pre x a' W hl ⟨r, hr⟩ ⟨⟨⟨v, hv, hrow, hpm⟩, hM⟩, hB⟩ rfl hlt
    have cL := hv.cell
    have fL := hv.frozen
    have cM := hM.cell
    have hBs1 := hB.size
    obtain ⟨a, c, rfl⟩ := Dt.row_form hrow
    by_cases hge : m ≤ pre.length
    · have hgei : (m : Int) ≤ (pre.length : Int) := by omega
      gi_wp2
      have he : (pre ++ [x]).take m = pre := by rw [List.take_append_of_le_length hge, List.take_of_length_le hpm]
      exact ⟨KeepsFrom.refl _ _, ⟨_, hv, by rw [he]; exact hrow, rfl, by simp; omega⟩, hB⟩
    · have hgei : ¬ (m : Int) ≤ (pre.length : Int) := by omega
      have hone : ∀ j u, [Value.string x][j]? = some u → (W.alloc (.cells #[.string x] 9)).cell? ((⟨W.heap.size, 0, none⟩ : Addr).add j) = some u := Cd.one_new W _ _
      gi_wp2_with (gi_at_builtin; refine wpListIn_append_own_at _ rfl _ _ 24 rfl w.heap.size 9 i0 (.string ⟨#[]⟩) 1 16 Tryz.underlying24 hi hz0 hz1 hz2 rfl (by decide) _ _ _ rfl (hrow.alloc _) ⟨W.heap.size, 0, none⟩ 1 1 [.string x] rfl rfl hone (fun x hx => by simp at hx; subst hx; rfl) (by unfold maxLen; omega) (by omega) (by simp; omega) ?_; intro v' w1 hown' hgrow hnil hat; obtain ⟨g', cap', rfl⟩ := ownsRow_succ hown'; obtain ⟨hv1, hv2, hr2, hk2, hb2⟩ := hv.appended (by decide) hrow hBs1 (by omega) hown' hgrow; have hc1 := hv1.cell; have hf1 := hv1.frozen; have hM2 := (hM.alloc (.cells #[.string x] 9)).kept hgrow (hM.not_row (by decide) hrow); have hM3 := hM2.other (B' := w.heap.size + 1) (by omega) (.slice (some ⟨g', 0, none⟩) (pre.length + 1) cap'))
      exact ⟨hk2.from _, hb2, ⟨⟨⟨_, hv2, by rw [List.length_append, List.map_append]; exact hr2, by simp; omega⟩, hM3⟩, hB.trans hb2⟩⟩
  case done =>
    rintro D ys W hD rfl ⟨⟨⟨v, hv, hrow, hpm⟩, hM⟩, hB⟩ hK
    have cL := hv.cell
    gi_wp2
    refine ⟨by simp, .inl ⟨_, _, rfl, run_takeDeferred hK, ?_⟩⟩
    exact ⟨_, results_tmp rfl _ _ _, v, rfl, by rw [List.take_of_length_le hpm]; exact ownsRow_putObj hrow _ hK rfl, hB.trans (belowK_b (w := w) (Nat.le_refl _) W D _ _ (by omega) hK rfl rfl)⟩
  case stop =>
    rintro D c pre W hD hp ⟨⟨v, hv, hrow, rfl, hmp⟩, hB⟩ hK
    have cL := hv.cell
    gi_wp2
    refine ⟨by simp, .inl ⟨_, _, rfl, run_takeDeferred hK, ?_⟩⟩
    exact ⟨_, results_tmp rfl _ _ _, v, rfl, by rw [← Cd.prefix_take hp hmp]; exact ownsRow_putObj hrow _ hK rfl, hB.trans (belowK_b (w := w) (Nat.le_refl _) W D _ _ (by omega) hK rfl rfl)⟩
end Go.Proofs.YtlckjphnbfahgaaGreatDoor
