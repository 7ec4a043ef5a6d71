/-
  code.operands: whether an instruction's A and B may be.
-/
import Derived.Test.YtlckjphnbfahgaaGreatDoorCdNeed
import Derived.Test.YtlckjphnbfahgaaGreatDoorCdOpen
import Derived.Deep.QuietTactic
import Derived.BigQuiet
namespace Go.Proofs.YtlckjphnbfahgaaGreatDoor
open Go.RowKit
attribute [local go_sem] Oper.semAt_some
namespace Cd
open Dt
theorem op_a (n : Int) : (op n).a < 8 := by
  rcases op_cases n with h | rfl | rfl | rfl | rfl | rfl | rfl | rfl | rfl | rfl | rfl | rfl | rfl | rfl | rfl | rfl | rfl
  · unfold op; rw [op_out h]; decide
  all_goals decide
theorem op_pb (n : Int) : (op n).pb = true → (op n).a = 6 := by
  rcases op_cases n with h | rfl | rfl | rfl | rfl | rfl | rfl | rfl | rfl | rfl | rfl | rfl | rfl | rfl | rfl | rfl | rfl
  · unfold op; rw [op_out h]; decide
  all_goals decide
/-- the limits, one after another -/
def limCells (p : Prog) (c : Code) (j : Nat) : List Value := [.int .i64 0, .int .i64 1, .int .i64 0, .int .i64 p.consts.length, .int .i64 0, .int .i64 c.params, .int .i64 0, .int .i64 c.caps, .int .i64 0, .int .i64 p.names.length, .int .i64 ((j : Int) + 1), .int .i64 c.ins.length, .int .i64 1, .int .i64 p.codes.length, .int .i64 0, .int .i64 33]
theorem lim_at (p : Prog) (c : Code) (j : Nat) {a : Nat} (h : a < 8) : (limCells p c j)[a * 2]? = some (.int .i64 (lim p c j a).1) ∧ (limCells p c j)[a * 2 + 1]? = some (.int .i64 (lim p c j a).2) := by
  obtain rfl | rfl | rfl | rfl | rfl | rfl | rfl | rfl : a = 0 ∨ a = 1 ∨ a = 2 ∨ a = 3 ∨ a = 4 ∨ a = 5 ∨ a = 6 ∨ a = 7 := by omega
  all_goals exact ⟨rfl, rfl⟩
theorem cells_new (w : World) (cs : List Value) (t : TypeId) {w' : World} (h : w.alloc (.cells cs.toArray t) = w') (i : Nat) (v : Value) (hv : cs[i]? = some v) : w'.cell? ⟨w.heap.size, i, none⟩ = some v := by
  rw [← h]
  unfold World.cell?
  rw [heap_alloc_new]
  simpa using hv
theorem below_new {a w w7 : World} {n : Nat} (h : Below n a w) {o : Obj} (h7 : w.alloc o = w7) (hn : n ≤ w.heap.size) : Below n a w7 ∧ w7.heap.size = w.heap.size + 1 := ⟨by rw [← h7]; exact h.trans ((Below.refl _ w).alloc hn o), by rw [← h7, World.size_alloc]⟩
theorem boxes3 (w : World) (cs ds es : List Value) (t u v : TypeId) {w1 : World} (h : ((w.alloc (.cells cs.toArray t)).alloc (.cells ds.toArray u)).alloc (.cells es.toArray v) = w1) : Below w.heap.size w w1 ∧ w1.heap.size = w.heap.size + 3 ∧ (∀ i x, cs[i]? = some x → w1.cell? ⟨w.heap.size, i, none⟩ = some x) ∧ (∀ i x, ds[i]? = some x → w1.cell? ⟨w.heap.size + 1, i, none⟩ = some x) ∧ (∀ i x, es[i]? = some x → w1.cell? ⟨w.heap.size + 1 + 1, i, none⟩ = some x) := by
  obtain ⟨wa, hwa⟩ : ∃ wa, w.alloc (.cells cs.toArray t) = wa := ⟨_, rfl⟩
  obtain ⟨wb, hwb⟩ : ∃ wb, wa.alloc (.cells ds.toArray u) = wb := ⟨_, rfl⟩
  rw [hwa, hwb] at h
  have ba : Below w.heap.size w wa := by rw [← hwa]; exact (Below.refl _ _).alloc (Nat.le_refl _) _
  have bb : Below wa.heap.size wa wb := by rw [← hwb]; exact (Below.refl _ _).alloc (Nat.le_refl _) _
  have bc : Below wb.heap.size wb w1 := by rw [← h]; exact (Below.refl _ _).alloc (Nat.le_refl _) _
  have sa : wa.heap.size = w.heap.size + 1 := by rw [← hwa, World.size_alloc]
  have sb : wb.heap.size = w.heap.size + 2 := by rw [← hwb, World.size_alloc, sa]
  have sc : w1.heap.size = w.heap.size + 3 := by rw [← h, World.size_alloc, sb]
  have bac := bb.trans (bc.mono bb.size)
  refine ⟨ba.trans (bac.mono ba.size), sc, fun i x hx => ?_, fun i x hx => ?_, fun i x hx => ?_⟩
  · exact (bac.cell (p := ⟨w.heap.size, i, none⟩) (by show w.heap.size < _; omega)).trans (cells_new w cs t hwa i x hx)
  · have := cells_new wa ds u hwb i x hx
    rw [sa] at this
    exact (bc.cell (p := ⟨w.heap.size + 1, i, none⟩) (by show w.heap.size + 1 < _; omega)).trans this
  · have := cells_new wb es v h i x hx
    rw [sb] at this
    exact this
theorem caps_at {F : Nat → Prop} {w : World} {a : Option Addr} {n cc : Nat} {l : List Code} (h : CodeRow F w (.slice a n cc) l) (k : Nat) (hk : k < l.length) : ∃ b o, a = some ⟨b, o, none⟩ ∧ b < w.heap.size ∧ w.cell? ⟨b, o + k * 5 + 2, none⟩ = some (.int .i64 l[k].caps) := by
  obtain ⟨a', c', e, -, h3⟩ := h
  obtain ⟨b, o, e2, -, hb, h7⟩ := h3 (by intro e; rw [e] at hk; simp at hk)
  cases e
  exact ⟨b, o, e2, hb, (h7 k hk).2.2.1⟩
theorem ins_at {F : Nat → Prop} {w : World} {a : Option Addr} {n cc : Nat} {l : List Ins} (h : InsRow F w (.slice a n cc) l) (k : Nat) (hk : k < l.length) : ∃ b o, a = some ⟨b, o, none⟩ ∧ b < w.heap.size ∧ w.cell? ⟨b, o + k * 3, none⟩ = some (.int .i64 l[k].o) ∧ w.cell? ⟨b, o + k * 3 + 1, none⟩ = some (.int .i64 l[k].a) ∧ w.cell? ⟨b, o + k * 3 + 2, none⟩ = some (.int .i64 l[k].b) := by
  obtain ⟨a', c', e, -, h3⟩ := h
  obtain ⟨b, o, e2, -, hb, h7⟩ := h3 (by intro e; rw [e] at hk; simp at hk)
  cases e
  exact ⟨b, o, e2, hb, h7 k hk⟩
end Cd
set_option maxRecDepth 100000 in
set_option maxHeartbeats 8000000 in
theorem operands_any {F : Nat → Prop} (p : Cd.Prog) (c : Cd.Code) (vc vk vn vi : Value) (j : Nat) (w : World) (hp : Cd.PRep F w p vc vk vn) (hw : Cd.PWf p) (hi : Cd.InsRow F w vi c.ins) (hl : c.ins.length ≤ 140737488355328) (hj : j < c.ins.length) :
    Calls Tryz.prog 53 #[.agg #[vc, vk, vn], .agg #[.int .i64 c.params, .int .i64 c.rest, .int .i64 c.caps, .int .i64 c.max, vi], .int .i64 (j : Int)] w fun e w' => e = .returned (.bool (Cd.okIns p c j c.ins[j])) ∧ Below w.heap.size w w' := by
  obtain ⟨a1, c1, a2, c2, a3, c3, rfl, rfl, rfl⟩ := hp.forms
  obtain ⟨ai, ci, rfl⟩ : ∃ ai ci, vi = .slice ai c.ins.length ci := by obtain ⟨a, c, h, -⟩ := hi; exact ⟨a, c, h⟩
  obtain ⟨bi, oi, rfl, hbi, x0, x1, x2⟩ := Cd.ins_at hi j hj
  obtain ⟨x, hx⟩ : ∃ x, x = c.ins[j] := ⟨_, rfl⟩
  rw [← hx] at x0 x1 x2 ⊢
  obtain ⟨E, hE⟩ : ∃ E, E = Cd.okIns p c j x := ⟨_, rfl⟩
  rw [← hE]
  unfold Cd.okIns at hE
  obtain ⟨w1, hw1⟩ : ∃ w1, ((w.alloc (.cells #[.slice a1 p.codes.length c1, .slice a2 p.consts.length c2, .slice a3 p.names.length c3] 26)).alloc (.cells #[.int .i64 c.params, .int .i64 c.rest, .int .i64 c.caps, .int .i64 c.max, .slice (some ⟨bi, oi, none⟩) c.ins.length ci] 47)).alloc (.cells #[.int .i64 x.o, .int .i64 x.a, .int .i64 x.b] 55) = w1 := ⟨_, rfl⟩
  obtain ⟨hb1, hs1, hP, hC, hX⟩ := Cd.boxes3 w _ _ _ _ _ _ hw1
  have HP := Lib.hid hp
  have HW := Lib.hid hw
  have HB1 := Lib.hid hb1
  have HS1 := Lib.hid hs1
  have HBP : Hid (∀ W, Below w1.heap.size w1 W → W.cell? ⟨w.heap.size, 0, none⟩ = some (.slice a1 p.codes.length c1) ∧ W.cell? ⟨w.heap.size, 1, none⟩ = some (.slice a2 p.consts.length c2) ∧ W.cell? ⟨w.heap.size, 2, none⟩ = some (.slice a3 p.names.length c3)) := fun W hb =>
    ⟨(hb.cell (p := ⟨w.heap.size, 0, none⟩) (by show w.heap.size < _; omega)).trans (hP 0 _ rfl), (hb.cell (p := ⟨w.heap.size, 1, none⟩) (by show w.heap.size < _; omega)).trans (hP 1 _ rfl), (hb.cell (p := ⟨w.heap.size, 2, none⟩) (by show w.heap.size < _; omega)).trans (hP 2 _ rfl)⟩
  have HBC : Hid (∀ W, Below w1.heap.size w1 W → W.cell? ⟨w.heap.size + 1, 0, none⟩ = some (.int .i64 c.params) ∧ W.cell? ⟨w.heap.size + 1, 2, none⟩ = some (.int .i64 c.caps) ∧ W.cell? ⟨w.heap.size + 1, 4, none⟩ = some (.slice (some ⟨bi, oi, none⟩) c.ins.length ci)) := fun W hb =>
    ⟨(hb.cell (p := ⟨w.heap.size + 1, 0, none⟩) (by show w.heap.size + 1 < _; omega)).trans (hC 0 _ rfl), (hb.cell (p := ⟨w.heap.size + 1, 2, none⟩) (by show w.heap.size + 1 < _; omega)).trans (hC 2 _ rfl), (hb.cell (p := ⟨w.heap.size + 1, 4, none⟩) (by show w.heap.size + 1 < _; omega)).trans (hC 4 _ rfl)⟩
  have HBX : Hid (∀ W, Below w1.heap.size w1 W → W.cell? ⟨w.heap.size + 1 + 1, 1, none⟩ = some (.int .i64 x.a) ∧ W.cell? ⟨w.heap.size + 1 + 1, 2, none⟩ = some (.int .i64 x.b)) := fun W hb =>
    ⟨(hb.cell (p := ⟨w.heap.size + 1 + 1, 1, none⟩) (by show w.heap.size + 1 + 1 < _; omega)).trans (hX 1 _ rfl), (hb.cell (p := ⟨w.heap.size + 1 + 1, 2, none⟩) (by show w.heap.size + 1 + 1 < _; omega)).trans (hX 2 _ rfl)⟩
  have hX0 := hX 0 _ rfl
  have hji : (j : Int) < (c.ins.length : Int) := by omega
  have hj0 : (0 : Int) ≤ (j : Int) := by omega
  have hjb : (j : Int) ≤ 140737488355328 := by omega
  have hop := ops_any x.o w1
  unfold Cd.opV at hop
  have hoa := Cd.op_a x.o
  have hopb := Cd.op_pb x.o
  obtain ⟨nm, hnm⟩ : ∃ nm, nm = Cd.nm x.o := ⟨_, rfl⟩
  obtain ⟨oo, hoo⟩ : ∃ oo, oo = (Cd.opT x.o).isSome := ⟨_, rfl⟩
  obtain ⟨⟨oa, on, ol, pa, pb, en⟩, ho⟩ : ∃ o, o = Cd.op x.o := ⟨_, rfl⟩
  rw [← hnm, ← hoo, ← ho] at hop
  rw [← hoo, ← ho] at hE
  rw [← ho] at hoa hopb
  simp only at hoa hopb hE hop
  have HLM := Lib.hid (Cd.lim_at p c j hoa)
  obtain ⟨lm, hlm⟩ : ∃ lm, lm = Cd.lim p c j oa := ⟨_, rfl⟩
  rw [← hlm] at HLM hE
  have HLS : Hid (oa = 6 → lm = (1, (p.codes.length : Int))) := fun e => by rw [hlm, e]; rfl
  obtain ⟨lo, hi2⟩ := lm
  simp only at HLM hE
  clear hp hw hi hb1 hs1 hP hC hX hnm hoo ho hlm hx
  cases oo with
  | false =>
    have HE : Hid (E = false) := by show _ = _; rw [hE]; rfl
    clear hE
    go_enter Tryz.func53, Tryz.ntmps53
    go_wp2_with (go_at_call 22; refine hop.mono ?_; clear hop hw1; rintro e w2 ⟨rfl, hb2⟩; have HB2 := Lib.hid (HB1.out.trans (hb2.mono HB1.out.size)); clear hb2)
    go_ret
    exact ⟨by rw [HE.out]; rfl, HB2.out.trans (((Below.refl _ w2).alloc (Nat.le_refl _) _).mono HB2.out.size)⟩
  | true =>
    go_enter Tryz.func53, Tryz.ntmps53
    go_wp2_with (go_at_call 22; refine hop.mono ?_; clear hop hw1 hX0 x0 x1 x2; rintro e w2 ⟨rfl, hb2⟩; obtain ⟨w3, hw3⟩ : ∃ w3, w2.alloc (.cells #[.string nm, .int .i64 (oa : Int), .int .i64 on, .int .i64 ol, .bool pa, .bool pb, .bool en] 58) = w3 := ⟨_, rfl⟩; have HB2 := Lib.hid hb2; have HB23 := Lib.hid (Cd.below_new (Below.refl _ w2) hw3 (Nat.le_refl _)); clear hb2; refine Hid.out ?_)
    refine Lib.hid ?_
    have HO3 : Hid (∀ i v, [Value.string nm, .int .i64 (oa : Int), .int .i64 on, .int .i64 ol, .bool pa, .bool pb, .bool en][i]? = some v → w3.cell? ⟨w2.heap.size, i, none⟩ = some v) := fun i v hv => Cd.cells_new w2 _ _ hw3 i v hv
    have HB13 := Lib.hid (HB2.out.trans (HB23.out.1.mono HB2.out.size))
    obtain ⟨p0, p1, p2⟩ := HBP.out w3 HB13.out
    obtain ⟨q0, q2, q4⟩ := HBC.out w3 HB13.out
    obtain ⟨w4, hw4⟩ : ∃ w4, w3.alloc (.cells #[.int .i64 0, .int .i64 1, .int .i64 0, .int .i64 p.consts.length, .int .i64 0, .int .i64 c.params, .int .i64 0, .int .i64 c.caps, .int .i64 0, .int .i64 p.names.length, .int .i64 ((j : Int) + 1), .int .i64 c.ins.length, .int .i64 1, .int .i64 p.codes.length, .int .i64 0, .int .i64 33] 111) = w4 := ⟨_, rfl⟩
    have HB34 := Lib.hid (Cd.below_new (Below.refl _ w3) hw4 (Nat.le_refl _))
    have HB14 := Lib.hid (HB13.out.trans (HB34.out.1.mono HB13.out.size))
    have hl0 := Cd.cells_new w3 (Cd.limCells p c j) _ hw4 _ _ HLM.out.1
    have hl1 := Cd.cells_new w3 (Cd.limCells p c j) _ hw4 _ _ HLM.out.2
    have hlo3 : w2.heap.size < w3.heap.size := by have := HB23.out.2; omega
    have o1 := (HB34.out.1.cell (p := ⟨w2.heap.size, 1, none⟩) hlo3).trans (HO3.out 1 _ rfl)
    obtain ⟨w5, hw5⟩ : ∃ w5, w4.alloc (.cells #[.int .i64 lo, .int .i64 hi2] 110) = w5 := ⟨_, rfl⟩
    have HB45 := Lib.hid (Cd.below_new (Below.refl _ w4) hw5 (Nat.le_refl _))
    have HB15 := Lib.hid (HB14.out.trans (HB45.out.1.mono HB14.out.size))
    have b0 := Cd.cells_new w4 [.int .i64 lo, .int .i64 hi2] _ hw5 0 _ rfl
    have b1 := Cd.cells_new w4 [.int .i64 lo, .int .i64 hi2] _ hw5 1 _ rfl
    have HB35 := Lib.hid (HB34.out.1.trans (HB45.out.1.mono HB34.out.1.size))
    have o5 := (HB35.out.cell (p := ⟨w2.heap.size, 5, none⟩) hlo3).trans (HO3.out 5 _ rfl)
    obtain ⟨x1, x2⟩ := HBX.out w5 HB15.out
    obtain ⟨p0', -, -⟩ := HBP.out w5 HB15.out
    have hoai : (oa : Int) < 8 := by omega
    have hoa0 : (0 : Int) ≤ (oa : Int) := by omega
    have HB5 := Lib.hid (HB1.out.trans (HB15.out.mono HB1.out.size))
    by_cases h1 : x.a < lo
    · have HE : Hid (E = false) := by show _ = _; rw [hE, decide_eq_false (by omega : ¬ lo ≤ x.a)]; simp
      clear hE hlo3
      go_wp2
      go_ret
      exact ⟨by rw [HE.out]; rfl, HB5.out⟩
    · have h1' : decide (x.a < lo) = false := decide_eq_false h1
      by_cases h2 : hi2 ≤ x.a
      · have HE : Hid (E = false) := by show _ = _; rw [hE, decide_eq_false (by omega : ¬ x.a < hi2)]; simp
        have h2' : decide (hi2 ≤ x.a) = true := decide_eq_true h2
        clear hE hlo3 h1
        go_wp2
        go_ret
        exact ⟨by rw [HE.out]; rfl, HB5.out⟩
      · have h2' : decide (hi2 ≤ x.a) = false := decide_eq_false h2
        have hE2 : E = if pb then decide (x.b = Cd.capsOf p x.a) else decide (x.b = 0) := by rw [hE, decide_eq_true (by omega : lo ≤ x.a), decide_eq_true (by omega : x.a < hi2)]; simp
        clear hE
        cases pb with
        | false =>
          have HE : Hid (E = decide (x.b = 0)) := hE2
          by_cases h3 : x.b = 0
          · have HV : Hid (E = true) := by show _ = _; rw [HE.out, decide_eq_true h3]
            have h3' : (x.b == 0) = true := beq_iff_eq.2 h3
            clear hE2 h1 h2 h3 hlo3
            go_wp2
            go_ret
            exact ⟨by rw [HV.out]; rfl, HB5.out⟩
          · have HV : Hid (E = false) := by show _ = _; rw [HE.out, decide_eq_false h3]
            have h3' : (x.b == 0) = false := beq_eq_false_iff_ne.2 h3
            clear hE2 h1 h2 h3 hlo3
            go_wp2
            go_ret
            exact ⟨by rw [HV.out]; rfl, HB5.out⟩
        | true =>
          have hlm2 := HLS.out (hopb rfl)
          have hlo1 : lo = 1 := congrArg Prod.fst hlm2
          have hhi1 : hi2 = (p.codes.length : Int) := congrArg Prod.snd hlm2
          clear HLS hlm2
          subst hlo1 hhi1
          obtain ⟨k, hk⟩ : ∃ k : Nat, x.a = (k : Int) := ⟨x.a.toNat, by omega⟩
          have hkl : k < p.codes.length := by omega
          obtain ⟨bc, oc, rfl, hbc, kc⟩ := Cd.caps_at HP.out.codes k hkl
          have kc5 := (HB5.out.cell (p := ⟨bc, oc + k * 5 + 2, none⟩) hbc).trans kc
          have HCO : Hid (Cd.capsOf p x.a = (p.codes[k]).caps) := by
            show _ = _
            unfold Cd.capsOf
            rw [hk, Int.toNat_natCast, List.getElem?_eq_getElem hkl]
          obtain ⟨cp, hcp⟩ : ∃ cp, cp = (p.codes[k]).caps := ⟨_, rfl⟩
          rw [← hcp] at HCO kc5
          have HE : Hid (E = decide (x.b = Cd.capsOf p x.a)) := hE2
          rw [HCO.out] at HE
          have hk0 : (0 : Int) ≤ (k : Int) := by omega
          have hki : (k : Int) < (p.codes.length : Int) := by omega
          clear hE2 hopb h1 h2 hkl hcp kc hlo3
          rw [hk] at x1 h1' h2'
          clear hk
          by_cases h3 : x.b = cp
          · have HV : Hid (E = true) := by show _ = _; rw [HE.out, decide_eq_true h3]
            have h3' : (x.b == cp) = true := beq_iff_eq.2 h3
            clear h3
            go_wp2_with fail
            go_quiet (fail)
            go_wp2
            go_ret
            exact ⟨by rw [HV.out]; rfl, Dt.bdrew HB5.out _⟩
          · have HV : Hid (E = false) := by show _ = _; rw [HE.out, decide_eq_false h3]
            have h3' : (x.b == cp) = false := beq_eq_false_iff_ne.2 h3
            clear h3
            go_wp2_with fail
            go_quiet (fail)
            go_wp2
            go_ret
            exact ⟨by rw [HV.out]; rfl, Dt.bdrew HB5.out _⟩
end Go.Proofs.YtlckjphnbfahgaaGreatDoor
