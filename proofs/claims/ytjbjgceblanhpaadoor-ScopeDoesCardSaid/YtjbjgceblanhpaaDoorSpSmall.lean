/-
  shuttlelaw05.small: acts that have so little that all of it may be gone through.
-/
import Derived.Test.YtjbjgceblanhpaaDoorSpAwake
import Derived.Test.YtjbjgceblanhpaaDoorDtOpen
import Derived.Deep.DeepCutAuto
import Derived.Deep.CutBlock
namespace Go.Proofs.YtjbjgceblanhpaaDoor
open Go.RowKit
attribute [local go_sem] Oper.semAt_some
namespace Sp
open Dt
/-- an act -/
structure O where
  d : Int
  s : Int
  t : Int
  id : D
  nd : D
  n : Int
/-- how an act lies -/
def OAt (F : Nat → Prop) (w : World) (b o : Nat) (x : O) : Prop := (w.cell? ⟨b, o, none⟩ = some (.int .i64 x.d) ∧ w.cell? ⟨b, o + 1, none⟩ = some (.int .i64 x.s) ∧ w.cell? ⟨b, o + 2, none⟩ = some (.int .i64 x.t) ∧ w.cell? ⟨b, o + 15, none⟩ = some (.int .i64 x.n)) ∧
  (∃ vm vl vt, Six w b (o + 3) x.id vm vl vt ∧ Rep F w x.id vm vl vt) ∧ (∃ vm vl vt, Six w b (o + 9) x.nd vm vl vt ∧ Rep F w x.nd vm vl vt) ∧ Wf x.id ∧ Wf x.nd
/-- a row of acts -/
def ORow (F : Nat → Prop) (w : World) (v : Value) (l : List O) : Prop :=
  ∃ (a : Option Addr) (c : Nat), v = .slice a l.length c ∧ l.length ≤ c ∧ (l ≠ [] → ∃ b o, a = some ⟨b, o, none⟩ ∧ F b ∧ b < w.heap.size ∧ ∀ j, (hj : j < l.length) → OAt F w b (o + j * 16) l[j])
theorem OAt.keep {F S : Nat → Prop} {w w' : World} {b o : Nat} {x : O} (h : OAt F w b o x) (hk : Keep S w w') (hS : ∀ b, F b → b < w.heap.size → ¬ S b) (hb : b < w.heap.size) (hF : F b) : OAt F w' b o x := by
  obtain ⟨⟨h0, h1, h2, h3⟩, ⟨vm, vl, vt, h4, h5⟩, ⟨um, ul, ut, h6, h7⟩, h8, h9⟩ := h
  have hn := hS b hF hb
  exact ⟨⟨(hk.cell _ hb hn).trans h0, (hk.cell _ hb hn).trans h1, (hk.cell _ hb hn).trans h2, (hk.cell _ hb hn).trans h3⟩, ⟨vm, vl, vt, h4.keep hk hb hn, Rep.keep hk hS _ h5⟩, ⟨um, ul, ut, h6.keep hk hb hn, Rep.keep hk hS _ h7⟩, h8, h9⟩
theorem ORow.keep {F S : Nat → Prop} {w w' : World} {v : Value} {l : List O} (h : ORow F w v l) (hk : Keep S w w') (hS : ∀ b, F b → b < w.heap.size → ¬ S b) : ORow F w' v l := by
  obtain ⟨a, c, e, hc, h⟩ := h
  refine ⟨a, c, e, hc, fun hn => ?_⟩
  obtain ⟨b, o, e1, hF, hb, hj⟩ := h hn
  exact ⟨b, o, e1, hF, Nat.lt_of_lt_of_le hb hk.size, fun j hjl => (hj j hjl).keep hk hS hb hF⟩
theorem ORow.below {F : Nat → Prop} {w w' : World} {v : Value} {l : List O} (h : ORow F w v l) (hb : Below w.heap.size w w') : ORow F w' v l := h.keep (S := fun _ => False) ((Keep.refl _ w).below hb) (fun _ _ _ h => h)
/-- has a datum so little -/
def fewD (x : D) : Bool := decide (x.s.size ≤ 5000) && decide (x.m.length ≤ 1000) && decide (x.l.length + x.t.length ≤ 100)
def few (x : O) : Bool := fewD x.id && fewD x.nd
def smallL (l : List O) : Bool := (l.take 60).all few
end Sp
set_option maxRecDepth 100000 in
set_option maxHeartbeats 8000000 in
theorem spSmall_any {F : Nat → Prop} (a : Option Addr) (c : Nat) (l : List Sp.O) (w : World) (h : Sp.ORow F w (.slice a l.length c) l) (hl63 : l.length ≤ 140737488355328) :
    Calls Tryd.prog 8 #[.slice a l.length c] w fun e w' => e = .returned (.tuple #[if Sp.smallL l then .slice a (min l.length 60) c else .slice none 0 0, .bool (Sp.smallL l)]) ∧ Below w.heap.size w w' := by
  obtain ⟨a', c', e0, hlc, hcell⟩ := h
  obtain ⟨rfl, -, rfl⟩ := Sp.slice_inj e0
  obtain ⟨B, hB⟩ : ∃ B, B = Sp.smallL l := ⟨_, rfl⟩
  rw [← hB]
  have HB := Lib.hid hB
  obtain ⟨V, hV⟩ : ∃ V, V = (if B then Value.slice a (min l.length 60) c else .slice none 0 0) := ⟨_, rfl⟩
  rw [← hV]
  have HVV := Lib.hid hV
  clear hV
  have HC := Lib.hid hcell
  clear hcell e0 hB
  obtain ⟨k, hk⟩ : ∃ k, k = min l.length 60 := ⟨_, rfl⟩
  have hk1 : k ≤ l.length := by omega
  have hk2 : k ≤ 60 := by omega
  have hmin : min (l.length : Int) 60 = (k : Int) := by omega
  have hkc : k ≤ c := by omega
  have hkci : (k : Int) ≤ (c : Int) := by omega
  have HK := Lib.hid hk
  clear hk
  go_enter Tryd.func8, Tryd.ntmps8
  go_wp2
  go_loopw [15] (fun v wr => ∃ j : Nat, v = .int .i64 j ∧ j ≤ k ∧ Hid (∀ q, q < j → (hq : q < l.length) → Sp.few l[q] = true) ∧ Hid (Below w.heap.size w wr)) (fun v _ => k - (intOf v).toNat)
  case atStart => exact ⟨0, rfl, Nat.zero_le _, fun q hq => absurd hq (by omega), Below.refl _ _⟩
  case round =>
    obtain ⟨j, rfl, hj, HG, HBW⟩ := hrel
    by_cases hlt : j < k
    · have hlti : (j : Int) < (k : Int) := by omega
      have hj0 : (0 : Int) ≤ (j : Int) := by omega
      have hj60 : (j : Int) < 60 := by omega
      have hjl : j < l.length := by omega
      obtain ⟨b, o, rfl, -, hbl, hat⟩ := HC.out (by intro e; rw [e] at hjl; simp at hjl)
      obtain ⟨⟨c0, c1, c2, c15⟩, ⟨vm, vl, vt, hs, hr⟩, ⟨um, ul, ut, hs2, hr2⟩, hw1, hw2⟩ := hat j hjl
      obtain ⟨x, hx⟩ : ∃ x, x = l[j] := ⟨_, rfl⟩
      rw [← hx] at c0 c1 c2 c15 hs hr hs2 hr2 hw1 hw2
      obtain ⟨⟨a1, q1, rfl, -⟩, ⟨a2, q2, rfl, -⟩, ⟨a3, q3, rfl, -⟩⟩ := (Dt.rep_iff _ _ _ _ _ _).1 hr
      obtain ⟨⟨b1, r1, rfl, -⟩, ⟨b2, r2, rfl, -⟩, ⟨b3, r3, rfl, -⟩⟩ := (Dt.rep_iff _ _ _ _ _ _).1 hr2
      have hc : ∀ i v, w.cell? ⟨b, i, none⟩ = some v → wr.cell? ⟨b, i, none⟩ = some v := fun i v h => (HBW.out.cell (p := ⟨b, i, none⟩) hbl).trans h
      have c0 := hc _ _ c0
      have c1 := hc _ _ c1
      have c2 := hc _ _ c2
      have c15 := hc _ _ c15
      have k0 : wr.cell? ⟨b, o + j * 16 + 3, none⟩ = some _ := hc _ _ hs.c0
      have k1 : wr.cell? ⟨b, o + j * 16 + 4, none⟩ = some _ := hc _ _ hs.c1
      have k2 : wr.cell? ⟨b, o + j * 16 + 5, none⟩ = some _ := hc _ _ hs.c2
      have k3 : wr.cell? ⟨b, o + j * 16 + 6, none⟩ = some _ := hc _ _ hs.c3
      have k4 : wr.cell? ⟨b, o + j * 16 + 7, none⟩ = some _ := hc _ _ hs.c4
      have k5 : wr.cell? ⟨b, o + j * 16 + 8, none⟩ = some _ := hc _ _ hs.c5
      have m0 : wr.cell? ⟨b, o + j * 16 + 9, none⟩ = some _ := hc _ _ hs2.c0
      have m1 : wr.cell? ⟨b, o + j * 16 + 10, none⟩ = some _ := hc _ _ hs2.c1
      have m2 : wr.cell? ⟨b, o + j * 16 + 11, none⟩ = some _ := hc _ _ hs2.c2
      have m3 : wr.cell? ⟨b, o + j * 16 + 12, none⟩ = some _ := hc _ _ hs2.c3
      have m4 : wr.cell? ⟨b, o + j * 16 + 13, none⟩ = some _ := hc _ _ hs2.c4
      have m5 : wr.cell? ⟨b, o + j * 16 + 14, none⟩ = some _ := hc _ _ hs2.c5
      have HBAD0 : Hid (Sp.few x = false → B = false) := fun h => by
        rw [HB.out]
        unfold Sp.smallL
        rw [Bool.eq_false_iff]
        intro ha
        have h9 := List.all_eq_true.1 ha x (by rw [hx, List.mem_iff_getElem?]; exact ⟨j, by rw [List.getElem?_take_of_lt (by omega), List.getElem?_eq_getElem hjl]⟩)
        rw [h] at h9
        exact absurd h9 (by simp)
      obtain ⟨wB, hwB⟩ : ∃ wB, wr.alloc (.cells #[.int .i64 x.d, .int .i64 x.s, .int .i64 x.t, .int .i64 x.id.k, .int .i64 x.id.n, .string x.id.s, .slice a1 x.id.m.length q1, .slice a2 x.id.l.length q2, .slice a3 x.id.t.length q3, .int .i64 x.nd.k, .int .i64 x.nd.n, .string x.nd.s, .slice b1 x.nd.m.length r1, .slice b2 x.nd.l.length r2, .slice b3 x.nd.t.length r3, .int .i64 x.n] 30) = wB := ⟨_, rfl⟩
      have HNB := Lib.hid (Sp.below_new HBW.out hwB HBW.out.size)
      obtain ⟨wC, hwC⟩ : ∃ wC, wB.alloc (.cells #[.int .i64 x.id.k, .int .i64 x.id.n, .string x.id.s, .slice a1 x.id.m.length q1, .slice a2 x.id.l.length q2, .slice a3 x.id.t.length q3, .int .i64 x.nd.k, .int .i64 x.nd.n, .string x.nd.s, .slice b1 x.nd.m.length r1, .slice b2 x.nd.l.length r2, .slice b3 x.nd.t.length r3] 26) = wC := ⟨_, rfl⟩
      have HNC := Lib.hid (Sp.below_new HNB.out.1 hwC (by rw [HNB.out.2.1]; have := HBW.out.size; omega))
      have HBC := Lib.hid HNC.out.1
      have nb : ∀ i v, #[.int .i64 x.d, .int .i64 x.s, .int .i64 x.t, .int .i64 x.id.k, .int .i64 x.id.n, .string x.id.s, .slice a1 x.id.m.length q1, .slice a2 x.id.l.length q2, .slice a3 x.id.t.length q3, .int .i64 x.nd.k, .int .i64 x.nd.n, .string x.nd.s, .slice b1 x.nd.m.length r1, .slice b2 x.nd.l.length r2, .slice b3 x.nd.t.length r3, .int .i64 x.n][i]? = some v → wB.cell? ⟨wr.heap.size, i, none⟩ = some v := fun i v h => by unfold World.cell?; rw [HNB.out.2.2.1]; exact h
      have l3 := nb 3 _ rfl
      have l4 := nb 4 _ rfl
      have l5 := nb 5 _ rfl
      have l6 := nb 6 _ rfl
      have l7 := nb 7 _ rfl
      have l8 := nb 8 _ rfl
      have l9 := nb 9 _ rfl
      have l10 := nb 10 _ rfl
      have l11 := nb 11 _ rfl
      have l12 := nb 12 _ rfl
      have l13 := nb 13 _ rfl
      have l14 := nb 14 _ rfl
      have HEL : Hid (∀ i, i < 2 → ∃ (y : Dt.D) (d1 : Option Addr) (e1 : Nat) (d2 : Option Addr) (e2 : Nat) (d3 : Option Addr) (e3 : Nat), Hid (Dt.Six wC wB.heap.size (i * 6) y (.slice d1 y.m.length e1) (.slice d2 y.l.length e2) (.slice d3 y.t.length e3) ∧ ((Sp.fewD y = false → Sp.few x = false) ∧ (i = 0 → y = x.id) ∧ (i = 1 → y = x.nd)) ∧ Dt.Wf y)) := by
        have hh := HNC.out.2.2.1
        have hn : ∀ i v, #[.int .i64 x.id.k, .int .i64 x.id.n, .string x.id.s, .slice a1 x.id.m.length q1, .slice a2 x.id.l.length q2, .slice a3 x.id.t.length q3, .int .i64 x.nd.k, .int .i64 x.nd.n, .string x.nd.s, .slice b1 x.nd.m.length r1, .slice b2 x.nd.l.length r2, .slice b3 x.nd.t.length r3][i]? = some v → wC.cell? ⟨wB.heap.size, i, none⟩ = some v := fun i v h => by unfold World.cell?; rw [hh]; exact h
        intro i hi
        match i, hi with
        | 0, _ => exact ⟨x.id, a1, q1, a2, q2, a3, q3, ⟨hn 0 _ rfl, hn 1 _ rfl, hn 2 _ rfl, hn 3 _ rfl, hn 4 _ rfl, hn 5 _ rfl⟩, ⟨fun h => by unfold Sp.few; rw [h]; rfl, fun _ => rfl, fun h => absurd h (by omega)⟩, hw1⟩
        | 1, _ => exact ⟨x.nd, b1, r1, b2, r2, b3, r3, ⟨hn 6 _ rfl, hn 7 _ rfl, hn 8 _ rfl, hn 9 _ rfl, hn 10 _ rfl, hn 11 _ rfl⟩, ⟨fun h => by unfold Sp.few; rw [h]; simp, fun h => absurd h (by omega), fun _ => rfl⟩, hw2⟩
      have HX := Lib.hid hx
      clear hs hr hs2 hr2 hat hc nb hx
      go_wp2
      clear l3 l4 l5 l6 l7 l8 l9 l10 l11 l12 l13 l14 c0 c1 c2 c15 k0 m0 k1 m1 k2 m2 k3 m3 k4 m4 k5 m5 hwB hwC
      go_loopw [25] (fun v wi => ∃ i : Nat, v = .int .i64 i ∧ i ≤ 2 ∧ Hid ((0 < i → Sp.fewD x.id = true) ∧ (1 < i → Sp.fewD x.nd = true)) ∧ Hid (Below wC.heap.size wC wi)) (fun v _ => 2 - (intOf v).toNat)
      case atStart => exact ⟨0, rfl, by omega, ⟨fun h => absurd h (by omega), fun h => absurd h (by omega)⟩, Below.refl _ _⟩
      case round =>
        obtain ⟨i, rfl, hi, HGD, HBI⟩ := hrel
        by_cases hlt2 : i < 2
        · have hi0 : (0 : Int) ≤ (i : Int) := by omega
          have hi2 : (i : Int) < 2 := by omega
          obtain ⟨y, d1, e1, d2, e2, d3, e3, HY⟩ := HEL.out i hlt2
          have hz := HY.out.1
          obtain ⟨z0, z1, z2, z3, z4, z5⟩ := HY.out.1.keep (S := fun _ => False) ((Keep.refl _ wC).below HBI.out) (block_lt_of_cell HY.out.1.c0) (fun h => h)
          obtain ⟨wE, hwE⟩ : ∃ wE, wr.alloc (.cells #[.int .i64 y.k, .int .i64 y.n, .string y.s, .slice d1 y.m.length e1, .slice d2 y.l.length e2, .slice d3 y.t.length e3] 26) = wE := ⟨_, rfl⟩
          have HNE := Lib.hid (Sp.below_new HBI.out hwE HBI.out.size)
          have HBE : Hid (Below w.heap.size w wE) := HBC.out.trans (HNE.out.1.mono HBC.out.size)
          have hbx := Dt.six_new wr y.k y.n y.s (.slice d1 y.m.length e1) (.slice d2 y.l.length e2) (.slice d3 y.t.length e3) 26
          rw [hwE] at hbx
          have x2 := hbx 2 (by omega)
          have x3 := hbx 3 (by omega)
          have x4 := hbx 4 (by omega)
          have x5 := hbx 5 (by omega)
          simp only [List.getElem?_toArray, List.getElem?_cons_zero, List.getElem?_cons_succ] at x2 x3 x4 x5
          have hwf := HY.out.2.2
          have hlt4 := (Dt.wf_len hwf)
          have hsz := Dt.wf_s hwf
          have HBAD : Hid (Sp.fewD y = false → B = false) := fun h => HBAD0.out (HY.out.2.1.1 h)
          clear hz hbx hwf
          by_cases h1 : 5000 < y.s.size
          · have h1' : decide ((5000 : Int) < (y.s.size : Int)) = true := decide_eq_true (by omega)
            have HV : Hid (B = false) := HBAD.out (by show Sp.fewD y = false; unfold Sp.fewD; simp; omega)
            go_wp2
            refine bodyPost_ret (v := .tuple #[.slice none 0 0, .bool false]) (by simp [results, Tryd.results8, go_sem]) rfl ?_
            exact ⟨by rw [HVV.out, HV.out]; rfl, HBE.out⟩

          have h1' : decide ((5000 : Int) < (y.s.size : Int)) = false := decide_eq_false (by omega)
          by_cases h2 : 1000 < y.m.length
          · have h2' : decide ((1000 : Int) < (y.m.length : Int)) = true := decide_eq_true (by omega)
            have HV : Hid (B = false) := HBAD.out (by show Sp.fewD y = false; unfold Sp.fewD; simp; omega)
            go_wp2
            refine bodyPost_ret (v := .tuple #[.slice none 0 0, .bool false]) (by simp [results, Tryd.results8, go_sem]) rfl ?_
            exact ⟨by rw [HVV.out, HV.out]; rfl, HBE.out⟩

          have h2' : decide ((1000 : Int) < (y.m.length : Int)) = false := decide_eq_false (by omega)
          by_cases h3 : 100 < y.l.length + y.t.length
          · have h3' : decide ((100 : Int) < (y.l.length : Int) + (y.t.length : Int)) = true := decide_eq_true (by omega)
            have HV : Hid (B = false) := HBAD.out (by show Sp.fewD y = false; unfold Sp.fewD; simp; omega)
            go_wp2
            refine bodyPost_ret (v := .tuple #[.slice none 0 0, .bool false]) (by simp [results, Tryd.results8, go_sem]) rfl ?_
            exact ⟨by rw [HVV.out, HV.out]; rfl, HBE.out⟩

          have h3' : decide ((100 : Int) < (y.l.length : Int) + (y.t.length : Int)) = false := decide_eq_false (by omega)
          have HGOOD : Hid (Sp.fewD y = true) := by show _ = _; unfold Sp.fewD; simp; omega
          clear h1 h2 h3 HBAD
          go_wp2
          go_roundw
          case rel => exact ⟨i + 1, by simp, by omega, ⟨fun _ => by
              by_cases e : i = 0
              · rw [← HY.out.2.1.2.1 e]; exact HGOOD.out
              · exact HGD.out.1 (by omega), fun h => by
              have e : i = 1 := by omega
              rw [← HY.out.2.1.2.2 e]; exact HGOOD.out⟩, HNE.out.1⟩
          case measure => simp [intOf]; omega
        · obtain rfl : i = 2 := by omega
          have HG2 : Hid (∀ q, q < j + 1 → (hq : q < l.length) → Sp.few l[q] = true) := by
            intro q hq hql
            by_cases e : q = j
            · subst e
              rw [← HX.out]
              unfold Sp.few
              rw [HGD.out.1 (by omega), HGD.out.2 (by omega)]
              rfl
            · exact HG.out q (by omega) hql
          have HB2 : Hid (Below w.heap.size w wr) := HBC.out.trans (HBI.out.mono HBC.out.size)
          clear HEL HGD HG
          go_wp2
          go_roundw
          case rel => exact ⟨j + 1, by simp, by omega, HG2, HB2⟩
          case measure => simp [intOf]; omega
    · obtain rfl : j = k := by omega
      have HV : Hid (B = true) := by
        show _ = _
        rw [HB.out]
        unfold Sp.smallL
        rw [List.all_eq_true]
        intro y hy
        obtain ⟨q, hq, rfl⟩ := List.getElem_of_mem hy
        rw [List.length_take] at hq
        rw [List.getElem_take]
        exact HG.out q (by have := HK.out; omega) (by omega)
      have hjj : ¬ ((j : Int) < (j : Int)) := by omega
      go_wp2
      refine bodyPost_ret (v := .tuple #[.slice a j c, .bool true]) (by simp [results, Tryd.results8, go_sem]) rfl ?_
      exact ⟨by rw [HVV.out, HV.out, if_pos rfl, ← HK.out], HBW.out⟩
end Go.Proofs.YtjbjgceblanhpaaDoor
