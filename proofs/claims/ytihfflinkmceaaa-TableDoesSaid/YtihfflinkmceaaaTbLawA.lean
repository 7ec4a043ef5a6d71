/-
  shuttlelaw18: few, value, awake.
-/
import Derived.Test.YtihfflinkmceaaaTbDefine
namespace Go.Proofs.Ytihfflinkmceaaa
open Go.RowKit Go.Maps Go.WideMaps Go.Sort
namespace Tb
/-- an act: what to do, a name, a number -/
structure O where
  d : Int
  s : ByteArray
  n : Int
/-- a row of acts that came in -/
def Row (w : World) (v : Value) (l : List O) : Prop :=
  ∃ (a : Option Addr) (c : Nat), v = .slice a l.length c ∧ l.length ≤ c ∧ (l ≠ [] → ∃ b o, a = some ⟨b, o, none⟩ ∧ b < w.heap.size ∧ ∀ j, (h : j < l.length) →
    w.cell? ⟨b, o + j * 3, none⟩ = some (.int .i64 l[j].d) ∧ w.cell? ⟨b, o + j * 3 + 1, none⟩ = some (.string l[j].s) ∧ w.cell? ⟨b, o + j * 3 + 2, none⟩ = some (.int .i64 l[j].n))
theorem Row.below {w w' : World} {v : Value} {l : List O} (h : Row w v l) (hb : Below w.heap.size w w') : Row w' v l := by
  obtain ⟨a, c, h1, h2, h3⟩ := h
  refine ⟨a, c, h1, h2, fun hn => ?_⟩
  obtain ⟨b, o, h4, h5, h6⟩ := h3 hn
  refine ⟨b, o, h4, Nat.lt_of_lt_of_le h5 hb.size, fun j hj => ?_⟩
  obtain ⟨c0, c1, c2⟩ := h6 j hj
  exact ⟨(hb.cell (p := ⟨b, _, none⟩) h5).trans c0, (hb.cell (p := ⟨b, _, none⟩) h5).trans c1, (hb.cell (p := ⟨b, _, none⟩) h5).trans c2⟩
theorem Row.take {w : World} {a : Option Addr} {c : Nat} {l : List O} (h : Row w (.slice a l.length c) l) (m : Nat) (hm : m ≤ l.length) : Row w (.slice a m c) (l.take m) := by
  obtain ⟨a', c', he, h2, h3⟩ := h
  cases he
  have hl : (l.take m).length = m := by rw [List.length_take]; omega
  refine ⟨a, c, by rw [hl], by omega, fun hn => ?_⟩
  obtain ⟨b, o, h4, h5, h6⟩ := h3 (fun h0 => by subst h0; exact hn List.take_nil)
  refine ⟨b, o, h4, h5, fun j hj => ?_⟩
  rw [List.getElem_take]
  exact h6 j (by rw [List.length_take] at hj; omega)
/-- are the names short? -/
def fewL (l : List O) : Bool := (l.take 80).all fun o => decide (o.s.size ≤ 1000)
def fewV (R : Bool) (a : Option Addr) (m c : Nat) : Value := if R then .tuple #[.slice a m c, .bool true] else .tuple #[.slice none 0 0, .bool false]
end Tb
set_option maxRecDepth 100000 in
theorem value_any (d n : Int) (s : ByteArray) (w : World) :
    Calls Try.prog 12 #[.agg #[.int .i64 d, .string s, .int .i64 n]] w fun e w' => e = .returned (.agg #[.int .i64 1, .int .i64 n]) ∧ Below w.heap.size w w' := by
  go_enter Try.func12, Try.ntmps12
  go_wp2
  obtain ⟨q0, q1⟩ := Tb.pair_new (w.alloc (.cells #[.int .i64 d, .string s, .int .i64 n] 33)) (.int .i64 1) (.int .i64 n)
  rw [World.size_alloc] at q0 q1
  exact bodyPost_ret (v := .agg #[.int .i64 1, .int .i64 n]) (by simp [results, Try.results12, go_sem, q0, q1]) rfl ⟨rfl, ((Below.refl _ w).alloc (Nat.le_refl _) _).alloc (by simp) _⟩
set_option maxRecDepth 100000 in
set_option maxHeartbeats 1000000 in
theorem few_any (l : List Tb.O) (a : Option Addr) (c : Nat) (w : World) (hv : Tb.Row w (.slice a l.length c) l) :
    Calls Try.prog 7 #[.slice a l.length c] w fun e w' => e = .returned (Tb.fewV (Tb.fewL l) a (min l.length 80) c) ∧ Below w.heap.size w w' := by
  obtain ⟨m, hm⟩ : ∃ m, m = min l.length 80 := ⟨_, rfl⟩
  have hmi : min (l.length : Int) 80 = (m : Int) := by omega
  rw [← hm]
  have hr := hv.take m (by omega)
  have hL : Tb.fewL l = (l.take m).all fun o => decide (o.s.size ≤ 1000) := by
    unfold Tb.fewL
    by_cases h8 : l.length ≤ 80
    · rw [show m = l.length by omega, List.take_of_length_le h8, List.take_length]
    · rw [show m = 80 by omega]
  rw [hL]
  obtain ⟨R, hR⟩ : ∃ R, R = (l.take m).all fun o => decide (o.s.size ≤ 1000) := ⟨_, rfl⟩
  rw [← hR]
  obtain ⟨l', hl'⟩ : ∃ l', l' = l.take m := ⟨_, rfl⟩
  have hlen : l'.length = m := by rw [hl', List.length_take]; omega
  rw [← hl'] at hr hR
  have H0 : Hid (R = (l'.drop 0).all fun o => decide (o.s.size ≤ 1000)) := by show _ = _; rw [List.drop_zero]; exact hR
  have HR := Lib.hid hr
  clear hr hR hL hl'
  obtain ⟨_, _, he, hc, _⟩ := hv
  cases he
  have hci : (m : Int) ≤ (c : Int) := by omega
  have hm0 : (0 : Int) ≤ (m : Int) := by omega
  have hm8 : (m : Int) ≤ 80 := by omega
  go_enter Try.func7, Try.ntmps7
  go_wp2
  rw [← hm]
  clear hm hmi
  go_loopw [13] (fun vi wr => ∃ (k : Nat), vi = .int .i64 k ∧ k ≤ m ∧ Hid (R = (l'.drop k).all fun o => decide (o.s.size ≤ 1000)) ∧ Below w.heap.size w wr) (fun vi _ => m - (intOf vi).toNat)
  case atStart => exact ⟨0, rfl, by omega, H0, Below.refl _ _⟩
  case round =>
    obtain ⟨k, rfl, hk, HA, hbl⟩ := hrel
    have HB := Lib.hid hbl
    by_cases hlt : k < m
    case neg =>
      have hge : (m : Int) ≤ (k : Int) := by omega
      have HE : Hid (R = true) := by show _ = _; rw [HA.out, List.drop_eq_nil_of_le (by omega)]; rfl
      clear hbl
      go_wp2
      go_ret2
      exact ⟨by rw [HE.out]; rfl, HB.out⟩
    have hlti : (k : Int) < (m : Int) := by omega
    have ha := HA.out
    have hlt' : k < l'.length := by omega
    rw [List.drop_eq_getElem_cons hlt', List.all_cons] at ha
    obtain ⟨t, ht⟩ : ∃ t, l'[k] = t := ⟨_, rfl⟩
    obtain ⟨_, _, hao, _, hcells⟩ := (HR.out.below hbl)
    cases hao
    obtain ⟨b, o, hao, hbw, hcell⟩ := hcells (by intro h0; rw [h0] at hlt'; simp at hlt')
    obtain ⟨r0, r1, r2⟩ := hcell k hlt'
    rw [ht] at r0 r1 r2 ha
    subst hao
    clear hcell hcells hbl ht
    by_cases h5 : t.s.size ≤ 1000
    · rw [decide_eq_true h5, Bool.true_and] at ha
      have HN := Lib.hid ha
      have h5i : ¬ ((1000 : Int) < (t.s.size : Int)) := by omega
      clear ha h5
      go_wp2
      go_roundw
      case rel => exact ⟨k + 1, by simp, by omega, HN, HB.out.alloc HB.out.size _⟩
      case measure => simp [intOf]; omega
    · rw [decide_eq_false h5, Bool.false_and] at ha
      have HN := Lib.hid ha
      have h5i : (1000 : Int) < (t.s.size : Int) := by omega
      clear ha h5
      go_wp2
      go_ret2
      exact ⟨by rw [HN.out]; rfl, HB.out.alloc HB.out.size _⟩
namespace Tb
def carS : ByteArray := ⟨#[99, 97, 114]⟩
def xS : ByteArray := ⟨#[120]⟩
theorem aw1 : get [] carS.data.toList = ((6, 16), 0, 0) := by decide +kernel
theorem aw2 : asr [] xS.data.toList = (3, 0) := by decide +kernel
theorem aw3 : asL [] xS.data.toList (6, 16) = [] := by decide +kernel
theorem aw4 : defr [] xS.data.toList = (0, 0) := by decide +kernel
theorem aw5 : defL [] xS.data.toList (6, 16) = [(xS.data.toList, (6, 16))] := by decide +kernel
theorem aw6 : get [(xS.data.toList, (6, 16))] xS.data.toList = ((6, 16), 0, 0) := by decide +kernel
end Tb
set_option maxRecDepth 100000 in
set_option maxHeartbeats 4000000 in
theorem awake_any (w : World) :
    Calls Try.prog 9 #[] w fun e w' => e = .returned (.bool true) ∧ Below w.heap.size w w' := by
  go_enter Try.func9, Try.ntmps9
  go_wp2_with fail
  refine (New_any 3 (by omega) (by omega) w).mono ?_
  rintro e w1 ⟨rfl, hb1, ht1⟩
  have HB1 := Lib.hid hb1
  clear hb1
  have hg1 := Get_any Tb.carS w1 ht1 (by decide)
  rw [Tb.aw1] at hg1
  go_wp2_with fail
  refine hg1.mono ?_
  rintro e w2 ⟨rfl, hb2⟩
  have ht2 := ht1.below hb2
  have HB2 := Lib.hid (HB1.out.trans (hb2.mono HB1.out.size))
  have hs12 := hb2.size
  have hh1 := ht1.hh
  have hb3 : Below w2.heap.size w2 (w2.alloc (.cells #[.int .i64 6, .int .i64 16] 37)) := (Below.refl _ w2).alloc (Nat.le_refl _) _
  obtain ⟨q0, q1⟩ := Tb.pair_new w2 (.int .i64 6) (.int .i64 16)
  obtain ⟨w3, hw3⟩ : ∃ w3, w2.alloc (.cells #[.int .i64 6, .int .i64 16] 37) = w3 := ⟨_, rfl⟩
  rw [hw3] at hb3 q0 q1
  have ht3 := ht2.below hb3
  have hlt3 : w2.heap.size < w3.heap.size := by rw [← hw3]; simp
  have HB3 := Lib.hid (HB2.out.trans (hb3.mono HB2.out.size))
  have ha := Assign_any Tb.xS (6, 16) w3 ht3 (by decide)
  rw [Tb.aw2, Tb.aw3] at ha
  clear hg1 hb2 hb3 ht1 ht2 ht3
  go_wp2_with fail
  refine ha.mono ?_
  rintro e w4 ⟨rfl, ht4, hk4⟩
  have HB4 := Lib.hid (HB3.out.trans (hk4.to_below (fun k hS => hS.1) (by have := HB3.out.size; omega)))
  have u0 := (hk4.cell 0 hlt3 (fun hS => by have := hS.2; omega)).trans q0
  have u1 := (hk4.cell 1 hlt3 (fun hS => by have := hS.2; omega)).trans q1
  have hd := Define_any Tb.xS (6, 16) w4 ht4 (by decide)
  rw [Tb.aw4, Tb.aw5] at hd
  have hlt4 : w2.heap.size < w4.heap.size := Nat.lt_of_lt_of_le hlt3 hk4.size
  clear ha hk4 ht4 q0 q1
  go_wp2_with fail
  refine hd.mono ?_
  rintro e w5 ⟨rfl, ht5, hk5⟩
  have HB5 := Lib.hid (HB4.out.trans (hk5.to_below (fun k hS => hS.1) (by have := HB4.out.size; omega)))
  have v0 := (hk5.cell 0 hlt4 (fun hS => by have := hS.2; omega)).trans u0
  have v1 := (hk5.cell 1 hlt4 (fun hS => by have := hS.2; omega)).trans u1
  have hlt5 : w2.heap.size < w5.heap.size := Nat.lt_of_lt_of_le hlt4 hk5.size
  have hg2 := Get_any Tb.xS w5 ht5 (by decide)
  rw [Tb.aw6] at hg2
  clear hd hk5 ht5 u0 u1
  go_wp2_with fail
  refine hg2.mono ?_
  rintro e w6 ⟨rfl, hb6⟩
  have HB6 := Lib.hid (HB5.out.trans (hb6.mono HB5.out.size))
  have y0 := (hb6.cell (p := ⟨w2.heap.size, 0, none⟩) hlt5).trans v0
  have y1 := (hb6.cell (p := ⟨w2.heap.size, 1, none⟩) hlt5).trans v1
  have hlt6 : w2.heap.size < w6.heap.size := Nat.lt_of_lt_of_le hlt5 hb6.size
  have hb7 : Below w6.heap.size w6 (w6.alloc (.cells #[.int .i64 6, .int .i64 16] 37)) := (Below.refl _ w6).alloc (Nat.le_refl _) _
  obtain ⟨z0, z1⟩ := Tb.pair_new w6 (.int .i64 6) (.int .i64 16)
  obtain ⟨w7, hw7⟩ : ∃ w7, w6.alloc (.cells #[.int .i64 6, .int .i64 16] 37) = w7 := ⟨_, rfl⟩
  rw [hw7] at hb7 z0 z1
  have HB7 := Lib.hid (HB6.out.trans (hb7.mono HB6.out.size))
  have x0 := (hb7.cell (p := ⟨w2.heap.size, 0, none⟩) hlt6).trans y0
  have x1 := (hb7.cell (p := ⟨w2.heap.size, 1, none⟩) hlt6).trans y1
  clear hg2 hb6 hb7 v0 v1 y0 y1 hw3
  go_wp2
  go_ret
  exact ⟨rfl, HB7.out⟩
end Go.Proofs.Ytihfflinkmceaaa
