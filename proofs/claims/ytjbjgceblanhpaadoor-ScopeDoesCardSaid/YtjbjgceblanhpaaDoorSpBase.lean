/-
  scope.Table: none, may, symbol, New, Sizes, Mark.
-/
import Derived.Test.YtjbjgceblanhpaaDoorSpMap
namespace Go.Proofs.YtjbjgceblanhpaaDoor
open Go.RowKit
attribute [local go_sem] Oper.semAt_some
namespace Sp
open Dt
/-- may a scope be? -/
def mayE (t : Tbl) (sc : Int) : Int := if sc < 0 ∨ (t.l.length : Int) ≤ sc then 50 else 0
end Sp
set_option maxRecDepth 100000 in
theorem spNone_yes {base T mb : Nat} {vl : Value} {xs : List Sp.B} {t : Sp.Tbl} (w : World) (h : Sp.Tab w base T vl mb xs t) :
    Calls Tryd.prog 34 #[.pointer (some ⟨T, 0, none⟩)] w fun e w' => e = .returned (.bool false) ∧ w = w' := by
  obtain ⟨g, c, rfl, _⟩ := h.at
  have c0 := h.c0
  have hp := h.ok.pos
  have hne : ((t.l.length : Int) == 0) = false := beq_eq_false_iff_ne.2 (by omega)
  clear h
  go_enter Tryd.func34, Tryd.ntmps34
  go_wp2
  go_ret
  exact ⟨rfl, rfl⟩
set_option maxRecDepth 100000 in
theorem spNone_nil (w : World) :
    Calls Tryd.prog 34 #[.pointer none] w fun e w' => e = .returned (.bool true) ∧ w = w' := by
  go_enter Tryd.func34, Tryd.ntmps34
  go_wp2
  go_ret
  exact ⟨rfl, rfl⟩
set_option maxRecDepth 100000 in
theorem spNone_zero (T : Nat) (w : World) (c0 : w.cell? ⟨T, 0, none⟩ = some (.slice none 0 0)) :
    Calls Tryd.prog 34 #[.pointer (some ⟨T, 0, none⟩)] w fun e w' => e = .returned (.bool true) ∧ w = w' := by
  go_enter Tryd.func34, Tryd.ntmps34
  go_wp2
  go_ret
  exact ⟨rfl, rfl⟩
set_option maxRecDepth 100000 in
theorem spMay_any {base T mb : Nat} {vl : Value} {xs : List Sp.B} {t : Sp.Tbl} (sc : Int) (w : World) (h : Sp.Tab w base T vl mb xs t) :
    Calls Tryd.prog 26 #[.pointer (some ⟨T, 0, none⟩), .int .i64 sc] w fun e w' => e = .returned (.int .i64 (Sp.mayE t sc)) ∧ w = w' := by
  have hn := spNone_yes w h
  obtain ⟨g, c, rfl, _⟩ := h.at
  have c0 := h.c0
  obtain ⟨E, hE⟩ : ∃ E, E = Sp.mayE t sc := ⟨_, rfl⟩
  rw [← hE]
  by_cases h0 : sc < 0
  · have HE : Hid (E = 50) := by show _ = _; rw [hE]; unfold Sp.mayE; rw [if_pos (.inl h0)]
    clear h hE
    go_enter Tryd.func26, Tryd.ntmps26
    go_wp2_with (go_at_call 34; refine hn.mono ?_; clear hn; rintro e w1 ⟨rfl, rfl⟩)
    go_ret
    exact ⟨by rw [HE.out]; rfl, rfl⟩
  · by_cases h1 : (t.l.length : Int) ≤ sc
    · have HE : Hid (E = 50) := by show _ = _; rw [hE]; unfold Sp.mayE; rw [if_pos (.inr h1)]
      have h0' : decide (sc < 0) = false := decide_eq_false h0
      have h1' : decide ((t.l.length : Int) ≤ sc) = true := decide_eq_true h1
      clear h hE
      go_enter Tryd.func26, Tryd.ntmps26
      go_wp2_with (go_at_call 34; refine hn.mono ?_; clear hn; rintro e w1 ⟨rfl, rfl⟩)
      go_ret
      exact ⟨by rw [HE.out]; rfl, rfl⟩
    · have HE : Hid (E = 0) := by show _ = _; rw [hE]; unfold Sp.mayE; rw [if_neg (fun h => h.elim h0 h1)]
      have h0' : decide (sc < 0) = false := decide_eq_false h0
      have h1' : decide ((t.l.length : Int) ≤ sc) = false := decide_eq_false h1
      clear h hE
      go_enter Tryd.func26, Tryd.ntmps26
      go_wp2_with (go_at_call 34; refine hn.mono ?_; clear hn; rintro e w1 ⟨rfl, rfl⟩)
      go_ret
      exact ⟨by rw [HE.out]; rfl, rfl⟩
/-- a table that no call made -/
def Sp.NoTab (w : World) (p : Value) : Prop := p = .pointer none ∨ ∃ T, p = .pointer (some ⟨T, 0, none⟩) ∧ w.cell? ⟨T, 0, none⟩ = some (.slice none 0 0)
theorem Sp.NoTab.below {w w' : World} {p : Value} (h : Sp.NoTab w p) (hb : Below w.heap.size w w') : Sp.NoTab w' p := by
  rcases h with h | ⟨T, h1, h2⟩
  · exact .inl h
  · exact .inr ⟨T, h1, (hb.cell (p := ⟨T, 0, none⟩) (block_lt_of_cell h2)).trans h2⟩
theorem spNone_no (p : Value) (w : World) (h : Sp.NoTab w p) : Calls Tryd.prog 34 #[p] w fun e w' => e = .returned (.bool true) ∧ w = w' := by
  rcases h with rfl | ⟨T, rfl, h⟩
  · exact spNone_nil w
  · exact spNone_zero T w h
set_option maxRecDepth 100000 in
theorem spMay_no (p : Value) (sc : Int) (w : World) (h : Sp.NoTab w p) :
    Calls Tryd.prog 26 #[p, .int .i64 sc] w fun e w' => e = .returned (.int .i64 2) ∧ w = w' := by
  have hn := spNone_no p w h
  clear h
  go_enter Tryd.func26, Tryd.ntmps26
  go_wp2_with (go_at_call 34; refine hn.mono ?_; clear hn; rintro e w1 ⟨rfl, rfl⟩)
  go_ret
  exact ⟨rfl, rfl⟩
set_option maxRecDepth 100000 in
set_option maxHeartbeats 4000000 in
theorem spSymbol_any {F : Nat → Prop} (x : Dt.D) (vm vl vt : Value) (w : World) (hW : Dt.Wf x) (hR : Dt.Rep F w x vm vl vt) :
    Calls Tryd.prog 27 #[.agg #[.int .i64 x.k, .int .i64 x.n, .string x.s, vm, vl, vt]] w fun e w' => e = .returned (.bool (Sp.isSym x)) ∧ Below w.heap.size w w' := by
  obtain ⟨a1, n1, q1, a2, n2, q2, a3, n3, q3, rfl, rfl, rfl⟩ := hR.forms
  obtain ⟨w1, hw1⟩ : ∃ w1, w.alloc (.cells #[.int .i64 x.k, .int .i64 x.n, .string x.s, .slice a1 n1 q1, .slice a2 n2 q2, .slice a3 n3 q3] 26) = w1 := ⟨_, rfl⟩
  have hb1 : Below w.heap.size w w1 := by rw [← hw1]; exact (Below.refl _ _).alloc (Nat.le_refl _) _
  have hbx := Dt.six_new w x.k x.n x.s (.slice a1 n1 q1) (.slice a2 n2 q2) (.slice a3 n3 q3) 26
  rw [hw1] at hbx
  have b0 := hbx 0 (by omega)
  have b1 := hbx 1 (by omega)
  have b2 := hbx 2 (by omega)
  have b3 := hbx 3 (by omega)
  have b4 := hbx 4 (by omega)
  have b5 := hbx 5 (by omega)
  simp only [List.getElem?_toArray, List.getElem?_cons_zero, List.getElem?_cons_succ] at b0 b1 b2 b3 b4 b5
  have hck := dCheck_any x _ _ _ w1 hW (hR.below hb1)
  obtain ⟨E, hE⟩ : ∃ E, E = Sp.isSym x := ⟨_, rfl⟩
  rw [← hE]
  have HB := Lib.hid hb1
  have HE := Lib.hid hE
  clear hR hW hbx hb1 hE
  by_cases hk : x.k = 5
  · have hk' : (x.k == 5) = true := by simpa using hk
    have HK := Lib.hid hk
    clear hk
    by_cases hc : Dt.check x = 0
    · have hc' : (Dt.check x == 0) = true := by simpa using hc
      have HV : Hid (E = true) := by show _ = _; rw [HE.out]; unfold Sp.isSym; rw [decide_eq_true HK.out, decide_eq_true hc]; rfl
      clear hc
      go_enter Tryd.func27, Tryd.ntmps27
      go_wp2_with (go_at_call 42; refine hck.mono ?_; clear hck; rintro e w2 ⟨rfl, hb2⟩; have HB2 := Lib.hid (HB.out.trans (hb2.mono HB.out.size)); clear hb2)
      go_ret
      exact ⟨by rw [HV.out]; rfl, HB2.out⟩
    · have hc' : (Dt.check x == 0) = false := by simpa using hc
      have HV : Hid (E = false) := by show _ = _; rw [HE.out]; unfold Sp.isSym; rw [decide_eq_true HK.out, decide_eq_false hc]; rfl
      clear hc
      go_enter Tryd.func27, Tryd.ntmps27
      go_wp2_with (go_at_call 42; refine hck.mono ?_; clear hck; rintro e w2 ⟨rfl, hb2⟩; have HB2 := Lib.hid (HB.out.trans (hb2.mono HB.out.size)); clear hb2)
      go_ret
      exact ⟨by rw [HV.out]; rfl, HB2.out⟩
  · have hk' : (x.k == 5) = false := by simpa using hk
    have HV : Hid (E = false) := by show _ = _; rw [HE.out]; unfold Sp.isSym; rw [decide_eq_false hk]; rfl
    clear hk hck
    go_enter Tryd.func27, Tryd.ntmps27
    go_wp2
    go_ret
    exact ⟨by rw [HV.out]; rfl, HB.out⟩
end Go.Proofs.YtjbjgceblanhpaaDoor
