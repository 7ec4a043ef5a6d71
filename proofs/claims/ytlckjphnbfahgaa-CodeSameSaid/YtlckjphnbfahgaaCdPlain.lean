/-
  code.plain: whether a datum may be a constant.
-/
import Derived.Test.YtlckjphnbfahgaaDtAllS
import Derived.Test.YtlckjphnbfahgaaCdModel
import Derived.Shelf.Abstract
namespace Go.Proofs.Ytlckjphnbfahgaa
open Go.RowKit Go.Shelf
attribute [local go_sem] Oper.semAt_some
namespace Cd
open Dt
theorem keep_putObj {S : Nat → Prop} (W : World) (b : Nat) (o' : Obj) (h : S b) : Keep S W (W.putObj b o') :=
  ⟨rfl, rfl, rfl, by simp [World.putObj], fun k _ hn => World.putObj_heap_other (fun e => hn (by rw [e]; exact h))⟩
/-- what code.plain's loop holds between its rounds -/
def PI (w : World) (R : Nat) (pre : List P) (W : World) : Prop := (∀ p ∈ pre, p.d.m = []) ∧ Boxed W R 4 (.bool false) ∧ Below w.heap.size w W
/-- .. and where it has stopped -/
def PX (w : World) (R : Nat) (c : Go.Code) (pre : List P) (W : World) : Prop := c = .ret ∧ (∃ p ∈ pre, p.d.m ≠ []) ∧ Boxed W R 4 (.bool false) ∧ Below w.heap.size w W
theorem below_grown {w W W' : World} {row : Option Nat} {B : Nat} (h : Below w.heap.size w W) (hB : w.heap.size ≤ B) (hg : W.grownBy W' row) (hr : ∀ r, row = some r → B ≤ r) : Below w.heap.size w W' :=
  ⟨hg.os.trans h.os, hg.tape.trans h.tape, hg.output.trans h.output, Nat.le_trans h.size hg.size, fun k hk => (hg.block k (Nat.lt_of_lt_of_le hk h.size) (fun e => by have := hr _ e.symm; omega)).trans (h.block k hk)⟩
theorem PI.grown {w W W' : World} {R B : Nat} {pre : List P} {row : Option Nat} (h : PI w R pre W) (hw : w.heap.size ≤ B) (hR : R < B) (hg : W.grownBy W' row) (hr : ∀ r, row = some r → B ≤ r) : PI w R pre W' :=
  ⟨h.1, h.2.1.kept hg (fun e => by have := hr R e.symm; omega), below_grown h.2.2 hw hg hr⟩
theorem PX.grown {w W W' : World} {R B : Nat} {c : Go.Code} {pre : List P} {row : Option Nat} (h : PX w R c pre W) (hw : w.heap.size ≤ B) (hR : R < B) (hg : W.grownBy W' row) (hr : ∀ r, row = some r → B ≤ r) : PX w R c pre W' :=
  ⟨h.1, h.2.1, h.2.2.1.kept hg (fun e => by have := hr R e.symm; omega), below_grown h.2.2.2 hw hg hr⟩
/-- what the body of a round begins with -/
def PAx (w : World) (R : Nat) (tm : Nat → P → Array Value) (pre : List P) (x : P) (a' : Act) (W : World) : Prop :=
  PI w R pre W ∧ (∃ am cm, x.vm = .slice am x.d.m.length cm) ∧ ∃ Bx, W.heap[Bx]? = some (.cells #[.int .i64 x.d.k, .int .i64 x.d.n, .string x.d.s, x.vm, x.vl, x.vt] 55 (0, 0)) ∧ a' = { tmps := tm Bx x, defers := [] }
theorem PAx.grown {w W W' : World} {R B : Nat} {tm : Nat → P → Array Value} {pre : List P} {x : P} {a' : Act} {row : Option Nat} (h : PAx w R tm pre x a' W) (hw : w.heap.size ≤ B) (hR : R < B) (hg : W.grownBy W' row) (hr : ∀ r, row = some r → B ≤ r ∧ ∃ o : Obj, W.heap[r]? = some o ∧ o.isCells = false) : PAx w R tm pre x a' W' := by
  obtain ⟨h1, h2, Bx, h4, h5⟩ := h
  refine ⟨h1.grown hw hR hg (fun r e => (hr r e).1), h2, Bx, (hg.block Bx (Array.getElem?_eq_some_iff.1 h4).1 (fun e => ?_)).trans h4, h5⟩
  obtain ⟨-, o, ho, hc⟩ := hr Bx e.symm
  rw [h4] at ho
  cases ho
  cases hc
theorem boxed_below {W W' : World} {R B : Nat} {t : TypeId} {v : Value} (h : Boxed W R t v) (hb : Below B W W') (hR : R < B) : Boxed W' R t v := (hb.block R hR).trans h
theorem vm_form {w : World} {p : P} (h : VP p w) : ∃ am cm, p.vm = .slice am p.d.m.length cm := by
  obtain ⟨⟨am, cm, h1, _⟩, _⟩ := (rep_iff _ w p.d p.vm p.vl p.vt).1 h
  exact ⟨am, cm, h1⟩
end Cd
set_option maxRecDepth 100000 in
set_option maxHeartbeats 8000000 in
theorem plain_any {F : Nat → Prop} (x : Dt.D) (vm vl vt : Value) (w : World) (hW : Dt.Wf x) (hR : Dt.Rep F w x vm vl vt) :
    Calls Try.prog 24 #[.agg #[.int .i64 x.k, .int .i64 x.n, .string x.s, vm, vl, vt]] w fun e w' => e = .returned (.bool (Cd.plainD x)) ∧ Below w.heap.size w w' := by
  obtain ⟨w1, hw1⟩ : ∃ w1, w.alloc (.cells #[.int .i64 x.k, .int .i64 x.n, .string x.s, vm, vl, vt] 55) = w1 := ⟨_, rfl⟩
  obtain ⟨w2, hw2⟩ : ∃ w2, w1.alloc (.cells #[.bool false] 4) = w2 := ⟨_, rfl⟩
  have hb1 : Below w.heap.size w w1 := by rw [← hw1]; exact (Below.refl _ _).alloc (Nat.le_refl _) _
  have hb2 : Below w1.heap.size w1 w2 := by rw [← hw2]; exact (Below.refl _ _).alloc (Nat.le_refl _) _
  have hz1 : w1.heap.size = w.heap.size + 1 := by rw [← hw1, World.size_alloc]
  have hz2 : w2.heap.size = w.heap.size + 2 := by rw [← hw2, World.size_alloc, hz1]
  have hx2 : Boxed w2 (w.heap.size + 1) 4 (.bool false) := by have h := Boxed.new w1 4 (.bool false); rw [hw2, hz1] at h; exact h
  have hb12 : Below w.heap.size w w2 := hb1.trans (hb2.mono (by omega))
  have hsix : Dt.Six w2 w.heap.size 0 x vm vl vt := by
    have h := Dt.six_of w x vm vl vt 55
    rw [hw1] at h
    exact h.keep (S := fun _ => False) ((Keep.refl _ _).below hb2) (by omega) id
  have hc := dCheck_any x vm vl vt w2 hW (hR.below hb12)
  obtain ⟨d0, d1, d2, d3, d4, d5⟩ := hsix
  have hsix : Dt.Six w2 w.heap.size 0 x vm vl vt := ⟨d0, d1, d2, d3, d4, d5⟩
  simp only [Nat.zero_add] at d0 d1 d2 d3 d4 d5
  have HB := Lib.hid hb12
  have HX2 := Lib.hid hx2
  have HZ2 := Lib.hid hz2
  have HSIX := Lib.hid hsix
  have HR := Lib.hid hR
  clear hb1 hb2 hz2 hb12 hsix hx2 hR
  by_cases hck : Dt.check x = 0
  case neg =>
    have hnz : (Dt.check x != 0) = true := by simpa using hck
    have hpl : Cd.plainD x = false := by simp [Cd.plainD, hck]
    rw [hpl]
    clear hpl
    obtain ⟨cv, hcv⟩ : ∃ cv, Dt.check x = cv := ⟨_, rfl⟩
    rw [hcv] at hc hnz
    clear hcv hck
    go_enter Try.func24, Try.ntmps24
    go_wp2_with fail
    refine hc.mono ?_
    rintro e w3 ⟨rfl, hb3⟩
    have hx3 := Cd.boxed_below HX2.out hb3 HX2.out.lt
    have c3 := hx3.cell
    have f3 := hx3.frozen
    have HX3 := Lib.hid hx3
    have HB3 := Lib.hid (HB.out.trans (hb3.mono HB.out.size))
    clear hb3 hx3 hc hw2
    go_wp2
    have c4 : (w3.setCell ⟨w.heap.size + 1, 0, none⟩ (.bool false)).cell? ⟨w.heap.size + 1, 0, none⟩ = some (.bool false) := World.cell?_setCell_same' _ _ _ (by rw [c3]; rfl)
    refine bodyPost_ret (v := .bool false) (by simp [results, Try.results24, go_sem, c4]) rfl ?_
    exact ⟨rfl, HB3.out.setCell (p := ⟨w.heap.size + 1, 0, none⟩) (by simp) _⟩
  have hz : (Dt.check x != 0) = false := by simpa using hck
  have HCK : Hid ((Dt.chk x 1 0).1 = 0) := hck
  rw [hck] at hc
  clear hz hck
  refine (callsIn_wide (n := 12)).1 ?_
  refine callsIn_of_wp_marks Try.func24 rfl trivial ?_ rfl
  simp only [Try.ntmps24, List.size_toArray, List.length_cons, List.length_nil, Nat.reduceAdd, Nat.reduceSub, Array.replicate_succ, Array.replicate_zero, List.push_toArray, List.append_toArray, List.nil_append, List.cons_append]
  gi_wp2_with (refine ⟨trivial, ?_⟩; gi_at_call 52; refine (callsIn_wide.2 hc).mono ?_; clear hc hw1 hw2; rintro e w3 ⟨rfl, hb3⟩; have HB3 := Lib.hid hb3; obtain ⟨e0, e1, e2, e3, e4, e5⟩ := HSIX.out.keep (S := fun _ => False) ((Keep.refl _ _).below hb3) (by have := HZ2.out; omega) id; simp only [Nat.zero_add] at e0 e1 e2 e3 e4 e5; have hal := dAll_any x vm vl vt w3; clear d0 d1 d2 d3 d4 d5 hb3)
  refine ⟨trivial, ?_⟩
  refine (callsIn_wide.2 hal).mono ?_
  clear hal
  rintro e W0 ⟨rfl, hb4, hs4, hz4⟩
  have HW0 : Hid (Below w.heap.size w W0) := (HB.out.trans (HB3.out.mono HB.out.size)).trans (hb4.mono (Nat.le_trans HB.out.size HB3.out.size))
  have HX0 : Hid (Boxed W0 (w.heap.size + 1) 4 (.bool false)) := Cd.boxed_below (Cd.boxed_below HX2.out HB3.out HX2.out.lt) hb4 (Nat.lt_of_lt_of_le HX2.out.lt HB3.out.size)
  have HS4 := Lib.hid hs4
  have hwz : w.heap.size ≤ W0.heap.size := HW0.out.size
  have hRz := HX0.out.lt
  clear hb4 hs4 e0 e1 e2 e3 e4 e5
  gi_wp2
  obtain ⟨Y, hY⟩ : ∃ Y, w3.heap.size = Y := ⟨_, rfl⟩
  rw [hY] at HS4 hz4 ⊢
  have HRP : Hid (Dt.Rep (fun k => k < w.heap.size) W0 x vm vl vt) := (Dt.Rep.mono (fun _ _ h => h) x HR.out).below HW0.out
  refine Rb.wpIn_rangeB (n := 12) rfl (by omega) (gf := 70) (lb := #[.pointer (some ⟨Y, 0, none⟩)]) rfl trivial (enters_of Try.func70 (by kernel_rfl) rfl)
    (encs := Dt.encP) (Kp := Keep fun k => k = w.heap.size + 1 ∨ k = W0.heap.size + 1) (V := Dt.VP) (S := fun ys => ys.map Dt.P.d = Dt.pre x) (Sp := fun ys => ys.map Dt.P.d <+: Dt.pre x) (N := (Dt.pre x).length) (w0 := W0)
    (dAll_stops 11 x vm vl vt W0 (w.heap.size + 1) Y hRz hW HRP.out (fun k hk => ⟨by omega, by omega⟩) HS4.out HCK.out)
    (fun h k => h.trans k) (fun W o o' _ _ => Cd.keep_putObj W (W0.heap.size + 1) o' (.inr rfl)) (Below.refl _ _) (fun _ => rfl)
    (Cd.PI w (w.heap.size + 1)) (Cd.PX w (w.heap.size + 1))
    (fun pre W W' row h hg hr => Cd.PI.grown h hwz hRz hg (fun r e => (hr r e).1))
    (fun c pre W W' row h hg hr => Cd.PX.grown h hwz hRz hg (fun r e => (hr r e).1))
    (fun pre W W' h _ hb => ⟨h.1, Cd.boxed_below h.2.1 hb (by omega), h.2.2.trans (hb.mono (by omega))⟩)
    (fun c pre W W' h _ hb => ⟨h.1, h.2.1, Cd.boxed_below h.2.2.1 hb (by omega), h.2.2.2.trans (hb.mono (by omega))⟩)
    ⟨fun _ h => (by cases h), HX0.out, HW0.out⟩
    (Cd.PAx w (w.heap.size + 1) (fun Bx p => #[.agg #[.int .i64 x.k, .int .i64 x.n, .string x.s, vm, vl, vt], .pointer (some ⟨w.heap.size, 0, none⟩), .pointer (some ⟨w.heap.size + 1, 0, none⟩), .pointer (some ⟨Bx, 0, none⟩), .agg #[.int .i64 x.k, .int .i64 x.n, .string x.s, vm, vl, vt], .int .i64 0, .bool false, .agg #[.int .i64 x.k, .int .i64 x.n, .string x.s, vm, vl, vt], .func (.func 70) #[] #[.pointer (some ⟨Y, 0, none⟩)], .agg #[.int .i64 p.d.k, .int .i64 p.d.n, .string p.d.s, p.vm, p.vl, p.vt], undef, undef, undef, undef]))
    (fun pre y a' _ W W' row h hg hr => Cd.PAx.grown h hwz hRz hg hr)
    ?assign ?body ?done ?stop
  case assign =>
    rintro l pre ⟨pd, pm, pl, pt⟩ W K hT hV hK
    have hf := Cd.vm_form hV
    obtain ⟨a1, n1, q1, a2, n2, q2, a3, n3, q3, e1, e2, e3⟩ := Dt.Rep.forms (show Dt.Rep (fun _ => True) W pd pm pl pt from hV)
    subst e1 e2 e3
    unfold Dt.encP
    dsimp only at hf ⊢
    gi_wp2
    refine hK _ _ ?_ ?_ ?_
    · exact (KeepsOthers.alloc _ _).from _
    · exact (Keep.refl _ _).alloc _
    exact ⟨hT.grown hwz hRz (World.grownBy_alloc W _ none) (by simp), hf, W.heap.size, World.alloc_heap_new W _, rfl⟩
  case body =>
    rintro l pre ⟨pd, pm, pl, pt⟩ a' W hl ⟨r, hr⟩ ⟨hT, ⟨am, cm, hpm⟩, Bx, hX, rfl⟩ hlt
    dsimp only at hpm hX ⊢
    subst hpm
    have x3 : W.cell? ⟨Bx, 3, none⟩ = some (.slice am pd.m.length cm) := by simp [World.cell?, hX]
    have cR := hT.2.1.cell
    have fR := hT.2.1.frozen
    have HT := Lib.hid hT
    clear hT
    by_cases hm : pd.m = []
    · have hln : pd.m.length = 0 := by rw [hm]; rfl
      rw [hln] at x3 ⊢
      gi_wp2
      exact ⟨KeepsFrom.refl _ _, Keep.refl _ _, fun q hq => by rcases List.mem_append.1 hq with h | h; exact HT.out.1 q h; rw [List.mem_singleton.1 h]; exact hm, HT.out.2.1, HT.out.2.2⟩
    · have hln : (0 : Int) < (pd.m.length : Int) := by have := List.length_pos_iff.2 hm; omega
      gi_wp2
      refine ⟨(KeepsOthers.setCell _ _ _).from _, (Keep.refl _ _).setCell (B := w.heap.size + 1) (.inl rfl) 0 _, rfl, ⟨_, List.mem_append_right _ (List.mem_singleton_self _), by simp [hm]⟩, HT.out.2.1.set _, HT.out.2.2.setCell (p := ⟨w.heap.size + 1, 0, none⟩) (by simp) _⟩
  case done =>
    rintro D ys W hD hS hI hK
    have HI := Lib.hid hI
    have cR := hI.2.1.cell
    have fR := hI.2.1.frozen
    have hv : Cd.plainD x = true := by
      have h1 : Dt.check x = 0 := HCK.out
      have h2 : ∀ q ∈ Dt.pre x, q.m.isEmpty = true := by
        intro q hq
        rw [← hS] at hq
        obtain ⟨p, hp, rfl⟩ := List.mem_map.1 hq
        rw [hI.1 p hp]; rfl
      simp only [Cd.plainD, h1, List.all_eq_true.2 h2]
      rfl
    have HV := Lib.hid hv
    clear hI hS hv
    gi_wp2
    have hb9 : Boxed (W.setCell ⟨w.heap.size + 1, 0, none⟩ (.bool true)) (w.heap.size + 1) 4 (.bool true) := HI.out.2.1.set _
    have hK9 : (W.setCell ⟨w.heap.size + 1, 0, none⟩ (.bool true)).heap[D]? = some (.deferred (some [])) := (KeepsOthers.setCell _ _ _).same D _ hK rfl
    have hbw := HI.out.2.2.setCell (p := ⟨w.heap.size + 1, 0, none⟩) (by simp) (.bool true)
    obtain ⟨U, hU⟩ : ∃ U, W.setCell ⟨w.heap.size + 1, 0, none⟩ (.bool true) = U := ⟨_, rfl⟩
    rw [hU] at hb9 hK9 hbw ⊢
    refine ⟨by simp, .inl ⟨_, _, rfl, run_takeDeferred hK9, ?_⟩⟩
    have c9 := fun o' => (hb9.kept (grownBy_putObj' U D o') (fun e => by cases e; omega)).cell
    refine ⟨.bool true, by simp [results, Try.results24, go_sem, c9], by rw [HV.out], ?_⟩
    exact hbw.trans (belowK_b (w := w) (Nat.le_refl _) U D _ _ (by omega) hK9 rfl rfl)
  case stop =>
    rintro D c pre W hD hp hI hK
    obtain ⟨rfl, hex, hbx, hbw⟩ := hI
    have cR := hbx.cell
    have HBX := Lib.hid hbx
    have hv : Cd.plainD x = false := by
      obtain ⟨p, hp1, hp2⟩ := hex
      have hq : p.d ∈ Dt.pre x := List.IsPrefix.subset hp (List.mem_map_of_mem hp1)
      simp only [Cd.plainD, Bool.and_eq_false_iff]
      right
      rw [List.all_eq_false]
      exact ⟨p.d, hq, by simpa using hp2⟩
    have HV := Lib.hid hv
    clear hex hbx hv
    gi_wp2
    refine ⟨by simp, .inl ⟨_, _, rfl, run_takeDeferred hK, ?_⟩⟩
    have c9 := fun o' => (HBX.out.kept (grownBy_putObj' W D o') (fun e => by cases e; omega)).cell
    refine ⟨.bool false, by simp [results, Try.results24, go_sem, c9], by rw [HV.out], ?_⟩
    exact hbw.trans (belowK_b (w := w) (Nat.le_refl _) W D _ _ (by omega) hK rfl rfl)
end Go.Proofs.Ytlckjphnbfahgaa
