/-
  Several texts of this proof in one: CdPlain, DtSameP, CdSame1, CdCheck, CdBytes, CdAwakeM.
-/
import Derived.Test.YtlckjphnbfahgaaGreatDoorDtAllS
import Derived.Test.YtlckjphnbfahgaaGreatDoorCdModel
import Derived.Shelf.Abstract
import Derived.Test.YtlckjphnbfahgaaGreatDoorDtEq
import Derived.Test.YtlckjphnbfahgaaGreatDoorCdGood
import Derived.Test.YtlckjphnbfahgaaGreatDoorCdCheckP
import Derived.Test.YtlckjphnbfahgaaGreatDoorCdPut
import Derived.Test.YtlckjphnbfahgaaGreatDoorCdAt
import Derived.Test.YtlckjphnbfahgaaGreatDoorFixText
import Derived.Test.YtlckjphnbfahgaaGreatDoorDtCheck
import Derived.Test.YtlckjphnbfahgaaGreatDoorDtSingleK
import Derived.Lib.QuietBelow
import Derived.Lib.AppendStr
import Derived.Lib.UnsafeStr
import Derived.Laws.BytesArg
namespace Go.Proofs.YtlckjphnbfahgaaGreatDoor
open Go.RowKit Go.Shelf
attribute [local go_sem] Oper.semAt_some
namespace Cd
open Dt
theorem keep_putObj {S : Nat → Prop} (W : World) (b : Nat) (o' : Obj) (h : S b) : Keep S W (W.putObj b o') :=
  ⟨rfl, rfl, rfl, by simp [World.putObj], fun k _ hn => World.putObj_heap_other (fun e => hn (by rw [e]; exact h))⟩
/-- what code.plain's loop holds between its rounds -/
def PI (w : World) (R : Nat) (pre : List P) (W : World) : Prop := (∀ p ∈ pre, p.d.m = []) ∧ Boxed W R 4 (.bool false) ∧ Below w.heap.size w W
/-- .. and where it has stopped -/
def PX (w : World) (R : Nat) (c : Go.Code) (pre : List P) (W : World) : Prop := c = .ret ∧ (∃ p ∈ pre, p.d.m ≠ []) ∧ Boxed W R 4 (.bool false) ∧ Below w.heap.size w W
theorem below_grown {w W W' : World} {row : Option Nat} {B : Nat} (h : Below w.heap.size w W) (hB : w.heap.size ≤ B) (hg : W.grownBy W' row) (hr : ∀ r, row = some r → B ≤ r) : Below w.heap.size w W' :=
  ⟨hg.os.trans h.os, hg.tape.trans h.tape, hg.output.trans h.output, Nat.le_trans h.size hg.size, fun k hk => (hg.block k (Nat.lt_of_lt_of_le hk h.size) (fun e => by have := hr _ e.symm; omega)).trans (h.block k hk)⟩
theorem PI.grown {w W W' : World} {R B : Nat} {pre : List P} {row : Option Nat} (h : PI w R pre W) (hw : w.heap.size ≤ B) (hR : R < B) (hg : W.grownBy W' row) (hr : ∀ r, row = some r → B ≤ r) : PI w R pre W' :=
  ⟨h.1, h.2.1.kept hg (fun e => by have := hr R e.symm; omega), below_grown h.2.2 hw hg hr⟩
theorem PX.grown {w W W' : World} {R B : Nat} {c : Go.Code} {pre : List P} {row : Option Nat} (h : PX w R c pre W) (hw : w.heap.size ≤ B) (hR : R < B) (hg : W.grownBy W' row) (hr : ∀ r, row = some r → B ≤ r) : PX w R c pre W' :=
  ⟨h.1, h.2.1, h.2.2.1.kept hg (fun e => by have := hr R e.symm; omega), below_grown h.2.2.2 hw hg hr⟩
/-- what the body of a round begins with -/
def PAx (w : World) (R : Nat) (tm : Nat → P → Array Value) (pre : List P) (x : P) (a' : Act) (W : World) : Prop :=
  PI w R pre W ∧ (∃ am cm, x.vm = .slice am x.d.m.length cm) ∧ ∃ Bx, W.heap[Bx]? = some (.cells #[.int .i64 x.d.k, .int .i64 x.d.n, .string x.d.s, x.vm, x.vl, x.vt] 52 (0, 0)) ∧ a' = { tmps := tm Bx x, defers := [] }
theorem PAx.grown {w W W' : World} {R B : Nat} {tm : Nat → P → Array Value} {pre : List P} {x : P} {a' : Act} {row : Option Nat} (h : PAx w R tm pre x a' W) (hw : w.heap.size ≤ B) (hR : R < B) (hg : W.grownBy W' row) (hr : ∀ r, row = some r → B ≤ r ∧ ∃ o : Obj, W.heap[r]? = some o ∧ o.isCells = false) : PAx w R tm pre x a' W' := by
  obtain ⟨h1, h2, Bx, h4, h5⟩ := h
  refine ⟨h1.grown hw hR hg (fun r e => (hr r e).1), h2, Bx, (hg.block Bx (Array.getElem?_eq_some_iff.1 h4).1 (fun e => ?_)).trans h4, h5⟩
  obtain ⟨-, o, ho, hc⟩ := hr Bx e.symm
  rw [h4] at ho
  cases ho
  cases hc
theorem boxed_below {W W' : World} {R B : Nat} {t : TypeId} {v : Value} (h : Boxed W R t v) (hb : Below B W W') (hR : R < B) : Boxed W' R t v := (hb.block R hR).trans h
theorem vm_form {w : World} {p : P} (h : VP p w) : ∃ am cm, p.vm = .slice am p.d.m.length cm := by
  obtain ⟨⟨am, cm, h1, _⟩, _⟩ := (rep_iff _ w p.d p.vm p.vl p.vt).1 h
  exact ⟨am, cm, h1⟩
end Cd
set_option maxRecDepth 100000 in
set_option maxHeartbeats 8000000 in
theorem plain_any {F : Nat → Prop} (x : Dt.D) (vm vl vt : Value) (w : World) (hW : Dt.Wf x) (hR : Dt.Rep F w x vm vl vt) :
    Calls Tryz.prog 29 #[.agg #[.int .i64 x.k, .int .i64 x.n, .string x.s, vm, vl, vt]] w fun e w' => e = .returned (.bool (Cd.plainD x)) ∧ Below w.heap.size w w' := by
  obtain ⟨w1, hw1⟩ : ∃ w1, w.alloc (.cells #[.int .i64 x.k, .int .i64 x.n, .string x.s, vm, vl, vt] 52) = w1 := ⟨_, rfl⟩
  obtain ⟨w2, hw2⟩ : ∃ w2, w1.alloc (.cells #[.bool false] 4) = w2 := ⟨_, rfl⟩
  have hb1 : Below w.heap.size w w1 := by rw [← hw1]; exact (Below.refl _ _).alloc (Nat.le_refl _) _
  have hb2 : Below w1.heap.size w1 w2 := by rw [← hw2]; exact (Below.refl _ _).alloc (Nat.le_refl _) _
  have hz1 : w1.heap.size = w.heap.size + 1 := by rw [← hw1, World.size_alloc]
  have hz2 : w2.heap.size = w.heap.size + 2 := by rw [← hw2, World.size_alloc, hz1]
  have hx2 : Boxed w2 (w.heap.size + 1) 4 (.bool false) := by have h := Boxed.new w1 4 (.bool false); rw [hw2, hz1] at h; exact h
  have hb12 : Below w.heap.size w w2 := hb1.trans (hb2.mono (by omega))
  have hsix : Dt.Six w2 w.heap.size 0 x vm vl vt := by
    have h := Dt.six_of w x vm vl vt 52
    rw [hw1] at h
    exact h.keep (S := fun _ => False) ((Keep.refl _ _).below hb2) (by omega) id
  have hc := dCheck_any x vm vl vt w2 hW (hR.below hb12)
  obtain ⟨d0, d1, d2, d3, d4, d5⟩ := hsix
  have hsix : Dt.Six w2 w.heap.size 0 x vm vl vt := ⟨d0, d1, d2, d3, d4, d5⟩
  simp only [Nat.zero_add] at d0 d1 d2 d3 d4 d5
  have HB := Lib.hid hb12
  have HX2 := Lib.hid hx2
  have HZ2 := Lib.hid hz2
  have HSIX := Lib.hid hsix
  have HR := Lib.hid hR
  clear hb1 hb2 hz2 hb12 hsix hx2 hR
  by_cases hck : Dt.check x = 0
  case neg =>
    have hnz : (Dt.check x != 0) = true := by simpa using hck
    have hpl : Cd.plainD x = false := by simp [Cd.plainD, hck]
    rw [hpl]
    clear hpl
    obtain ⟨cv, hcv⟩ : ∃ cv, Dt.check x = cv := ⟨_, rfl⟩
    rw [hcv] at hc hnz
    clear hcv hck
    go_enter Tryz.func29, Tryz.ntmps29
    go_wp2_with fail
    refine hc.mono ?_
    rintro e w3 ⟨rfl, hb3⟩
    have hx3 := Cd.boxed_below HX2.out hb3 HX2.out.lt
    have c3 := hx3.cell
    have f3 := hx3.frozen
    have HX3 := Lib.hid hx3
    have HB3 := Lib.hid (HB.out.trans (hb3.mono HB.out.size))
    clear hb3 hx3 hc hw2
    go_wp2
    have c4 : (w3.setCell ⟨w.heap.size + 1, 0, none⟩ (.bool false)).cell? ⟨w.heap.size + 1, 0, none⟩ = some (.bool false) := World.cell?_setCell_same' _ _ _ (by rw [c3]; rfl)
    refine bodyPost_ret (v := .bool false) (by simp [results, Tryz.results29, go_sem, c4]) rfl ?_
    exact ⟨rfl, HB3.out.setCell (p := ⟨w.heap.size + 1, 0, none⟩) (by simp) _⟩
  have hz : (Dt.check x != 0) = false := by simpa using hck
  have HCK : Hid ((Dt.chk x 1 0).1 = 0) := hck
  rw [hck] at hc
  clear hz hck
  refine (callsIn_wide (n := 12)).1 ?_
  refine callsIn_of_wp_marks Tryz.func29 rfl trivial ?_ rfl
  simp only [Tryz.ntmps29, List.size_toArray, List.length_cons, List.length_nil, Nat.reduceAdd, Nat.reduceSub, Array.replicate_succ, Array.replicate_zero, List.push_toArray, List.append_toArray, List.nil_append, List.cons_append]
  gi_wp2_with (refine ⟨trivial, ?_⟩; gi_at_call 43; refine (callsIn_wide.2 hc).mono ?_; clear hc hw1 hw2; rintro e w3 ⟨rfl, hb3⟩; have HB3 := Lib.hid hb3; obtain ⟨e0, e1, e2, e3, e4, e5⟩ := HSIX.out.keep (S := fun _ => False) ((Keep.refl _ _).below hb3) (by have := HZ2.out; omega) id; simp only [Nat.zero_add] at e0 e1 e2 e3 e4 e5; have hal := dAll_any x vm vl vt w3; clear d0 d1 d2 d3 d4 d5 hb3)
  refine ⟨trivial, ?_⟩
  refine (callsIn_wide.2 hal).mono ?_
  clear hal
  rintro e W0 ⟨rfl, hb4, hs4, hz4⟩
  have HW0 : Hid (Below w.heap.size w W0) := (HB.out.trans (HB3.out.mono HB.out.size)).trans (hb4.mono (Nat.le_trans HB.out.size HB3.out.size))
  have HX0 : Hid (Boxed W0 (w.heap.size + 1) 4 (.bool false)) := Cd.boxed_below (Cd.boxed_below HX2.out HB3.out HX2.out.lt) hb4 (Nat.lt_of_lt_of_le HX2.out.lt HB3.out.size)
  have HS4 := Lib.hid hs4
  have hwz : w.heap.size ≤ W0.heap.size := HW0.out.size
  have hRz := HX0.out.lt
  clear hb4 hs4 e0 e1 e2 e3 e4 e5
  gi_wp2
  obtain ⟨Y, hY⟩ : ∃ Y, w3.heap.size = Y := ⟨_, rfl⟩
  rw [hY] at HS4 hz4 ⊢
  have HRP : Hid (Dt.Rep (fun k => k < w.heap.size) W0 x vm vl vt) := (Dt.Rep.mono (fun _ _ h => h) x HR.out).below HW0.out
  refine Rb.wpIn_rangeB (n := 12) rfl (by omega) (gf := 66) (lb := #[.pointer (some ⟨Y, 0, none⟩)]) rfl trivial (enters_of Tryz.func66 (by kernel_rfl) rfl)
    (encs := Dt.encP) (Kp := Keep fun k => k = w.heap.size + 1 ∨ k = W0.heap.size + 1) (V := Dt.VP) (S := fun ys => ys.map Dt.P.d = Dt.pre x) (Sp := fun ys => ys.map Dt.P.d <+: Dt.pre x) (N := (Dt.pre x).length) (w0 := W0)
    (dAll_stops 11 x vm vl vt W0 (w.heap.size + 1) Y hRz hW HRP.out (fun k hk => ⟨by omega, by omega⟩) HS4.out HCK.out)
    (fun h k => h.trans k) (fun W o o' _ _ => Cd.keep_putObj W (W0.heap.size + 1) o' (.inr rfl)) (Below.refl _ _) (fun _ => rfl)
    (Cd.PI w (w.heap.size + 1)) (Cd.PX w (w.heap.size + 1))
    (fun pre W W' row h hg hr => Cd.PI.grown h hwz hRz hg (fun r e => (hr r e).1))
    (fun c pre W W' row h hg hr => Cd.PX.grown h hwz hRz hg (fun r e => (hr r e).1))
    (fun pre W W' h _ hb => ⟨h.1, Cd.boxed_below h.2.1 hb (by omega), h.2.2.trans (hb.mono (by omega))⟩)
    (fun c pre W W' h _ hb => ⟨h.1, h.2.1, Cd.boxed_below h.2.2.1 hb (by omega), h.2.2.2.trans (hb.mono (by omega))⟩)
    ⟨fun _ h => (by cases h), HX0.out, HW0.out⟩
    (Cd.PAx w (w.heap.size + 1) (fun Bx p => #[.agg #[.int .i64 x.k, .int .i64 x.n, .string x.s, vm, vl, vt], .pointer (some ⟨w.heap.size, 0, none⟩), .pointer (some ⟨w.heap.size + 1, 0, none⟩), .pointer (some ⟨Bx, 0, none⟩), .agg #[.int .i64 x.k, .int .i64 x.n, .string x.s, vm, vl, vt], .int .i64 0, .bool false, .agg #[.int .i64 x.k, .int .i64 x.n, .string x.s, vm, vl, vt], .func (.func 66) #[] #[.pointer (some ⟨Y, 0, none⟩)], .agg #[.int .i64 p.d.k, .int .i64 p.d.n, .string p.d.s, p.vm, p.vl, p.vt], undef, undef, undef, undef]))
    (fun pre y a' _ W W' row h hg hr => Cd.PAx.grown h hwz hRz hg hr)
    ?assign ?body ?done ?stop
  case assign =>
    rintro l pre ⟨pd, pm, pl, pt⟩ W K hT hV hK
    have hf := Cd.vm_form hV
    obtain ⟨a1, n1, q1, a2, n2, q2, a3, n3, q3, e1, e2, e3⟩ := Dt.Rep.forms (show Dt.Rep (fun _ => True) W pd pm pl pt from hV)
    subst e1 e2 e3
    unfold Dt.encP
    dsimp only at hf ⊢
    gi_wp2
    refine hK _ _ ?_ ?_ ?_
    · exact (KeepsOthers.alloc _ _).from _
    · exact (Keep.refl _ _).alloc _
    exact ⟨hT.grown hwz hRz (World.grownBy_alloc W _ none) (by simp), hf, W.heap.size, World.alloc_heap_new W _, rfl⟩
  case body =>
    rintro l pre ⟨pd, pm, pl, pt⟩ a' W hl ⟨r, hr⟩ ⟨hT, ⟨am, cm, hpm⟩, Bx, hX, rfl⟩ hlt
    dsimp only at hpm hX ⊢
    subst hpm
    have x3 : W.cell? ⟨Bx, 3, none⟩ = some (.slice am pd.m.length cm) := by simp [World.cell?, hX]
    have cR := hT.2.1.cell
    have fR := hT.2.1.frozen
    have HT := Lib.hid hT
    clear hT
    by_cases hm : pd.m = []
    · have hln : pd.m.length = 0 := by rw [hm]; rfl
      rw [hln] at x3 ⊢
      gi_wp2
      exact ⟨KeepsFrom.refl _ _, Keep.refl _ _, fun q hq => by rcases List.mem_append.1 hq with h | h; exact HT.out.1 q h; rw [List.mem_singleton.1 h]; exact hm, HT.out.2.1, HT.out.2.2⟩
    · have hln : (0 : Int) < (pd.m.length : Int) := by have := List.length_pos_iff.2 hm; omega
      gi_wp2
      refine ⟨(KeepsOthers.setCell _ _ _).from _, (Keep.refl _ _).setCell (B := w.heap.size + 1) (.inl rfl) 0 _, rfl, ⟨_, List.mem_append_right _ (List.mem_singleton_self _), by simp [hm]⟩, HT.out.2.1.set _, HT.out.2.2.setCell (p := ⟨w.heap.size + 1, 0, none⟩) (by simp) _⟩
  case done =>
    rintro D ys W hD hS hI hK
    have HI := Lib.hid hI
    have cR := hI.2.1.cell
    have fR := hI.2.1.frozen
    have hv : Cd.plainD x = true := by
      have h1 : Dt.check x = 0 := HCK.out
      have h2 : ∀ q ∈ Dt.pre x, q.m.isEmpty = true := by
        intro q hq
        rw [← hS] at hq
        obtain ⟨p, hp, rfl⟩ := List.mem_map.1 hq
        rw [hI.1 p hp]; rfl
      simp only [Cd.plainD, h1, List.all_eq_true.2 h2]
      rfl
    have HV := Lib.hid hv
    clear hI hS hv
    gi_wp2
    have hb9 : Boxed (W.setCell ⟨w.heap.size + 1, 0, none⟩ (.bool true)) (w.heap.size + 1) 4 (.bool true) := HI.out.2.1.set _
    have hK9 : (W.setCell ⟨w.heap.size + 1, 0, none⟩ (.bool true)).heap[D]? = some (.deferred (some [])) := (KeepsOthers.setCell _ _ _).same D _ hK rfl
    have hbw := HI.out.2.2.setCell (p := ⟨w.heap.size + 1, 0, none⟩) (by simp) (.bool true)
    obtain ⟨U, hU⟩ : ∃ U, W.setCell ⟨w.heap.size + 1, 0, none⟩ (.bool true) = U := ⟨_, rfl⟩
    rw [hU] at hb9 hK9 hbw ⊢
    refine ⟨by simp, .inl ⟨_, _, rfl, run_takeDeferred hK9, ?_⟩⟩
    have c9 := fun o' => (hb9.kept (grownBy_putObj' U D o') (fun e => by cases e; omega)).cell
    refine ⟨.bool true, by simp [results, Tryz.results29, go_sem, c9], by rw [HV.out], ?_⟩
    exact hbw.trans (belowK_b (w := w) (Nat.le_refl _) U D _ _ (by omega) hK9 rfl rfl)
  case stop =>
    rintro D c pre W hD hp hI hK
    obtain ⟨rfl, hex, hbx, hbw⟩ := hI
    have cR := hbx.cell
    have HBX := Lib.hid hbx
    have hv : Cd.plainD x = false := by
      obtain ⟨p, hp1, hp2⟩ := hex
      have hq : p.d ∈ Dt.pre x := List.IsPrefix.subset hp (List.mem_map_of_mem hp1)
      simp only [Cd.plainD, Bool.and_eq_false_iff]
      right
      rw [List.all_eq_false]
      exact ⟨p.d, hq, by simpa using hp2⟩
    have HV := Lib.hid hv
    clear hex hbx hv
    gi_wp2
    refine ⟨by simp, .inl ⟨_, _, rfl, run_takeDeferred hK, ?_⟩⟩
    have c9 := fun o' => (HBX.out.kept (grownBy_putObj' W D o') (fun e => by cases e; omega)).cell
    refine ⟨.bool false, by simp [results, Tryz.results29, go_sem, c9], by rw [HV.out], ?_⟩
    exact hbw.trans (belowK_b (w := w) (Nat.le_refl _) W D _ _ (by omega) hK rfl rfl)
end Go.Proofs.YtlckjphnbfahgaaGreatDoor
namespace Go.Proofs.YtlckjphnbfahgaaGreatDoor
open Go.RowKit
mutual
theorem Dt.equal_any : ∀ x : Dt.D, Dt.EqC x
  | .mk k n s m l t => equal_step (.mk k n s m l t) (Dt.equals_any l) (Dt.equals_any t)
theorem Dt.equals_any : ∀ (l : List Dt.D) (y : Dt.D), y ∈ l → Dt.EqC y
  | [], _, h => absurd h (by simp)
  | x :: r, y, h => (List.mem_cons.1 h).elim (fun e => by rw [e]; exact Dt.equal_any x) (fun h' => Dt.equals_any r y h')
end
set_option maxRecDepth 100000 in
set_option maxHeartbeats 4000000 in
theorem dSame_any {F G : Nat → Prop} (x z : Dt.D) (vm vl vt um ul ut : Value) (w : World) (hW : Dt.Wf x) (hW' : Dt.Wf z) (hR : Dt.Rep F w x vm vl vt) (hR' : Dt.Rep G w z um ul ut) :
    Calls Tryz.prog 32 #[.agg #[.int .i64 x.k, .int .i64 x.n, .string x.s, vm, vl, vt], .agg #[.int .i64 z.k, .int .i64 z.n, .string z.s, um, ul, ut]] w fun e w' => e = .returned (.bool (Dt.sameD x z)) ∧ Below w.heap.size w w' := by
  obtain ⟨w1, hw1⟩ : ∃ w1, w.alloc (.cells #[.int .i64 x.k, .int .i64 x.n, .string x.s, vm, vl, vt] 52) = w1 := ⟨_, rfl⟩
  obtain ⟨w2, hw2⟩ : ∃ w2, w1.alloc (.cells #[.int .i64 z.k, .int .i64 z.n, .string z.s, um, ul, ut] 52) = w2 := ⟨_, rfl⟩
  have hb1 : Below w.heap.size w w1 := by rw [← hw1]; exact (Below.refl _ _).alloc (Nat.le_refl _) _
  have hb2 : Below w1.heap.size w1 w2 := by rw [← hw2]; exact (Below.refl _ _).alloc (Nat.le_refl _) _
  have hz1 : w1.heap.size = w.heap.size + 1 := by rw [← hw1, World.size_alloc]
  have hz2 : w2.heap.size = w.heap.size + 2 := by rw [← hw2, World.size_alloc, hz1]
  have hsx : Dt.Six w2 w.heap.size 0 x vm vl vt := by
    have h := Dt.six_of' w x vm vl vt 52
    rw [hw1] at h
    exact h.keep (S := fun _ => False) ((Keep.refl _ _).below hb2) (by omega) id
  obtain ⟨Z, hZ⟩ : ∃ Z, w1.heap.size = Z := ⟨_, rfl⟩
  have hsz : Dt.Six w2 Z 0 z um ul ut := by
    have h := Dt.six_of' w1 z um ul ut 52
    rw [hw2, hZ] at h
    exact h
  have HB := Lib.hid (hb1.trans (hb2.mono (by omega)))
  have HR := Lib.hid ((hR.below hb1).below hb2)
  have HR' := Lib.hid ((hR'.below hb1).below hb2)
  have hc := fun u (hu : Below w2.heap.size w2 u) => dCheck_any x vm vl vt u hW (HR.out.below hu)
  have hc' := fun u (hu : Below w2.heap.size w2 u) => dCheck_any z um ul ut u hW' (HR'.out.below hu)
  have he := fun u (hu : Below w2.heap.size w2 u) => Dt.equal_any x F G z vm vl vt um ul ut u hW hW' (HR.out.below hu) (HR'.out.below hu)
  obtain ⟨x0, x1, x2, x3, x4, x5⟩ := hsx
  obtain ⟨z0, z1, z2, z3, z4, z5⟩ := hsz
  have HSX : Hid (Dt.Six w2 w.heap.size 0 x vm vl vt) := ⟨x0, x1, x2, x3, x4, x5⟩
  have HSZ : Hid (Dt.Six w2 Z 0 z um ul ut) := ⟨z0, z1, z2, z3, z4, z5⟩
  simp only [Nat.zero_add] at x0 x1 x2 x3 x4 x5 z0 z1 z2 z3 z4 z5
  obtain ⟨a1, n1, c1, a2, n2, c2, a3, n3, c3, rfl, rfl, rfl⟩ := hR.forms
  obtain ⟨d1, p1, q1, d2, p2, q2, d3, p3, q3, rfl, rfl, rfl⟩ := hR'.forms
  obtain ⟨S, hS⟩ : ∃ S, S = Dt.sameD x z := ⟨_, rfl⟩
  rw [← hS]
  unfold Dt.sameD at hS
  obtain ⟨C, hC⟩ : ∃ C, C = Dt.check x := ⟨_, rfl⟩
  obtain ⟨C', hC'⟩ : ∃ C', C' = Dt.check z := ⟨_, rfl⟩
  obtain ⟨E, hE⟩ : ∃ E, E = Dt.eqD x z := ⟨_, rfl⟩
  rw [← hC] at hc
  rw [← hC'] at hc'
  rw [← hE] at he
  rw [← hC, ← hC', ← hE] at hS
  have HC := Lib.hid hc
  have HC' := Lib.hid hc'
  have HE := Lib.hid he
  have HZ2 : Hid (w.heap.size < w2.heap.size ∧ Z < w2.heap.size) := ⟨by omega, by omega⟩
  clear hc hc' he hR hR' hW hW' hb1 hb2 hz1 hz2 hC hC' hE
  by_cases k1 : C = 0
  case neg =>
    have b1 : (C == 0) = false := by simpa using k1
    have HN : Hid (S = false) := by show _ = _; rw [hS]; simp [k1]
    clear k1 hS
    go_enter Tryz.func32, Tryz.ntmps32
    go_wp2_with (first | (go_at_call 43; with_reducible refine (HC.out _ (Below.refl _ _)).mono ?_; clear x0 x1 x2 x3 x4 x5 z0 z1 z2 z3 z4 z5; rintro e w3 ⟨rfl, hb3⟩; have HB3 := Lib.hid hb3; clear hb3 hw1 hw2; obtain ⟨x0, x1, x2, x3, x4, x5⟩ := HSX.out.keep (S := fun _ => False) ((Keep.refl _ _).below HB3.out) HZ2.out.1 id; obtain ⟨z0, z1, z2, z3, z4, z5⟩ := HSZ.out.keep (S := fun _ => False) ((Keep.refl _ _).below HB3.out) HZ2.out.2 id; simp only [Nat.zero_add] at x0 x1 x2 x3 x4 x5 z0 z1 z2 z3 z4 z5) | fail)
    go_ret
    exact ⟨by rw [HN.out]; rfl, HB.out.trans (HB3.out.mono HB.out.size)⟩
  have b1 : (C == 0) = true := by simpa using k1
  have K1 := Lib.hid k1
  clear k1
  by_cases k2 : C' = 0
  case neg =>
    have b2 : (C' == 0) = false := by simpa using k2
    have HN : Hid (S = false) := by show _ = _; rw [hS]; simp [k2]
    clear k2 hS
    go_enter Tryz.func32, Tryz.ntmps32
    go_wp2_with (first | (go_at_call 43; with_reducible refine (HC.out _ (Below.refl _ _)).mono ?_; clear x0 x1 x2 x3 x4 x5 z0 z1 z2 z3 z4 z5; rintro e w3 ⟨rfl, hb3⟩; have HB3 := Lib.hid hb3; clear hb3 hw1 hw2; obtain ⟨x0, x1, x2, x3, x4, x5⟩ := HSX.out.keep (S := fun _ => False) ((Keep.refl _ _).below HB3.out) HZ2.out.1 id; obtain ⟨z0, z1, z2, z3, z4, z5⟩ := HSZ.out.keep (S := fun _ => False) ((Keep.refl _ _).below HB3.out) HZ2.out.2 id; simp only [Nat.zero_add] at x0 x1 x2 x3 x4 x5 z0 z1 z2 z3 z4 z5) | (go_at_call 43; with_reducible refine (HC'.out _ HB3.out).mono ?_; clear x0 x1 x2 x3 x4 x5 z0 z1 z2 z3 z4 z5; rintro e w4 ⟨rfl, hb4⟩; have HB4 := Lib.hid (HB3.out.trans (hb4.mono HB3.out.size)); clear hb4; obtain ⟨x0, x1, x2, x3, x4, x5⟩ := HSX.out.keep (S := fun _ => False) ((Keep.refl _ _).below HB4.out) HZ2.out.1 id; obtain ⟨z0, z1, z2, z3, z4, z5⟩ := HSZ.out.keep (S := fun _ => False) ((Keep.refl _ _).below HB4.out) HZ2.out.2 id; simp only [Nat.zero_add] at x0 x1 x2 x3 x4 x5 z0 z1 z2 z3 z4 z5) | fail)
    go_ret
    exact ⟨by rw [HN.out]; rfl, HB.out.trans (HB4.out.mono HB.out.size)⟩
  have b2 : (C' == 0) = true := by simpa using k2
  have HN : Hid (S = E) := by show _ = _; rw [hS]; simp [K1.out, k2]
  clear k2 hS
  go_enter Tryz.func32, Tryz.ntmps32
  go_wp2_with (first | (go_at_call 43; with_reducible refine (HC.out _ (Below.refl _ _)).mono ?_; clear x0 x1 x2 x3 x4 x5 z0 z1 z2 z3 z4 z5; rintro e w3 ⟨rfl, hb3⟩; have HB3 := Lib.hid hb3; clear hb3 hw1 hw2; obtain ⟨x0, x1, x2, x3, x4, x5⟩ := HSX.out.keep (S := fun _ => False) ((Keep.refl _ _).below HB3.out) HZ2.out.1 id; obtain ⟨z0, z1, z2, z3, z4, z5⟩ := HSZ.out.keep (S := fun _ => False) ((Keep.refl _ _).below HB3.out) HZ2.out.2 id; simp only [Nat.zero_add] at x0 x1 x2 x3 x4 x5 z0 z1 z2 z3 z4 z5) | (go_at_call 43; with_reducible refine (HC'.out _ HB3.out).mono ?_; clear x0 x1 x2 x3 x4 x5 z0 z1 z2 z3 z4 z5; rintro e w4 ⟨rfl, hb4⟩; have HB4 := Lib.hid (HB3.out.trans (hb4.mono HB3.out.size)); clear hb4; obtain ⟨x0, x1, x2, x3, x4, x5⟩ := HSX.out.keep (S := fun _ => False) ((Keep.refl _ _).below HB4.out) HZ2.out.1 id; obtain ⟨z0, z1, z2, z3, z4, z5⟩ := HSZ.out.keep (S := fun _ => False) ((Keep.refl _ _).below HB4.out) HZ2.out.2 id; simp only [Nat.zero_add] at x0 x1 x2 x3 x4 x5 z0 z1 z2 z3 z4 z5) | (go_at_call 50; with_reducible refine (HE.out _ HB4.out).mono ?_; clear x0 x1 x2 x3 x4 x5 z0 z1 z2 z3 z4 z5; rintro e w5 ⟨rfl, hb5⟩; have HB5 := Lib.hid (HB4.out.trans (hb5.mono HB4.out.size)); clear hb5) | fail)
  go_ret
  exact ⟨by rw [HN.out]; rfl, HB.out.trans (HB5.out.mono HB.out.size)⟩
end Go.Proofs.YtlckjphnbfahgaaGreatDoor
namespace Go.Proofs.YtlckjphnbfahgaaGreatDoor
open Go.RowKit
set_option maxRecDepth 100000 in
set_option maxHeartbeats 2000000 in
theorem check1_any {F G : Nat → Prop} (x d : Dt.D) (vm vl vt um ul ut : Value) (B : Nat) (w : World) (hW : Dt.Wf x) (hW' : Dt.Wf d) (hR : Dt.Rep F w x vm vl vt) (hR' : Dt.Rep G w d um ul ut) (hB : Dt.Six w B 0 d um ul ut) :
    Calls Tryz.prog 31 #[.agg #[.int .i64 x.k, .int .i64 x.n, .string x.s, vm, vl, vt], .pointer (some ⟨B, 0, none⟩)] w fun e w' => e = .returned (.bool (Dt.sameD x d)) ∧ Below w.heap.size w w' := by
  obtain ⟨w1, hw1⟩ : ∃ w1, w.alloc (.cells #[.int .i64 x.k, .int .i64 x.n, .string x.s, vm, vl, vt] 52) = w1 := ⟨_, rfl⟩
  have hb1 : Below w.heap.size w w1 := by rw [← hw1]; exact (Below.refl _ _).alloc (Nat.le_refl _) _
  have hz1 : w1.heap.size = w.heap.size + 1 := by rw [← hw1, World.size_alloc]
  have hsx : Dt.Six w1 w.heap.size 0 x vm vl vt := by
    have h := Dt.six_of' w x vm vl vt 52
    rw [hw1] at h
    exact h
  have hsd : Dt.Six w1 B 0 d um ul ut := hB.keep (S := fun _ => False) ((Keep.refl _ _).below hb1) (block_lt_of_cell hB.1) id
  have hs := dSame_any x d vm vl vt um ul ut w1 hW hW' (hR.below hb1) (hR'.below hb1)
  obtain ⟨x0, x1, x2, x3, x4, x5⟩ := hsx
  obtain ⟨z0, z1, z2, z3, z4, z5⟩ := hsd
  simp only [Nat.zero_add] at x0 x1 x2 x3 x4 x5 z0 z1 z2 z3 z4 z5
  obtain ⟨S, hS⟩ : ∃ S, S = Dt.sameD x d := ⟨_, rfl⟩
  rw [← hS] at hs ⊢
  have HB := Lib.hid hb1
  obtain ⟨a1, n1, c1, a2, n2, c2, a3, n3, c3, rfl, rfl, rfl⟩ := hR.forms
  obtain ⟨d1, p1, q1, d2, p2, q2, d3, p3, q3, rfl, rfl, rfl⟩ := hR'.forms
  clear hR hR' hW hW' hS hB hb1 hz1
  go_enter Tryz.func31, Tryz.ntmps31
  go_wp2_with (go_at_call 32; refine hs.mono ?_; clear hs; rintro e w2 ⟨rfl, hb2⟩; have HB2 := Lib.hid hb2; clear hb2)
  go_ret
  exact ⟨rfl, HB.out.trans (HB2.out.mono HB.out.size)⟩
set_option maxRecDepth 100000 in
set_option maxHeartbeats 2000000 in
theorem cIndex_any {F G : Nat → Prop} (va um ul ut : Value) (l : List Dt.D) (d : Dt.D) (B : Nat) (w : World) (ha : Dt.Row F w va l) (hl : l.length ≤ 140737488355328) (hW : Dt.Wfs l) (hW' : Dt.Wf d) (hR' : Dt.Rep G w d um ul ut) (hB : Dt.Six w B 0 d um ul ut) :
    Calls Tryz.prog 49 #[va, .func (.func 31) #[] #[.pointer (some ⟨B, 0, none⟩)]] w fun e w' => (∃ i : Int, e = .returned (.int .i64 i) ∧ decide (0 ≤ i) = l.any fun y => Dt.sameD y d) ∧ Below w.heap.size w w' := by
  obtain ⟨a, c, rfl, _, hc⟩ := ha
  obtain ⟨R, hR⟩ : ∃ R, R = l.any fun y => Dt.sameD y d := ⟨_, rfl⟩
  rw [← hR]
  have H0 : Hid (R = (l.drop 0).any fun y => Dt.sameD y d) := by show _ = _; rw [List.drop_zero]; exact hR
  have HC := Lib.hid hc
  have HW := Lib.hid hW
  have HW' := Lib.hid hW'
  have HR' := Lib.hid hR'
  have HSB := Lib.hid hB
  clear hc hR hW hW' hR' hB
  go_enter Tryz.func49, Tryz.ntmps49
  go_wp2
  go_loopw [8] (fun v wr => ∃ k : Nat, v = .int .i64 k ∧ k ≤ l.length ∧ Hid (R = (l.drop k).any fun y => Dt.sameD y d) ∧ Hid (Below w.heap.size w wr)) (fun v _ => l.length - (intOf v).toNat)
  case atStart => exact ⟨0, rfl, by omega, H0, Below.refl _ _⟩
  case round =>
    obtain ⟨k, rfl, hk, HR, HB⟩ := hrel
    by_cases hlt : k < l.length
    · have hlti : (k : Int) < (l.length : Int) := by omega
      obtain ⟨b, o, hao, hFb, hbl, hreps⟩ := HC.out (by intro h0; rw [h0] at hlt; simp at hlt)
      subst hao
      have hkp : Keep (fun _ => False) w wr := (Keep.refl _ w).below HB.out
      obtain ⟨vm, vl, vt, hs, hrp⟩ := (Dt.Reps.keep hkp (fun k hk _ h => h) _ hFb hbl hreps).at k hlt
      obtain ⟨a1, n1, c1, a2, n2, c2, a3, n3, c3, rfl, rfl, rfl⟩ := hrp.forms
      have hr := HR.out
      rw [List.drop_eq_getElem_cons hlt, List.any_cons] at hr
      have hwf := HW.out.at k hlt
      obtain ⟨y, hyy⟩ : ∃ y, l[k] = y := ⟨_, rfl⟩
      rw [hyy] at hs hrp hr hwf
      obtain ⟨y0, y1, y2, y3, y4, y5⟩ := hs
      have hcall := check1_any y d _ _ _ um ul ut B wr hwf HW'.out hrp (HR'.out.below HB.out) (HSB.out.keep hkp (block_lt_of_cell HSB.out.1) id)
      obtain ⟨V, hV⟩ : ∃ V, Dt.sameD y d = V := ⟨_, rfl⟩
      rw [hV] at hcall hr
      have HCALL := Lib.hid hcall
      have HRR := Lib.hid hr
      clear hcall hr hwf hrp hreps hkp hyy hFb hbl hV
      cases V with
      | true =>
        have HN : Hid (R = true) := by show _ = _; rw [HRR.out]; rfl
        clear HRR
        go_wp2_with (go_at_call 31; refine HCALL.out.mono ?_; rintro e w9 ⟨rfl, hb9⟩; have HB9 : Hid (Below w.heap.size w w9) := HB.out.trans (hb9.mono HB.out.size); clear hb9 HCALL y0 y1 y2 y3 y4 y5)
        go_ret
        exact ⟨⟨k, rfl, by rw [HN.out]; simp⟩, HB9.out⟩
      | false =>
        have HN : Hid (R = (l.drop (k + 1)).any fun y => Dt.sameD y d) := by show _ = _; rw [HRR.out]; rfl
        clear HRR
        go_wp2_with (go_at_call 31; refine HCALL.out.mono ?_; rintro e w9 ⟨rfl, hb9⟩; have HB9 : Hid (Below w.heap.size w w9) := HB.out.trans (hb9.mono HB.out.size); clear hb9 HCALL y0 y1 y2 y3 y4 y5)
        go_roundw
        case rel => exact ⟨k + 1, by simp, by omega, HN, HB9⟩
        case measure => simp [intOf]; omega
    · have hge : (l.length : Int) ≤ (k : Int) := by omega
      have HN : Hid (R = false) := by show _ = _; rw [HR.out, List.drop_eq_nil_of_le (by omega)]; rfl
      go_wp2
      go_ret
      exact ⟨⟨-1, rfl, by rw [HN.out]; rfl⟩, HB.out⟩
set_option maxRecDepth 100000 in
set_option maxHeartbeats 2000000 in
theorem cContains_any {F G : Nat → Prop} (va um ul ut : Value) (l : List Dt.D) (d : Dt.D) (B : Nat) (w : World) (ha : Dt.Row F w va l) (hl : l.length ≤ 140737488355328) (hW : Dt.Wfs l) (hW' : Dt.Wf d) (hR' : Dt.Rep G w d um ul ut) (hB : Dt.Six w B 0 d um ul ut) :
    Calls Tryz.prog 30 #[va, .func (.func 31) #[] #[.pointer (some ⟨B, 0, none⟩)]] w fun e w' => e = .returned (.bool (l.any fun y => Dt.sameD y d)) ∧ Below w.heap.size w w' := by
  have hi := cIndex_any va um ul ut l d B w ha hl hW hW' hR' hB
  obtain ⟨R, hR⟩ : ∃ R, R = l.any fun y => Dt.sameD y d := ⟨_, rfl⟩
  rw [← hR] at hi ⊢
  obtain ⟨a, c, rfl, _, _⟩ := ha
  clear hR hW hW' hR' hB
  go_enter Tryz.func30, Tryz.ntmps30
  go_wp2_with fail
  refine hi.mono ?_
  rintro e w1 ⟨⟨i, rfl, hx⟩, hb⟩
  have HB := Lib.hid hb
  clear hb hi
  go_wp2
  go_ret
  exact ⟨by rw [← hx]; rfl, HB.out⟩
end Go.Proofs.YtlckjphnbfahgaaGreatDoor
namespace Go.Proofs.YtlckjphnbfahgaaGreatDoor
open Go.RowKit
attribute [local go_sem] Oper.semAt_some
set_option maxRecDepth 100000 in
set_option maxHeartbeats 16000000 in
theorem check_any {F : Nat → Prop} (p : Cd.Prog) (vc vk vn : Value) (w : World) (hp : Cd.PRep F w p vc vk vn) (hw : Cd.PWf p) :
    Calls Tryz.prog 17 #[.agg #[vc, vk, vn]] w fun e w' => e = .returned (.int .i64 (Cd.checkP p)) ∧ Below w.heap.size w w' := by
  obtain ⟨a1, c1, a2, c2, a3, c3, rfl, rfl, rfl⟩ := hp.forms
  obtain ⟨R, hR⟩ : ∃ R, R = Cd.checkP p := ⟨_, rfl⟩
  rw [← hR]
  obtain ⟨w1, hw1⟩ : ∃ w1, w.alloc (.cells #[.slice a1 p.codes.length c1, .slice a2 p.consts.length c2, .slice a3 p.names.length c3] 26) = w1 := ⟨_, rfl⟩
  obtain ⟨hb1, hs1, hbp⟩ := Cd.boxP hw1
  obtain ⟨p0, p1, p2⟩ := hbp w1 (Below.refl _ _)
  have HP := Lib.hid hp
  have HW := Lib.hid hw
  have HB1 := Lib.hid hb1
  have HS1 := Lib.hid hs1
  have HBP := Lib.hid hbp
  have HR := Lib.hid hR
  clear hp hw hb1 hs1 hbp hR
  by_cases l0 : p.codes.length = 0
  · have l0' : ((p.codes.length : Int) == 0) = true := by rw [l0]; rfl
    have HE : Hid (R = 90) := by show _ = _; rw [HR.out]; exact Cd.check_far (.inl l0)
    clear HR l0
    go_enter Tryz.func17, Tryz.ntmps17
    go_wp2
    go_ret
    exact ⟨by rw [HE.out]; rfl, HB1.out⟩
  have l0' : ((p.codes.length : Int) == 0) = false := beq_eq_false_iff_ne.2 (by omega)
  by_cases l1 : 1024 < p.codes.length
  · have l1' : decide ((1024 : Int) < (p.codes.length : Int)) = true := decide_eq_true (by omega)
    have HE : Hid (R = 90) := by show _ = _; rw [HR.out]; exact Cd.check_far (.inr (.inl l1))
    clear HR l0 l1
    go_enter Tryz.func17, Tryz.ntmps17
    go_wp2
    go_ret
    exact ⟨by rw [HE.out]; rfl, HB1.out⟩
  have l1' : decide ((1024 : Int) < (p.codes.length : Int)) = false := decide_eq_false (by omega)
  by_cases l2 : 1024 < p.consts.length
  · have l2' : decide ((1024 : Int) < (p.consts.length : Int)) = true := decide_eq_true (by omega)
    have HE : Hid (R = 90) := by show _ = _; rw [HR.out]; exact Cd.check_far (.inr (.inr (.inl l2)))
    clear HR l0 l1 l2
    go_enter Tryz.func17, Tryz.ntmps17
    go_wp2
    go_ret
    exact ⟨by rw [HE.out]; rfl, HB1.out⟩
  have l2' : decide ((1024 : Int) < (p.consts.length : Int)) = false := decide_eq_false (by omega)
  by_cases l3 : 1024 < p.names.length
  · have l3' : decide ((1024 : Int) < (p.names.length : Int)) = true := decide_eq_true (by omega)
    have HE : Hid (R = 90) := by show _ = _; rw [HR.out]; exact Cd.check_far (.inr (.inr (.inr (.inl l3))))
    clear HR l0 l1 l2 l3
    go_enter Tryz.func17, Tryz.ntmps17
    go_wp2
    go_ret
    exact ⟨by rw [HE.out]; rfl, HB1.out⟩
  have l3' : decide ((1024 : Int) < (p.names.length : Int)) = false := decide_eq_false (by omega)
  have hpos : (0 : Int) < (p.codes.length : Int) := by omega
  obtain ⟨b, o, rfl, -, -, x0, -, x2, -⟩ := Cd.code_at (HP.out.below HB1.out).codes 0 (by omega)
  obtain ⟨d, hd⟩ : ∃ d, d = p.codes[0]'(by omega) := ⟨_, rfl⟩
  rw [← hd] at x0 x2
  simp only [Nat.zero_mul, Nat.add_zero] at x0 x2
  have hhd : p.codes.head? = some d := by
    rw [hd, List.head?_eq_getElem?, List.getElem?_eq_getElem (by omega)]
  by_cases h0 : d.params = 0
  case neg =>
    have h0' : (d.params != 0) = true := bne_iff_ne.2 h0
    have HE : Hid (R = 90) := by show _ = _; rw [HR.out]; exact Cd.check_far (.inr (.inr (.inr (.inr (by rw [hhd]; simp [h0])))))
    clear HR l0 l1 l2 l3 h0 hd hhd
    go_enter Tryz.func17, Tryz.ntmps17
    go_wp2
    go_ret
    exact ⟨by rw [HE.out]; rfl, HB1.out⟩
  have h0' : (d.params != 0) = false := bne_eq_false_iff_eq.2 h0
  by_cases h2 : d.caps = 0
  case neg =>
    have h2' : (d.caps != 0) = true := bne_iff_ne.2 h2
    have HE : Hid (R = 90) := by show _ = _; rw [HR.out]; exact Cd.check_far (.inr (.inr (.inr (.inr (by rw [hhd]; simp [h2])))))
    clear HR l0 l1 l2 l3 h0 h2 hd hhd
    go_enter Tryz.func17, Tryz.ntmps17
    go_wp2
    go_ret
    exact ⟨by rw [HE.out]; rfl, HB1.out⟩
  have h2' : (d.caps != 0) = false := bne_eq_false_iff_eq.2 h2
  have HFAR : Hid (¬ Cd.Far p) := by
    show ¬ _
    rintro (h | h | h | h | h)
    · exact l0 h
    · exact l1 h
    · exact l2 h
    · exact l3 h
    · rw [hhd] at h
      simp [h0, h2] at h
  have hl1 : p.codes.length ≤ 1024 := by omega
  have hl2 : p.consts.length ≤ 1024 := by omega
  have hl3 : p.names.length ≤ 1024 := by omega
  clear l0 l1 l2 l3 h0 h2 hd hhd
  go_enter Tryz.func17, Tryz.ntmps17
  go_wp2
  clear l0' l1' l2' l3' h0' h2' x0 x2 p0 p1 p2 hw1
  go_loopw [50] (fun v wr => ∃ k : Nat, v = .int .i64 k ∧ k ≤ p.consts.length ∧ Hid (∀ i, i < k → Cd.constOk p i = true) ∧ Hid (Below w1.heap.size w1 wr)) (fun v _ => p.consts.length - (intOf v).toNat)
  case atStart => exact ⟨0, rfl, by omega, fun i hi => by omega, Below.refl _ _⟩
  case round =>
    obtain ⟨k, rfl, hk, HK, HBR⟩ := hrel
    obtain ⟨p0, p1, p2⟩ := HBP.out _ HBR.out
    by_cases hlt : k < p.consts.length
    · have hlti : (k : Int) < (p.consts.length : Int) := by omega
      have HB : Hid (Below w.heap.size w wr) := HB1.out.trans (HBR.out.mono HB1.out.size)
      obtain ⟨b, o, vm, vl, vt, rfl, -, ⟨x0, x1, x2, x3, x4, x5⟩, hrep⟩ := Cd.const_at (HP.out.below HB.out).consts k hlt
      have hwf := Cd.wfs_at HW.out.wk k hlt
      obtain ⟨hrow, hcap⟩ := Cd.row_take (HP.out.below HB.out).consts k hk
      have hok := Cd.constOk_at hlt
      have hno := fun h => Cd.check_const k hlt h
      obtain ⟨x, hx⟩ : ∃ x, x = p.consts[k] := ⟨_, rfl⟩
      rw [← hx] at x0 x1 x2 hrep hwf hok
      obtain ⟨⟨am, cm, rfl, _⟩, ⟨al, c_l, rfl, _⟩, ⟨at_, ct, rfl, _⟩⟩ := (Dt.rep_iff _ _ x vm vl vt).1 hrep
      obtain ⟨w4, hw4⟩ : ∃ w4, wr.alloc (.cells #[.int .i64 x.k, .int .i64 x.n, .string x.s, .slice am x.m.length cm, .slice al x.l.length c_l, .slice at_ x.t.length ct] 52) = w4 := ⟨_, rfl⟩
      have hb4 : Below wr.heap.size wr w4 := by rw [← hw4]; exact (Below.refl _ _).alloc (Nat.le_refl _) _
      have hsix := Dt.six_of' wr x (.slice am x.m.length cm) (.slice al x.l.length c_l) (.slice at_ x.t.length ct) 52
      rw [hw4] at hsix
      have HSIX := Lib.hid hsix
      obtain ⟨z0, z1, z2, z3, z4, z5⟩ := hsix
      simp only [Nat.zero_add] at z0 z1 z2 z3 z4 z5
      have hpl := plain_any x _ _ _ w4 hwf (hrep.below hb4)
      have hcapi : (k : Int) ≤ (c2 : Int) := by omega
      have HREP : Hid (Dt.Rep F w4 x _ _ _) := hrep.below hb4
      have HROW : Hid (Dt.Row F w4 (.slice (some ⟨b, o, none⟩) k c2) (p.consts.take k)) := hrow.below hb4
      have HWF := Lib.hid hwf
      have HB4 : Hid (Below w1.heap.size w1 w4) := HBR.out.trans (hb4.mono HBR.out.size)
      obtain ⟨p0', p1', p2'⟩ := HBP.out w4 HB4.out
      obtain ⟨b4, hb4e⟩ : ∃ b4, wr.heap.size = b4 := ⟨_, rfl⟩
      have HB44 : Hid (Below b4 wr w4) := by rw [← hb4e]; exact hb4
      obtain ⟨P, hP⟩ : ∃ P, Cd.plainD x = P := ⟨_, rfl⟩
      obtain ⟨A, hA⟩ : ∃ A, ((p.consts.take k).any fun y => Dt.sameD y x) = A := ⟨_, rfl⟩
      rw [hP] at hpl hok
      rw [hA] at hok
      have HA := Lib.hid hA
      have HOK := Lib.hid hok
      have HNO := Lib.hid hno
      rw [hb4e] at HSIX z0 z1 z2 z3 z4 z5
      clear hx hb4 hrep hwf hrow hcap hok hno hP hA
      cases P with
      | false =>
        have HE : Hid (R = 90) := by show _ = _; rw [HR.out]; exact HNO.out (by rw [HOK.out]; rfl)
        clear HR HOK HNO HA
        go_wp2_with (go_at_call 29; refine hpl.mono ?_; clear hpl; rintro e w9 ⟨rfl, hb9⟩; have HB9 : Hid (Below w1.heap.size w1 w9) := HB4.out.trans (hb9.mono HB4.out.size); clear hb9)
        go_ret
        exact ⟨by rw [HE.out]; rfl, HB1.out.trans (HB9.out.mono HB1.out.size)⟩
      | true =>
        cases A with
        | true =>
          have HE : Hid (R = 90) := by show _ = _; rw [HR.out]; exact HNO.out (by rw [HOK.out]; rfl)
          clear HR HOK HNO
          go_wp2_with (first | (go_at_call 29; refine hpl.mono ?_; clear hpl hw4 x0 x1 x2 x3 x4 x5 z0 z1 z2 z3 z4 z5 p0 p1 p2 p0' p1' p2'; rintro e w9 ⟨rfl, hb9⟩; have hcc := cContains_any _ _ _ _ (p.consts.take k) x b4 w9 (HROW.out.below hb9) (by rw [List.length_take]; omega) (Cd.wfs_take HW.out.wk k) HWF.out (HREP.out.below hb9) (Dt.Six.keep HSIX.out ((Keep.refl (fun _ => False) w4).below hb9) (block_lt_of_cell HSIX.out.1) id); rw [HA.out] at hcc; have HB9 : Hid (Below w1.heap.size w1 w9) := HB4.out.trans (hb9.mono HB4.out.size); obtain ⟨p0, p1, p2⟩ := HBP.out w9 HB9.out; clear hb9) | (go_at_call 30; refine hcc.mono ?_; clear hcc; rintro e w8 ⟨rfl, hb8⟩; have HB8 := Lib.hid (HB9.out.trans (hb8.mono HB9.out.size)); clear hb8))
          go_ret
          exact ⟨by rw [HE.out]; rfl, HB1.out.trans (HB8.out.mono HB1.out.size)⟩
        | false =>
          go_wp2_with (first | (go_at_call 29; refine hpl.mono ?_; clear hpl hw4 x0 x1 x2 x3 x4 x5 z0 z1 z2 z3 z4 z5 p0 p1 p2 p0' p1' p2'; rintro e w9 ⟨rfl, hb9⟩; have hcc := cContains_any _ _ _ _ (p.consts.take k) x b4 w9 (HROW.out.below hb9) (by rw [List.length_take]; omega) (Cd.wfs_take HW.out.wk k) HWF.out (HREP.out.below hb9) (Dt.Six.keep HSIX.out ((Keep.refl (fun _ => False) w4).below hb9) (block_lt_of_cell HSIX.out.1) id); rw [HA.out] at hcc; have HB9 : Hid (Below w1.heap.size w1 w9) := HB4.out.trans (hb9.mono HB4.out.size); obtain ⟨p0, p1, p2⟩ := HBP.out w9 HB9.out; clear hb9) | (go_at_call 30; refine hcc.mono ?_; clear hcc; rintro e w8 ⟨rfl, hb8⟩; have HB8 := Lib.hid (HB9.out.trans (hb8.mono HB9.out.size)); clear hb8))
          go_roundw
          case rel =>
            refine ⟨k + 1, by simp, by omega, fun i hi => ?_, HB8⟩
            by_cases e : i = k
            · rw [e, HOK.out]; rfl
            · exact HK.out i (by omega)
          case measure => simp [intOf]; omega
    · have hge : (p.consts.length : Int) ≤ (k : Int) := by omega
      have hd : decide (k < p.consts.length) = false := decide_eq_false hlt
      have hd' : (k < p.consts.length) = False := eq_false hlt
      have HKC : Hid (∀ i, i < p.consts.length → Cd.constOk p i = true) := fun i hi => HK.out i (by omega)
      clear hlt HK
      go_wp2
      try simp only [hd, hd', decide_false]
      clear hd hd' p0 p1 p2
      go_loopw [70] (fun v wz => ∃ k : Nat, v = .int .i64 k ∧ k ≤ p.names.length ∧ Hid (∀ i, i < k → Cd.nameOk p i = true) ∧ Hid (Below w1.heap.size w1 wz)) (fun v _ => p.names.length - (intOf v).toNat)
      case atStart => exact ⟨0, rfl, by omega, fun i hi => by omega, HBR⟩
      case round =>
        clear hge hk HBR
        obtain ⟨k, rfl, hk, HK, HBR⟩ := hrel
        obtain ⟨p0, p1, p2⟩ := HBP.out _ HBR.out
        by_cases hlt : k < p.names.length
        · have hlti : (k : Int) < (p.names.length : Int) := by omega
          have HB : Hid (Below w.heap.size w _) := HB1.out.trans (HBR.out.mono HB1.out.size)
          have hnr := (HP.out.below HB.out).names
          obtain ⟨b, o, rfl, -, x0⟩ := Cd.name_at hnr k hlt
          have hok := Cd.nameOk_at hlt
          have hno := fun h => Cd.check_name k hlt h
          have hidx := index_any _ p.names p.names[k] _ hnr (by omega)
          have HIX : Hid (∀ z, Cd.IdxIs p.names p.names[k] z → (z != (k : Int)) = (p.names.take k).contains p.names[k]) := fun z hz => hz.at hlt
          have hsz := HW.out.wn p.names[k] (List.getElem_mem hlt)
          obtain ⟨s, hs⟩ : ∃ s, s = p.names[k] := ⟨_, rfl⟩
          rw [← hs] at x0 hok hidx HIX hsz
          have hsy := dSymbol_any s wr hsz
          obtain ⟨A, hA⟩ : ∃ A, A = Lx.symbol s.data.toList := ⟨_, rfl⟩
          obtain ⟨C, hC⟩ : ∃ C, C = (p.names.take k).contains s := ⟨_, rfl⟩
          rw [← hA] at hsy hok
          rw [← hC] at hok HIX
          have HOK := Lib.hid hok
          have HNO := Lib.hid hno
          clear hs hA hC hok hno hnr hsz
          cases A with
          | false =>
            have HE : Hid (R = 90) := by show _ = _; rw [HR.out]; exact HNO.out (by rw [HOK.out]; rfl)
            clear HR HOK HNO
            go_wp2_with (go_at_call 33; refine hsy.mono ?_; clear hsy; rintro e w9 ⟨rfl, rfl⟩)
            go_ret
            exact ⟨by rw [HE.out]; rfl, HB.out⟩
          | true =>
            cases C with
            | true =>
              have HE : Hid (R = 90) := by show _ = _; rw [HR.out]; exact HNO.out (by rw [HOK.out]; rfl)
              clear HR HOK HNO
              go_wp2_with (first | (go_at_call 33; refine hsy.mono ?_; clear hsy; rintro e w9 ⟨rfl, rfl⟩) | (go_at_call 34; refine hidx.mono ?_; clear hidx; rintro e w9 ⟨⟨z, rfl, hz⟩, rfl⟩; have hzk := HIX.out z hz; clear hz))
              go_ret
              exact ⟨by rw [HE.out]; rfl, HB.out⟩
            | false =>
              go_wp2_with (first | (go_at_call 33; refine hsy.mono ?_; clear hsy; rintro e w9 ⟨rfl, rfl⟩) | (go_at_call 34; refine hidx.mono ?_; clear hidx; rintro e w9 ⟨⟨z, rfl, hz⟩, rfl⟩; have hzk := HIX.out z hz; clear hz))
              go_roundw
              case rel =>
                refine ⟨k + 1, by simp, by omega, fun i hi => ?_, HBR⟩
                by_cases e : i = k
                · rw [e, HOK.out]; rfl
                · exact HK.out i (by omega)
              case measure => simp [intOf]; omega
        · have hge : (p.names.length : Int) ≤ (k : Int) := by omega
          have hd : decide (k < p.names.length) = false := decide_eq_false hlt
          have hd' : (k < p.names.length) = False := eq_false hlt
          have HKN : Hid (∀ i, i < p.names.length → Cd.nameOk p i = true) := fun i hi => HK.out i (by omega)
          clear hlt HK
          go_wp2
          try simp only [hd, hd', decide_false]
          clear hd hd' p0 p1 p2
          go_loopw [90] (fun v wz => ∃ k : Nat, v = .int .i64 k ∧ k ≤ p.codes.length ∧ Hid (∀ i, (hi : i < p.codes.length) → i < k → Cd.good p p.codes[i] = true) ∧ Hid (Below w1.heap.size w1 wz)) (fun v _ => p.codes.length - (intOf v).toNat)
          case atStart => exact ⟨0, rfl, by omega, fun i _ hi => by omega, HBR⟩
          case round =>
            clear hge hk HBR
            obtain ⟨k, rfl, hk, HK, HBR⟩ := hrel
            obtain ⟨p0, p1, p2⟩ := HBP.out _ HBR.out
            by_cases hlt : k < p.codes.length
            · have hlti : (k : Int) < (p.codes.length : Int) := by omega
              have HB : Hid (Below w.heap.size w _) := HB1.out.trans (HBR.out.mono HB1.out.size)
              have hpr := HP.out.below HB.out
              obtain ⟨b, o, hao, -, -, x0, x1, x2, x3, vi, x4, hi⟩ := Cd.code_at hpr.codes k hlt
              cases hao
              obtain ⟨ai, ci, rfl⟩ := hi.form
              have hlen := (HW.out.wc p.codes[k] (List.getElem_mem hlt)).2.2.2.2.1
              have hno := fun h => Cd.check_code k hlt h
              obtain ⟨c, hc⟩ : ∃ c, c = p.codes[k] := ⟨_, rfl⟩
              have HCE := Lib.hid hc
              rw [← hc] at x0 x1 x2 x3 x4 hi hlen hno
              obtain ⟨w4, hw4⟩ : ∃ w4, wr.alloc (.cells #[.int .i64 c.params, .int .i64 c.rest, .int .i64 c.caps, .int .i64 c.max, .slice ai c.ins.length ci] 47) = w4 := ⟨_, rfl⟩
              obtain ⟨hb4, -, hbc4⟩ := Cd.boxC hw4
              obtain ⟨q0, q1, q2, q3, q4⟩ := hbc4 w4 (Below.refl _ _)
              have hgd := good_any p c _ _ _ _ w4 (hpr.below hb4) HW.out (hi.below hb4) hlen
              have HB4 : Hid (Below w1.heap.size w1 w4) := HBR.out.trans (hb4.mono HBR.out.size)
              obtain ⟨p0', p1', p2'⟩ := HBP.out w4 HB4.out
              obtain ⟨E, hE⟩ : ∃ E, E = Cd.good p c := ⟨_, rfl⟩
              rw [← hE] at hgd hno
              have HEE := Lib.hid hE
              have HNO := Lib.hid hno
              clear hc hpr hi hlen hno hb4 hbc4 hE
              cases E with
              | false =>
                have HE : Hid (R = 90) := by show _ = _; rw [HR.out]; exact HNO.out rfl
                clear HR HNO
                go_wp2_with (go_at_call 35; refine hgd.mono ?_; clear hgd; rintro e w9 ⟨rfl, hb9⟩; have HB9 : Hid (Below w1.heap.size w1 w9) := HB4.out.trans (hb9.mono HB4.out.size); clear hb9)
                go_ret
                exact ⟨by rw [HE.out]; rfl, HB1.out.trans (HB9.out.mono HB1.out.size)⟩
              | true =>
                go_wp2_with (go_at_call 35; refine hgd.mono ?_; clear hgd; rintro e w9 ⟨rfl, hb9⟩; have HB9 : Hid (Below w1.heap.size w1 w9) := HB4.out.trans (hb9.mono HB4.out.size); clear hb9)
                go_roundw
                case rel =>
                  refine ⟨k + 1, by simp, by omega, fun i hi hik => ?_, HB9⟩
                  by_cases e : i = k
                  · subst e
                    rw [← HCE.out, ← HEE.out]
                  · exact HK.out i hi (by omega)
                case measure => simp [intOf]; omega
            · have hge : (p.codes.length : Int) ≤ (k : Int) := by omega
              have HE : Hid (R = 0) := by
                show _ = _
                rw [HR.out]
                exact Cd.check_yes HFAR.out HKC.out HKN.out (fun i hi => HK.out i hi (by omega))
              clear hlt HK
              go_wp2
              go_ret
              exact ⟨by rw [HE.out]; rfl, HB1.out.trans (HBR.out.mono HB1.out.size)⟩
end Go.Proofs.YtlckjphnbfahgaaGreatDoor
namespace Go.Proofs.YtlckjphnbfahgaaGreatDoor
open Go.RowKit
attribute [local go_sem] Oper.semAt_some
namespace Cd
def insB (x : Ins) : List UInt8 := twos [x.o, x.a, x.b]
def codeB (c : Code) : List UInt8 := twos [c.params, c.rest, c.caps, c.max, c.ins.length] ++ c.ins.flatMap insB
def bytesP (p : Prog) (tx : Dt.D → ByteArray) : List UInt8 := twos [(p.consts.length : Int)] ++ p.consts.flatMap (fun d => textB (tx d)) ++ twos [(p.names.length : Int)] ++ p.names.flatMap textB ++ twos [(p.codes.length : Int)] ++ p.codes.flatMap codeB
theorem fm_take {α β : Type} (f : α → List β) {l : List α} {k : Nat} (hk : k < l.length) : (l.take (k + 1)).flatMap f = (l.take k).flatMap f ++ f l[k] := by
  rw [List.take_add_one, List.getElem?_eq_getElem hk, Option.toList_some, List.flatMap_append, List.flatMap_singleton]
theorem fm_le {α β : Type} (f : α → List β) (l : List α) (k : Nat) : ((l.take k).flatMap f).length ≤ (l.flatMap f).length := by
  have : l.flatMap f = (l.take k).flatMap f ++ (l.drop k).flatMap f := by rw [← List.flatMap_append, List.take_append_drop]
  rw [this, List.length_append]
  omega
/-- up to a constant, a name, a code, an instruction -/
def upC (p : Prog) (tx : Dt.D → ByteArray) (k : Nat) : List UInt8 := twos [(p.consts.length : Int)] ++ (p.consts.take k).flatMap (fun d => textB (tx d))
def upN (p : Prog) (tx : Dt.D → ByteArray) (k : Nat) : List UInt8 := upC p tx p.consts.length ++ twos [(p.names.length : Int)] ++ (p.names.take k).flatMap textB
def upK (p : Prog) (tx : Dt.D → ByteArray) (k : Nat) : List UInt8 := upN p tx p.names.length ++ twos [(p.codes.length : Int)] ++ (p.codes.take k).flatMap codeB
def upI (p : Prog) (tx : Dt.D → ByteArray) (k : Nat) (c : Code) (j : Nat) : List UInt8 := upK p tx k ++ twos [c.params, c.rest, c.caps, c.max, c.ins.length] ++ (c.ins.take j).flatMap insB
theorem upC_step {p : Prog} {tx : Dt.D → ByteArray} {k : Nat} (hk : k < p.consts.length) : upC p tx (k + 1) = upC p tx k ++ textB (tx p.consts[k]) := by
  unfold upC
  rw [fm_take _ hk, List.append_assoc]
theorem upN_step {p : Prog} {tx : Dt.D → ByteArray} {k : Nat} (hk : k < p.names.length) : upN p tx (k + 1) = upN p tx k ++ textB p.names[k] := by
  unfold upN
  rw [fm_take _ hk]
  simp only [List.append_assoc]
theorem upI_step {p : Prog} {tx : Dt.D → ByteArray} {k : Nat} {c : Code} {j : Nat} (hj : j < c.ins.length) : upI p tx k c (j + 1) = upI p tx k c j ++ twos [c.ins[j].o, c.ins[j].a, c.ins[j].b] := by
  unfold upI
  rw [fm_take _ hj]
  simp only [List.append_assoc]
  rfl
theorem upN_zero (p : Prog) (tx : Dt.D → ByteArray) : upN p tx 0 = upC p tx p.consts.length ++ twos [(p.names.length : Int)] := by unfold upN; simp
theorem upK_zero (p : Prog) (tx : Dt.D → ByteArray) : upK p tx 0 = upN p tx p.names.length ++ twos [(p.codes.length : Int)] := by unfold upK; simp
theorem upI_zero (p : Prog) (tx : Dt.D → ByteArray) (k : Nat) (c : Code) : upI p tx k c 0 = upK p tx k ++ twos [c.params, c.rest, c.caps, c.max, c.ins.length] := by unfold upI; simp
theorem upI_end {p : Prog} {tx : Dt.D → ByteArray} {k : Nat} (hk : k < p.codes.length) : upI p tx k p.codes[k] p.codes[k].ins.length = upK p tx (k + 1) := by
  unfold upI upK
  rw [List.take_length, fm_take _ hk]
  simp only [List.append_assoc]
  rfl
theorem upK_end (p : Prog) (tx : Dt.D → ByteArray) : upK p tx p.codes.length = bytesP p tx := by
  unfold upK upN upC bytesP
  rw [List.take_length, List.take_length, List.take_length]
theorem upC_le (p : Prog) (tx : Dt.D → ByteArray) (k : Nat) : (upC p tx k).length ≤ (upC p tx p.consts.length).length := by
  unfold upC
  have := fm_le (fun d => textB (tx d)) p.consts k
  rw [List.length_append, List.length_append, List.take_length]
  omega
theorem upN_le (p : Prog) (tx : Dt.D → ByteArray) (k : Nat) : (upC p tx p.consts.length).length + 2 ≤ (upN p tx k).length ∧ (upN p tx k).length ≤ (upN p tx p.names.length).length := by
  unfold upN
  have := fm_le textB p.names k
  have h2 := twos_length [(p.names.length : Int)]
  simp only [List.length_append, List.take_length]
  simp at h2
  omega
theorem upK_le (p : Prog) (tx : Dt.D → ByteArray) (k : Nat) : (upN p tx p.names.length).length + 2 ≤ (upK p tx k).length ∧ (upK p tx k).length ≤ (bytesP p tx).length := by
  rw [← upK_end]
  unfold upK
  have := fm_le codeB p.codes k
  have h2 := twos_length [(p.codes.length : Int)]
  simp only [List.length_append, List.take_length]
  simp at h2
  omega
theorem upI_le (p : Prog) (tx : Dt.D → ByteArray) {k : Nat} (hk : k < p.codes.length) (j : Nat) : (upI p tx k p.codes[k] j).length ≤ (bytesP p tx).length ∧ (upK p tx k).length + 10 ≤ (bytesP p tx).length := by
  have h1 := upI_end (tx := tx) hk
  have h2 := (upK_le p tx (k + 1)).2
  rw [← h1] at h2
  have h3 := fm_le insB p.codes[k].ins j
  have h4 := twos_length [p.codes[k].params, p.codes[k].rest, p.codes[k].caps, p.codes[k].max, (p.codes[k].ins.length : Int)]
  unfold upI at h2 ⊢
  simp only [List.length_append, List.take_length] at h2 ⊢
  simp at h4
  omega
/-- a constant has a text -/
def HasText (tx : Dt.D → ByteArray) (d : Dt.D) : Prop := (tx d).size ≤ 16384 ∧ ∀ (F : Nat → Prop) (vm vl vt : Value) (w : World), Dt.Rep F w d vm vl vt → Calls Tryz.prog 26 #[.agg #[.int .i64 d.k, .int .i64 d.n, .string d.s, vm, vl, vt]] w fun e w' => e = .returned (.tuple #[.string (tx d), .int .i64 0]) ∧ Below w.heap.size w w'
def RowB (base : Nat) (w : World) (a : Option Addr) (c : Nat) (l : List UInt8) : Prop := w.ownsRow base 5 1 (.slice a l.length c) l.length (Lib.byteCells l)
theorem RowB.below {base : Nat} {w w' : World} {a : Option Addr} {c : Nat} {l : List UInt8} (h : RowB base w a c l) (hb : Below w.heap.size w w') : RowB base w' a c l :=
  Keep.own (S := fun _ => False) h ((Keep.refl _ w).below hb) (fun _ h => h.elim)
theorem RowB.nil (base : Nat) (w : World) : RowB base w none 0 [] := World.ownsRow_nil w base _ 1
/-- numbers that lie in a new row -/
theorem new_ints {w w1 : World} {l : List Int} (h : w.alloc (.cells (l.map (Value.int .i64)).toArray 3) = w1) : Dt.IRow (fun k => k = w.heap.size) w1 (.slice (some ⟨w.heap.size, 0, none⟩) l.length l.length) l ∧ Below w.heap.size w w1 ∧ w1.heap.size = w.heap.size + 1 := by
  obtain ⟨hb, hs⟩ := below_new (Below.refl _ w) h (Nat.le_refl _)
  refine ⟨⟨_, _, rfl, Nat.le_refl _, fun _ => ⟨w.heap.size, 0, rfl, rfl, by omega, fun j hj => ?_⟩⟩, hb, hs⟩
  rw [Nat.zero_add]
  exact cells_new w (l.map (Value.int .i64)) _ h j _ (by rw [List.getElem?_map, List.getElem?_eq_getElem hj]; rfl)
/-- put at a new row of numbers -/
theorem put_new {base : Nat} {w w1 : World} {a : Option Addr} {c : Nat} {acc : List UInt8} (l : List Int) (h1 : w.alloc (.cells (l.map (Value.int .i64)).toArray 3) = w1) (h : RowB base w a c acc) (hb : base ≤ w.heap.size) (hl : acc.length + 2 * l.length ≤ 140737488355328) :
    Calls Tryz.prog 25 #[.slice a acc.length c, .slice (some ⟨w.heap.size, 0, none⟩) l.length l.length] w1 fun e w' => ∃ a' c', e = .returned (.slice a' (acc ++ twos l).length c') ∧ RowB base w' a' c' (acc ++ twos l) ∧ Below base w w' ∧ Keep (fun k => (Value.slice a acc.length c).ownBlock = some k) w1 w' ∧ ((Value.slice a' (acc ++ twos l).length c').ownBlock = (Value.slice a acc.length c).ownBlock ∨ ∃ k, (Value.slice a' (acc ++ twos l).length c').ownBlock = some k ∧ w1.heap.size ≤ k) := by
  obtain ⟨hr, hb1, hs1⟩ := new_ints h1
  refine (put_any base _ _ acc l w1 (h.below hb1) (by omega) hr (fun k hk e => by have := (h.lt k e).2; omega) hl).mono ?_
  rintro e w2 ⟨v', rfl, h2⟩
  obtain ⟨a', c', rfl⟩ := Dt.row_form h2.row
  exact ⟨a', c', rfl, h2.row, (hb1.mono hb).trans (h2.kp.to_below (fun k hk => (h.lt k hk).1) (by omega)), h2.kp, h2.ow⟩
end Cd
set_option maxRecDepth 100000 in
set_option maxHeartbeats 16000000 in
theorem bytes_any {F : Nat → Prop} (p : Cd.Prog) (tx : Dt.D → ByteArray) (vc vk vn : Value) (w : World) (hp : Cd.PRep F w p vc vk vn) (hw : Cd.PWf p) (hc : Cd.checkP p = 0) (htx : ∀ d ∈ p.consts, Cd.HasText tx d) (hlen : (Cd.bytesP p tx).length ≤ 140737488355328) :
    Calls Tryz.prog 12 #[.agg #[vc, vk, vn]] w fun e w' => ∃ a c, e = .returned (.tuple #[.slice a (Cd.bytesP p tx).length c, .int .i64 0]) ∧ Cd.RowB w.heap.size w' a c (Cd.bytesP p tx) ∧ Below w.heap.size w w' := by
  obtain ⟨a1, c1, a2, c2, a3, c3, rfl, rfl, rfl⟩ := hp.forms
  obtain ⟨w1, hw1⟩ : ∃ w1, w.alloc (.cells #[.slice a1 p.codes.length c1, .slice a2 p.consts.length c2, .slice a3 p.names.length c3] 26) = w1 := ⟨_, rfl⟩
  obtain ⟨hb1, hs1, hbp⟩ := Cd.boxP hw1
  obtain ⟨p0, p1, p2⟩ := hbp w1 (Below.refl _ _)
  have hck := check_any p _ _ _ w1 (hp.below hb1) hw
  rw [hc] at hck
  have HP := Lib.hid hp
  have HW := Lib.hid hw
  have HB1 := Lib.hid hb1
  have HS1 := Lib.hid hs1
  have HBP := Lib.hid hbp
  have HTX := Lib.hid htx
  have HLEN := Lib.hid hlen
  have hl2 := hw.lk
  have hl3 := hw.ln
  have hl1 := hw.lc
  clear hp hw hb1 hs1 hbp htx hlen hc
  obtain ⟨base, hbase⟩ : ∃ base, w1.heap.size = base := ⟨_, rfl⟩
  rw [hbase] at HS1 HBP
  have HBASE := Lib.hid hbase
  clear hbase
  go_enter Tryz.func12, Tryz.ntmps12
  go_upto_region 4 with (go_at_call 17; refine hck.mono ?_; clear hck hw1 p0 p1 p2; rintro e w2 ⟨rfl, hb2⟩; have HB2 : Hid (Below base w1 w2) := HBASE.out ▸ hb2; obtain ⟨p0, p1, p2⟩ := HBP.out w2 HB2.out; clear hb2)
  obtain ⟨w3, hw3⟩ : ∃ w3, w2.alloc (.cells #[.int .i64 p.consts.length] 3) = w3 := ⟨_, rfl⟩
  have hbs2 : base ≤ w2.heap.size := by have := HB2.out.size; have := HBASE.out; omega
  have hpn := Cd.put_new (base := base) [(p.consts.length : Int)] hw3 (Cd.RowB.nil base w2) hbs2 (by simp)
  simp only [List.nil_append, List.length_nil, List.length_singleton] at hpn
  go_wp2_with (go_at_call 25; refine hpn.mono ?_; clear hpn hw3 p0 p1 p2; rintro e w4 ⟨a4, c4, rfl, hr4, hb4, -, -⟩; have HR4 := Lib.hid hr4; have HB4 : Hid (Below base w1 w4) := HB2.out.trans hb4; obtain ⟨p0, p1, p2⟩ := HBP.out w4 HB4.out; clear hr4 hb4)
  have HU0 : Hid (Cd.RowB base w4 a4 c4 (Cd.upC p tx 0)) := by
    have : Cd.upC p tx 0 = Cd.twos [(p.consts.length : Int)] := by unfold Cd.upC; simp
    rw [this]
    exact HR4.out
  have hu0 : Cd.twos [(p.consts.length : Int)] = Cd.upC p tx 0 := by unfold Cd.upC; simp
  rw [hu0]
  clear hu0 HR4 HB2
  go_wp2
  clear p0 p1 p2
  go_loopw [5, 29] (fun vb vi wr => ∃ (k : Nat) (a : Option Addr) (c : Nat), vb = .slice a (Cd.upC p tx k).length c ∧ vi = .int .i64 k ∧ k ≤ p.consts.length ∧ Hid (Cd.RowB base wr a c (Cd.upC p tx k)) ∧ Hid (Below base w1 wr)) (fun _ vi _ => p.consts.length - (intOf vi).toNat)
  case atStart => exact ⟨0, a4, c4, rfl, rfl, by omega, HU0, HB4⟩
  case round =>
    clear HU0 HB4
    obtain ⟨k, av, cv, rfl, rfl, hk, HRW, HBR⟩ := hrel
    obtain ⟨p0, p1, p2⟩ := HBP.out _ HBR.out
    have hbs : base ≤ wr.heap.size := by have := HBR.out.size; have := HBASE.out; omega
    by_cases hlt : k < p.consts.length
    · have hlti : (k : Int) < (p.consts.length : Int) := by omega
      have HB : Hid (Below w.heap.size w wr) := HB1.out.trans ((HBR.out).mono (by have := HBASE.out; have := HB1.out.size; omega))
      obtain ⟨b, o, vm, vl, vt, rfl, -, ⟨x0, x1, x2, x3, x4, x5⟩, hrep⟩ := Cd.const_at (HP.out.below HB.out).consts k hlt
      obtain ⟨htl, hprint⟩ := HTX.out p.consts[k] (List.getElem_mem hlt)
      have hstep := Cd.upC_step (tx := tx) hlt
      have hle1 := Cd.upC_le p tx (k + 1)
      have hle2 := (Cd.upN_le p tx p.names.length).1
      have hle3 := (Cd.upK_le p tx 0)
      have hlen := HLEN.out
      have htb : ∀ s : ByteArray, (Cd.textB s).length = 2 + s.size := fun s => by unfold Cd.textB; rw [List.length_append, Array.length_toList]; rfl
      have hroom : (Cd.upC p tx k).length + 2 + (tx p.consts[k]).size ≤ 140737488355328 := by
        rw [hstep, List.length_append, htb] at hle1
        omega
      obtain ⟨x, hx⟩ : ∃ x, x = p.consts[k] := ⟨_, rfl⟩
      rw [← hx] at x0 x1 x2 hrep hprint hstep hroom
      obtain ⟨⟨am, cm, rfl, _⟩, ⟨al, c_l, rfl, _⟩, ⟨at_, ct, rfl, _⟩⟩ := (Dt.rep_iff _ _ x vm vl vt).1 hrep
      obtain ⟨w5, hw5⟩ : ∃ w5, wr.alloc (.cells #[.int .i64 x.k, .int .i64 x.n, .string x.s, .slice am x.m.length cm, .slice al x.l.length c_l, .slice at_ x.t.length ct] 52) = w5 := ⟨_, rfl⟩
      have hb5 : Below wr.heap.size wr w5 := by rw [← hw5]; exact (Below.refl _ _).alloc (Nat.le_refl _) _
      have hsix := Dt.six_of' wr x (.slice am x.m.length cm) (.slice al x.l.length c_l) (.slice at_ x.t.length ct) 52
      rw [hw5] at hsix
      obtain ⟨z0, z1, z2, z3, z4, z5⟩ := hsix
      simp only [Nat.zero_add] at z0 z1 z2 z3 z4 z5
      have hpr := hprint _ _ _ _ w5 (hrep.below hb5)
      obtain ⟨X, hX⟩ : ∃ X, tx x = X := ⟨_, rfl⟩
      rw [hX] at hpr hstep hroom
      have HSTEP := Lib.hid hstep
      have HROOM := Lib.hid hroom
      have HB5 : Hid (Below base w1 w5) := HBR.out.trans (hb5.mono hbs)
      have HR5 : Hid (Cd.RowB base w5 av cv (Cd.upC p tx k)) := HRW.out.below hb5
      clear hx hb5 hrep hprint hstep hroom hle1 hle2 hle3 hlen htb htl hX HRW HBR hbs
      go_wp2_with (first | (go_at_call 26; refine hpr.mono ?_; clear hpr hw5 x0 x1 x2 x3 x4 x5 z0 z1 z2 z3 z4 z5 p0 p1 p2; rintro e w6 ⟨rfl, hb6⟩; have hbs6 : base ≤ w6.heap.size := by { have := HB5.out.size; have := HBASE.out; have := hb6.size; omega }; have htxt := text_any base _ (Cd.upC p tx k) X w6 (HR5.out.below hb6) hbs6 HROOM.out; rw [← HSTEP.out] at htxt; have HB6 : Hid (Below base w1 w6) := HB5.out.trans (hb6.mono (by have := HB5.out.size; have := HBASE.out; omega)); clear hb6 hbs6) | (go_at_call 27; refine htxt.mono ?_; clear htxt; rintro e w7 ⟨v7, rfl, hr7, hb7⟩; obtain ⟨a7, c7, rfl⟩ := Dt.row_form hr7; have HR7 : Hid (Cd.RowB base w7 a7 c7 (Cd.upC p tx (k + 1))) := hr7; have HB7 : Hid (Below base w1 w7) := HB6.out.trans hb7; clear hr7 hb7))
      go_roundw
      case rel => exact ⟨k + 1, a7, c7, rfl, by simp, by omega, HR7, HB7⟩
      case measure => simp [intOf]; omega
    · have hge : (p.consts.length : Int) ≤ (k : Int) := by omega
      obtain rfl : k = p.consts.length := by omega
      obtain ⟨w5, hw5⟩ : ∃ w5, wr.alloc (.cells #[.int .i64 p.names.length] 3) = w5 := ⟨_, rfl⟩
      have hpn := Cd.put_new (base := base) [(p.names.length : Int)] hw5 HRW.out hbs (by have := (Cd.upN_le p tx 0).1; have := (Cd.upN_le p tx 0).2; have := Cd.upK_le p tx 0; have := HLEN.out; simp; omega)
      simp only [List.length_singleton] at hpn
      rw [← Cd.upN_zero] at hpn
      clear hlt hge hk
      go_wp2_with (go_at_call 25; refine hpn.mono ?_; clear hpn hw5 p0 p1 p2 hbs; rintro e w6 ⟨a6, c6, rfl, hr6, hb6, -, -⟩; have HR6 := Lib.hid hr6; have HB6 : Hid (Below base w1 w6) := HBR.out.trans hb6; obtain ⟨p0, p1, p2⟩ := HBP.out w6 HB6.out; clear hr6 hb6)
      clear p0 p1 p2 HRW HBR
      go_loopw [5, 53] (fun vb vi wr => ∃ (k : Nat) (a : Option Addr) (c : Nat), vb = .slice a (Cd.upN p tx k).length c ∧ vi = .int .i64 k ∧ k ≤ p.names.length ∧ Hid (Cd.RowB base wr a c (Cd.upN p tx k)) ∧ Hid (Below base w1 wr)) (fun _ vi _ => p.names.length - (intOf vi).toNat)
      case atStart => exact ⟨0, a6, c6, rfl, rfl, by omega, HR6, HB6⟩
      case round =>
        clear HR6 HB6
        obtain ⟨k, av, cv, rfl, rfl, hk, HRW, HBR⟩ := hrel
        obtain ⟨p0, p1, p2⟩ := HBP.out _ HBR.out
        have hbs : base ≤ wr.heap.size := by have := HBR.out.size; have := HBASE.out; omega
        by_cases hlt : k < p.names.length
        · have hlti : (k : Int) < (p.names.length : Int) := by omega
          have HB : Hid (Below w.heap.size w wr) := HB1.out.trans ((HBR.out).mono (by have := HBASE.out; have := HB1.out.size; omega))
          obtain ⟨b, o, rfl, -, x0⟩ := Cd.name_at (HP.out.below HB.out).names k hlt
          have hstep := Cd.upN_step (tx := tx) hlt
          have hle1 := (Cd.upN_le p tx (k + 1)).2
          have hle3 := (Cd.upK_le p tx 0)
          have hlen := HLEN.out
          have htb : ∀ s : ByteArray, (Cd.textB s).length = 2 + s.size := fun s => by unfold Cd.textB; rw [List.length_append, Array.length_toList]; rfl
          have hroom : (Cd.upN p tx k).length + 2 + (p.names[k]).size ≤ 140737488355328 := by
            rw [hstep, List.length_append, htb] at hle1
            omega
          obtain ⟨X, hX⟩ : ∃ X, p.names[k] = X := ⟨_, rfl⟩
          rw [hX] at x0 hstep hroom
          have htxt := text_any base _ (Cd.upN p tx k) X wr HRW.out hbs hroom
          rw [← hstep] at htxt
          clear hX hstep hroom hle1 hle3 hlen htb hbs
          go_wp2_with (go_at_call 27; refine htxt.mono ?_; clear htxt x0 p0 p1 p2; rintro e w7 ⟨v7, rfl, hr7, hb7⟩; obtain ⟨a7, c7, rfl⟩ := Dt.row_form hr7; have HR7 : Hid (Cd.RowB base w7 a7 c7 (Cd.upN p tx (k + 1))) := hr7; have HB7 : Hid (Below base w1 w7) := HBR.out.trans hb7; clear hr7 hb7)
          go_roundw
          case rel => exact ⟨k + 1, a7, c7, rfl, by simp, by omega, HR7, HB7⟩
          case measure => simp [intOf]; omega
        · have hge : (p.names.length : Int) ≤ (k : Int) := by omega
          obtain rfl : k = p.names.length := by omega
          obtain ⟨w5, hw5⟩ : ∃ w5, wr.alloc (.cells #[.int .i64 p.codes.length] 3) = w5 := ⟨_, rfl⟩
          have hpn := Cd.put_new (base := base) [(p.codes.length : Int)] hw5 HRW.out hbs (by have := Cd.upK_le p tx 0; have := HLEN.out; simp; omega)
          simp only [List.length_singleton] at hpn
          rw [← Cd.upK_zero] at hpn
          clear hlt hge hk
          go_wp2_with (go_at_call 25; refine hpn.mono ?_; clear hpn hw5 p0 p1 p2 hbs; rintro e w6 ⟨a6, c6, rfl, hr6, hb6, -, -⟩; have HR6 := Lib.hid hr6; have HB6 : Hid (Below base w1 w6) := HBR.out.trans hb6; obtain ⟨p0, p1, p2⟩ := HBP.out w6 HB6.out; clear hr6 hb6)
          clear p0 p1 p2 HRW HBR
          go_loopw [5, 70] (fun vb vi wr => ∃ (k : Nat) (a : Option Addr) (c : Nat), vb = .slice a (Cd.upK p tx k).length c ∧ vi = .int .i64 k ∧ k ≤ p.codes.length ∧ Hid (Cd.RowB base wr a c (Cd.upK p tx k)) ∧ Hid (Below base w1 wr)) (fun _ vi _ => p.codes.length - (intOf vi).toNat)
          case atStart => exact ⟨0, a6, c6, rfl, rfl, by omega, HR6, HB6⟩
          case round =>
            clear HR6 HB6
            obtain ⟨k, av, cv, rfl, rfl, hk, HRW, HBR⟩ := hrel
            obtain ⟨p0, p1, p2⟩ := HBP.out _ HBR.out
            have hbs : base ≤ wr.heap.size := by have := HBR.out.size; have := HBASE.out; omega
            by_cases hlt : k < p.codes.length
            · have hlti : (k : Int) < (p.codes.length : Int) := by omega
              have HB : Hid (Below w.heap.size w wr) := HB1.out.trans ((HBR.out).mono (by have := HBASE.out; have := HB1.out.size; omega))
              obtain ⟨b, o, hao, -, hbl, x0, x1, x2, x3, vi, x4, hi⟩ := Cd.code_at HP.out.codes k hlt
              cases hao
              obtain ⟨ai, ci, rfl⟩ := hi.form
              have HIW := Lib.hid hi
              have hi := hi.below HB.out
              have x0 := (HB.out.cell (p := ⟨b, o + k * 5, none⟩) hbl).trans x0
              have x1 := (HB.out.cell (p := ⟨b, o + k * 5 + 1, none⟩) hbl).trans x1
              have x2 := (HB.out.cell (p := ⟨b, o + k * 5 + 2, none⟩) hbl).trans x2
              have x3 := (HB.out.cell (p := ⟨b, o + k * 5 + 3, none⟩) hbl).trans x3
              have x4 := (HB.out.cell (p := ⟨b, o + k * 5 + 4, none⟩) hbl).trans x4
              have hll := (HW.out.wc p.codes[k] (List.getElem_mem hlt)).2.2.2.2.1
              have hz := Cd.upI_zero p tx k p.codes[k]
              have HEND := Lib.hid (Cd.upI_end (tx := tx) hlt)
              have HLE := Lib.hid (fun j => Cd.upI_le p tx hlt j)
              obtain ⟨c, hc⟩ : ∃ c, c = p.codes[k] := ⟨_, rfl⟩
              rw [← hc] at x0 x1 x2 x3 x4 hi hz HEND HLE hll HIW
              obtain ⟨w4, hw4⟩ : ∃ w4, wr.alloc (.cells #[.int .i64 c.params, .int .i64 c.rest, .int .i64 c.caps, .int .i64 c.max, .slice ai c.ins.length ci] 47) = w4 := ⟨_, rfl⟩
              obtain ⟨hb4, hs4, hbc4⟩ := Cd.boxC hw4
              obtain ⟨q0, q1, q2, q3, q4⟩ := hbc4 w4 (Below.refl _ _)
              obtain ⟨w5, hw5⟩ : ∃ w5, w4.alloc (.cells #[.int .i64 c.params, .int .i64 c.rest, .int .i64 c.caps, .int .i64 c.max, .int .i64 c.ins.length] 3) = w5 := ⟨_, rfl⟩
              have hpn := Cd.put_new (base := base) [c.params, c.rest, c.caps, c.max, (c.ins.length : Int)] hw5 (HRW.out.below hb4) (by omega) (by have := (HLE.out 0).2; have := HLEN.out; simp; omega)
              rw [← hz] at hpn
              have hpn2 : Calls Tryz.prog 25 #[.slice av (Cd.upK p tx k).length cv, .slice (some ⟨w4.heap.size, 0, none⟩) 5 5] w5 _ := hpn
              obtain ⟨hb5, hs5⟩ := Cd.below_new (Below.refl _ w4) hw5 (Nat.le_refl _)
              have hrl := fun j e => (HRW.out.lt j e).2
              have HC5 := Lib.hid (hbc4 w5 (hb5.mono (Nat.le_refl _))).2.2.2.2
              have HRL : Hid (∀ j, (Value.slice av (Cd.upK p tx k).length cv).ownBlock = some j → j ≠ wr.heap.size) := fun j e => by have := hrl j e; omega
              have HW5 : Hid (wr.heap.size < w5.heap.size) := by show _ < _; omega
              have HB4 : Hid (Below base w1 w4) := HBR.out.trans (hb4.mono hbs)
              have HIN := Lib.hid hi
              have HBW := Lib.hid HB.out
              obtain ⟨b4, hb4e⟩ : ∃ b4, wr.heap.size = b4 := ⟨_, rfl⟩
              have HB4E := Lib.hid hb4e
              rw [hb4e] at q0 q1 q2 q3 q4
              rw [hb4e] at HC5 HRL HW5
              clear hc hi hz hb4 hs4 hbc4 hb5 hs5 hrl hpn HB
              go_wp2_with (go_at_call 25; refine hpn2.mono ?_; clear hpn2 hw4 hw5 x0 x1 x2 x3 x4 q0 q1 q2 q3 q4 p0 p1 p2 hbs hb4e; rintro e w6 ⟨a6, c6, rfl, hr6, hb6, hk6, -⟩; have HR6 := Lib.hid hr6; have HB6 : Hid (Below base w1 w6) := HB4.out.trans hb6; have q4 := (hk6.cell 4 HW5.out (fun e => HRL.out _ e rfl)).trans HC5.out; clear hr6 hb6 hk6)
              clear q4 HC5 HRL HW5 HRW
              go_loopw [5, 91] (fun vb vi wr => ∃ (j : Nat) (a : Option Addr) (c' : Nat), vb = .slice a (Cd.upI p tx k c j).length c' ∧ vi = .int .i64 j ∧ j ≤ c.ins.length ∧ Hid (Cd.RowB base wr a c' (Cd.upI p tx k c j)) ∧ Hid (Below base w1 wr)) (fun _ vi _ => c.ins.length - (intOf vi).toNat)
              case atStart => exact ⟨0, a6, c6, rfl, rfl, by omega, HR6, HB6⟩
              case round =>
                clear HR6 HB6
                obtain ⟨j, av, cv, rfl, rfl, hj, HRW, HBR⟩ := hrel
                have hbs : base ≤ wr.heap.size := by have := HBR.out.size; have := HBASE.out; omega
                have HB : Hid (Below w.heap.size w wr) := HB1.out.trans ((HBR.out).mono (by have := HBASE.out; have := HB1.out.size; omega))
                by_cases hjt : j < c.ins.length
                · have hjti : (j : Int) < (c.ins.length : Int) := by omega
                  obtain ⟨bi, oi, rfl, -, y0, y1, y2⟩ := Cd.ins_at (HIW.out.below HB.out) j hjt
                  have hstep := Cd.upI_step (p := p) (tx := tx) (k := k) hjt
                  have hle := (HLE.out (j + 1)).1
                  have hroom : (Cd.upI p tx k c j).length + 2 * 3 ≤ 140737488355328 := by
                    have h3 := Cd.twos_length [c.ins[j].o, c.ins[j].a, c.ins[j].b]
                    rw [hstep, List.length_append, h3] at hle
                    have := HLEN.out
                    simp at hle
                    omega
                  obtain ⟨x, hx⟩ : ∃ x, c.ins[j] = x := ⟨_, rfl⟩
                  rw [hx] at y0 y1 y2 hstep
                  obtain ⟨w4, hw4⟩ : ∃ w4, wr.alloc (.cells #[.int .i64 x.o, .int .i64 x.a, .int .i64 x.b] 55) = w4 := ⟨_, rfl⟩
                  obtain ⟨hb4, hs4⟩ := Cd.below_new (Below.refl _ wr) hw4 (Nat.le_refl _)
                  obtain ⟨z0, z1, z2⟩ := Cd.InsAt.new hw4
                  obtain ⟨w5, hw5⟩ : ∃ w5, w4.alloc (.cells #[.int .i64 x.o, .int .i64 x.a, .int .i64 x.b] 3) = w5 := ⟨_, rfl⟩
                  have hpn := Cd.put_new (base := base) [x.o, x.a, x.b] hw5 (HRW.out.below hb4) (by omega) hroom
                  rw [← hstep] at hpn
                  have hpn2 : Calls Tryz.prog 25 #[.slice av (Cd.upI p tx k c j).length cv, .slice (some ⟨w4.heap.size, 0, none⟩) 3 3] w5 _ := hpn
                  have HB4 : Hid (Below base w1 w4) := HBR.out.trans (hb4.mono hbs)
                  clear hx hb4 hs4 hstep hle hroom hpn HRW
                  go_wp2_with (go_at_call 25; refine hpn2.mono ?_; clear hpn2 hw4 hw5 y0 y1 y2 z0 z1 z2; rintro e w6 ⟨a6, c6, rfl, hr6, hb6, hk6, -⟩; have HR6 := Lib.hid hr6; have HB6 : Hid (Below base w1 w6) := HB4.out.trans hb6; clear hr6 hb6 hk6)
                  go_roundw
                  case rel => exact ⟨j + 1, a6, c6, rfl, by simp, by omega, HR6, HB6⟩
                  case measure => simp [intOf]; omega
                · have hge : (c.ins.length : Int) ≤ (j : Int) := by omega
                  obtain rfl : j = c.ins.length := by omega
                  have HRN : Hid (Cd.RowB base wr av cv (Cd.upK p tx (k + 1))) := by rw [← HEND.out]; exact HRW.out
                  rw [HEND.out]
                  clear HRW hjt hge
                  go_wp2
                  go_roundw
                  case rel => exact ⟨k + 1, av, cv, rfl, by simp, by omega, HRN, HBR⟩
                  case measure => simp [intOf]; omega
            · have hge : (p.codes.length : Int) ≤ (k : Int) := by omega
              obtain rfl : k = p.codes.length := by omega
              have HRN : Hid (Cd.RowB w.heap.size wr av cv (Cd.bytesP p tx)) := by
                have := HRW.out
                rw [Cd.upK_end] at this
                show World.ownsRow _ _ _ _ _ _ _
                obtain ⟨h1, h2⟩ := this
                refine ⟨h1, h2.elim .inl (fun h3 => ?_)⟩
                obtain ⟨g, cap, cur, e1, e2, e3⟩ := h3
                exact .inr ⟨g, cap, cur, e1, by have := HBASE.out; have := HS1.out; omega, e3⟩
              have HB : Hid (Below w.heap.size w wr) := HB1.out.trans ((HBR.out).mono (by have := HBASE.out; have := HB1.out.size; omega))
              rw [Cd.upK_end]
              clear hlt hge hk p0 p1 p2 HRW HBR hbs
              go_wp2
              go_ret2
              exact ⟨_, _, rfl, HRN.out, HB.out⟩
end Go.Proofs.YtlckjphnbfahgaaGreatDoor
namespace Go.Proofs.YtlckjphnbfahgaaGreatDoor
namespace Cd
def fiveD : Dt.D := .mk 1 5 ⟨#[]⟩ [] [] []
def fiveC (m : Int) : Code := ⟨0, 0, 0, m, [⟨1, 0, 0⟩, ⟨15, 0, 0⟩]⟩
def five (m : Int) : Prog := ⟨[fiveC m], [fiveD], []⟩
theorem five_wf (m : Int) (h : I64 m) : PWf (five m) := by
  refine ⟨(by show (1 : Nat) ≤ _; omega), (by show (1 : Nat) ≤ _; omega), (by show (0 : Nat) ≤ _; omega), ?_, fun s hs => (by cases hs), fun c hc => ?_⟩
  · refine ⟨⟨by decide, by decide, by decide, by decide, by decide, trivial, trivial⟩, trivial⟩
  · rw [five, List.mem_singleton] at hc
    subst hc
    refine ⟨(by show (-9223372036854775808 : Int) ≤ 0 ∧ (0 : Int) ≤ 9223372036854775807; omega), (by show (-9223372036854775808 : Int) ≤ 0 ∧ (0 : Int) ≤ 9223372036854775807; omega), (by show (-9223372036854775808 : Int) ≤ 0 ∧ (0 : Int) ≤ 9223372036854775807; omega), h, (by show (2 : Nat) ≤ _; omega), fun x hx => ?_⟩
    have h2 : x = ⟨1, 0, 0⟩ ∨ x = ⟨15, 0, 0⟩ := by simpa [fiveC] using hx
    rcases h2 with rfl | rfl
    · unfold I64; exact ⟨⟨by decide, by decide⟩, ⟨by decide, by decide⟩, ⟨by decide, by decide⟩⟩
    · unfold I64; exact ⟨⟨by decide, by decide⟩, ⟨by decide, by decide⟩, ⟨by decide, by decide⟩⟩
theorem five_plain : plainD fiveD = true := by kernel_rfl
theorem five_check : checkP (five 1) = 0 := by kernel_rfl
theorem five_check2 : checkP (five 2) = 90 := by kernel_rfl
theorem five_flow : flowW (fiveC 1).ins 0 (start 2) 0 = some ([0, 1], 1) := by kernel_rfl
end Cd
end Go.Proofs.YtlckjphnbfahgaaGreatDoor
namespace Go.Proofs.YtlckjphnbfahgaaGreatDoor
open Go.RowKit Go.Sort
attribute [local go_sem] Oper.semAt_some
namespace T5
/-- a word that lies in a box -/
structure TokAt (w : World) (b : Nat) (k n : Int) (s : ByteArray) : Prop where
  c0 : w.cell? ⟨b, 0, none⟩ = some (.int .i64 k)
  c3 : w.cell? ⟨b, 3, none⟩ = some (.int .i64 n)
  c4 : w.cell? ⟨b, 4, none⟩ = some (.string s)
  lt : b < w.heap.size
theorem TokAt.below {w w' : World} {b : Nat} {k n : Int} {s : ByteArray} (h : TokAt w b k n s) (hb : Below w.heap.size w w') : TokAt w' b k n s :=
  ⟨(hb.cell (p := ⟨b, 0, none⟩) h.lt).trans h.c0, (hb.cell (p := ⟨b, 3, none⟩) h.lt).trans h.c3, (hb.cell (p := ⟨b, 4, none⟩) h.lt).trans h.c4, Nat.lt_of_lt_of_le h.lt hb.size⟩
theorem bel3b (w : World) (a b c : Obj) : Below w.heap.size w (((w.alloc a).alloc b).alloc c) := ((((Below.refl _ _).alloc (Nat.le_refl _) a).alloc (by rw [World.size_alloc]; omega) b)).alloc (by rw [World.size_alloc, World.size_alloc]; omega) c
theorem bel2 (w : World) (a b : Obj) : Below w.heap.size w ((w.alloc a).alloc b) := ((Below.refl _ _).alloc (Nat.le_refl _) a).alloc (by rw [World.size_alloc]; omega) b
theorem start (w : World) (k a z n : Int) (s : ByteArray) : ∃ w3, ((w.alloc (.cells #[.int .i64 k, .int .i64 a, .int .i64 z, .int .i64 n, .string s] 104)).alloc (.cells #[.int .i64 0, .int .i64 0, .int .i64 0, .int .i64 0, .int .i64 0, .int .i64 0, .int .i64 0, .int .i64 0, .int .i64 0, .int .i64 1, .int .i64 2, .int .i64 3, .int .i64 4, .int .i64 5] 139)).alloc
    (.cells #[.string ⟨#[]⟩, .string ⟨#[40]⟩, .string ⟨#[41]⟩, .string ⟨#[35, 40]⟩, .string ⟨#[39]⟩, .string ⟨#[96]⟩, .string ⟨#[44]⟩, .string ⟨#[44, 64]⟩, .string ⟨#[46]⟩] 140) = w3 ∧
    TokAt w3 w.heap.size k n s ∧ Below w.heap.size w w3 ∧ w3.cell? ⟨w.heap.size + 1, 9, none⟩ = some (.int .i64 1) := by
  refine ⟨_, rfl, ?_, bel3b _ _ _ _, ?_⟩
  · obtain ⟨X, hX⟩ : ∃ X, w.alloc (.cells #[.int .i64 k, .int .i64 a, .int .i64 z, .int .i64 n, .string s] 104) = X := ⟨_, rfl⟩
    have hc := fun i v hv => Cd.cells_new w [.int .i64 k, .int .i64 a, .int .i64 z, .int .i64 n, .string s] _ hX i v hv
    have hT : TokAt X w.heap.size k n s := ⟨hc 0 _ rfl, hc 3 _ rfl, hc 4 _ rfl, by rw [← hX, World.size_alloc]; omega⟩
    rw [hX]
    exact hT.below (bel2 _ _ _)
  · obtain ⟨X, hX⟩ : ∃ X, w.alloc (.cells #[.int .i64 k, .int .i64 a, .int .i64 z, .int .i64 n, .string s] 104) = X := ⟨_, rfl⟩
    have hs : X.heap.size = w.heap.size + 1 := by rw [← hX, World.size_alloc]
    rw [hX]
    obtain ⟨Y, hY⟩ : ∃ Y, X.alloc (.cells #[.int .i64 0, .int .i64 0, .int .i64 0, .int .i64 0, .int .i64 0, .int .i64 0, .int .i64 0, .int .i64 0, .int .i64 0, .int .i64 1, .int .i64 2, .int .i64 3, .int .i64 4, .int .i64 5] 139) = Y := ⟨_, rfl⟩
    have hc := Cd.cells_new X [.int .i64 0, .int .i64 0, .int .i64 0, .int .i64 0, .int .i64 0, .int .i64 0, .int .i64 0, .int .i64 0, .int .i64 0, .int .i64 1, .int .i64 2, .int .i64 3, .int .i64 4, .int .i64 5] _ hY 9 _ rfl
    rw [hs] at hc
    rw [hY]
    exact (((Below.refl Y.heap.size Y).alloc (Nat.le_refl _) _).cell (p := ⟨w.heap.size + 1, 9, none⟩) (by rw [← hY, World.size_alloc]; show w.heap.size + 1 < _; omega)).trans hc
end T5
set_option maxRecDepth 100000 in
set_option maxHeartbeats 8000000 in
theorem text5_any (w : World) :
    Calls Tryz.prog 81 #[.agg #[.int .i64 9, .int .i64 0, .int .i64 0, .int .i64 5, .string ⟨#[]⟩]] w fun e w' => e = .returned (.tuple #[.string ⟨#[53]⟩, .int .i64 0]) ∧ Below w.heap.size w w' := by
  have hck : ∀ w, Calls Tryz.prog 43 #[.agg #[.int .i64 1, .int .i64 5, .string ⟨#[]⟩, .slice none 0 0, .slice none 0 0, .slice none 0 0]] w fun e w' => e = .returned (.int .i64 0) ∧ Below w.heap.size w w' := fun w => by
    have h := dCheck_any (F := fun _ => True) Cd.fiveD (.slice none 0 0) (.slice none 0 0) (.slice none 0 0) w (Cd.five_wf 1 ⟨by decide, by decide⟩).wk.1 ((Dt.rep_iff _ _ _ _ _ _).2 ⟨⟨none, 0, rfl, Nat.le_refl _, fun h => absurd rfl h⟩, ⟨none, 0, rfl, Nat.le_refl _, fun h => absurd rfl h⟩, ⟨none, 0, rfl, Nat.le_refl _, fun h => absurd rfl h⟩⟩)
    rw [show Dt.check Cd.fiveD = 0 by kernel_rfl] at h
    exact h
  obtain ⟨w3, hw3, hT, hb3, hk9⟩ := T5.start w 9 0 0 5 ⟨#[]⟩
  have HT := Lib.hid hT
  have HB3 := Lib.hid hb3
  obtain ⟨c0, c3, c4, cl⟩ := hT
  have q0 := cell_regrown c0
  have q3 := cell_regrown c3
  have q4 := cell_regrown c4
  have q9 := cell_regrown hk9
  clear cl hb3
  have cV : ∀ d os, Calls Tryz.prog 43 #[.agg #[.int .i64 1, .int .i64 5, .string ⟨#[]⟩, .slice none 0 0, .slice none 0 0, .slice none 0 0]] (grow (redrawn w3 d) os) fun e w'' => e = .returned (.int .i64 0) ∧ ∃ p : Regrown, w'' = grow (redrawn w3 p.d) p.os := fun d os => Calls.regrown_of (hck _)
  clear hck
  go_enter Tryz.func81, Tryz.ntmps81
  go_wp2
  refine wp_region_quiet_below (by kernel_rfl) (by kernel_rfl) ?_
  repeat (go_big_quiet_step (exact cV _ _))
  refine wpQuiet_nil ?_
  intro _ hw'
  obtain ⟨⟨dq, osq⟩, hw''⟩ := hw'
  subst hw''
  have hbq := below_regrown w3 dq osq
  obtain ⟨w4, hw4⟩ : ∃ w4, grow (redrawn w3 dq) osq = w4 := ⟨_, rfl⟩
  rw [hw4] at hbq ⊢
  have HB4 := Lib.hid (HB3.out.trans (hbq.mono HB3.out.size))
  have hT4 := HT.out.below hbq
  obtain ⟨t0, t3, t4, tl⟩ := hT4
  clear cV q0 q3 q4 q9 hw4 hbq tl c0 c3 c4 hk9 hw3
  have hF : Fx.isF 5 = true := by kernel_rfl
  have HF := Lib.hid hF
  have HD : Hid (Fx.textL 5 = [53]) := by show _ = _; kernel_rfl
  clear hF
  go_wp2_with (go_at_call 97; refine (Text_ok 5 _ HF.out).mono ?_; rintro e w5 ⟨rfl, hb5⟩)
  go_ret2
  exact ⟨by rw [HD.out]; rfl, HB4.out.trans (hb5.mono HB4.out.size)⟩
end Go.Proofs.YtlckjphnbfahgaaGreatDoor
namespace Go.Proofs.YtlckjphnbfahgaaGreatDoor
open Go.RowKit
attribute [local go_sem] Oper.semAt_some
set_option maxRecDepth 100000 in
set_option maxHeartbeats 4000000 in
theorem word5_any (B : Nat) (w : World) (hB : w.heap[B]? = some (.cells #[.slice none 0 0] 80 (0, 0))) :
    Calls Tryz.prog 64 #[.pointer (some ⟨B, 0, none⟩), .agg #[.int .i64 9, .int .i64 0, .int .i64 0, .int .i64 5, .string ⟨#[]⟩]] w fun e w' => e = .returned (.tuple #[]) ∧ (∃ a c, w'.cell? ⟨B, 0, none⟩ = some (.slice a 1 c) ∧ Cd.RowB w.heap.size w' a c [53]) ∧ Keep (fun k => k = B) w w' := by
  obtain ⟨i0, hi, hz0, hz1, hz2⟩ := info_parts Cd.infoB
  obtain ⟨w1, hw1⟩ : ∃ w1, w.alloc (.cells #[.int .i64 9, .int .i64 0, .int .i64 0, .int .i64 5, .string ⟨#[]⟩] 104) = w1 := ⟨_, rfl⟩
  obtain ⟨hb1, hs1, hbt⟩ := Cd.boxC hw1
  obtain ⟨q0, q1, q2, q3, q4⟩ := hbt w1 (Below.refl _ _)
  have hBl : B < w.heap.size := (Array.getElem?_eq_some_iff.1 hB).1
  have hB1 := (hb1.block B hBl).trans hB
  have ht := text5_any w1
  have HB1 := Lib.hid hb1
  clear hb1 hbt
  go_enter Tryz.func64, Tryz.ntmps64
  go_wp2_with (go_at_call 81; refine ht.mono ?_; clear ht hw1 q0 q1 q2 q3 q4; rintro e w2 ⟨rfl, hb2⟩; refine Hid.out ?_)
  refine Lib.hid ?_
  have hB2 := (hb2.block B (by omega)).trans hB1
  have c0 : w2.cell? ⟨B, 0, none⟩ = some (.slice none 0 0) := by rw [Lib.cell_of_heap hB2]; rfl
  have HB2 : Hid (Below w.heap.size w w2) := HB1.out.trans (hb2.mono (by omega))
  have hs2 := HB2.out.size
  have hown : w2.ownsRow w.heap.size 5 1 (.slice none 0 0) 0 [] := World.ownsRow_nil _ _ _ _
  clear hb2
  go_wp2_with (at_builtin; refine Lib.wpList_append_own_string _ rfl _ _ 37 9 rfl w.heap.size 5 i0 Tryz.underlying37 Tryz.underlying9 hi hz0 hz1 hz2 _ _ _ rfl hown ⟨#[53]⟩ rfl (by decide) (by decide) hs2 ?_)
  intro v' w3 hown' hgrow _
  obtain ⟨a3, c3, rfl⟩ := Dt.row_form hown'
  have hB3 := (hgrow.block B (by omega) (by intro e; cases e)).trans hB2
  have d0 : w3.cell? ⟨B, 0, none⟩ = some (.slice none 0 0) := by rw [Lib.cell_of_heap hB3]; rfl
  have f0 : w3.frozen? ⟨B, 0, none⟩ = false := Lib.frozen_of_heap hB3 0
  have hlt := fun k e => (hown'.lt k e).1
  have HR : Hid (Cd.RowB w.heap.size (w3.setCell ⟨B, 0, none⟩ (.slice a3 1 c3)) a3 c3 [53]) := by
    show World.ownsRow _ _ _ _ _ _ _
    exact Keep.own (S := fun k => k = B) hown' ((Keep.refl (fun k => k = B) w3).setCell rfl 0 _) (fun k hk => hk ▸ hBl)
  have HC : Hid ((w3.setCell ⟨B, 0, none⟩ (.slice a3 1 c3)).cell? ⟨B, 0, none⟩ = some (.slice a3 1 c3)) := by
    show _ = _
    exact World.cell?_setCell_same _ _ _ d0
  have HK : Hid (Keep (fun k => k = B) w (w3.setCell ⟨B, 0, none⟩ (.slice a3 1 c3))) := by
    have h23 : Below w.heap.size w w3 := HB2.out.grown hgrow hs2 (fun k e => by cases e)
    exact ((Keep.refl (fun k => k = B) w).below h23).setCell rfl 0 _
  clear hown' hgrow hB hB1 hB2 hB3 hown
  go_wp2
  go_end0
  exact ⟨rfl, ⟨a3, c3, HC.out, HR.out⟩, HK.out⟩
theorem boxD {w w1 : World} {x0 x1 x2 x3 x4 x5 : Value} {t : TypeId} (h : w.alloc (.cells #[x0, x1, x2, x3, x4, x5] t) = w1) : Below w.heap.size w w1 ∧ w1.heap.size = w.heap.size + 1 ∧ w1.cell? ⟨w.heap.size, 0, none⟩ = some x0 ∧ w1.cell? ⟨w.heap.size, 1, none⟩ = some x1 ∧ w1.cell? ⟨w.heap.size, 2, none⟩ = some x2 ∧ w1.cell? ⟨w.heap.size, 3, none⟩ = some x3 ∧ w1.cell? ⟨w.heap.size, 4, none⟩ = some x4 ∧ w1.cell? ⟨w.heap.size, 5, none⟩ = some x5 := by
  obtain ⟨hb, hs⟩ := Cd.below_new (Below.refl _ w) h (Nat.le_refl _)
  have hc := fun i v hv => Cd.cells_new w [x0, x1, x2, x3, x4, x5] t h i v hv
  exact ⟨hb, hs, hc 0 _ rfl, hc 1 _ rfl, hc 2 _ rfl, hc 3 _ rfl, hc 4 _ rfl, hc 5 _ rfl⟩
set_option maxRecDepth 100000 in
theorem quoted5_any (am al at_ : Option Addr) (cm cl ct : Nat) (w : World) :
    Calls Tryz.prog 63 #[.agg #[.int .i64 1, .int .i64 5, .string ⟨#[]⟩, .slice am 0 cm, .slice al 0 cl, .slice at_ 0 ct]] w fun e w' => e = .returned (.int .i64 0) ∧ Below w.heap.size w w' := by
  obtain ⟨w1, hw1⟩ : ∃ w1, w.alloc (.cells #[.int .i64 1, .int .i64 5, .string ⟨#[]⟩, .slice am 0 cm, .slice al 0 cl, .slice at_ 0 ct] 52) = w1 := ⟨_, rfl⟩
  obtain ⟨hb1, -, q0, q1, q2, q3, q4, q5⟩ := boxD hw1
  have HB1 := Lib.hid hb1
  clear hb1
  go_enter Tryz.func63, Tryz.ntmps63
  go_wp2
  go_ret
  exact ⟨rfl, HB1.out⟩
set_option maxRecDepth 100000 in
set_option maxHeartbeats 4000000 in
theorem put5_any (am al at_ : Option Addr) (cm cl ct : Nat) (B : Nat) (w : World) (hB : w.heap[B]? = some (.cells #[.slice none 0 0] 80 (0, 0))) :
    Calls Tryz.prog 44 #[.pointer (some ⟨B, 0, none⟩), .agg #[.int .i64 1, .int .i64 5, .string ⟨#[]⟩, .slice am 0 cm, .slice al 0 cl, .slice at_ 0 ct]] w fun e w' => e = .returned (.tuple #[]) ∧ (∃ a c, w'.cell? ⟨B, 0, none⟩ = some (.slice a 1 c) ∧ Cd.RowB w.heap.size w' a c [53]) ∧ Keep (fun k => k = B) w w' := by
  obtain ⟨w1, hw1⟩ : ∃ w1, w.alloc (.cells #[.int .i64 1, .int .i64 5, .string ⟨#[]⟩, .slice am 0 cm, .slice al 0 cl, .slice at_ 0 ct] 52) = w1 := ⟨_, rfl⟩
  obtain ⟨hb1, hs1, q0, q1, q2, q3, q4, q5⟩ := boxD hw1
  have hBl : B < w.heap.size := (Array.getElem?_eq_some_iff.1 hB).1
  have hB1 := (hb1.block B hBl).trans hB
  have hq := quoted5_any am al at_ cm cl ct w1
  have HB1 := Lib.hid hb1
  have HBB := Lib.hid hB1
  have HQ : Hid (∀ W, Below w1.heap.size w1 W → W.cell? ⟨w.heap.size, 0, none⟩ = some (.int .i64 1) ∧ W.cell? ⟨w.heap.size, 1, none⟩ = some (.int .i64 5)) := fun W hW => ⟨(hW.cell (p := ⟨w.heap.size, 0, none⟩) (by show w.heap.size < _; omega)).trans q0, (hW.cell (p := ⟨w.heap.size, 1, none⟩) (by show w.heap.size < _; omega)).trans q1⟩
  have HS := Lib.hid (show B < w1.heap.size by omega)
  clear hb1 hB hB1 hBl hs1
  go_enter Tryz.func44, Tryz.ntmps44
  go_wp2_with (first | (go_at_call 63; refine hq.mono ?_; clear hq hw1 q0 q1 q2 q3 q4 q5; rintro e w2 ⟨rfl, hb2⟩; obtain ⟨q0, q1⟩ := HQ.out w2 hb2; have hwd := word5_any B w2 ((hb2.block B HS.out).trans HBB.out); have HB2 := Lib.hid (HB1.out.trans (hb2.mono HB1.out.size)); clear hb2) | (go_at_call 64; refine hwd.mono ?_; clear hwd q0 q1; rintro e w3 ⟨rfl, ⟨a3, c3, hc3, hr3⟩, hk3⟩; have HC3 := Lib.hid hc3; have HR3 := Lib.hid hr3; have HK3 := Lib.hid hk3; clear hc3 hr3 hk3))
  go_end0
  refine ⟨rfl, ⟨a3, c3, HC3.out, ?_⟩, ((Keep.refl (fun k => k = B) w).below HB2.out).trans HK3.out⟩
  obtain ⟨h1, h2⟩ := HR3.out
  refine ⟨h1, h2.elim .inl (fun h3 => ?_)⟩
  obtain ⟨g, cap, cur, e1, e2, e3⟩ := h3
  exact .inr ⟨g, cap, cur, e1, Nat.le_trans HB2.out.size e2, e3⟩
set_option maxRecDepth 100000 in
theorem conv_bytes {w : World} {base : Nat} {a : Option Addr} {c : Nat} (l : List UInt8) (h : Cd.RowB base w a c l) :
    (convert 37 9 (.slice a l.length c)).run Tryz.prog w = .ok (.string ⟨l.toArray⟩) w := by
  have h0 : w.ownsRow base 5 1 (.slice a l.length c) l.length (Lib.byteCells l) := h
  obtain ⟨_, h1⟩ := h
  rcases h1 with ⟨e, hn⟩ | ⟨g, cap, cur, e, _, _, _, _, _, _⟩
  · have : l = [] := List.eq_nil_of_length_eq_zero hn
    subst this
    cases e
    have := run_convert_bytes_nil (P := Tryz.prog) w 37 5 Tryz.underlying37 Tryz.underlying5 0 0 9 Tryz.underlying9
    exact this
  · cases e
    have hr := run_convert_bytes_arg (P := Tryz.prog) w 37 5 Tryz.underlying37 Tryz.underlying5 g 0 l.length c (l.map fun c => (c.toNat : Int)) (by simp) (fun i hi => by
      rw [Nat.zero_add, h0.cellAt i (by omega)]
      simp [Lib.byteCells, List.getD, List.getElem?_eq_getElem hi]) 9 Tryz.underlying9
    rw [hr]
    congr 2
    unfold strOfNums
    rw [List.map_map]
    congr 2
    conv => rhs; rw [← List.map_id l]
    apply List.map_congr_left
    intro c _
    simp [Function.comp]
set_option maxRecDepth 100000 in
set_option maxHeartbeats 4000000 in
theorem print5_any {F : Nat → Prop} (am al at_ : Option Addr) (cm cl ct : Nat) (w : World) (hR : Dt.Rep F w Cd.fiveD (.slice am 0 cm) (.slice al 0 cl) (.slice at_ 0 ct)) :
    Calls Tryz.prog 26 #[.agg #[.int .i64 1, .int .i64 5, .string ⟨#[]⟩, .slice am 0 cm, .slice al 0 cl, .slice at_ 0 ct]] w fun e w' => e = .returned (.tuple #[.string ⟨#[53]⟩, .int .i64 0]) ∧ Below w.heap.size w w' := by
  obtain ⟨w1, hw1⟩ : ∃ w1, w.alloc (.cells #[.int .i64 1, .int .i64 5, .string ⟨#[]⟩, .slice am 0 cm, .slice al 0 cl, .slice at_ 0 ct] 52) = w1 := ⟨_, rfl⟩
  obtain ⟨hb1, hs1, q0, q1, q2, q3, q4, q5⟩ := boxD hw1
  have hck := dCheck_any Cd.fiveD _ _ _ w1 (Cd.five_wf 1 ⟨by decide, by decide⟩).wk.1 (hR.below hb1)
  rw [show Dt.check Cd.fiveD = 0 by kernel_rfl] at hck
  have hck2 : Calls Tryz.prog 43 #[.agg #[.int .i64 1, .int .i64 5, .string ⟨#[]⟩, .slice am 0 cm, .slice al 0 cl, .slice at_ 0 ct]] w1 fun e w' => e = .returned (.int .i64 0) ∧ Below w1.heap.size w1 w' := hck
  have HQ : Hid (∀ W, Below w1.heap.size w1 W → W.cell? ⟨w.heap.size, 0, none⟩ = some (.int .i64 1) ∧ W.cell? ⟨w.heap.size, 1, none⟩ = some (.int .i64 5) ∧ W.cell? ⟨w.heap.size, 2, none⟩ = some (.string ⟨#[]⟩) ∧ W.cell? ⟨w.heap.size, 3, none⟩ = some (.slice am 0 cm) ∧ W.cell? ⟨w.heap.size, 4, none⟩ = some (.slice al 0 cl) ∧ W.cell? ⟨w.heap.size, 5, none⟩ = some (.slice at_ 0 ct)) := fun W hW =>
    have hl : w.heap.size < w1.heap.size := by omega
    ⟨(hW.cell (p := ⟨w.heap.size, 0, none⟩) hl).trans q0, (hW.cell (p := ⟨w.heap.size, 1, none⟩) hl).trans q1, (hW.cell (p := ⟨w.heap.size, 2, none⟩) hl).trans q2, (hW.cell (p := ⟨w.heap.size, 3, none⟩) hl).trans q3, (hW.cell (p := ⟨w.heap.size, 4, none⟩) hl).trans q4, (hW.cell (p := ⟨w.heap.size, 5, none⟩) hl).trans q5⟩
  have HB1 := Lib.hid hb1
  clear hb1 hck hs1
  go_enter Tryz.func26, Tryz.ntmps26
  go_upto_region 4 with (go_at_call 43; refine hck2.mono ?_; clear hck2 hw1 q0 q1 q2 q3 q4 q5; rintro e w2 ⟨rfl, hb2⟩; have HB2 := Lib.hid hb2; clear hb2)
  obtain ⟨w3, hw3⟩ : ∃ w3, w2.alloc (.cells #[.slice none 0 0] 80) = w3 := ⟨_, rfl⟩
  obtain ⟨hb3, hs3⟩ := Cd.below_new (Below.refl _ w2) hw3 (Nat.le_refl _)
  have hB3 : w3.heap[w2.heap.size]? = some (.cells #[.slice none 0 0] 80 (0, 0)) := by rw [← hw3]; exact heap_alloc_new w2 _
  have hpt := put5_any am al at_ cm cl ct _ w3 hB3
  obtain ⟨q0, q1, q2, q3, q4, q5⟩ := HQ.out w3 (HB2.out.trans (hb3.mono HB2.out.size))
  have HB3 : Hid (Below w.heap.size w w3) := HB1.out.trans ((HB2.out.trans (hb3.mono HB2.out.size)).mono HB1.out.size)
  have HS2 : Hid (w.heap.size ≤ w2.heap.size) := Nat.le_trans HB1.out.size HB2.out.size
  clear hb3 hB3 hs3
  go_upto_region 8 with (go_at_call 44; refine hpt.mono ?_; clear hpt hw3 q0 q1 q2 q3 q4 q5; rintro e w4 ⟨rfl, ⟨a4, c4, c0, hr4⟩, hk4⟩; have HR4 := Lib.hid hr4; have HB4 : Hid (Below w.heap.size w w4) := HB3.out.trans (hk4.to_below (fun k hk => by have := HS2.out; omega) HB3.out.size); clear hr4 hk4)
  have hcv := conv_bytes [53] HR4.out
  have hcv2 : (convert 37 9 (.slice a4 1 c4)).run Tryz.prog w4 = .ok (.string ⟨#[53]⟩) w4 := hcv
  clear hcv
  go_wp2
  go_ret2
  exact ⟨rfl, HB4.out⟩
theorem Cd.five_text : Cd.HasText (fun _ => ⟨#[53]⟩) Cd.fiveD := by
  refine ⟨by decide, fun F vm vl vt w h => ?_⟩
  obtain ⟨⟨am, cm, e1, h1⟩, ⟨al, cl, e2, h2⟩, ⟨at_, ct, e3, h3⟩⟩ := (Dt.rep_iff _ _ _ _ _ _).1 h
  have f1 : vm = .slice am 0 cm := e1
  have f2 : vl = .slice al 0 cl := e2
  have f3 : vt = .slice at_ 0 ct := e3
  subst f1 f2 f3
  exact print5_any am al at_ cm cl ct w h
end Go.Proofs.YtlckjphnbfahgaaGreatDoor
namespace Go.Proofs.YtlckjphnbfahgaaGreatDoor
open Go.RowKit
attribute [local go_sem] Oper.semAt_some
namespace Cd
/-- the blocks of five -/
structure FiveAt (w : World) (A B C : Nat) (m : Int) : Prop where
  ha : w.heap[A]? = some (.cells #[.int .i64 1, .int .i64 5, .string ⟨#[]⟩, .slice none 0 0, .slice none 0 0, .slice none 0 0] 52 (0, 0))
  hb : w.heap[B]? = some (.cells #[.int .i64 1, .int .i64 0, .int .i64 0, .int .i64 15, .int .i64 0, .int .i64 0] 55 (0, 0))
  hc : w.heap[C]? = some (.cells #[.int .i64 0, .int .i64 0, .int .i64 0, .int .i64 m, .slice (some ⟨B, 0, none⟩) 2 2] 47 (0, 0))
theorem cellAt {w : World} {b : Nat} {cs : Array Value} {t : TypeId} (h : w.heap[b]? = some (.cells cs t (0, 0))) (i : Nat) : w.cell? ⟨b, i, none⟩ = cs[i]? := by
  rw [Lib.cell_of_heap h]
theorem lt_of {w : World} {b : Nat} {o : Obj} (h : w.heap[b]? = some o) : b < w.heap.size := (Array.getElem?_eq_some_iff.1 h).1
theorem FiveAt.rep {w : World} {A B C : Nat} {m : Int} (h : FiveAt w A B C m) : PRep (fun _ => True) w (five m) (.slice (some ⟨C, 0, none⟩) 1 1) (.slice (some ⟨A, 0, none⟩) 1 1) (.slice none 0 0) := by
  have hA := cellAt h.ha
  have hB := cellAt h.hb
  have hC := cellAt h.hc
  refine ⟨⟨_, _, rfl, Nat.le_refl _, fun _ => ⟨C, 0, rfl, trivial, lt_of h.hc, fun j hj => ?_⟩⟩, ⟨_, _, rfl, Nat.le_refl _, fun _ => ⟨A, 0, rfl, trivial, lt_of h.ha, Dt.Reps.of fun j hj => ?_⟩⟩, ⟨_, _, rfl, Nat.le_refl _, fun h => absurd rfl h⟩⟩
  · obtain rfl : j = 0 := by simpa [five] using hj
    refine ⟨hC 0, hC 1, hC 2, hC 3, _, hC 4, ⟨_, _, rfl, Nat.le_refl _, fun _ => ⟨B, 0, rfl, trivial, lt_of h.hb, fun j hj => ?_⟩⟩⟩
    have hj2 : j < 2 := hj
    match j, hj2 with
    | 0, _ => exact ⟨hB 0, hB 1, hB 2⟩
    | 1, _ => exact ⟨hB 3, hB 4, hB 5⟩
  · obtain rfl : j = 0 := by simpa [five] using hj
    refine ⟨.slice none 0 0, .slice none 0 0, .slice none 0 0, ⟨hA 0, hA 1, hA 2, hA 3, hA 4, hA 5⟩, (Dt.rep_iff _ _ _ _ _ _).2 ⟨⟨none, 0, rfl, Nat.le_refl _, fun h => absurd rfl h⟩, ⟨none, 0, rfl, Nat.le_refl _, fun h => absurd rfl h⟩, ⟨none, 0, rfl, Nat.le_refl _, fun h => absurd rfl h⟩⟩⟩
end Cd
set_option maxRecDepth 100000 in
set_option maxHeartbeats 4000000 in
theorem five_any (w : World) :
    Calls Tryz.prog 13 #[] w fun e w' => ∃ A B C, e = .returned (.agg #[.slice (some ⟨C, 0, none⟩) 1 1, .slice (some ⟨A, 0, none⟩) 1 1, .slice none 0 0]) ∧ Cd.FiveAt w' A B C 1 ∧ A ≠ C ∧ B ≠ C ∧ w.heap.size ≤ C ∧ Below w.heap.size w w' := by
  obtain ⟨w1, hw1⟩ : ∃ w1, w.alloc (.cells #[.slice none 0 0, .slice none 0 0, .slice none 0 0] 26) = w1 := ⟨_, rfl⟩
  obtain ⟨hb1, hs1, hbp⟩ := Cd.boxP hw1
  obtain ⟨w2, hw2⟩ : ∃ w2, w1.alloc (.cells #[.int .i64 1, .int .i64 5, .string ⟨#[]⟩, .slice none 0 0, .slice none 0 0, .slice none 0 0] 52) = w2 := ⟨_, rfl⟩
  obtain ⟨w3, hw3⟩ : ∃ w3, w2.alloc (.cells #[.int .i64 1, .int .i64 0, .int .i64 0, .int .i64 15, .int .i64 0, .int .i64 0] 55) = w3 := ⟨_, rfl⟩
  obtain ⟨w4, hw4⟩ : ∃ w4, w3.alloc (.cells #[.int .i64 0, .int .i64 0, .int .i64 0, .int .i64 1, .slice (some ⟨w2.heap.size, 0, none⟩) 2 2] 47) = w4 := ⟨_, rfl⟩
  obtain ⟨hb2, hs2⟩ := Cd.below_new (Below.refl _ w1) hw2 (Nat.le_refl _)
  obtain ⟨hb3, hs3⟩ := Cd.below_new (Below.refl _ w2) hw3 (Nat.le_refl _)
  obtain ⟨hb4, hs4⟩ := Cd.below_new (Below.refl _ w3) hw4 (Nat.le_refl _)
  have hR1 : w1.heap[w.heap.size]? = some (.cells #[.slice none 0 0, .slice none 0 0, .slice none 0 0] 26 (0, 0)) := by rw [← hw1]; exact heap_alloc_new w _
  have hA2 : w2.heap[w1.heap.size]? = some (.cells #[.int .i64 1, .int .i64 5, .string ⟨#[]⟩, .slice none 0 0, .slice none 0 0, .slice none 0 0] 52 (0, 0)) := by rw [← hw2]; exact heap_alloc_new w1 _
  have hB3 : w3.heap[w2.heap.size]? = some (.cells #[.int .i64 1, .int .i64 0, .int .i64 0, .int .i64 15, .int .i64 0, .int .i64 0] 55 (0, 0)) := by rw [← hw3]; exact heap_alloc_new w2 _
  have hC4 : w4.heap[w3.heap.size]? = some (.cells #[.int .i64 0, .int .i64 0, .int .i64 0, .int .i64 1, .slice (some ⟨w2.heap.size, 0, none⟩) 2 2] 47 (0, 0)) := by rw [← hw4]; exact heap_alloc_new w3 _
  have hR4 := (hb4.block _ (by omega)).trans ((hb3.block _ (by omega)).trans ((hb2.block _ (by omega)).trans hR1))
  have hA4 := (hb4.block _ (by omega)).trans ((hb3.block _ (by omega)).trans hA2)
  have hB4 := (hb4.block _ (by omega)).trans hB3
  have hb14 := hb1.trans ((hb2.trans ((hb3.trans (hb4.mono hb3.size)).mono hb2.size)).mono hb1.size)
  have p0 : w4.cell? ⟨w.heap.size, 0, none⟩ = some (.slice none 0 0) := by rw [Cd.cellAt hR4]; rfl
  have p1 : w4.cell? ⟨w.heap.size, 1, none⟩ = some (.slice none 0 0) := by rw [Cd.cellAt hR4]; rfl
  have p2 : w4.cell? ⟨w.heap.size, 2, none⟩ = some (.slice none 0 0) := by rw [Cd.cellAt hR4]; rfl
  have f0 : w4.frozen? ⟨w.heap.size, 0, none⟩ = false := Lib.frozen_of_heap hR4 0
  have f1 : w4.frozen? ⟨w.heap.size, 1, none⟩ = false := Lib.frozen_of_heap hR4 1
  have f2 : w4.frozen? ⟨w.heap.size, 2, none⟩ = false := Lib.frozen_of_heap hR4 2
  obtain ⟨w5, hw5⟩ : ∃ w5, ((w4.setCell ⟨w.heap.size, 0, none⟩ (.slice (some ⟨w3.heap.size, 0, none⟩) 1 1)).setCell ⟨w.heap.size, 1, none⟩ (.slice (some ⟨w1.heap.size, 0, none⟩) 1 1)).setCell ⟨w.heap.size, 2, none⟩ (.slice none 0 0) = w5 := ⟨_, rfl⟩
  have hk5 : Keep (fun k => k = w.heap.size) w4 w5 := by
    rw [← hw5]
    exact (((Keep.refl (fun k => k = w.heap.size) w4).setCell rfl 0 _).setCell rfl 1 _).setCell rfl 2 _
  have HB5 : Hid (Below w.heap.size w w5) := hb14.trans (hk5.to_below (fun k hk => by omega) hb14.size)
  have HF : Hid (Cd.FiveAt w5 w1.heap.size w2.heap.size w3.heap.size 1) := ⟨(hk5.block _ (by omega) (by omega)).trans hA4, (hk5.block _ (by omega) (by omega)).trans hB4, (hk5.block _ (by omega) (by omega)).trans hC4⟩
  have HS : Hid (w1.heap.size ≠ w3.heap.size ∧ w2.heap.size ≠ w3.heap.size ∧ w.heap.size ≤ w3.heap.size) := ⟨by omega, by omega, by omega⟩
  have z0 : w5.cell? ⟨w.heap.size, 0, none⟩ = some (.slice (some ⟨w3.heap.size, 0, none⟩) 1 1) := by
    rw [← hw5]
    rw [World.cell?_setCell_other _ _ _ _ (by intro e; cases e), World.cell?_setCell_other _ _ _ _ (by intro e; cases e)]
    exact World.cell?_setCell_same _ _ _ p0
  have z1 : w5.cell? ⟨w.heap.size, 1, none⟩ = some (.slice (some ⟨w1.heap.size, 0, none⟩) 1 1) := by
    rw [← hw5]
    rw [World.cell?_setCell_other _ _ _ _ (by intro e; cases e)]
    exact World.cell?_setCell_same _ _ _ ((World.cell?_setCell_other _ _ _ _ (by intro e; cases e)).trans p1)
  have z2 : w5.cell? ⟨w.heap.size, 2, none⟩ = some (.slice none 0 0) := by
    rw [← hw5]
    exact World.cell?_setCell_same _ _ _ ((World.cell?_setCell_other _ _ _ _ (by intro e; cases e)).trans ((World.cell?_setCell_other _ _ _ _ (by intro e; cases e)).trans p2))
  obtain ⟨A, hA⟩ : ∃ A, w1.heap.size = A := ⟨_, rfl⟩
  obtain ⟨B, hB⟩ : ∃ B, w2.heap.size = B := ⟨_, rfl⟩
  obtain ⟨C, hC⟩ : ∃ C, w3.heap.size = C := ⟨_, rfl⟩
  rw [hA, hB, hC] at HF
  rw [hA, hB, hC] at HS
  rw [hB] at hw4
  rw [hC, hA] at hw5
  rw [hC] at z0
  rw [hA] at z1
  clear hb1 hs1 hbp hb2 hs2 hb3 hs3 hb4 hs4 hR1 hA2 hB3 hC4 hR4 hA4 hB4 hb14 hk5
  go_enter Tryz.func13, Tryz.ntmps13
  go_wp2
  exact bodyPost_ret (v := .agg #[.slice (some ⟨C, 0, none⟩) 1 1, .slice (some ⟨A, 0, none⟩) 1 1, .slice none 0 0]) (by simp [results, Tryz.results13, go_sem, z0, z1, z2]) rfl ⟨A, B, C, rfl, HF.out, HS.out.1, HS.out.2.1, HS.out.2.2, HB5.out⟩
end Go.Proofs.YtlckjphnbfahgaaGreatDoor
namespace Go.Proofs.YtlckjphnbfahgaaGreatDoor
open Go.RowKit
attribute [local go_sem] Oper.semAt_some
namespace Cd
/-- what Depths answers -/
def DepthsPost (p : Prog) (k : Int) (w : World) (e : Ending) (w' : World) : Prop :=
  if checkP p ≠ 0 then e = .returned (.tuple #[.slice none 0 0, .int .i64 (checkP p)]) ∧ Below w.heap.size w w'
  else if k < 0 ∨ (p.codes.length : Int) ≤ k then e = .returned (.tuple #[.slice none 0 0, .int .i64 6]) ∧ Below w.heap.size w w'
  else ∃ (c : Code) (fin : List Int) (g : Nat), p.codes[k.toNat]? = some c ∧ flowW c.ins 0 (start c.ins.length) 0 = some (fin, c.max) ∧ fin.length = c.ins.length ∧ e = .returned (.tuple #[.slice (some ⟨g, 0, none⟩) fin.length fin.length, .int .i64 0]) ∧ w'.ownsRow w.heap.size 3 1 (.slice (some ⟨g, 0, none⟩) fin.length fin.length) fin.length (fin.map (Value.int .i64)) ∧ Below w.heap.size w w'
end Cd
set_option maxRecDepth 100000 in
set_option maxHeartbeats 8000000 in
theorem depths_any {F : Nat → Prop} (p : Cd.Prog) (k : Int) (vc vk vn : Value) (w : World) (hp : Cd.PRep F w p vc vk vn) (hw : Cd.PWf p) :
    Calls Tryz.prog 14 #[.agg #[vc, vk, vn], .int .i64 k] w (Cd.DepthsPost p k w) := by
  obtain ⟨a1, c1, a2, c2, a3, c3, rfl, rfl, rfl⟩ := hp.forms
  obtain ⟨w1, hw1⟩ : ∃ w1, w.alloc (.cells #[.slice a1 p.codes.length c1, .slice a2 p.consts.length c2, .slice a3 p.names.length c3] 26) = w1 := ⟨_, rfl⟩
  obtain ⟨hb1, hs1, hbp⟩ := Cd.boxP hw1
  obtain ⟨p0, p1, p2⟩ := hbp w1 (Below.refl _ _)
  have hck := check_any p _ _ _ w1 (hp.below hb1) hw
  have HP := Lib.hid hp
  have HB1 := Lib.hid hb1
  have HBP := Lib.hid hbp
  obtain ⟨R, hR⟩ : ∃ R, Cd.checkP p = R := ⟨_, rfl⟩
  have hD : Cd.DepthsPost p k w = fun e w' => Cd.DepthsPost p k w e w' := rfl
  unfold Cd.DepthsPost
  rw [hR] at hck ⊢
  by_cases h0 : R = 0
  case neg =>
    have h0' : (R != 0) = true := bne_iff_ne.2 h0
    simp only [if_pos (show R ≠ 0 from h0)]
    clear hp hw hb1 hbp hR h0 hD
    go_enter Tryz.func14, Tryz.ntmps14
    go_wp2_with (go_at_call 17; refine hck.mono ?_; clear hck hw1 p0 p1 p2; rintro e w2 ⟨rfl, hb2⟩; have HB2 := Lib.hid hb2; clear hb2)
    go_ret2
    exact ⟨rfl, HB1.out.trans (HB2.out.mono HB1.out.size)⟩
  simp only [if_neg (show ¬ R ≠ 0 from fun h => h h0)]
  subst h0
  by_cases h1 : k < 0 ∨ (p.codes.length : Int) ≤ k
  · simp only [if_pos h1]
    clear hD hR
    by_cases h2 : k < 0
    · have h2' : decide (k < 0) = true := decide_eq_true h2
      clear hp hw hb1 hbp h1
      go_enter Tryz.func14, Tryz.ntmps14
      go_wp2_with (go_at_call 17; refine hck.mono ?_; clear hck hw1 p0 p1 p2; rintro e w2 ⟨rfl, hb2⟩; have HB2 := Lib.hid hb2; obtain ⟨p0, p1, p2⟩ := HBP.out w2 hb2; clear hb2)
      go_ret2
      exact ⟨rfl, HB1.out.trans (HB2.out.mono HB1.out.size)⟩
    · have h2' : decide (k < 0) = false := decide_eq_false h2
      have h3' : decide ((p.codes.length : Int) ≤ k) = true := decide_eq_true (by omega)
      clear hp hw hb1 hbp h1 h2
      go_enter Tryz.func14, Tryz.ntmps14
      go_wp2_with (go_at_call 17; refine hck.mono ?_; clear hck hw1 p0 p1 p2; rintro e w2 ⟨rfl, hb2⟩; have HB2 := Lib.hid hb2; obtain ⟨p0, p1, p2⟩ := HBP.out w2 hb2; clear hb2)
      go_ret2
      exact ⟨rfl, HB1.out.trans (HB2.out.mono HB1.out.size)⟩
  · simp only [if_neg h1]
    obtain ⟨j, rfl⟩ : ∃ j : Nat, k = (j : Int) := ⟨k.toNat, by omega⟩
    have hj : j < p.codes.length := by omega
    have hji : (j : Int) < (p.codes.length : Int) := by omega
    have h3' : decide ((p.codes.length : Int) ≤ (j : Int)) = false := decide_eq_false (by omega)
    have hj0 : (0 : Int) ≤ (j : Int) := by omega
    obtain ⟨-, -, hg⟩ := Cd.check_codes hR
    have hgd := Cd.good_good (hg p.codes[j] (List.getElem_mem hj))
    obtain ⟨fin, hfin⟩ := hgd.flow
    obtain ⟨b, o, rfl, -, hbl, -, -, -, -, vi, x4, hi⟩ := Cd.code_at hp.codes j hj
    obtain ⟨ai, ci, rfl⟩ := hi.form
    have hpos : ∀ x ∈ p.codes[j].ins, (Cd.op x.o).a = 5 → 0 ≤ x.a := fun x hx e => by
      obtain ⟨i, hi2, rfl⟩ := List.getElem_of_mem hx
      have h4 := (hgd.ins i hi2).lo
      rw [e] at h4
      have h5 : (i : Int) + 1 ≤ p.codes[j].ins[i].a := h4
      omega
    have hl1 : 1 ≤ p.codes[j].ins.length := List.length_pos_iff.2 hgd.ne
    have hl2 := hgd.len
    obtain ⟨c, hc⟩ : ∃ c, c = p.codes[j] := ⟨_, rfl⟩
    have HCE : Hid (p.codes[j]? = some c) := by show _ = _; rw [hc, List.getElem?_eq_getElem hj]
    rw [← hc] at hfin x4 hi hpos hl1 hl2
    have HI := Lib.hid hi
    have HFIN := Lib.hid hfin
    have HPOS := Lib.hid hpos
    have HL : Hid (1 ≤ c.ins.length ∧ c.ins.length ≤ 4096) := ⟨hl1, hl2⟩
    have HX4 : Hid (∀ W, Below w1.heap.size w1 W → W.cell? ⟨b, o + j * 5 + 4, none⟩ = some (.slice ai c.ins.length ci)) := fun W hW => ((hb1.trans (hW.mono hb1.size)).cell (p := ⟨b, o + j * 5 + 4, none⟩) hbl).trans x4
    clear hp hw hb1 hbp h1 hD hR hg hgd hc hfin x4 hi hpos hl1 hl2 hbl
    go_enter Tryz.func14, Tryz.ntmps14
    go_wp2_with (first | (go_at_call 17; refine hck.mono ?_; clear hck hw1 p0 p1 p2; rintro e w2 ⟨rfl, hb2⟩; have HB2 := Lib.hid hb2; obtain ⟨p0, p1, p2⟩ := HBP.out w2 hb2; have x4 := HX4.out w2 hb2; have HB02 : Hid (Below w.heap.size w w2) := HB1.out.trans (hb2.mono HB1.out.size); have hfl := flow_any _ c.ins w2 (HI.out.below HB02.out) HL.out.1 HL.out.2 HPOS.out; rw [HFIN.out] at hfl; unfold Cd.FlowPost at hfl; simp only at hfl; clear hb2) | (go_at_call 28; refine hfl.mono ?_; clear hfl; rintro e w3 ⟨g, rfl, hln, hrow, hb3⟩; have HLN := Lib.hid hln; have HROW := Lib.hid hrow; have HB3 := Lib.hid hb3; clear hln hrow hb3))
    go_ret2
    refine ⟨c, fin, g, ?_, HFIN.out, HLN.out, ?_, ?_, HB02.out.trans (HB3.out.mono HB02.out.size)⟩
    · rw [Int.toNat_natCast]; exact HCE.out
    · rw [HLN.out]; try rfl
    · rw [HLN.out]; try rfl
      obtain ⟨h1, h2⟩ := HROW.out
      refine ⟨h1, h2.elim .inl (fun h3 => ?_)⟩
      obtain ⟨g', cap, cur, e1, e2, e3⟩ := h3
      exact .inr ⟨g', cap, cur, e1, Nat.le_trans HB02.out.size e2, e3⟩
end Go.Proofs.YtlckjphnbfahgaaGreatDoor
namespace Go.Proofs.YtlckjphnbfahgaaGreatDoor
open Go.RowKit
attribute [local go_sem] Oper.semAt_some
set_option maxRecDepth 100000 in
theorem bytesSame_any {base base' : Nat} (a b : Option Addr) (c c' : Nat) (l : List UInt8) (w : World) (ha : Cd.RowB base w a c l) (hb : Cd.RowB base' w b c' l) :
    Calls Tryz.prog 15 #[.slice a l.length c, .slice b l.length c'] w fun e w' => e = .returned (.bool true) ∧ w = w' := by
  have h1 := conv_bytes l ha
  have h2 := conv_bytes l hb
  obtain ⟨X, hX⟩ : ∃ X : ByteArray, (⟨l.toArray⟩ : ByteArray) = X := ⟨_, rfl⟩
  rw [hX] at h1 h2
  clear hX ha hb
  go_enter Tryz.func15, Tryz.ntmps15
  go_wp2
  go_ret
  exact ⟨rfl, rfl⟩
namespace Cd
def want : List UInt8 := [0, 1, 0, 1, 53, 0, 0, 0, 1, 0, 0, 0, 0, 0, 0, 0, 1, 0, 2, 0, 1, 0, 0, 0, 0, 0, 15, 0, 0, 0, 0]
theorem five_bytes : bytesP (five 1) (fun _ => ⟨#[53]⟩) = want := by kernel_rfl
/-- bytes that lie in a new row -/
theorem new_bytes {w w1 : World} {l : List UInt8} (h : w.alloc (.cells (Lib.byteCells l).toArray 5) = w1) (hl : l.length ≤ 1000) : RowB w.heap.size w1 (some ⟨w.heap.size, 0, none⟩) l.length l := by
  have h1 : w1.heap[w.heap.size]? = some (.cells (Lib.byteCells l).toArray 5 (0, 0)) := by rw [← h]; exact heap_alloc_new w _
  refine ⟨by rw [Lib.byteCells_length, Nat.mul_one], .inr ⟨_, _, _, rfl, Nat.le_refl _, h1, Nat.le_refl _, by unfold maxLen; omega, by simp [Lib.byteCells_length], by rw [Nat.mul_one, List.take_of_length_le (by rw [Lib.byteCells_length]; exact Nat.le_refl _)]⟩⟩
theorem FiveAt.below {w w' : World} {A B C : Nat} {m : Int} (h : FiveAt w A B C m) (hb : Below w.heap.size w w') : FiveAt w' A B C m :=
  ⟨(hb.block _ (lt_of h.ha)).trans h.ha, (hb.block _ (lt_of h.hb)).trans h.hb, (hb.block _ (lt_of h.hc)).trans h.hc⟩
theorem FiveAt.keep {S : Nat → Prop} {w w' : World} {A B C : Nat} {m : Int} (h : FiveAt w A B C m) (hk : Keep S w w') (h1 : ¬ S A) (h2 : ¬ S B) (h3 : ¬ S C) : FiveAt w' A B C m :=
  ⟨(hk.block _ (lt_of h.ha) h1).trans h.ha, (hk.block _ (lt_of h.hb) h2).trans h.hb, (hk.block _ (lt_of h.hc) h3).trans h.hc⟩
theorem FiveAt.set {w : World} {A B C : Nat} {m : Int} (h : FiveAt w A B C m) (h1 : A ≠ C) (h2 : B ≠ C) (n : Int) : FiveAt (w.setCell ⟨C, 3, none⟩ (.int .i64 n)) A B C n := by
  have hk := (Keep.refl (fun k => k = C) w).setCell rfl 3 (.int .i64 n)
  refine ⟨(hk.block _ (lt_of h.ha) h1).trans h.ha, (hk.block _ (lt_of h.hb) h2).trans h.hb, ?_⟩
  have hc := h.hc
  show ((w.heap.modify C _))[C]? = _
  rw [Array.getElem?_modify, if_pos rfl, hc]
  rfl
theorem RowB.keep {S : Nat → Prop} {base : Nat} {w w' : World} {a : Option Addr} {c : Nat} {l : List UInt8} (h : RowB base w a c l) (hk : Keep S w w') (hS : ∀ k, k < w.heap.size → ¬ S k) : RowB base w' a c l := by
  obtain ⟨h1, h2⟩ := h
  refine ⟨h1, h2.elim .inl (fun h3 => ?_)⟩
  obtain ⟨g, cap, cur, e1, e2, e3, e4⟩ := h3
  exact .inr ⟨g, cap, cur, e1, e2, (hk.block g (lt_of e3) (hS g (lt_of e3))).trans e3, e4⟩
/-- a row that is owned, as numbers -/
theorem own_ints {w : World} {base g : Nat} {l : List Int} {n c : Nat} (h : w.ownsRow base 3 1 (.slice (some ⟨g, 0, none⟩) n c) n (l.map (Value.int .i64))) (hl : l.length = n) : Dt.IRow (fun _ => True) w (.slice (some ⟨g, 0, none⟩) n c) l := by
  have h2 := h.2
  rcases h2 with ⟨e, _⟩ | ⟨g', cap, cur, e, e2, e3, e4, e5, e6, e7⟩
  · cases e
  · cases e
    refine ⟨_, _, by rw [hl], by omega, fun _ => ⟨g, 0, rfl, trivial, lt_of e3, fun j hj => ?_⟩⟩
    have := h.cells (g := g) rfl j (.int .i64 l[j]) (by rw [List.getElem?_map, List.getElem?_eq_getElem hj]; rfl)
    rw [addr0] at this
    rw [Nat.zero_add]
    exact this
end Cd
theorem depths5_any {A B C : Nat} (w : World) (hf : Cd.FiveAt w A B C 1) :
    Calls Tryz.prog 14 #[.agg #[.slice (some ⟨C, 0, none⟩) 1 1, .slice (some ⟨A, 0, none⟩) 1 1, .slice none 0 0], .int .i64 0] w fun e w' => ∃ g, e = .returned (.tuple #[.slice (some ⟨g, 0, none⟩) 2 2, .int .i64 0]) ∧ Dt.IRow (fun _ => True) w' (.slice (some ⟨g, 0, none⟩) 2 2) [0, 1] ∧ Below w.heap.size w w' := by
  refine (depths_any (Cd.five 1) 0 _ _ _ w hf.rep (Cd.five_wf 1 ⟨by decide, by decide⟩)).mono ?_
  intro e w' h
  unfold Cd.DepthsPost at h
  rw [if_neg (fun h => h Cd.five_check), if_neg (by rintro (h | h); exact absurd h (by decide); exact absurd h (by decide))] at h
  obtain ⟨c, fin, g, h1, h2, h3, rfl, h4, h5⟩ := h
  obtain rfl : Cd.fiveC 1 = c := Option.some.inj h1
  have h6 := Cd.five_flow
  have h7 : (Cd.fiveC 1).ins.length = 2 := rfl
  rw [h7, h6] at h2
  obtain ⟨rfl, -⟩ := Prod.mk.inj (Option.some.inj h2)
  exact ⟨g, rfl, Cd.own_ints h4 rfl, h5⟩
set_option maxRecDepth 100000 in
set_option maxHeartbeats 8000000 in
theorem awake_any (w : World) :
    Calls Tryz.prog 4 #[] w fun e w' => e = .returned (.bool true) ∧ Below w.heap.size w w' := by
  have h5 := five_any w
  go_enter Tryz.func4, Tryz.ntmps4
  go_upto_region 2 with (first | (go_at_call 13; refine h5.mono ?_; clear h5; rintro e w1 ⟨A, B, C, rfl, hf, -, -, -, hb1⟩; have hby := bytes_any (Cd.five 1) (fun _ => ⟨#[53]⟩) _ _ _ w1 hf.rep (Cd.five_wf 1 ⟨by decide, by decide⟩) Cd.five_check (fun d hd => by { obtain rfl : d = Cd.fiveD := (by simpa [Cd.five] using hd); exact Cd.five_text }) (by rw [Cd.five_bytes]; decide); rw [Cd.five_bytes] at hby; have HB1 := Lib.hid hb1; clear hf hb1) | (go_at_call 12; refine hby.mono ?_; clear hby; rintro e w2 ⟨ab, cb, rfl, hr2, hb2⟩; have HR2 := Lib.hid hr2; have HB2 : Hid (Below w.heap.size w w2) := HB1.out.trans (hb2.mono HB1.out.size); clear hr2 hb2))
  have h5b := five_any w2
  go_upto_region 3 with (first | (go_at_call 13; refine h5b.mono ?_; clear h5b; rintro e w3 ⟨A2, B2, C2, rfl, hf, -, -, -, hb3⟩; have hdp := depths5_any w3 hf; have HB3 : Hid (Below w.heap.size w w3) := HB2.out.trans (hb3.mono HB2.out.size); have HR3 := Lib.hid (HR2.out.below hb3); clear hf hb3) | (go_at_call 14; refine hdp.mono ?_; clear hdp; rintro e w4 ⟨g, rfl, hi4, hb4⟩; have HB4 : Hid (Below w.heap.size w w4) := HB3.out.trans (hb4.mono HB3.out.size); have HI4 := Lib.hid hi4; have HR4 := Lib.hid (HR3.out.below hb4); clear hi4 hb4))
  have h5c := five_any w4
  go_upto_region 4 with (go_at_call 13; refine h5c.mono ?_; clear h5c; rintro e w5 ⟨A3, B3, C3, rfl, hf5, hAC, hBC, hC5, hb5⟩; refine Hid.out ?_)
  refine Lib.hid ?_
  obtain ⟨wa, hwa⟩ : ∃ wa, w5.alloc (.cells #[.slice (some ⟨C3, 0, none⟩) 1 1, .slice (some ⟨A3, 0, none⟩) 1 1, .slice none 0 0] 26) = wa := ⟨_, rfl⟩
  obtain ⟨hba, hsa, hbpa⟩ := Cd.boxP hwa
  obtain ⟨p0a, p1a, p2a⟩ := hbpa wa (Below.refl _ _)
  have hDa : wa.heap[w5.heap.size]? = some (.cells #[.slice (some ⟨C3, 0, none⟩) 1 1, .slice (some ⟨A3, 0, none⟩) 1 1, .slice none 0 0] 26 (0, 0)) := by rw [← hwa]; exact heap_alloc_new w5 _
  have f2a : wa.frozen? ⟨w5.heap.size, 2, none⟩ = false := Lib.frozen_of_heap hDa 2
  obtain ⟨w6, hw6⟩ : ∃ w6, wa.setCell ⟨w5.heap.size, 2, none⟩ (.slice none 0 0) = w6 := ⟨_, rfl⟩
  have hka6 : Keep (fun k => k = w5.heap.size) wa w6 := by rw [← hw6]; exact (Keep.refl (fun k => k = w5.heap.size) wa).setCell rfl 2 _
  have hb6 : Below w5.heap.size w5 w6 := hba.trans (hka6.to_below (fun k hk => by omega) (by omega))
  have hs6 : w6.heap.size = w5.heap.size + 1 := by rw [← hw6, World.size_setCell, hsa]
  have p0 : w6.cell? ⟨w5.heap.size, 0, none⟩ = some (.slice (some ⟨C3, 0, none⟩) 1 1) := by rw [← hw6]; exact (World.cell?_setCell_other _ _ _ _ (by intro e; cases e)).trans p0a
  have p1 : w6.cell? ⟨w5.heap.size, 1, none⟩ = some (.slice (some ⟨A3, 0, none⟩) 1 1) := by rw [← hw6]; exact (World.cell?_setCell_other _ _ _ _ (by intro e; cases e)).trans p1a
  have p2 : w6.cell? ⟨w5.heap.size, 2, none⟩ = some (.slice none 0 0) := by rw [← hw6]; exact World.cell?_setCell_same _ _ _ p2a
  have hf6 := hf5.below hb6
  have c3 : w6.cell? ⟨C3, 3, none⟩ = some (.int .i64 1) := by rw [Cd.cellAt hf6.hc]; rfl
  have f3 : w6.frozen? ⟨C3, 3, none⟩ = false := Lib.frozen_of_heap hf6.hc 3
  obtain ⟨w7, hw7⟩ : ∃ w7, w6.setCell ⟨C3, 3, none⟩ (.int .i64 2) = w7 := ⟨_, rfl⟩
  have hf7 := hf6.set hAC hBC 2
  rw [hw7] at hf7
  have hCl : C3 < w5.heap.size := Cd.lt_of hf5.hc
  have hk67 : Keep (fun k => k = C3) w6 w7 := by rw [← hw7]; exact (Keep.refl (fun k => k = C3) w6).setCell rfl 3 _
  have hk47 : Keep (fun k => k = C3) w4 w7 := (((Keep.refl (fun k => k = C3) w4).below hb5).below hb6).trans hk67
  have HB7 : Hid (Below w.heap.size w w7) := HB4.out.trans (hk47.to_below (fun k hk => by have := HB4.out.size; omega) HB4.out.size)
  have HR7 := Lib.hid (HR4.out.keep hk47 (fun k hk e => by omega))
  have HI7 := Lib.hid (HI4.out.keep hk47 (fun k _ hk e => by omega))
  have HF7 := Lib.hid hf7
  obtain ⟨D, hD⟩ : ∃ D, w5.heap.size = D := ⟨_, rfl⟩
  rw [hD] at p0 p1 p2 hCl p0a p1a p2a f2a hw6
  have hne : D ≠ C3 := by omega
  have z0 := (hk67.cell 0 (by rw [hs6]; omega) (fun e => hne e)).trans p0
  have z1 := (hk67.cell 1 (by rw [hs6]; omega) (fun e => hne e)).trans p1
  have z2 := (hk67.cell 2 (by rw [hs6]; omega) (fun e => hne e)).trans p2
  have HZ7 := Lib.hid (show D < w7.heap.size by have := hk67.size; have := hs6; omega)
  have HZ0 := Lib.hid z0
  have HZ1 := Lib.hid z1
  have HZ2 := Lib.hid z2
  clear hba hsa hbpa hDa hka6 hb6 hf6 hf7 hf5 hCl hk67 hk47 hAC hBC hC5 hb5 hne z0 z1 z2
  go_upto_region 5 with fail
  have hsz : w6.heap.size = w7.heap.size := by rw [← hw7, World.size_setCell]
  clear hw6 hwa p0 p1 p2 p0a p1a p2a f2a c3 f3 hD hs6
  obtain ⟨w8, hw8⟩ : ∃ w8, w7.alloc (.cells #[.int .u8 0, .int .u8 1, .int .u8 0, .int .u8 1, .int .u8 53, .int .u8 0, .int .u8 0, .int .u8 0, .int .u8 1, .int .u8 0, .int .u8 0, .int .u8 0, .int .u8 0, .int .u8 0, .int .u8 0, .int .u8 0, .int .u8 1, .int .u8 0, .int .u8 2, .int .u8 0, .int .u8 1, .int .u8 0, .int .u8 0, .int .u8 0, .int .u8 0, .int .u8 0, .int .u8 15, .int .u8 0, .int .u8 0, .int .u8 0, .int .u8 0] 5) = w8 := ⟨_, rfl⟩
  obtain ⟨hb8, -⟩ := Cd.below_new (Below.refl _ w7) hw8 (Nat.le_refl _)
  have hl8 := Cd.new_bytes (l := Cd.want) hw8 (by decide)
  have hl8b : Cd.RowB w7.heap.size w8 (some ⟨w7.heap.size, 0, none⟩) 31 Cd.want := hl8
  have hbs := bytesSame_any ab (some ⟨w7.heap.size, 0, none⟩) cb 31 Cd.want w8 (HR7.out.below hb8) hl8b
  have hbs2 : Calls Tryz.prog 15 #[.slice ab Cd.want.length cb, .slice (some ⟨w7.heap.size, 0, none⟩) 31 31] w8 fun e w' => e = .returned (.bool true) ∧ w8 = w' := hbs
  obtain ⟨w9, hw9⟩ : ∃ w9, w8.alloc (.cells #[.int .i64 0, .int .i64 1] 3) = w9 := ⟨_, rfl⟩
  obtain ⟨hi9, hb9, -⟩ := Cd.new_ints (l := [0, 1]) hw9
  have hb79 := hb8.trans (hb9.mono hb8.size)
  have hie := iEqual_any _ _ [0, 1] [0, 1] w9 (HI7.out.below hb79) hi9 (by decide) (by decide)
  rw [show decide (([0, 1] : List Int) = [0, 1]) = true by decide] at hie
  have hie2 : Calls Tryz.prog 16 #[.slice (some ⟨g, 0, none⟩) 2 2, .slice (some ⟨w8.heap.size, 0, none⟩) 2 2] w9 fun e w' => e = .returned (.bool true) ∧ Below w9.heap.size w9 w' := hie
  have HB79 := Lib.hid hb79
  clear hbs hb8 hl8 hl8b hi9 hb9 hie hb79
  go_wp2_with (first | (go_at_call 15; refine hbs2.mono ?_; clear hbs2 hsz hw7; rintro e w10 ⟨rfl, rfl⟩) | (go_at_call 16; refine hie2.mono ?_; clear hie2 hw8 hw9; rintro e w10 ⟨rfl, hb10⟩; have hb710 := HB79.out.trans (hb10.mono HB79.out.size); have z0 := (hb710.cell (p := ⟨D, 0, none⟩) HZ7.out).trans HZ0.out; have z1 := (hb710.cell (p := ⟨D, 1, none⟩) HZ7.out).trans HZ1.out; have z2 := (hb710.cell (p := ⟨D, 2, none⟩) HZ7.out).trans HZ2.out; have hck := check_any (Cd.five 2) _ _ _ w10 (HF7.out.below hb710).rep (Cd.five_wf 2 ⟨by decide, by decide⟩); rw [Cd.five_check2] at hck; have HB10 : Hid (Below w.heap.size w w10) := HB7.out.trans (hb710.mono HB7.out.size); clear hb10 hb710) | (go_at_call 17; refine hck.mono ?_; clear hck; rintro e w11 ⟨rfl, hb11⟩; have HB11 := Lib.hid (HB10.out.trans (hb11.mono HB10.out.size)); clear hb11))
  go_ret
  exact ⟨rfl, HB11.out⟩
end Go.Proofs.YtlckjphnbfahgaaGreatDoor
