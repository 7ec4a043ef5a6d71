/-
 The reference's Check at a datum without parts: goes.
-/
import Derived.Test.YtcopdfihaheplaaTxG
import Derived.Maps.AppendAt
import Derived.Laws.OwnMore
namespace Go.Proofs.Ytcopdfihaheplaa
open Go.RowKit
theorem alone_any (k : Nat) (n : Int) (s : ByteArray) (w : World) (hs : s.size ≤ 1000000) (hk : 1 ≤ k ∧ k ≤ 5) :
  Calls Try.prog 70 #[.agg #[.int .i64 (k : Int), .int .i64 n, .string s, .slice none 0 0, .slice none 0 0, .slice none 0 0]] w fun e w' => e = .returned (.bool (Tx.ok k n s.data.toList)) ∧ Below w.heap.size w w' := by
 match k, hk with
 | 1, _ => exact alone1_any n s w hs
 | 2, _ => exact alone2_any n s w hs
 | 3, _ => exact alone3_any n s w hs
 | 4, _ => exact alone4_any n s w hs
 | 5, _ => exact alone5_any n s w hs
theorem Keep.setNew {S : Nat → Prop} {a w : World} (h : Keep S a w) {g : Nat} (hg : a.heap.size ≤ g) (j : Nat) (v : Value) : Keep S a (w.setCell ⟨g, j, none⟩ v) :=
 ⟨h.os, h.tape, h.output, by simpa [World.setCell] using h.size, fun k hk hne => (Below.heap_setCell _ _ _ _ (fun e => by have : k = g := e; omega)).trans (h.block k hk hne)⟩
def Tx.six (V : World) (g : Nat) (v0 v1 v2 v3 v4 v5 : Value) : World := (((((V.setCell ⟨g, 0, none⟩ v0).setCell ⟨g, 1, none⟩ v1).setCell ⟨g, 2, none⟩ v2).setCell ⟨g, 3, none⟩ v3).setCell ⟨g, 4, none⟩ v4).setCell ⟨g, 5, none⟩ v5
theorem Tx.six_cell (V : World) (g : Nat) (v0 v1 v2 v3 v4 v5 : Value) (b j : Nat) (h : b ≠ g) : (Tx.six V g v0 v1 v2 v3 v4 v5).cell? ⟨b, j, none⟩ = V.cell? ⟨b, j, none⟩ := by
 unfold Tx.six
 rw [World.cell?_setCell_other _ _ _ _ (by simp), World.cell?_setCell_other _ _ _ _ (by simp), World.cell?_setCell_other _ _ _ _ (by simp), World.cell?_setCell_other _ _ _ _ (by simp), World.cell?_setCell_other _ _ _ _ (by simp), World.cell?_setCell_other _ _ _ _ (by simp)]
theorem Tx.six_frz (V : World) (g : Nat) (v0 v1 v2 v3 v4 v5 : Value) (b j : Nat) : (Tx.six V g v0 v1 v2 v3 v4 v5).frozen? ⟨b, j, none⟩ = V.frozen? ⟨b, j, none⟩ := by
 unfold Tx.six
 rw [World.frozen?_setCell, World.frozen?_setCell, World.frozen?_setCell, World.frozen?_setCell, World.frozen?_setCell, World.frozen?_setCell]
theorem Tx.six_size (V : World) (g : Nat) (v0 v1 v2 v3 v4 v5 : Value) : (Tx.six V g v0 v1 v2 v3 v4 v5).heap.size = V.heap.size := by
 unfold Tx.six; simp [World.setCell]
theorem Tx.six_keep {S : Nat → Prop} {a V : World} (h : Keep S a V) (g : Nat) (hg : a.heap.size ≤ g) (v0 v1 v2 v3 v4 v5 : Value) : Keep S a (Tx.six V g v0 v1 v2 v3 v4 v5) :=
 (((((h.setNew hg 0 v0).setNew hg 1 v1).setNew hg 2 v2).setNew hg 3 v3).setNew hg 4 v4).setNew hg 5 v5
structure Tx.Wk (w : World) (B : Nat) (e : Int) : Prop where
 c0 : w.cell? ⟨B, 0, none⟩ = some (.slice none 0 0)
 c1 : w.cell? ⟨B, 1, none⟩ = some (.slice none 0 0)
 c2 : w.cell? ⟨B, 2, none⟩ = some (.int .i64 e)
 fz : ∀ j, w.frozen? ⟨B, j, none⟩ = false
 lt : B < w.heap.size
theorem Tx.Wk.below {w w' : World} {B : Nat} {e : Int} (h : Tx.Wk w B e) (hb : Below w.heap.size w w') : Tx.Wk w' B e :=
 ⟨(hb.cell (p := ⟨B, 0, none⟩) h.lt).trans h.c0, (hb.cell (p := ⟨B, 1, none⟩) h.lt).trans h.c1, (hb.cell (p := ⟨B, 2, none⟩) h.lt).trans h.c2, fun j => (hb.frozen (p := ⟨B, j, none⟩) h.lt).trans (h.fz j), Nat.lt_of_lt_of_le h.lt hb.size⟩
structure Tx.Aft (a w : World) (B D : Nat) : Prop where
 m1 : w.cell? ⟨B, 1, none⟩ = some (.slice none 0 0)
 m2 : w.cell? ⟨B, 2, none⟩ = some (.int .i64 0)
 mf : ∀ j, w.frozen? ⟨B, j, none⟩ = false
 m4 : w.cell? ⟨D, 4, none⟩ = some (.slice none 0 0)
 m5 : w.cell? ⟨D, 5, none⟩ = some (.slice none 0 0)
 hk : Keep (fun x => x = B) a w
 lb : B < w.heap.size
 ld : D < w.heap.size
 ne : D ≠ B
structure Tx.Aft2 (a w : World) (B D : Nat) : Prop where
 m2 : w.cell? ⟨B, 2, none⟩ = some (.int .i64 0)
 m4 : w.cell? ⟨D, 4, none⟩ = some (.slice none 0 0)
 m5 : w.cell? ⟨D, 5, none⟩ = some (.slice none 0 0)
 hk : Keep (fun x => x = B) a w
theorem Tx.Aft.gen {P : Program} {c : Code} {Q : Exit → Act → World → Prop} {act : Act} {a X : World} {B D : Nat} (h : Tx.Aft a X B D) (v : Value) (o1 o2 : Obj) (k : ∀ Y, Tx.Aft2 a Y B D → Code.wp P c Q act Y) :
  Code.wp P c Q act ((((X.setCell ⟨B, 1, none⟩ v).alloc o1).alloc o2).drew) := by
 have hs : (X.setCell ⟨B, 1, none⟩ v).heap.size = X.heap.size := by simp [World.setCell]
 have hb : Below (X.setCell ⟨B, 1, none⟩ v).heap.size (X.setCell ⟨B, 1, none⟩ v) ((((X.setCell ⟨B, 1, none⟩ v).alloc o1).alloc o2).drew) := (((Below.refl _ _).alloc (Nat.le_refl _) o1).alloc (by rw [World.size_alloc]; omega) o2).drew
 refine k _ ⟨?_, ?_, ?_, (h.hk.setCell rfl 1 v).below hb⟩
 ·rw [hb.cell (p := ⟨B, 2, none⟩) (by rw [hs]; exact h.lb), World.cell?_setCell_other _ _ _ _ (by simp)]; exact h.m2
 ·rw [hb.cell (p := ⟨D, 4, none⟩) (by rw [hs]; exact h.ld), World.cell?_setCell_other _ _ _ _ (by simp)]; exact h.m4
 ·rw [hb.cell (p := ⟨D, 5, none⟩) (by rw [hs]; exact h.ld), World.cell?_setCell_other _ _ _ _ (by simp)]; exact h.m5
set_option maxRecDepth 100000 in
set_option maxHeartbeats 4000000 in
theorem goesR_any (B k : Nat) (n : Int) (s : ByteArray) (w : World) (h : Tx.Wk w B 0) (hs : s.size ≤ 1000000) (hk : 1 ≤ k ∧ k ≤ 5) :
  Calls Try.prog 46 #[.pointer (some ⟨B, 0, none⟩), .agg #[.int .i64 (k : Int), .int .i64 n, .string s, .slice none 0 0, .slice none 0 0, .slice none 0 0], .int .i64 1] w
   fun e w' => e = .returned (.tuple #[]) ∧ w'.cell? ⟨B, 2, none⟩ = some (.int .i64 (if Tx.ok k n s.data.toList = true then 0 else 20)) ∧ Keep (fun x => x = B) w w' := by
 have hal := fun w => alone_any k n s w hs hk
 obtain ⟨R, hR⟩ : ∃ R, Tx.ok k n s.data.toList = R := ⟨_, rfl⟩
 rw [hR] at hal ⊢
 clear hR
 obtain ⟨w1, hw1⟩ : ∃ w1, w.alloc (.cells #[.int .i64 (k : Int), .int .i64 n, .string s, .slice none 0 0, .slice none 0 0, .slice none 0 0] 25) = w1 := ⟨_, rfl⟩
 have hb1 : Below w.heap.size w w1 := by rw [← hw1]; exact (Below.refl _ _).alloc (Nat.le_refl _) _
 have hE1 := h.below hb1
 have hD1 : Tx.DAt w1 w.heap.size k n s := by rw [← hw1]; exact Tx.DAt.alloc w k n s
 obtain ⟨d0, d1, d2, d3, d4, d5, dl⟩ := hD1
 have c0 := hE1.c0
 have c2 := hE1.c2
 have HE1 := Lib.hid hE1
 have HB1 := Lib.hid hb1
 have HD1 := Lib.hid (show Tx.DAt w1 w.heap.size k n s from ⟨d0, d1, d2, d3, d4, d5, dl⟩)
 clear hE1 hb1 dl
 go_enter Try.func46, Try.ntmps46
 go_wp2_with fail
 refine (hal _).mono ?_
 rintro e w2 ⟨rfl, hb2⟩
 have hE2 := HE1.out.below hb2
 have hD2 := HD1.out.below hb2
 have HK2 := Lib.hid (((Keep.refl (fun x => x = B) w).below HB1.out).below hb2)
 have HE2 := Lib.hid hE2
 have HD2 := Lib.hid hD2
 obtain ⟨b0, b1, b2, fz, bl⟩ := hE2
 obtain ⟨e0, e1, e2, e3, e4, e5, el⟩ := hD2
 clear hb2 hw1 c0 c2 d0 d1 d2 d3 d4 d5 hal
 cases R
 case false =>
  go_wp2
  refine bodyPost_ret (v := .tuple #[]) (by simp [results, Try.results46, go_sem]) rfl ?_
  exact ⟨rfl, World.cell?_setCell_same _ _ _ b2, HK2.out.setCell rfl 2 _⟩
 case true =>
  have hcond : ¬ (281474976710656 < Builtin.nextslicecap 1 0 * Try.t25.bytes) := by decide
  obtain ⟨N, hN⟩ : ∃ N, (Question.appendCap 1 0 25).cut (w2.tape (w2.drawn + 1) (Question.appendCap 1 0 25)) = N := ⟨_, rfl⟩
  obtain ⟨Z, hZ⟩ : ∃ Z, Builtin.zeroCells #[.int .i64 0, .int .i64 0, .string ⟨#[]⟩, .slice none 0 0, .slice none 0 0, .slice none 0 0] (N - 1) = Z := ⟨_, rfl⟩
  obtain ⟨X, hX⟩ : ∃ X, w2.alloc (.cells #[.int .i64 0, .int .i64 0, .string ⟨#[]⟩, .slice none 0 0, .slice none 0 0, .slice none 0 0] 25) = X := ⟨_, rfl⟩
  obtain ⟨W3, hW3⟩ : ∃ W3, (X.alloc (.cells (#[.int .i64 0, .int .i64 0, .string ⟨#[]⟩, .slice none 0 0, .slice none 0 0, .slice none 0 0] ++ Z) 25)).drew.drew = W3 := ⟨_, rfl⟩
  have hXs : X.heap.size = w2.heap.size + 1 := by rw [← hX]; simp
  have hh : W3.heap[w2.heap.size + 1]? = some (.cells (#[.int .i64 0, .int .i64 0, .string ⟨#[]⟩, .slice none 0 0, .slice none 0 0, .slice none 0 0] ++ Z) 25 (0, 0)) := by
   rw [← hW3, ← hXs]
   show (X.heap.push _)[X.heap.size]? = _
   simp
  have hbW : Below w2.heap.size w2 W3 := by
   rw [← hW3]
   exact ((show Below w2.heap.size w2 X by rw [← hX]; exact (Below.refl _ _).alloc (Nat.le_refl _) _).alloc (by omega) _).drew.drew
  have q0 : W3.cell? ⟨w2.heap.size + 1, 0, none⟩ = some (.int .i64 0) := by rw [Lib.cell_of_heap hh, Array.getElem?_append_left (by decide)]; rfl
  have q1 : W3.cell? ⟨w2.heap.size + 1, 1, none⟩ = some (.int .i64 0) := by rw [Lib.cell_of_heap hh, Array.getElem?_append_left (by decide)]; rfl
  have q2 : W3.cell? ⟨w2.heap.size + 1, 2, none⟩ = some (.string ⟨#[]⟩) := by rw [Lib.cell_of_heap hh, Array.getElem?_append_left (by decide)]; rfl
  have q3 : W3.cell? ⟨w2.heap.size + 1, 3, none⟩ = some (.slice none 0 0) := by rw [Lib.cell_of_heap hh, Array.getElem?_append_left (by decide)]; rfl
  have q4 : W3.cell? ⟨w2.heap.size + 1, 4, none⟩ = some (.slice none 0 0) := by rw [Lib.cell_of_heap hh, Array.getElem?_append_left (by decide)]; rfl
  have q5 : W3.cell? ⟨w2.heap.size + 1, 5, none⟩ = some (.slice none 0 0) := by rw [Lib.cell_of_heap hh, Array.getElem?_append_left (by decide)]; rfl
  have qf := fun j => Lib.frozen_of_heap hh j
  rw [← hX] at hW3
  have hB3 := HE2.out.below hbW
  have hD3 := HD2.out.below hbW
  have t0 := hB3.c0
  have t1 := hB3.c1
  have t2 := hB3.c2
  have tf := hB3.fz
  have r0 := hD3.c0
  have r1 := hD3.c1
  have r2 := hD3.c2
  have r3 := hD3.c3
  have r4 := hD3.c4
  have r5 := hD3.c5
  have HB3 := Lib.hid hB3
  have HD3 := Lib.hid hD3
  have HK3 := Lib.hid (HK2.out.below hbW)
  have HBL := Lib.hid bl
  have hbA : Below w2.heap.size w2 (w2.alloc (.cells #[.int .i64 0, .int .i64 0, .string ⟨#[]⟩, .slice none 0 0, .slice none 0 0, .slice none 0 0] 25)).drew := ((Below.refl _ _).alloc (Nat.le_refl _) _).drew
  have hBA := HE2.out.below hbA
  have hDA := HD2.out.below hbA
  have u0 := hBA.c0
  have x0 := hDA.c0
  have x1 := hDA.c1
  have x2 := hDA.c2
  have x3 := hDA.c3
  have x4 := hDA.c4
  have x5 := hDA.c5
  have hne : B ≠ w2.heap.size + 1 := by omega
  clear hB3 hD3 hh hXs hX hbW bl el hbA hBA hDA
  obtain ⟨w5, hw5⟩ : ∃ w5, Tx.six (W3.setCell ⟨B, 0, none⟩ (.slice (some ⟨w2.heap.size + 1, 0, none⟩) 1 N)) (w2.heap.size + 1) (.int .i64 (k : Int)) (.int .i64 n) (.string s) (.slice none 0 0) (.slice none 0 0) (.slice none 0 0) = w5 := ⟨_, rfl⟩
  obtain ⟨w6, hw6⟩ : ∃ w6, (Tx.six W3 (w2.heap.size + 1) (.int .i64 (k : Int)) (.int .i64 n) (.string s) (.slice none 0 0) (.slice none 0 0) (.slice none 0 0)).setCell ⟨B, 0, none⟩ (.slice (some ⟨w2.heap.size + 1, 0, none⟩) 1 N) = w6 := ⟨_, rfl⟩
  have hneD : w.heap.size ≠ w2.heap.size + 1 := by have := HK2.out.size; omega
  have hneB : w.heap.size ≠ B := by have := h.lt; omega
  have HA5 : Hid (Tx.Aft w w5 B w.heap.size) := by
   show Tx.Aft _ _ _ _
   rw [← hw5]
   refine ⟨?_, ?_, ?_, ?_, ?_, ?_, ?_, ?_, hneB⟩
   ·rw [Tx.six_cell _ _ _ _ _ _ _ _ _ _ hne, World.cell?_setCell_other _ _ _ _ (by simp)]; exact t1
   ·rw [Tx.six_cell _ _ _ _ _ _ _ _ _ _ hne, World.cell?_setCell_other _ _ _ _ (by simp)]; exact t2
   ·intro j; rw [Tx.six_frz, World.frozen?_setCell]; exact tf j
   ·rw [Tx.six_cell _ _ _ _ _ _ _ _ _ _ hneD, World.cell?_setCell_other _ _ _ _ (by simp)]; exact r4
   ·rw [Tx.six_cell _ _ _ _ _ _ _ _ _ _ hneD, World.cell?_setCell_other _ _ _ _ (by simp)]; exact r5
   ·exact Tx.six_keep (HK3.out.setCell rfl 0 _) _ (by have := HK2.out.size; omega) _ _ _ _ _ _
   ·rw [Tx.six_size]; simpa [World.setCell] using HB3.out.lt
   ·rw [Tx.six_size]; simpa [World.setCell] using HD3.out.lt
  have HA6 : Hid (Tx.Aft w w6 B w.heap.size) := by
   show Tx.Aft _ _ _ _
   rw [← hw6]
   refine ⟨?_, ?_, ?_, ?_, ?_, ?_, ?_, ?_, hneB⟩
   ·rw [World.cell?_setCell_other _ _ _ _ (by simp), Tx.six_cell _ _ _ _ _ _ _ _ _ _ hne]; exact t1
   ·rw [World.cell?_setCell_other _ _ _ _ (by simp), Tx.six_cell _ _ _ _ _ _ _ _ _ _ hne]; exact t2
   ·intro j; rw [World.frozen?_setCell, Tx.six_frz]; exact tf j
   ·rw [World.cell?_setCell_other _ _ _ _ (by simp), Tx.six_cell _ _ _ _ _ _ _ _ _ _ hneD]; exact r4
   ·rw [World.cell?_setCell_other _ _ _ _ (by simp), Tx.six_cell _ _ _ _ _ _ _ _ _ _ hneD]; exact r5
   ·exact (Tx.six_keep HK3.out _ (by have := HK2.out.size; omega) _ _ _ _ _ _).setCell rfl 0 _
   ·have := HB3.out.lt; rw [← Tx.six_size W3 (w2.heap.size + 1) (.int .i64 (k : Int)) (.int .i64 n) (.string s) (.slice none 0 0) (.slice none 0 0) (.slice none 0 0)] at this; simpa [World.setCell] using this
   ·have := HD3.out.lt; rw [← Tx.six_size W3 (w2.heap.size + 1) (.int .i64 (k : Int)) (.int .i64 n) (.string s) (.slice none 0 0) (.slice none 0 0) (.slice none 0 0)] at this; simpa [World.setCell] using this
  unfold Tx.six at hw5 hw6
  have HW5 := Lib.hid hw5
  have HW6 := Lib.hid hw6
  clear hw5 hw6 hneD hneB
  go_wp2
  go_region
  all_goals
   first
   | (rw [HW5.out]; have HA := HA5)
   | (rw [HW6.out]; have HA := HA6)
   clear HW5 HW6 HA5 HA6 hW3 q0 q1 q2 q3 q4 q5 qf t0 t1 t2 tf r0 r1 r2 r3 r4 r5 u0 x0 x1 x2 x3 x4 x5 b0 b1 b2 fz e0 e1 e2 e3 e4 e5 hN hZ
   obtain ⟨m1, m2, mf, m4, m5, mk, lb, ld, mn⟩ := HA.out
   clear mk
   go_wp2_with fail
   refine HA.out.gen _ _ _ ?_
   intro Y hY
   have HY := Lib.hid hY
   obtain ⟨y2, y4, y5, yk⟩ := hY
   clear yk m1 m2 mf m4 m5 lb ld mn HA
   go_loop [6] (fun v => v = .int .i64 0) (fun _ => 0)
   case atStart => rfl
   case round =>
    subst hrel
    go_wp2_with fail
    go_loop [7] (fun v => v = .int .i64 0) (fun _ => 0)
    case atStart => rfl
    case round =>
     subst hrel
     go_wp2
     go_end0
     exact ⟨rfl, HY.out.m2, HY.out.hk⟩
end Go.Proofs.Ytcopdfihaheplaa
