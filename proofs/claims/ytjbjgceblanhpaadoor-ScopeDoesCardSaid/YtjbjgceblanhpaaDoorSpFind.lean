/-
  scope.Table.Find.
-/
import Derived.Test.YtjbjgceblanhpaaDoorRq
import Derived.Test.YtjbjgceblanhpaaDoorSpEq
import Derived.Test.YtjbjgceblanhpaaDoorSpFindP
namespace Go.Proofs.YtjbjgceblanhpaaDoor
open Go.RowKit Go.Shelf
attribute [local go_sem] Oper.semAt_some
namespace Sp
open Dt
/-- what is seen, as it is handed back -/
def Seen.val (x : Seen) : Value := .agg #[.int .i64 x.scope, .int .i64 x.what, .string x.name]
/-- what Find begins with -/
structure FindStart (w w1 w2 w3 w4 : World) (F : Nat → Prop) (base T mb : Nat) (vl : Value) (xs : List B) (t : Tbl) (x : D) (vm vL vt : Value) : Prop where
  tab : Tab w4 base T vl mb xs t
  rep : Rep (fun k => k < w.heap.size) w4 x vm vL vt
  t10 : T10B w.heap.size w4
  mu : ∀ k, Mut T vl mb k → k < w.heap.size
  p0 : w4.cell? ⟨w.heap.size, 0, none⟩ = some (.pointer (some ⟨T, 0, none⟩))
  bx : Box w4 w1.heap.size x vm vL vt
  fx : ∀ j, w4.frozen? ⟨w1.heap.size, j, none⟩ = false
  r : w4.cell? ⟨w2.heap.size, 0, none⟩ = some (.int .i64 0) ∧ w4.cell? ⟨w2.heap.size, 1, none⟩ = some (.int .i64 0) ∧ w4.cell? ⟨w2.heap.size, 2, none⟩ = some (.string ⟨#[]⟩) ∧ w4.cell? ⟨w3.heap.size, 0, none⟩ = some (.int .i64 0)
  f : w4.frozen? ⟨w2.heap.size, 0, none⟩ = false ∧ w4.frozen? ⟨w2.heap.size, 1, none⟩ = false ∧ w4.frozen? ⟨w2.heap.size, 2, none⟩ = false ∧ w4.frozen? ⟨w3.heap.size, 0, none⟩ = false
  bel : Below w.heap.size w w4
  s1 : w1.heap.size = w.heap.size + 1
  s2 : w2.heap.size = w.heap.size + 2
  s3 : w3.heap.size = w.heap.size + 3
  s4 : w4.heap.size = w.heap.size + 4
theorem FindStart.rbel {w w1 w2 w3 w4 w5 : World} {F : Nat → Prop} {base T mb : Nat} {vl : Value} {xs : List B} {t : Tbl} {x : D} {vm vL vt : Value} (h : FindStart w w1 w2 w3 w4 F base T mb vl xs t x vm vL vt) (hb : Below w4.heap.size w4 w5) :
    (w5.cell? ⟨w2.heap.size, 0, none⟩ = some (.int .i64 0) ∧ w5.cell? ⟨w2.heap.size, 1, none⟩ = some (.int .i64 0) ∧ w5.cell? ⟨w2.heap.size, 2, none⟩ = some (.string ⟨#[]⟩) ∧ w5.cell? ⟨w3.heap.size, 0, none⟩ = some (.int .i64 0)) ∧
    w5.frozen? ⟨w2.heap.size, 0, none⟩ = false ∧ w5.frozen? ⟨w2.heap.size, 1, none⟩ = false ∧ w5.frozen? ⟨w2.heap.size, 2, none⟩ = false ∧ w5.frozen? ⟨w3.heap.size, 0, none⟩ = false := by
  have l2 : w2.heap.size < w4.heap.size := block_lt_of_cell h.r.1
  have l3 : w3.heap.size < w4.heap.size := block_lt_of_cell h.r.2.2.2
  exact ⟨⟨(hb.cell (p := ⟨w2.heap.size, 0, none⟩) l2).trans h.r.1, (hb.cell (p := ⟨w2.heap.size, 1, none⟩) l2).trans h.r.2.1, (hb.cell (p := ⟨w2.heap.size, 2, none⟩) l2).trans h.r.2.2.1, (hb.cell (p := ⟨w3.heap.size, 0, none⟩) l3).trans h.r.2.2.2⟩,
    (hb.frozen (p := ⟨w2.heap.size, 0, none⟩) l2).trans h.f.1, (hb.frozen (p := ⟨w2.heap.size, 1, none⟩) l2).trans h.f.2.1, (hb.frozen (p := ⟨w2.heap.size, 2, none⟩) l2).trans h.f.2.2.1, (hb.frozen (p := ⟨w3.heap.size, 0, none⟩) l3).trans h.f.2.2.2⟩
theorem FindStart.bx3 {w w1 w2 w3 w4 w5 : World} {F : Nat → Prop} {base T mb : Nat} {vl : Value} {xs : List B} {t : Tbl} {x : D} {vm vL vt : Value} (h : FindStart w w1 w2 w3 w4 F base T mb vl xs t x vm vL vt) (hb : Below w4.heap.size w4 w5) : w5.cell? ⟨w1.heap.size, 3, none⟩ = some vm :=
  (hb.cell (p := ⟨w1.heap.size, 3, none⟩) (block_lt_of_cell h.bx.2.2.2.1)).trans h.bx.2.2.2.1
theorem FindStart.mk' {w w1 w2 w3 w4 : World} {F : Nat → Prop} {base T mb : Nat} {vl : Value} {xs : List B} {t : Tbl} {x : D} {vm vL vt : Value} (h : Tab w base T vl mb xs t) (hR : Rep F w x vm vL vt) (hT : T10 w)
    (hw1 : w.alloc (.cells #[.pointer (some ⟨T, 0, none⟩)] 32) = w1) (hw2 : w1.alloc (.cells #[.int .i64 x.k, .int .i64 x.n, .string x.s, vm, vL, vt] 26) = w2) (hw3 : w2.alloc (.cells #[.int .i64 0, .int .i64 0, .string ⟨#[]⟩] 35) = w3) (hw4 : w3.alloc (.cells #[.int .i64 0] 36) = w4) : FindStart w w1 w2 w3 w4 F base T mb vl xs t x vm vL vt := by
  have b1 : Below w.heap.size w w1 := by rw [← hw1]; exact (Below.refl _ _).alloc (Nat.le_refl _) _
  have b2 : Below w1.heap.size w1 w2 := by rw [← hw2]; exact (Below.refl _ _).alloc (Nat.le_refl _) _
  have b3 : Below w2.heap.size w2 w3 := by rw [← hw3]; exact (Below.refl _ _).alloc (Nat.le_refl _) _
  have b4 : Below w3.heap.size w3 w4 := by rw [← hw4]; exact (Below.refl _ _).alloc (Nat.le_refl _) _
  have s1 : w1.heap.size = w.heap.size + 1 := by rw [← hw1]; simp
  have s2 : w2.heap.size = w.heap.size + 2 := by rw [← hw2, World.size_alloc, s1]
  have s3 : w3.heap.size = w.heap.size + 3 := by rw [← hw3, World.size_alloc, s2]
  have s4 : w4.heap.size = w.heap.size + 4 := by rw [← hw4, World.size_alloc, s3]
  have b34 := b3.trans (b4.mono b3.size)
  have b24 := b2.trans (b34.mono b2.size)
  have b14 := b1.trans (b24.mono b1.size)
  have c1 := one_new w (.pointer (some ⟨T, 0, none⟩)) 32
  rw [hw1] at c1
  have a2 := six_new w1 x.k x.n x.s vm vL vt 26
  rw [hw2] at a2
  have B2 : Box w2 w1.heap.size x vm vL vt := ⟨a2 0 (by omega), a2 1 (by omega), a2 2 (by omega), a2 3 (by omega), a2 4 (by omega), a2 5 (by omega)⟩
  have f2 : ∀ j, w2.frozen? ⟨w1.heap.size, j, none⟩ = false := fun j => by rw [← hw2]; exact frz_new w1 _ _ j
  have a3 : w3.cell? ⟨w2.heap.size, 0, none⟩ = some (.int .i64 0) ∧ w3.cell? ⟨w2.heap.size, 1, none⟩ = some (.int .i64 0) ∧ w3.cell? ⟨w2.heap.size, 2, none⟩ = some (.string ⟨#[]⟩) := by
    rw [← hw3]
    unfold World.cell?
    rw [World.alloc_heap_new]
    exact ⟨rfl, rfl, rfl⟩
  have f3 : ∀ j, w3.frozen? ⟨w2.heap.size, j, none⟩ = false := fun j => by rw [← hw3]; exact frz_new w2 _ _ j
  have a4 := one_new w3 (.int .i64 0) 36
  rw [hw4] at a4
  have f4 : ∀ j, w4.frozen? ⟨w3.heap.size, j, none⟩ = false := fun j => by rw [← hw4]; exact frz_new w3 _ _ j
  have k4 : ∀ j, w4.cell? ⟨w2.heap.size, j, none⟩ = w3.cell? ⟨w2.heap.size, j, none⟩ := fun j => b4.cell (p := ⟨w2.heap.size, j, none⟩) (by show w2.heap.size < _; omega)
  have g4 : ∀ j, w4.frozen? ⟨w2.heap.size, j, none⟩ = false := fun j => (b4.frozen (p := ⟨w2.heap.size, j, none⟩) (by show w2.heap.size < _; omega)).trans (f3 j)
  exact ⟨h.below b14, (rep_all hR).below b14, (show T10B w.heap.size w from Lib.tabBelow_of_tabIs hT).on b14, fun k hk => hk.elim (fun e => by rw [e]; exact h.lt) (fun hk => hk.elim (fun e => (own_lt h.row k e).2) (fun e => by rw [e]; exact h.mp.lt)), (b24.cell (p := ⟨w.heap.size, 0, none⟩) (by show w.heap.size < _; omega)).trans c1, B2.below b34, fun j => (b34.frozen (p := ⟨w1.heap.size, j, none⟩) (by show w1.heap.size < _; omega)).trans (f2 j),
    ⟨(k4 0).trans a3.1, (k4 1).trans a3.2.1, (k4 2).trans a3.2.2, a4⟩, ⟨g4 0, g4 1, g4 2, f4 0⟩, b14, s1, s2, s3, s4⟩
/-- the two results are stored -/
def done4 (w : World) (r6 r7 : Nat) (a b : Int) (s : ByteArray) (e : Int) : World := (((w.setCell ⟨r6, 0, none⟩ (.int .i64 a)).setCell ⟨r6, 1, none⟩ (.int .i64 b)).setCell ⟨r6, 2, none⟩ (.string s)).setCell ⟨r7, 0, none⟩ (.int .i64 e)
theorem done4_keep (w : World) (r6 r7 : Nat) (a b : Int) (s : ByteArray) (e : Int) : Keep (fun k => k = r6 ∨ k = r7) w (done4 w r6 r7 a b s e) :=
  ((((Keep.refl (fun k => k = r6 ∨ k = r7) w).setCell (.inl rfl) 0 _).setCell (.inl rfl) 1 _).setCell (.inl rfl) 2 _).setCell (.inr rfl) 0 _
/-- what the two results hold -/
def Held (w : World) (r6 r7 : Nat) (a b : Int) (s : ByteArray) (e : Int) : Prop := w.cell? ⟨r6, 0, none⟩ = some (.int .i64 a) ∧ w.cell? ⟨r6, 1, none⟩ = some (.int .i64 b) ∧ w.cell? ⟨r6, 2, none⟩ = some (.string s) ∧ w.cell? ⟨r7, 0, none⟩ = some (.int .i64 e)
theorem done4_held {w : World} {r6 r7 : Nat} {a b : Int} {s : ByteArray} {e : Int} {a0 b0 : Int} {s0 : ByteArray} {e0 : Int} (h : Held w r6 r7 a0 b0 s0 e0) (hn : r6 ≠ r7) : Held (done4 w r6 r7 a b s e) r6 r7 a b s e := by
  obtain ⟨h0, h1, h2, h3⟩ := h
  have d : ∀ (w : World) (i j : Nat) (v : Value), (w.setCell ⟨r7, i, none⟩ v).cell? ⟨r6, j, none⟩ = w.cell? ⟨r6, j, none⟩ := fun w i j v => World.cell?_setCell_other _ _ _ _ (by intro e; cases e; exact hn rfl)
  have d' : ∀ (w : World) (i j : Nat) (v : Value), (w.setCell ⟨r6, i, none⟩ v).cell? ⟨r7, j, none⟩ = w.cell? ⟨r7, j, none⟩ := fun w i j v => World.cell?_setCell_other _ _ _ _ (by intro e; cases e; exact hn rfl)
  unfold done4
  refine ⟨?_, ?_, ?_, ?_⟩
  · rw [d, cell_set_ne _ _ _ _ _ (by omega), cell_set_ne _ _ _ _ _ (by omega)]
    exact cell_set_eq _ _ _ _ _ h0
  · rw [d, cell_set_ne _ _ _ _ _ (by omega)]
    exact cell_set_eq _ _ _ _ _ (by rw [cell_set_ne _ _ _ _ _ (by omega)]; exact h1)
  · rw [d]
    exact cell_set_eq _ _ _ _ _ (by rw [cell_set_ne _ _ _ _ _ (by omega), cell_set_ne _ _ _ _ _ (by omega)]; exact h2)
  · exact cell_set_eq _ _ _ _ _ (by rw [d', d', d']; exact h3)
theorem Held.keep {S : Nat → Prop} {w w' : World} {r6 r7 : Nat} {a b : Int} {s : ByteArray} {e : Int} (h : Held w r6 r7 a b s e) (hk : Keep S w w') (h6 : ¬ S r6) (h7 : ¬ S r7) : Held w' r6 r7 a b s e :=
  ⟨(hk.cell 0 (block_lt_of_cell h.1) h6).trans h.1, (hk.cell 1 (block_lt_of_cell h.1) h6).trans h.2.1, (hk.cell 2 (block_lt_of_cell h.1) h6).trans h.2.2.1, (hk.cell 0 (block_lt_of_cell h.2.2.2) h7).trans h.2.2.2⟩
set_option maxRecDepth 100000 in
/-- Find hands back what its two results hold -/
theorem find_ret {F : Fence} {n : Nat} {tmps : Array Value} {R : Ending → World → Prop} {rs : List Nat} {w : World} {r6 r7 b : Nat} {x y : Int} {s : ByteArray} {e : Int} (h6 : tmps[6]?.getD undef = .pointer (some ⟨r6, 0, none⟩)) (h7 : tmps[7]?.getD undef = .pointer (some ⟨r7, 0, none⟩)) (hm : Marks b rs w) (hl6 : r6 < b) (hl7 : r7 < b)
    (hh : Held w r6 r7 x y s e) (hR : ∀ w', Keep (fun k => k ∈ rs) w w' → R (.returned (.tuple #[.agg #[.int .i64 x, .int .i64 y, .string s], .int .i64 e])) w') : bodyPostM F n Tryd.prog Tryd.f11 R .ret { tmps := tmps, defers := rs.map mk' } w := by
  refine leaves_marks rs w hm (fun w' hk => ?_)
  obtain ⟨k0, k1, k2, k3⟩ := hh.keep hk (fun h => by have := (hm.2 _ h).1; omega) (fun h => by have := (hm.2 _ h).1; omega)
  refine ⟨_, ?_, hR w' hk⟩
  simp [results, Tryd.results11, go_sem, h6, h7, k0, k1, k2, k3]
/-- between two rounds of Find: k marks are left, the range loops' marks rs -/
structure FindIn (w4 w w1 w2 w3 : World) (F : Nat → Prop) (base T mb : Nat) (vl : Value) (xs : List B) (t : Tbl) (x : D) (a1 : Option Addr) (q1 : Nat) (vL vt : Value) (k : Nat) (rs : List Nat) (wr : World) : Prop where
  st : FindStart w w1 w2 w3 w4 F base T mb vl xs t x (.slice a1 x.m.length q1) vL vt
  kp : Keep (fun k => k = w1.heap.size) w4 wr
  bx : Box wr w1.heap.size (cut x k) (.slice a1 k q1) vL vt
  fx : ∀ j, wr.frozen? ⟨w1.heap.size, j, none⟩ = false
  mrk : Marks w4.heap.size rs wr
theorem FindIn.start {w4 w w1 w2 w3 w5 : World} {F : Nat → Prop} {base T mb : Nat} {vl : Value} {xs : List B} {t : Tbl} {x : D} {a1 : Option Addr} {q1 : Nat} {vL vt : Value} (h : FindStart w w1 w2 w3 w4 F base T mb vl xs t x (.slice a1 x.m.length q1) vL vt) (hb : Below w4.heap.size w4 w5) : FindIn w4 w w1 w2 w3 F base T mb vl xs t x a1 q1 vL vt x.m.length [] w5 := by
  have e : cut x x.m.length = x := by cases x; unfold cut; simp [D.k, D.n, D.s, D.m, D.l, D.t]
  refine ⟨h, (Keep.refl _ w4).below hb, ?_, fun j => (hb.frozen (p := ⟨w1.heap.size, j, none⟩) (show w1.heap.size < w4.heap.size from block_lt_of_cell h.bx.1)).trans (h.fx j), List.nodup_nil, fun r h => by cases h⟩
  rw [e]
  exact h.bx.below hb
theorem below_new {a w w7 : World} {n : Nat} (h : Below n a w) {o : Obj} (h7 : w.alloc o = w7) (hn : n ≤ w.heap.size := by first | exact Nat.le_refl _ | omega) : Below n a w7 ∧ w7.heap.size = w.heap.size + 1 ∧ w7.heap[w.heap.size]? = some o ∧ n ≤ w.heap.size := by
  subst h7
  exact ⟨h.alloc hn _, by simp, World.alloc_heap_new w o, hn⟩
theorem ownFrom_held {β : Type} {B : Nat} (g : β → Nat → Prop) (cq : β → Prop) (fi : Nat → Int) (fw : Nat → Int) {r6 r7 : Nat} (h6 : r6 < B) (h7 : r7 < B) : OwnFrom (β := β) B (fun s W => cq s ∧ ∃ i, g s i ∧ Held W r6 r7 (fi i) (fw i) ⟨#[]⟩ 0) := fun s W W' row h hg hr => by
  obtain ⟨h1, i, h2, h3⟩ := h
  have hk : Keep (fun k => B ≤ k) W W' := ⟨hg.os, hg.tape, hg.output, hg.size, fun k hk hn => hg.block k hk (fun e => hn (hr k e.symm).1)⟩
  exact ⟨h1, i, h2, h3.keep hk (by omega) (by omega)⟩
/-- the range's beginning -/
structure FindGo (w4 w w1 w2 w3 w6 w7 w8 w9 wr : World) (F : Nat → Prop) (base T mb : Nat) (vl : Value) (xs : List B) (t : Tbl) (x : D) (a1 : Option Addr) (q1 : Nat) (vL vt : Value) (k s' : Nat) (rs : List Nat) : Prop where
  st : FindIn w4 w w1 w2 w3 F base T mb vl xs t x a1 q1 vL vt k rs wr
  tab : Tab w9 base T vl mb xs t
  bel : Below wr.heap.size wr w9
  bs : w9.cell? ⟨w8.heap.size, 0, none⟩ = some (.int .i64 (s' : Int))
  bt : w9.cell? ⟨w7.heap.size, 0, none⟩ = some (.pointer (some ⟨T, 0, none⟩))
  n0 : w9.cell? ⟨w6.heap.size, 0, none⟩ = some (.string x.s)
  n1 : w9.cell? ⟨w6.heap.size, 1, none⟩ = some (.string (keyS (x.m.take k)))
  p0 : w9.cell? ⟨w.heap.size, 0, none⟩ = some (.pointer (some ⟨T, 0, none⟩))
  r6 : w2.heap.size < w9.heap.size
  r7 : w3.heap.size < w9.heap.size
theorem FindGo.mk' {w4 w w1 w2 w3 w6 w7 w8 w9 wr : World} {F : Nat → Prop} {base T mb : Nat} {vl : Value} {xs : List B} {t : Tbl} {x : D} {a1 : Option Addr} {q1 : Nat} {vL vt : Value} {k s' : Nat} {rs : List Nat} (hI : FindIn w4 w w1 w2 w3 F base T mb vl xs t x a1 q1 vL vt k rs wr) (hT : Tab wr base T vl mb xs t) (hb9 : Below wr.heap.size wr w9)
    (hc7 : w7.heap[w6.heap.size]? = some (.cells #[.string x.s, .string (keyS (x.m.take k))] 80)) (hc8 : w8.heap[w7.heap.size]? = some (.cells #[.pointer (some ⟨T, 0, none⟩)] 32)) (hc9 : w9.heap[w8.heap.size]? = some (.cells #[.int .i64 (s' : Int)] 3))
    (hs7 : w7.heap.size = w6.heap.size + 1) (hs8 : w8.heap.size = w7.heap.size + 1) (_hs9 : w9.heap.size = w8.heap.size + 1) (hw8 : w7.alloc (.cells #[.pointer (some ⟨T, 0, none⟩)] 32) = w8) (hw9 : w8.alloc (.cells #[.int .i64 (s' : Int)] 3) = w9) :
    FindGo w4 w w1 w2 w3 w6 w7 w8 w9 wr F base T mb vl xs t x a1 q1 vL vt k s' rs := by
  have b8 : Below w7.heap.size w7 w8 := by rw [← hw8]; exact (Below.refl _ _).alloc (Nat.le_refl _) _
  have b9 : Below w8.heap.size w8 w9 := by rw [← hw9]; exact (Below.refl _ _).alloc (Nat.le_refl _) _
  have e6 : w9.heap[w6.heap.size]? = some (.cells #[.string x.s, .string (keyS (x.m.take k))] 80) := (b9.block _ (by omega)).trans ((b8.block _ (by omega)).trans hc7)
  have e7 : w9.heap[w7.heap.size]? = some (.cells #[.pointer (some ⟨T, 0, none⟩)] 32) := (b9.block _ (by omega)).trans hc8
  have hs := hb9.size
  have hk := hI.kp.size
  have h2 := hI.st.s2
  have h3 := hI.st.s3
  have h4 := hI.st.s4
  have h1 := hI.st.s1
  refine ⟨hI, hT.below hb9, hb9, by unfold World.cell?; rw [hc9]; rfl, by unfold World.cell?; rw [e7]; rfl, by unfold World.cell?; rw [e6]; rfl, by unfold World.cell?; rw [e6]; rfl, ?_, by omega, by omega⟩
  have p := (hI.kp.cell 0 (show w.heap.size < w4.heap.size by omega) (fun e => by have e' : w.heap.size = w1.heap.size := e; omega)).trans hI.st.p0
  exact (hb9.cell (p := ⟨w.heap.size, 0, none⟩) (block_lt_of_cell p)).trans p
theorem toList_inj {a b : ByteArray} (h : a.toList = b.toList) : a = b := by
  rw [ByteArray.toList_eq, ByteArray.toList_eq] at h
  exact bytes_ext h
theorem FindGo.held {w4 w w1 w2 w3 w6 w7 w8 w9 wr W : World} {F : Nat → Prop} {base T mb : Nat} {vl : Value} {xs : List B} {t : Tbl} {x : D} {a1 : Option Addr} {q1 : Nat} {vL vt : Value} {k s' : Nat} {rs : List Nat} (h : FindGo w4 w w1 w2 w3 w6 w7 w8 w9 wr F base T mb vl xs t x a1 q1 vL vt k s' rs) (hb : Below w9.heap.size w9 W) :
    Held W w2.heap.size w3.heap.size 0 0 ⟨#[]⟩ 0 ∧ W.frozen? ⟨w2.heap.size, 0, none⟩ = false ∧ W.frozen? ⟨w2.heap.size, 1, none⟩ = false ∧ W.frozen? ⟨w2.heap.size, 2, none⟩ = false ∧ W.frozen? ⟨w3.heap.size, 0, none⟩ = false := by
  have h1 := h.st.st.s1
  have h2 := h.st.st.s2
  have h3 := h.st.st.s3
  have hk : Keep (fun k => k = w1.heap.size) w4 W := (h.st.kp.below h.bel).below (hb.mono (by omega))
  have l2 : w2.heap.size < w4.heap.size := block_lt_of_cell h.st.st.r.1
  have l3 : w3.heap.size < w4.heap.size := block_lt_of_cell h.st.st.r.2.2.2
  obtain ⟨f0, f1, f2, f3⟩ := h.st.st.f
  have n2 : ¬ (w2.heap.size = w1.heap.size) := by omega
  have n3 : ¬ (w3.heap.size = w1.heap.size) := by omega
  exact ⟨Held.keep h.st.st.r hk n2 n3, (hk.frozen 0 l2 n2).trans f0, (hk.frozen 1 l2 n2).trans f1, (hk.frozen 2 l2 n2).trans f2, (hk.frozen 0 l3 n3).trans f3⟩
theorem others_drew (W : World) (n : Nat) : KeepsOthers W (W.drewN n) := ⟨Nat.le_refl _, fun _ _ h _ => h⟩
theorem others_done4 (w : World) (r6 r7 : Nat) (a b : Int) (s : ByteArray) (e : Int) : KeepsOthers w (done4 w r6 r7 a b s e) := (((KeepsOthers.setCell _ _ _).trans (KeepsOthers.setCell _ _ _)).trans (KeepsOthers.setCell _ _ _)).trans (KeepsOthers.setCell _ _ _)
theorem FindGo.after {w4 w w1 w2 w3 w6 w7 w8 w9 wr W : World} {F : Nat → Prop} {base T mb : Nat} {vl : Value} {xs : List B} {t : Tbl} {x : D} {a1 : Option Addr} {q1 : Nat} {vL vt : Value} {k s' D : Nat} {rs : List Nat} (h : FindGo w4 w w1 w2 w3 w6 w7 w8 w9 wr F base T mb vl xs t x a1 q1 vL vt k s' rs) (hb : Below w9.heap.size w9 W) (hD : w9.heap.size ≤ D) (hK : W.heap[D]? = some (.deferred (some []))) :
    Box W w1.heap.size (cut x k) (.slice a1 k q1) vL vt ∧ (∀ j, W.frozen? ⟨w1.heap.size, j, none⟩ = false) ∧ Marks w4.heap.size (D :: rs) W ∧ Keep (fun k => k = w1.heap.size) w4 W ∧ Tab W base T vl mb xs t := by
  have hb2 : Below wr.heap.size wr W := h.bel.trans (hb.mono h.bel.size)
  have hm := h.st.mrk.below hb2
  have hs := h.bel.size
  have hs2 := h.st.kp.size
  refine ⟨h.st.bx.below hb2, fun j => (hb2.frozen (p := ⟨w1.heap.size, j, none⟩) (show w1.heap.size < wr.heap.size from block_lt_of_cell h.st.bx.1)).trans (h.st.fx j), ⟨List.nodup_cons.2 ⟨fun hr => ?_, hm.1⟩, fun r hr => ?_⟩, h.st.kp.below hb2, h.tab.below hb⟩
  · have := (Array.getElem?_eq_some_iff.1 (h.st.mrk.2 D hr).2).1
    omega
  · rcases List.mem_cons.1 hr with rfl | hr
    · exact ⟨by omega, hK⟩
    · exact hm.2 r hr
theorem FindGo.heldK {w4 w w1 w2 w3 w6 w7 w8 w9 wr W : World} {F : Nat → Prop} {base T mb : Nat} {vl : Value} {xs : List B} {t : Tbl} {x : D} {a1 : Option Addr} {q1 : Nat} {vL vt : Value} {k s' : Nat} {rs : List Nat} (h : FindGo w4 w w1 w2 w3 w6 w7 w8 w9 wr F base T mb vl xs t x a1 q1 vL vt k s' rs) (hk : Keep (fun k => k = w1.heap.size) w4 W) :
    Held W w2.heap.size w3.heap.size 0 0 ⟨#[]⟩ 0 ∧ W.frozen? ⟨w2.heap.size, 0, none⟩ = false ∧ W.frozen? ⟨w2.heap.size, 1, none⟩ = false ∧ W.frozen? ⟨w2.heap.size, 2, none⟩ = false ∧ W.frozen? ⟨w3.heap.size, 0, none⟩ = false := by
  have h1 := h.st.st.s1
  have h2 := h.st.st.s2
  have h3 := h.st.st.s3
  have l2 : w2.heap.size < w4.heap.size := block_lt_of_cell h.st.st.r.1
  have l3 : w3.heap.size < w4.heap.size := block_lt_of_cell h.st.st.r.2.2.2
  obtain ⟨f0, f1, f2, f3⟩ := h.st.st.f
  have n2 : ¬ (w2.heap.size = w1.heap.size) := by omega
  have n3 : ¬ (w3.heap.size = w1.heap.size) := by omega
  exact ⟨Held.keep h.st.st.r hk n2 n3, (hk.frozen 0 l2 n2).trans f0, (hk.frozen 1 l2 n2).trans f1, (hk.frozen 2 l2 n2).trans f2, (hk.frozen 0 l3 n3).trans f3⟩
theorem FindStart.l2 {w w1 w2 w3 w4 : World} {F : Nat → Prop} {base T mb : Nat} {vl : Value} {xs : List B} {t : Tbl} {x : D} {vm vL vt : Value} (h : FindStart w w1 w2 w3 w4 F base T mb vl xs t x vm vL vt) : w2.heap.size < w4.heap.size := block_lt_of_cell h.r.1
theorem FindStart.l3 {w w1 w2 w3 w4 : World} {F : Nat → Prop} {base T mb : Nat} {vl : Value} {xs : List B} {t : Tbl} {x : D} {vm vL vt : Value} (h : FindStart w w1 w2 w3 w4 F base T mb vl xs t x vm vL vt) : w3.heap.size < w4.heap.size := block_lt_of_cell h.r.2.2.2
theorem FindStart.apart {w w1 w2 w3 w4 : World} {F : Nat → Prop} {base T mb : Nat} {vl : Value} {xs : List B} {t : Tbl} {x : D} {vm vL vt : Value} (h : FindStart w w1 w2 w3 w4 F base T mb vl xs t x vm vL vt) : ∀ r, w4.heap.size ≤ r → ¬ (r = w2.heap.size ∨ r = w3.heap.size) := fun r hr e => by
  have := h.l2
  have := h.l3
  omega
theorem FindStart.below {w w1 w2 w3 w4 W W2 w' : World} {F : Nat → Prop} {base T mb : Nat} {vl : Value} {xs : List B} {t : Tbl} {x : D} {vm vL vt : Value} (h : FindStart w w1 w2 w3 w4 F base T mb vl xs t x vm vL vt) {rs : List Nat} {W3 : World}
    (hk : Keep (fun k => k = w1.heap.size) w4 W) (hd : Keep (fun k => k = w2.heap.size ∨ k = w3.heap.size) W W2) (hm : Marks w4.heap.size rs W3) (hk' : Keep (fun k => k ∈ rs) W2 w') : Below w.heap.size w w' := by
  have h1 := h.s1
  have h2 := h.s2
  have h3 := h.s3
  have h4 := h.s4
  have hs := hk.size
  have hs2 := hd.size
  exact ((h.bel.trans (hk.to_below (fun k e => by omega) (by omega))).trans (hd.to_below (fun k e => by omega) (by omega))).trans (hk'.to_below (fun k e => by have := (hm.2 k e).1; omega) (by omega))
theorem FindGo.marks {w4 w w1 w2 w3 w6 w7 w8 w9 wr W : World} {F : Nat → Prop} {base T mb : Nat} {vl : Value} {xs : List B} {t : Tbl} {x : D} {a1 : Option Addr} {q1 : Nat} {vL vt : Value} {k s' D : Nat} {rs : List Nat} (h : FindGo w4 w w1 w2 w3 w6 w7 w8 w9 wr F base T mb vl xs t x a1 q1 vL vt k s' rs) (hb : Keep (fun k => k = w2.heap.size ∨ k = w3.heap.size) w9 W) (hD : w9.heap.size ≤ D) (hK : W.heap[D]? = some (.deferred (some []))) : Marks w4.heap.size (D :: rs) W := by
  have hm := (h.st.mrk.below h.bel).keep hb h.st.st.apart
  have hs := h.bel.size
  have hs2 := h.st.kp.size
  refine ⟨List.nodup_cons.2 ⟨fun hr => ?_, hm.1⟩, fun r hr => ?_⟩
  · have := (Array.getElem?_eq_some_iff.1 ((h.st.mrk.below h.bel).2 D hr).2).1
    omega
  · rcases List.mem_cons.1 hr with rfl | hr
    · exact ⟨by omega, hK⟩
    · exact hm.2 r hr
theorem markAt_get {m : List Nat} {y : Int} (h1 : 1 ≤ y) (h2 : y ≤ m.length) : (markAt m y).getD 0 = ((m.getD (y - 1).toNat 0 : Nat) : Int) := by
  unfold markAt
  rw [if_pos h1, List.getD_eq_getElem?_getD, List.getElem?_eq_getElem (by omega)]
  rfl
theorem getD_mem {m : List Nat} {i : Nat} (h : i < m.length) : m.getD i 0 ∈ m := by
  rw [List.getD_eq_getElem?_getD, List.getElem?_eq_getElem h]
  exact List.getElem_mem _
theorem toNat_pred {y : Int} (h : 1 ≤ y) : y.toNat - 1 = (y - 1).toNat := by omega
theorem set3_cell {W : World} {X : Nat} {d : D} {v b c : Value} (h : Box W X d v b c) (n : Nat) {u : Value} : ((W.drewN n).setCell ⟨X, 3, none⟩ u).cell? ⟨X, 3, none⟩ = some u := cell_set_eq _ _ _ _ v h.2.2.2.1
theorem FindIn.next {w4 w w1 w2 w3 wr W : World} {F : Nat → Prop} {base T mb : Nat} {vl : Value} {xs : List B} {t : Tbl} {x : D} {a1 : Option Addr} {q1 : Nat} {vL vt : Value} {k : Nat} {rs rs' : List Nat} (h : FindIn w4 w w1 w2 w3 F base T mb vl xs t x a1 q1 vL vt (k + 1) rs wr) (hX : Box W w1.heap.size (cut x (k + 1)) (.slice a1 (k + 1) q1) vL vt) (hf : ∀ j, W.frozen? ⟨w1.heap.size, j, none⟩ = false) (hm : Marks w4.heap.size rs' W) (hk : Keep (fun k => k = w1.heap.size) w4 W) (n : Nat) :
    FindIn w4 w w1 w2 w3 F base T mb vl xs t x a1 q1 vL vt k rs' ((W.drewN n).setCell ⟨w1.heap.size, 3, none⟩ (.slice a1 k q1)) := by
  have hd : Below W.heap.size W (W.drewN n) := bdrew (Below.refl _ _) n
  have hk1 := keep1 (W.drewN n) w1.heap.size 3 (.slice a1 k q1)
  have hs : w1.heap.size < w4.heap.size := block_lt_of_cell h.st.bx.1
  exact ⟨h.st, (hk.below hd).trans hk1, Box.set3 (d := cut x k) hX _, fun j => (frz_set _ _ _ _ _ _).trans (hf j), (hm.below hd).keep hk1 (fun r hr => by omega)⟩
/-- how many marks a name in a box has left -/
def mlen (X : Nat) (w : World) : Nat := match w.cell? ⟨X, 3, none⟩ with
  | some (.slice _ n _) => n
  | _ => 0
theorem mlen_of {X : Nat} {w : World} {a : Option Addr} {n c : Nat} (h : w.cell? ⟨X, 3, none⟩ = some (.slice a n c)) : mlen X w = n := by unfold mlen; rw [h]
theorem slice_inj {a a' : Option Addr} {n n' c c' : Nat} (h : Value.slice a n c = .slice a' n' c') : a = a' ∧ n = n' ∧ c = c' := by cases h; exact ⟨rfl, rfl, rfl⟩
end Sp
set_option maxRecDepth 100000 in
set_option maxHeartbeats 8000000 in
theorem spFind_any {F : Nat → Prop} {base T mb : Nat} {vl : Value} {xs : List Sp.B} {t : Sp.Tbl} (sc : Int) (x : Dt.D) (vm vL vt : Value) (w : World) (h : Sp.Tab w base T vl mb xs t) (hW : Dt.Wf x) (hR : Dt.Rep F w x vm vL vt) (hT : Sp.T10 w) :
    Calls Tryd.prog 11 #[.pointer (some ⟨T, 0, none⟩), .int .i64 sc, .agg #[.int .i64 x.k, .int .i64 x.n, .string x.s, vm, vL, vt]] w fun e w' => e = .returned (.tuple #[(Sp.find t sc x).1.val, .int .i64 (Sp.find t sc x).2]) ∧ Below w.heap.size w w' := by
  obtain ⟨a1, n1, q1, a2, n2, q2, a3, n3, q3, rfl, rfl, rfl⟩ := hR.forms
  obtain ⟨ai, ci, e1, hci, -⟩ := ((Dt.rep_iff _ _ _ _ _ _).1 hR).1
  obtain ⟨rfl, rfl, rfl⟩ : a1 = ai ∧ n1 = x.m.length ∧ q1 = ci := by cases e1; exact ⟨rfl, rfl, rfl⟩
  clear e1
  -- the four boxes
  obtain ⟨w1, hw1⟩ : ∃ w1, w.alloc (.cells #[.pointer (some ⟨T, 0, none⟩)] 32) = w1 := ⟨_, rfl⟩
  obtain ⟨w2, hw2⟩ : ∃ w2, w1.alloc (.cells #[.int .i64 x.k, .int .i64 x.n, .string x.s, .slice a1 x.m.length q1, .slice a2 n2 q2, .slice a3 n3 q3] 26) = w2 := ⟨_, rfl⟩
  obtain ⟨w3, hw3⟩ : ∃ w3, w2.alloc (.cells #[.int .i64 0, .int .i64 0, .string ⟨#[]⟩] 35) = w3 := ⟨_, rfl⟩
  obtain ⟨w4, hw4⟩ : ∃ w4, w3.alloc (.cells #[.int .i64 0] 36) = w4 := ⟨_, rfl⟩
  have HS := Lib.hid (Sp.FindStart.mk' h hR hT hw1 hw2 hw3 hw4)
  obtain ⟨R, hRR⟩ : ∃ R, R = Sp.find t sc x := ⟨_, rfl⟩
  rw [← hRR]
  have HW := Lib.hid hW
  have HR := Lib.hid hRR
  clear h hR hT hW hRR
  refine (callsIn_wide (n := 9)).1 ?_
  refine callsIn_of_wp_marks Tryd.func11 rfl trivial ?_ rfl
  simp only [Tryd.ntmps11, List.size_toArray, List.length_cons, List.length_nil, Nat.reduceAdd, Nat.reduceSub, Array.replicate_succ, Array.replicate_zero, List.push_toArray, List.append_toArray, List.nil_append, List.cons_append]
  have hmay := spMay_any sc w4 HS.out.tab
  have p0 := HS.out.p0
  have hn67 : ¬ w2.heap.size = w3.heap.size := by have := HS.out.s2; have := HS.out.s3; omega
  have hn76 : ¬ w3.heap.size = w2.heap.size := by have := HS.out.s2; have := HS.out.s3; omega
  by_cases h0 : sc < 0 ∨ (t.l.length : Int) ≤ sc
  · have HE : Hid (Sp.mayE t sc = 50) := by show _ = _; unfold Sp.mayE; rw [if_pos h0]
    have HV : Hid (R = (⟨0, 0, ⟨#[]⟩⟩, 50)) := by show _ = _; rw [HR.out]; unfold Sp.find; rw [if_pos h0]
    rw [HE.out] at hmay
    obtain ⟨s0, s1, s2, s3⟩ := HS.out.r
    obtain ⟨f0, f1, f2, f3⟩ := HS.out.f
    clear h0
    gi_wp2_with (refine ⟨trivial, ?_⟩; gi_at_call 26; refine (callsIn_wide.2 hmay).mono ?_; clear hmay; rintro e w5 ⟨rfl, rfl⟩)
    refine Sp.find_ret (rs := []) (b := w4.heap.size) rfl rfl ⟨List.nodup_nil, fun r h => by cases h⟩ (by rw [HS.out.s4]; have := HS.out.s2; omega) (by rw [HS.out.s4]; have := HS.out.s3; omega) (Sp.done4_held HS.out.r hn67) (fun w' hk => ⟨by rw [HV.out]; rfl, ?_⟩)
    have h4 := Sp.done4_keep w4 w2.heap.size w3.heap.size 0 0 ⟨#[]⟩ 50
    have hs := HS.out.bel.size
    have := HS.out.s2
    have := HS.out.s3
    exact (HS.out.bel.trans (h4.to_below (fun k e => by omega) hs)).trans (hk.to_below (fun k e => by cases e) (Nat.le_trans hs h4.size))
  have HE : Hid (Sp.mayE t sc = 0) := by show _ = _; unfold Sp.mayE; rw [if_neg h0]
  rw [HE.out] at hmay
  have hsym := spSymbol_any x _ _ _ w4 HW.out HS.out.rep
  obtain ⟨b0, b1, b2, b3, b4, b5⟩ := HS.out.bx
  have HN0 := Lib.hid h0
  by_cases hy : Sp.isSym x = true
  case neg =>
    have hy' : Sp.isSym x = false := by simpa using hy
    have HV : Hid (R = (⟨0, 0, ⟨#[]⟩⟩, 5)) := by show _ = _; rw [HR.out]; unfold Sp.find; rw [if_neg HN0.out, if_pos hy']
    rw [hy'] at hsym
    clear hy hy' h0
    gi_wp2_with (first | (refine ⟨trivial, ?_⟩; gi_at_call 26; refine (callsIn_wide.2 hmay).mono ?_; clear hmay; rintro e w5 ⟨rfl, rfl⟩) | (refine ⟨trivial, ?_⟩; gi_at_call 27; refine (callsIn_wide.2 hsym).mono ?_; clear hsym; rintro e w5 ⟨rfl, hb5⟩; obtain ⟨⟨s0, s1, s2, s3⟩, f0, f1, f2, f3⟩ := HS.out.rbel hb5; have HB5 := Lib.hid hb5; clear hb5))
    have hs := HS.out.bel.size
    have := HS.out.s2
    have := HS.out.s3
    have := HS.out.s4
    have h5s := HB5.out.size
    refine Sp.find_ret (rs := []) (b := w4.heap.size) rfl rfl ⟨List.nodup_nil, fun r h => by cases h⟩ (by omega) (by omega) (Sp.done4_held ⟨s0, s1, s2, s3⟩ hn67) (fun w' hk => ⟨by rw [HV.out]; rfl, ?_⟩)
    have h4 := Sp.done4_keep w5 w2.heap.size w3.heap.size 0 0 ⟨#[]⟩ 5
    exact ((HS.out.bel.trans (HB5.out.mono hs)).trans (h4.to_below (fun k e => by omega) (by omega))).trans (hk.to_below (fun k e => by cases e) (Nat.le_trans (by omega) h4.size))
  obtain ⟨y1, y2, y3, y4, y5, y6, y7, y8⟩ := Sp.sym_parts hy
  have HY := Lib.hid hy
  have HMM := Lib.hid y6
  have HML := Lib.hid y5
  rw [hy] at hsym
  clear h0 y1 y2 y3 y4 y5 y6 y7 y8 hy
  gi_wp2_with (first | (refine ⟨trivial, ?_⟩; gi_at_call 26; refine (callsIn_wide.2 hmay).mono ?_; clear hmay; rintro e w5 ⟨rfl, rfl⟩) | (refine ⟨trivial, ?_⟩; gi_at_call 27; refine (callsIn_wide.2 hsym).mono ?_; clear hsym; rintro e w5 ⟨rfl, hb5⟩; have b3 := HS.out.bx3 hb5; have p0 := (hb5.cell (p := ⟨w.heap.size, 0, none⟩) (block_lt_of_cell p0)).trans p0; have HB5 := Lib.hid hb5; clear hb5))
  have HTb := Lib.hid (HS.out.tab.below HB5.out)
  have HRb := Lib.hid ((Dt.rep_iff _ _ _ _ _ _).1 (HS.out.rep.below HB5.out)).1
  have tc1 := HTb.out.c1
  gi_loopw [30] (fun v wr => ∃ j : Nat, v = .int .i64 j ∧ j ≤ x.m.length ∧ Hid (∀ y ∈ x.m.take j, y ≤ t.m.length) ∧ wr = w5) (fun v _ => x.m.length - (intOf v).toNat)
  case atStart => exact ⟨0, rfl, Nat.zero_le _, fun y hy => by simp at hy, rfl⟩
  case round =>
    obtain ⟨j, rfl, hj, HJ, rfl⟩ := hrel
    by_cases hlt : j < x.m.length
    · have hlti : (j : Int) < (x.m.length : Int) := by omega
      have hj0 : (0 : Int) ≤ (j : Int) := by omega
      have hj16 : (j : Int) < 16 := by have := HML.out; omega
      obtain ⟨a9, c9, e9, -, hcell⟩ := HRb.out
      obtain ⟨bb, oo, rfl, -, -, hcc⟩ := hcell (by intro e; rw [e] at hlt; simp at hlt)
      obtain ⟨e1, -, e3⟩ := Sp.slice_inj e9
      have q0 := hcc j hlt
      have hy := HMM.out x.m[j] (List.getElem_mem _)
      obtain ⟨y, hyy⟩ : ∃ y, y = x.m[j] := ⟨_, rfl⟩
      rw [← hyy] at q0 hy
      have hlk := HTb.out.mp.look (s := y) (by omega) (by omega)
      rw [Sp.markAt_some] at hlk
      have HYY := Lib.hid hyy
      have hy1 := hy.1
      clear hcell hcc hyy e9
      subst e1
      by_cases hin : y ≤ t.m.length
      · rw [decide_eq_true ⟨hy1, hin⟩] at hlk
        have HJ2 : Hid (∀ y ∈ x.m.take (j + 1), y ≤ t.m.length) := by
          intro z hz
          rw [List.take_succ_eq_append_getElem hlt] at hz
          rcases List.mem_append.1 hz with hz | hz
          · exact HJ.out z hz
          · rw [List.mem_singleton.1 hz, ← HYY.out]; exact hin
        clear hin hy hy1 HJ
        gi_wp2
        go_roundw
        case rel => exact ⟨j + 1, by simp, by omega, HJ2, by simp⟩
        case measure => simp [intOf]; omega
      · rw [decide_eq_false (fun h => hin h.2)] at hlk
        have HV : Hid (R = (⟨0, 0, ⟨#[]⟩⟩, 50)) := by
          show _ = _
          rw [HR.out]
          unfold Sp.find
          rw [if_neg HN0.out, if_neg (by rw [HY.out]; simp), if_pos]
          rw [Bool.eq_false_iff]
          intro ha
          have h9 := List.all_eq_true.1 ha x.m[j] (List.getElem_mem _)
          rw [← HYY.out] at h9
          exact hin (of_decide_eq_true h9)
        obtain ⟨⟨s0, s1, s2, s3⟩, f0, f1, f2, f3⟩ := HS.out.rbel HB5.out
        clear hin hy hy1 HJ
        gi_wp2
        have hs := HS.out.bel.size
        have := HS.out.s2
        have := HS.out.s3
        have := HS.out.s4
        have h5s := HB5.out.size
        refine Sp.find_ret (rs := []) (b := w4.heap.size) rfl rfl ⟨List.nodup_nil, fun r h => by cases h⟩ (by omega) (by omega) (Sp.done4_held ⟨s0, s1, s2, s3⟩ hn67) (fun w' hk => ⟨by rw [HV.out]; rfl, ?_⟩)
        have h4 := Sp.done4_keep wr w2.heap.size w3.heap.size 0 0 ⟨#[]⟩ 50
        exact ((HS.out.bel.trans (HB5.out.mono hs)).trans (h4.to_below (fun k e => by omega) (by omega))).trans (hk.to_below (fun k e => by cases e) (Nat.le_trans (by omega) h4.size))
    · obtain rfl : j = x.m.length := by omega
      have hge : (x.m.length : Int) ≤ (x.m.length : Int) := by omega
      have HV : Hid (R = (Sp.look t x.s x.m x.m.length sc.toNat, 0)) := by
        show _ = _
        rw [HR.out]
        unfold Sp.find
        have hall : x.m.all (fun x => decide (x ≤ (t.m.length : Int))) = true := by
          rw [List.all_eq_true]
          intro y hy
          exact decide_eq_true (HJ.out y (by rw [List.take_length]; exact hy))
        rw [if_neg HN0.out, if_neg (by rw [HY.out]; simp), if_neg (by rw [hall]; simp)]
      have HV2 : Hid (R.2 = 0) := by show _ = _; rw [HV.out]
      have HAL : Hid (∀ y ∈ x.m, 1 ≤ y ∧ y ≤ t.m.length) := fun y hy => ⟨(HMM.out y hy).1, HJ.out y (by rw [List.take_length]; exact hy)⟩
      have hscb : sc.toNat < t.l.length ∧ ((sc.toNat : Nat) : Int) = sc := by have := HN0.out; omega
      obtain ⟨s9, hs9⟩ : ∃ s9, s9 = sc.toNat := ⟨_, rfl⟩
      rw [← hs9] at hscb HV
      obtain ⟨hsc, hsi⟩ := hscb
      rw [← hsi]
      have HFI : Hid (Sp.FindIn w4 w w1 w2 w3 F base T mb vl xs t x a1 q1 (.slice a2 n2 q2) (.slice a3 n3 q3) x.m.length [] wr) := Sp.FindIn.start HS.out HB5.out
      have HL0 : Hid (Sp.look t x.s x.m x.m.length s9 = R.1) := by show _ = _; rw [HV.out]
      clear HJ hs9 hsi HR HN0 b0 b1 b2 b3 b4 b5 p0 tc1 hj hlt
      gi_wp2
      refine wpIn_loop (fun a' wr => ∃ (k s' : Nat) (rs : List Nat), (k ≤ x.m.length ∧ s' < t.l.length ∧ Hid (Sp.look t x.s x.m k s' = R.1) ∧ Hid (Sp.FindIn w4 w w1 w2 w3 F base T mb vl xs t x a1 q1 (.slice a2 n2 q2) (.slice a3 n3 q3) k rs wr)) ∧ a' = { tmps := #[.pointer (some ⟨T, 0, none⟩), .int .i64 s', a'.tmps.getD 2 undef, .pointer (some ⟨w.heap.size, 0, none⟩), a'.tmps.getD 4 undef, .pointer (some ⟨w1.heap.size, 0, none⟩), .pointer (some ⟨w2.heap.size, 0, none⟩), .pointer (some ⟨w3.heap.size, 0, none⟩), a'.tmps.getD 8 undef, a'.tmps.getD 9 undef, a'.tmps.getD 10 undef, a'.tmps.getD 11 undef, a'.tmps.getD 12 undef, a'.tmps.getD 13 undef, a'.tmps.getD 14 undef, a'.tmps.getD 15 undef, a'.tmps.getD 16 undef, a'.tmps.getD 17 undef, a'.tmps.getD 18 undef, a'.tmps.getD 19 undef, a'.tmps.getD 20 undef, a'.tmps.getD 21 undef, a'.tmps.getD 22 undef, a'.tmps.getD 23 undef, a'.tmps.getD 24 undef, a'.tmps.getD 25 undef, a'.tmps.getD 26 undef, a'.tmps.getD 27 undef, a'.tmps.getD 28 undef, a'.tmps.getD 29 undef, a'.tmps.getD 30 undef, a'.tmps.getD 31 undef, a'.tmps.getD 32 undef, a'.tmps.getD 33 undef, a'.tmps.getD 34 undef, a'.tmps.getD 35 undef, a'.tmps.getD 36 undef, a'.tmps.getD 37 undef, a'.tmps.getD 38 undef, a'.tmps.getD 39 undef, a'.tmps.getD 40 undef, a'.tmps.getD 41 undef, a'.tmps.getD 42 undef, a'.tmps.getD 43 undef, a'.tmps.getD 44 undef, a'.tmps.getD 45 undef, a'.tmps.getD 46 undef, a'.tmps.getD 47 undef, a'.tmps.getD 48 undef, a'.tmps.getD 49 undef, a'.tmps.getD 50 undef, a'.tmps.getD 51 undef, a'.tmps.getD 52 undef, a'.tmps.getD 53 undef, a'.tmps.getD 54 undef, a'.tmps.getD 55 undef, a'.tmps.getD 56 undef, a'.tmps.getD 57 undef, a'.tmps.getD 58 undef, a'.tmps.getD 59 undef, a'.tmps.getD 60 undef, a'.tmps.getD 61 undef, a'.tmps.getD 62 undef, a'.tmps.getD 63 undef, a'.tmps.getD 64 undef, a'.tmps.getD 65 undef, a'.tmps.getD 66 undef, a'.tmps.getD 67 undef, a'.tmps.getD 68 undef, a'.tmps.getD 69 undef, a'.tmps.getD 70 undef, a'.tmps.getD 71 undef, a'.tmps.getD 72 undef, a'.tmps.getD 73 undef, a'.tmps.getD 74 undef, a'.tmps.getD 75 undef, a'.tmps.getD 76 undef, a'.tmps.getD 77 undef, a'.tmps.getD 78 undef, a'.tmps.getD 79 undef, a'.tmps.getD 80 undef, a'.tmps.getD 81 undef, a'.tmps.getD 82 undef, a'.tmps.getD 83 undef, a'.tmps.getD 84 undef, a'.tmps.getD 85 undef, a'.tmps.getD 86 undef, a'.tmps.getD 87 undef, a'.tmps.getD 88 undef, a'.tmps.getD 89 undef, a'.tmps.getD 90 undef, a'.tmps.getD 91 undef, a'.tmps.getD 92 undef, a'.tmps.getD 93 undef, a'.tmps.getD 94 undef, a'.tmps.getD 95 undef, a'.tmps.getD 96 undef], defers := rs.map Sp.mk' }) (fun _ wr => Sp.mlen w1.heap.size wr) ?_ ?_
      · exact ⟨x.m.length, s9, [], ⟨Nat.le_refl _, hsc, HL0, HFI⟩, rfl⟩
      clear HFI HL0 hsc
      rintro a' wr2 ⟨k, s', rs, ⟨hk, hs', HL, HI⟩, ha⟩
      obtain ⟨f, hf⟩ : ∃ f : Nat → Value, f = fun j => a'.tmps.getD j undef := ⟨_, rfl⟩
      have ha' : a' = { tmps := #[.pointer (some ⟨T, 0, none⟩), .int .i64 s', f 2, .pointer (some ⟨w.heap.size, 0, none⟩), f 4, .pointer (some ⟨w1.heap.size, 0, none⟩), .pointer (some ⟨w2.heap.size, 0, none⟩), .pointer (some ⟨w3.heap.size, 0, none⟩), f 8, f 9, f 10, f 11, f 12, f 13, f 14, f 15, f 16, f 17, f 18, f 19, f 20, f 21, f 22, f 23, f 24, f 25, f 26, f 27, f 28, f 29, f 30, f 31, f 32, f 33, f 34, f 35, f 36, f 37, f 38, f 39, f 40, f 41, f 42, f 43, f 44, f 45, f 46, f 47, f 48, f 49, f 50, f 51, f 52, f 53, f 54, f 55, f 56, f 57, f 58, f 59, f 60, f 61, f 62, f 63, f 64, f 65, f 66, f 67, f 68, f 69, f 70, f 71, f 72, f 73, f 74, f 75, f 76, f 77, f 78, f 79, f 80, f 81, f 82, f 83, f 84, f 85, f 86, f 87, f 88, f 89, f 90, f 91, f 92, f 93, f 94, f 95, f 96], defers := rs.map Sp.mk' } := by rw [hf]; exact ha
      clear ha hf
      subst ha'
      have hkw := HI.out.kp
      have hs4 := HI.out.st.s4
      have hs1 := HI.out.st.s1
      have hbw : Below w.heap.size w4 wr2 := hkw.to_below (fun k e => by omega) (by have := hs4; omega)
      have hrc : Dt.Rep (fun k => k < w.heap.size) wr2 (Sp.cut x k) (.slice a1 k q1) (.slice a2 n2 q2) (.slice a3 n3 q3) := Dt.Rep.keep hkw (fun b hb _ e => by omega) _ (Sp.rep_cut HI.out.st.rep k hk)
      have hkey : Calls Tryd.prog 28 #[.agg #[.int .i64 x.k, .int .i64 x.n, .string x.s, .slice a1 k q1, .slice a2 n2 q2, .slice a3 n3 q3]] wr2 fun e w' => e = .returned (.agg #[.string x.s, .string (Sp.keyS (x.m.take k))]) ∧ Below wr2.heap.size wr2 w' :=
        key_any (Sp.cut x k) _ _ _ wr2 hrc (by show (x.m.take k).length ≤ 16; rw [List.length_take]; have := HML.out; omega) (fun y hy => HMM.out y (List.mem_of_mem_take hy)) (HI.out.st.t10.on hbw).here
      have b0 : wr2.cell? ⟨w1.heap.size, 0, none⟩ = some (.int .i64 x.k) := HI.out.bx.1
      have b1 : wr2.cell? ⟨w1.heap.size, 1, none⟩ = some (.int .i64 x.n) := HI.out.bx.2.1
      have b2 : wr2.cell? ⟨w1.heap.size, 2, none⟩ = some (.string x.s) := HI.out.bx.2.2.1
      have b3 : wr2.cell? ⟨w1.heap.size, 3, none⟩ = some (.slice a1 k q1) := HI.out.bx.2.2.2.1
      have b4 : wr2.cell? ⟨w1.heap.size, 4, none⟩ = some (.slice a2 n2 q2) := HI.out.bx.2.2.2.2.1
      have b5 : wr2.cell? ⟨w1.heap.size, 5, none⟩ = some (.slice a3 n3 q3) := HI.out.bx.2.2.2.2.2
      have p0 : wr2.cell? ⟨w.heap.size, 0, none⟩ = some (.pointer (some ⟨T, 0, none⟩)) := (hkw.cell 0 (show w.heap.size < w4.heap.size by omega) (fun e => by have e' : w.heap.size = w1.heap.size := e; omega)).trans HI.out.st.p0
      have HT2 := Lib.hid (HI.out.st.tab.keep hkw (fun k' hk' e => by have h9 := HI.out.st.mu k' hk'; have e' : k' = w1.heap.size := e; omega))
      clear hkw hrc hs4 hs1 hbw
      gi_wp2_with (first | (refine ⟨trivial, ?_⟩; gi_at_call 28; refine (callsIn_wide.2 hkey).mono ?_; clear hkey; rintro e w6 ⟨rfl, hb6⟩; obtain ⟨w7, hw7⟩ : ∃ w7, w6.alloc (.cells #[.string x.s, .string (Sp.keyS (x.m.take k))] 80) = w7 := ⟨_, rfl⟩; have HB7 := Lib.hid (Sp.below_new hb6 hw7 hb6.size); have p0 := (HB7.out.1.cell (p := ⟨w.heap.size, 0, none⟩) (block_lt_of_cell p0)).trans p0; clear hb6) | (refine ⟨trivial, ?_⟩; gi_at_call 29; refine (callsIn_wide.2 (spUp_any _ _ _)).mono ?_; rintro e w9 ⟨rfl, rfl⟩))
      obtain ⟨w8, hw8⟩ : ∃ w8, w7.alloc (.cells #[.pointer (some ⟨T, 0, none⟩)] 32) = w8 := ⟨_, rfl⟩
      obtain ⟨w9, hw9⟩ : ∃ w9, w8.alloc (.cells #[.int .i64 (s' : Int)] 3) = w9 := ⟨_, rfl⟩
      rw [hw8, hw9]
      obtain ⟨hb7, hs7, hc7, hle7⟩ := HB7.out
      obtain ⟨hb8, hs8, hc8, hle8⟩ := Sp.below_new hb7 hw8 (by omega)
      obtain ⟨hb9, hs9, hc9, hle9⟩ := Sp.below_new hb8 hw9 (by omega)
      have HG := Lib.hid (Sp.FindGo.mk' HI.out HT2.out hb9 hc7 hc8 hc9 hs7 hs8 hs9 hw8 hw9)
      rw [show w7.heap.size + 1 = w8.heap.size from hs8.symm]
      clear hb7 hs7 hc7 hle7 hb8 hs8 hc8 hle8 hb9 hs9 hc9 hle9 hw7 hw8 hw9 HT2 HB7 b0 b1 b2 b3 b4 b5 p0
      refine wpIn_rangeFunc_ownF (n := 9) rfl (by omega) (gf := 44) (lb := #[.pointer (some ⟨w8.heap.size, 0, none⟩), .pointer (some ⟨w7.heap.size, 0, none⟩)]) rfl trivial (enters_of Tryd.func44 (by kernel_rfl) rfl)
        (spUp_stops 8 (by omega) w8.heap.size w7.heap.size w9 HG.out.tab s' hs' HG.out.bs HG.out.bt) (fun h k => h.trans k) (belowK_b (Nat.le_refl _)) (Below.refl _ _) (fun _ => rfl)
        (fun pre W => Sp.fnd t.l x.s (x.m.take k) (pre.map Subtype.val) = none ∧ Below w9.heap.size w9 W)
        (fun c pre W => (c = .ret ∧ ∃ i, Sp.fnd t.l x.s (x.m.take k) (pre.map Subtype.val) = some i ∧ Sp.Held W w2.heap.size w3.heap.size i (Sp.whatOf t.l i) ⟨#[]⟩ 0) ∧ Keep (fun k => k = w2.heap.size ∨ k = w3.heap.size) w9 W)
        (OwnFrom.and (ownFrom_pure _ _) (ownFrom_below (Nat.le_refl _) (Nat.le_refl _)))
        (fun c => OwnFrom.and (Sp.ownFrom_held _ _ (fun i => (i : Int)) _ HG.out.r6 HG.out.r7) (Sp.ownFrom_keep (Nat.le_refl _)))
        ⟨rfl, Below.refl _ _⟩
        (fun y => { tmps := #[.pointer (some ⟨T, 0, none⟩), .int .i64 s', f 2, .pointer (some ⟨w.heap.size, 0, none⟩), f 4, .pointer (some ⟨w1.heap.size, 0, none⟩), .pointer (some ⟨w2.heap.size, 0, none⟩), .pointer (some ⟨w3.heap.size, 0, none⟩), f 8, f 9, f 10, f 11, f 12, .pointer (some ⟨w6.heap.size, 0, none⟩), .int .i64 (y.1 : Int), f 15, f 16, f 17, f 18, f 19, f 20, f 21, f 22, f 23, f 24, f 25, f 26, f 27, f 28, f 29, f 30, f 31, f 32, f 33, f 34, f 35, f 36, f 37, f 38, f 39, f 40, f 41, f 42, f 43, f 44, f 45, f 46, .agg #[.int .i64 x.k, .int .i64 x.n, .string x.s, .slice a1 k q1, .slice a2 n2 q2, .slice a3 n3 q3], .agg #[.string x.s, .string (Sp.keyS (x.m.take k))], .pointer (some ⟨T, 0, none⟩), .int .i64 s', .func (.func 44) #[] #[.pointer (some ⟨w8.heap.size, 0, none⟩), .pointer (some ⟨w7.heap.size, 0, none⟩)], .int .i64 (y.1 : Int), f 53, f 54, f 55, f 56, f 57, f 58, f 59, f 60, f 61, f 62, f 63, f 64, f 65, f 66, f 67, f 68, f 69, f 70, f 71, f 72, f 73, f 74, f 75, f 76, f 77, f 78, f 79, f 80, f 81, f 82, f 83, f 84, f 85, f 86, f 87, f 88, f 89, f 90, f 91, f 92, f 93, f 94, f 95, f 96], defers := [] }) ?assign ?body ?done ?stop
      case assign =>
        intro l y W K hK
        gi_wp2
        exact hK
      case body =>
        rintro l pre y W ⟨hn, hB⟩ hlt
        have hT := HG.out.tab.below hB
        obtain ⟨g, c, b, hvl, hgl, hb, m7, m8, m9⟩ := hT.name y.1 y.2
        have tc0 := hT.c0
        have p0 := (hB.cell (p := ⟨w.heap.size, 0, none⟩) (block_lt_of_cell HG.out.p0)).trans HG.out.p0
        have k0 := (hB.cell (p := ⟨w6.heap.size, 0, none⟩) (block_lt_of_cell HG.out.n0)).trans HG.out.n0
        have k1 := (hB.cell (p := ⟨w6.heap.size, 1, none⟩) (block_lt_of_cell HG.out.n1)).trans HG.out.n1
        have hy0 : (0 : Int) ≤ (y.1 : Int) := by omega
        have hyl : (y.1 : Int) < (t.l.length : Int) := by have := y.2; omega
        have HBK := Lib.hid (Sp.binds_key HG.out.tab.ok (s := x.s) (m := x.m.take k) hb)
        have HBB := Lib.hid hB
        have HN := Lib.hid hn
        obtain ⟨kk, hkk⟩ : ∃ kk, kk = Sp.keyS (x.m.take k) := ⟨_, rfl⟩
        obtain ⟨kb, hkb⟩ : ∃ kb, kb = Sp.keyS b.id.m := ⟨_, rfl⟩
        rw [← hkk, ← hkb] at HBK
        rw [← hkk] at k1
        rw [← hkb] at m8
        obtain ⟨sb, hsb⟩ : ∃ sb, sb = b.id.s := ⟨_, rfl⟩
        rw [← hsb] at HBK m7
        have HB0 := Lib.hid hb
        clear hb hkb hsb hT hn hB hlt hkk
        subst hvl
        obtain ⟨yv, hyv⟩ := y
        dsimp only at hy0 hyl m7 m8 m9 HBK HB0 ⊢
        by_cases h1 : sb = x.s
        · by_cases h2 : kb = kk
          · subst h1 h2
            obtain ⟨⟨s0, s1, s2, s3⟩, f0, f1, f2, f3⟩ := HG.out.held HBB.out
            gi_wp2
            refine Rq.region (by kernel_rfl) (by kernel_rfl) (by kernel_rfl) ?_
            repeat (quiet_step_in (fail))
            refine wpQuietIn_nil ?_
            intro _ hw'
            obtain ⟨nq, hw''⟩ := hw'
            subst hw''
            gi_wp2
            have hyes : Sp.fnd t.l x.s (x.m.take k) ((pre ++ [(⟨yv, hyv⟩ : Sp.Sc t)]).map Subtype.val) = some yv := by
              rw [List.map_append]
              exact Sp.fnd_yes HN.out (by rw [HBK.out]; simp)
            have hw9 : Sp.whatOf t.l yv = b.what := by unfold Sp.whatOf; rw [HB0.out]
            refine ⟨(Sp.others_drew W nq).trans (Sp.others_done4 _ _ _ _ _ _ _), ⟨rfl, yv, hyes, ?_⟩, (((Keep.refl _ w9).below HBB.out).below (Dt.bdrew (Below.refl _ _) nq)).trans (Sp.done4_keep (W.drewN nq) w2.heap.size w3.heap.size (yv : Int) b.what ⟨#[]⟩ 0)⟩
            rw [hw9]
            exact Sp.done4_held (w := W.drewN nq) (HG.out.held (Dt.bdrew HBB.out nq)).1 hn67
          · have h2' : ¬ kb.toList = kk.toList := fun e => h2 (Sp.toList_inj e)
            subst h1
            gi_wp2
            refine Rq.region (by kernel_rfl) (by kernel_rfl) (by kernel_rfl) ?_
            repeat (quiet_step_in (fail))
            refine wpQuietIn_nil ?_
            intro _ hw'
            obtain ⟨nq, hw''⟩ := hw'
            subst hw''
            gi_wp2
            have hno : Sp.fnd t.l x.s (x.m.take k) ((pre ++ [(⟨yv, hyv⟩ : Sp.Sc t)]).map Subtype.val) = none := by
              rw [List.map_append]
              exact Sp.fnd_no HN.out (by rw [HBK.out]; simp [h2])
            exact ⟨Sp.others_drew W nq, Dt.bdrew (Below.refl _ _) nq, hno, Dt.bdrew HBB.out nq⟩
        · have h1' : ¬ sb.toList = x.s.toList := fun e => h1 (Sp.toList_inj e)
          gi_wp2
          refine Rq.region (by kernel_rfl) (by kernel_rfl) (by kernel_rfl) ?_
          repeat (quiet_step_in (fail))
          refine wpQuietIn_nil ?_
          intro _ hw'
          obtain ⟨nq, hw''⟩ := hw'
          subst hw''
          gi_wp2
          have hno : Sp.fnd t.l x.s (x.m.take k) ((pre ++ [(⟨yv, hyv⟩ : Sp.Sc t)]).map Subtype.val) = none := by
            rw [List.map_append]
            exact Sp.fnd_no HN.out (by rw [HBK.out]; simp [h1])
          exact ⟨Sp.others_drew W nq, Dt.bdrew (Below.refl _ _) nq, hno, Dt.bdrew HBB.out nq⟩
      case done =>
        rintro D ys W hD hys ⟨hn, hB⟩ hK
        rw [hys] at hn
        obtain ⟨hX, hXf, hMK, hKW, hTW⟩ := HG.out.after hB hD hK
        have b2 : W.cell? ⟨w1.heap.size, 2, none⟩ = some (.string x.s) := hX.2.2.1
        have b3 : W.cell? ⟨w1.heap.size, 3, none⟩ = some (.slice a1 k q1) := hX.2.2.2.1
        have f3 := hXf 3
        have hKN := Lib.hid hK
        have HXX := Lib.hid hX
        have HMK := Lib.hid hMK
        have HKW := Lib.hid hKW
        have HTW := Lib.hid hTW
        have HXF := Lib.hid hXf
        have HN := Lib.hid hn
        clear hn hK hX hMK hKW hTW hXf hys hB
        dsimp only
        cases k with
        | zero =>
          have HV1 : Hid (R.1 = ⟨0, 0, x.s⟩) := by
            show _ = _
            rw [← HL.out]
            unfold Sp.look Sp.hit
            have h9 := HN.out
            unfold Sp.fnd at h9
            rw [List.take_zero] at h9
            rw [h9]
          obtain ⟨⟨s0, s1, s2, s3⟩, e0, e1, e2, e3⟩ := HG.out.heldK HKW.out
          gi_wp2
          refine Sp.find_ret (rs := D :: rs) (b := w4.heap.size) rfl rfl (HMK.out.keep (Sp.done4_keep W w2.heap.size w3.heap.size 0 0 x.s 0) HG.out.st.st.apart) HG.out.st.st.l2 HG.out.st.st.l3 (Sp.done4_held ⟨s0, s1, s2, s3⟩ hn67) (fun w' hk' => ⟨?_, HG.out.st.st.below HKW.out (Sp.done4_keep W w2.heap.size w3.heap.size 0 0 x.s 0) HMK.out hk'⟩)
          rw [HV1.out, HV2.out]
          rfl
        | succ k =>
          have hkl : k < x.m.length := by omega
          have hk16 : (k : Int) < 16 := by have := HML.out; omega
          obtain ⟨a9, c9, e9, -, hcell⟩ := ((Dt.rep_iff _ _ _ _ _ _).1 (Dt.Rep.keep HKW.out (fun b hb _ e => by have e' : b = w1.heap.size := e; have := HG.out.st.st.s1; omega) _ HG.out.st.st.rep)).1
          obtain ⟨bb, oo, rfl, -, -, hcc⟩ := hcell (by intro e; rw [e] at hkl; simp at hkl)
          obtain ⟨e1, -, e3⟩ := Sp.slice_inj e9
          have q0 := hcc k hkl
          have hy := HAL.out x.m[k] (List.getElem_mem _)
          obtain ⟨y, hyy⟩ : ∃ y, y = x.m[k] := ⟨_, rfl⟩
          rw [← hyy] at q0 hy
          have hml := HTW.out.ok.small.2
          have hlk : ∀ n, (Instr.lookup 71 (.map (some mb)) (.int .i64 y) false).run Tryd.prog (W.drewN n) = .ok (.int .i64 ((t.m.getD (y - 1).toNat 0 : Nat) : Int)) (W.drewN n) := fun n => by
            rw [(HTW.out.mp.heap (w' := W.drewN n) rfl).look1 (s := y) (by omega) (by omega), Sp.markAt_get hy.1 hy.2]
          obtain ⟨v0, hv0⟩ : ∃ v0, v0 = t.m.getD (y - 1).toNat 0 := ⟨_, rfl⟩
          rw [← hv0] at hlk
          have HV0 := Lib.hid hv0
          clear hv0
          have HYY := Lib.hid hyy
          have HY2 := Lib.hid hy
          have tc1 := HTW.out.c1
          have p0 : W.cell? ⟨w.heap.size, 0, none⟩ = some (.pointer (some ⟨T, 0, none⟩)) := (HKW.out.cell 0 (show w.heap.size < w4.heap.size by have := HG.out.st.st.s4; omega) (fun e => by have e' : w.heap.size = w1.heap.size := e; have := HG.out.st.st.s1; omega)).trans HG.out.st.st.p0
          have hk0 : (0 : Int) ≤ (k : Int) := by omega
          have hkk : (k : Int) < ((k + 1 : Nat) : Int) := by omega
          have hkk2 : (k : Int) < (k : Int) + 1 := by omega
          have hkk3 : ¬ ((k : Int) < 0) := by omega
          have HCI : Hid (x.m.length ≤ q1) := hci
          have hkq : (k : Int) ≤ (q1 : Int) := by omega
          have hkq2 : k ≤ q1 := by omega
          clear hcell hcc hyy e9 hy hml hci
          subst e1 e3
          gi_wp2
          gi_quiet_th (fail)
          gi_wp2
          refine ⟨⟨k, v0, D :: rs, ⟨by omega, ?_, ?_, ?_⟩, rfl⟩, ?_⟩
          · rw [HV0.out]
            exact HG.out.tab.ok.ms _ (Sp.getD_mem (by have := HY2.out; omega))
          · show _ = _
            rw [← HL.out]
            have h9 : Sp.hit t.l s' x.s (x.m.take (k + 1)) = none := HN.out
            have e9 : x.m.getD k 0 = y := by rw [List.getD_eq_getElem?_getD, List.getElem?_eq_getElem hkl, HYY.out]; rfl
            rw [Sp.look, h9]
            simp only
            rw [e9, HV0.out, Sp.toNat_pred HY2.out.1]
          · exact Sp.FindIn.next HG.out.st HXX.out HXF.out HMK.out HKW.out nq
          · rw [Sp.mlen_of (Sp.set3_cell HXX.out nq), Sp.mlen_of HG.out.st.bx.2.2.2.1]
            exact Nat.lt_succ_self k
      case stop =>
        rintro D c pre W hD hpre ⟨⟨rfl, i, hi, hh⟩, hk9⟩ hK
        dsimp only
        have HV1 : Hid (R.1 = ⟨i, Sp.whatOf t.l i, ⟨#[]⟩⟩) := by
          show _ = _
          rw [← HL.out]
          have h9 : Sp.hit t.l s' x.s (x.m.take k) = some i := Sp.fnd_pre hpre hi
          cases k with
          | zero => unfold Sp.look; rw [List.take_zero] at h9; rw [h9]
          | succ k => unfold Sp.look; rw [h9]
        have HMK := Lib.hid (HG.out.marks hk9 hD hK)
        gi_wp2
        refine Sp.find_ret (rs := D :: rs) (b := w4.heap.size) rfl rfl HMK.out HG.out.st.st.l2 HG.out.st.st.l3 hh (fun w' hk' => ⟨?_, HG.out.st.st.below (HG.out.st.kp.below HG.out.bel) hk9 HMK.out hk'⟩)
        rw [HV1.out, HV2.out]
        rfl
end Go.Proofs.YtjbjgceblanhpaaDoor
