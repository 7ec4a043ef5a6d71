/-
  The document's table: as it lies, and what its functions do.
-/
import Derived.Test.YtjbjgceblanhpaaDoorSpInnerP
import Derived.Test.YtjbjgceblanhpaaDoorSpSame
import Derived.Test.YtjbjgceblanhpaaDoorApp
import Derived.Test.YtjbjgceblanhpaaDoorSpNamesI
import Derived.Deep.Draws
import Derived.Deep.RegionHeld3
import Derived.Deep.DeepCutAuto
import Derived.Lib.QuietBelow
import Derived.IntWalk
namespace Go.Proofs.YtjbjgceblanhpaaDoor
open Go.RowKit
namespace Sp
open Dt
/-- a scope of the document's table, as it lies -/
structure RS where
  b : Bd
  vm : Value
  vl : Value
  vt : Value
def RS.cells (x : RS) : List Value := [.int .i64 x.b.inn, .int .i64 x.b.id.k, .int .i64 x.b.id.n, .string x.b.id.s, x.vm, x.vl, x.vt, .int .i64 x.b.what]
def flatS (ls : List RS) : List Value := ls.flatMap RS.cells
theorem flatS_app (ls : List RS) (p : RS) : flatS (ls ++ [p]) = flatS ls ++ p.cells := by unfold flatS; simp
theorem flatS_cons (p : RS) (ls : List RS) : flatS (p :: ls) = p.cells ++ flatS ls := rfl
theorem flatS_at : ∀ (ls : List RS) (j : Nat) (h : j < ls.length) (i : Nat), i < 8 → (flatS ls)[j * 8 + i]? = ls[j].cells[i]?
  | [], j, h, i, hi => absurd h (by simp)
  | a :: l, 0, h, i, hi => by
    rw [flatS_cons, List.getElem?_append_left (by rw [show a.cells.length = 8 from rfl]; omega)]
    simp
  | a :: l, j + 1, h, i, hi => by
    rw [flatS_cons, List.getElem?_append_right (by rw [show a.cells.length = 8 from rfl]; omega), show (j + 1) * 8 + i - a.cells.length = j * 8 + i from by rw [show a.cells.length = 8 from rfl]; omega, flatS_at l j (by simpa using h) i hi]
    simp
def cellN (s : Nat) : Value := .int .i64 (s : Int)
/-- the document's table as it lies -/
structure RTb (w : World) (base R : Nat) (v1 v2 : Value) (ys : List RS) (t : Tbl) : Prop where
  c0 : w.cell? ⟨R, 0, none⟩ = some v1
  c1 : w.cell? ⟨R, 1, none⟩ = some v2
  fz : ∀ j, w.frozen? ⟨R, j, none⟩ = false
  row : w.ownsRow base 91 8 v1 ys.length (flatS ys)
  row2 : w.ownsRow base 3 1 v2 t.m.length (t.m.map cellN)
  yb : ys.map RS.b = t.l
  bR : base ≤ R
  n1 : v1.ownBlock ≠ some R
  n2 : v2.ownBlock ≠ some R
  n12 : ∀ k, v1.ownBlock = some k → v2.ownBlock ≠ some k
  ok : t.Ok
/-- what of it may be changed -/
def RMut (R : Nat) (v1 v2 : Value) (k : Nat) : Prop := k = R ∨ v1.ownBlock = some k ∨ v2.ownBlock = some k
/-- the names of its scopes lie in blocks of F -/
def RIds (F : Nat → Prop) (w : World) (ys : List RS) : Prop := ∀ x ∈ ys, Rep F w x.b.id x.vm x.vl x.vt
theorem RIds.keep {F S : Nat → Prop} {w w' : World} {ys : List RS} (h : RIds F w ys) (hk : Keep S w w') (hS : ∀ b, F b → b < w.heap.size → ¬ S b) : RIds F w' ys := fun x hx => Rep.keep hk hS _ (h x hx)
theorem RIds.below {F : Nat → Prop} {w w' : World} {ys : List RS} (h : RIds F w ys) (hb : Below w.heap.size w w') : RIds F w' ys := fun x hx => (h x hx).below hb
theorem RIds.mono {F G : Nat → Prop} {w : World} {ys : List RS} (h : RIds F w ys) (hFG : ∀ b, F b → b < w.heap.size → G b) : RIds G w ys := fun x hx => Rep.mono hFG _ (h x hx)
theorem RTb.len {w : World} {base R : Nat} {v1 v2 : Value} {ys : List RS} {t : Tbl} (h : RTb w base R v1 v2 ys t) : ys.length = t.l.length := by rw [← h.yb, List.length_map]
theorem RTb.lt {w : World} {base R : Nat} {v1 v2 : Value} {ys : List RS} {t : Tbl} (h : RTb w base R v1 v2 ys t) : R < w.heap.size := block_lt_of_cell h.c0
theorem RTb.keep {S : Nat → Prop} {w w' : World} {base R : Nat} {v1 v2 : Value} {ys : List RS} {t : Tbl} (h : RTb w base R v1 v2 ys t) (hk : Keep S w w') (hS : ∀ k, RMut R v1 v2 k → ¬ S k) : RTb w' base R v1 v2 ys t :=
  ⟨(hk.cell 0 h.lt (hS R (.inl rfl))).trans h.c0, (hk.cell 1 h.lt (hS R (.inl rfl))).trans h.c1, fun j => (hk.frozen j h.lt (hS R (.inl rfl))).trans (h.fz j), own_keep h.row hk (fun k hk => hS k (.inr (.inl hk))), own_keep h.row2 hk (fun k hk => hS k (.inr (.inr hk))), h.yb, h.bR, h.n1, h.n2, h.n12, h.ok⟩
theorem RTb.below {w w' : World} {base R : Nat} {v1 v2 : Value} {ys : List RS} {t : Tbl} (h : RTb w base R v1 v2 ys t) (hb : Below w.heap.size w w') : RTb w' base R v1 v2 ys t :=
  h.keep (S := fun _ => False) ((Keep.refl _ w).below hb) (fun _ _ h => h)
theorem RTb.mutlt {w : World} {base R : Nat} {v1 v2 : Value} {ys : List RS} {t : Tbl} (h : RTb w base R v1 v2 ys t) : ∀ k, RMut R v1 v2 k → k < w.heap.size := by
  rintro k (e | e | e)
  · rw [e]; exact h.lt
  · exact (own_lt h.row k e).2
  · exact (own_lt h.row2 k e).2
theorem RTb.mutge {w : World} {base R : Nat} {v1 v2 : Value} {ys : List RS} {t : Tbl} (h : RTb w base R v1 v2 ys t) : ∀ k, RMut R v1 v2 k → base ≤ k := by
  rintro k (e | e | e)
  · rw [e]; exact h.bR
  · exact (own_lt h.row k e).1
  · exact (own_lt h.row2 k e).1
/-- where its scopes lie -/
theorem RTb.at {w : World} {base R : Nat} {v1 v2 : Value} {ys : List RS} {t : Tbl} (h : RTb w base R v1 v2 ys t) : ∃ g c, v1 = .slice (some ⟨g, 0, none⟩) t.l.length c ∧ g < w.heap.size ∧ ∀ j, (hj : j < ys.length) → ∀ i, i < 8 → w.cell? ⟨g, j * 8 + i, none⟩ = ys[j].cells[i]? := by
  have hl := h.len
  have hp := h.ok.pos
  rcases h.row.2 with ⟨_, h0⟩ | ⟨g, cap, cur, rfl, e2, e3, e4⟩
  · omega
  · refine ⟨g, cap, by rw [hl], (Array.getElem?_eq_some_iff.1 e3).1, fun j hj i hi => ?_⟩
    have hv : (flatS ys)[j * 8 + i]? = ys[j].cells[i]? := flatS_at ys j hj i hi
    have hlt : i < ys[j].cells.length := by rw [show ys[j].cells.length = 8 from rfl]; exact hi
    rw [List.getElem?_eq_getElem hlt] at hv ⊢
    have := h.row.cells (g := g) rfl (j * 8 + i) _ hv
    have e : (⟨g, 0, none⟩ : Addr).add (j * 8 + i) = ⟨g, j * 8 + i, none⟩ := by
      unfold Addr.add
      split
      · rename_i h0; rw [h0]
      · rw [Nat.zero_add]
    rw [e] at this
    exact this
/-- where its marks lie -/
theorem RTb.mat {w : World} {base R : Nat} {v1 v2 : Value} {ys : List RS} {t : Tbl} (h : RTb w base R v1 v2 ys t) : ∃ a c, v2 = .slice a t.m.length c ∧ ∀ j, (hj : j < t.m.length) → ∃ g, a = some ⟨g, 0, none⟩ ∧ w.cell? ⟨g, j, none⟩ = some (.int .i64 (t.m[j] : Int)) := by
  rcases h.row2.2 with ⟨e, h0⟩ | ⟨g, cap, cur, e, e2, e3, e4⟩
  · exact ⟨none, 0, by rw [e, h0], fun j hj => by omega⟩
  · refine ⟨_, cap, e, fun j hj => ⟨g, rfl, ?_⟩⟩
    have hv : (t.m.map cellN)[j]? = some (.int .i64 (t.m[j] : Int)) := by rw [List.getElem?_map, List.getElem?_eq_getElem hj]; rfl
    have := h.row2.cells (g := g) (by rw [e]; rfl) j _ hv
    have e : (⟨g, 0, none⟩ : Addr).add j = ⟨g, j, none⟩ := by
      unfold Addr.add
      split
      · rename_i h0; rw [h0]
      · rw [Nat.zero_add]
    rw [e] at this
    exact this
/-! Find, one step -/
theorem hit_step {t : Tbl} (h : t.Ok) {q : Nat} (h0 : q ≠ 0) {b : Bd} (hb : t.l[q]? = some b) (s : ByteArray) (m : List Int) : hit t.l q s m = if binds t.l s m q then some q else hit t.l b.inn s m := by
  unfold hit
  rw [ups_step h h0 hb, List.find?_cons]
  cases binds t.l s m q <;> rfl
theorem hit_zero (l : List Bd) (s : ByteArray) (m : List Int) : hit l 0 s m = none := by
  unfold hit
  rw [ups_zero]
  rfl
theorem look_take (t : Tbl) (s : ByteArray) (m : List Int) : ∀ (k j q : Nat), k ≤ j → look t s (m.take j) k q = look t s m k q
  | 0, _, _, _ => rfl
  | k + 1, j, q, hj => by
    rw [look, look, List.take_take, Nat.min_eq_left hj]
    have e : (m.take j).getD k 0 = m.getD k 0 := by
      rw [List.getD_eq_getElem?_getD, List.getD_eq_getElem?_getD, List.getElem?_take_of_lt (by omega)]
    rw [e]
    cases hit t.l q s (m.take (k + 1)) with
    | some i => rfl
    | none => exact look_take t s m k j _ (by omega)
/-- a name with the last mark off -/
def less (x : D) : D := .mk 5 0 x.s (x.m.take (x.m.length - 1)) [] []
theorem less_sym {x : D} (h : isSym x = true) : isSym (less x) = true := by
  obtain ⟨_, _, _, _, h5, h6, h7, _⟩ := sym_parts h
  refine sym_mk h7 ?_ (fun y hy => h6 y (List.mem_of_mem_take hy))
  rw [List.length_take]; omega
/-- of a name's last mark the scope -/
def past (t : Tbl) (x : D) : Nat := t.m.getD ((x.m.getD (x.m.length - 1) 0).toNat - 1) 0
def marksOk (t : Tbl) (x : D) : Bool := x.m.all fun y => decide (y ≤ (t.m.length : Int))
theorem find_in {t : Tbl} {sc : Int} {x : D} (h0 : ¬ (sc < 0 ∨ (t.l.length : Int) ≤ sc)) (h1 : isSym x = true) (h2 : marksOk t x = true) : find t sc x = (look t x.s x.m x.m.length sc.toNat, 0) := by
  unfold find
  rw [if_neg h0, if_neg (by rw [h1]; simp), if_neg (by unfold marksOk at h2; rw [h2]; simp)]
theorem find_hit {t : Tbl} {sc : Int} {x : D} (h0 : ¬ (sc < 0 ∨ (t.l.length : Int) ≤ sc)) (h1 : isSym x = true) (h2 : marksOk t x = true) {i : Nat} (hh : hit t.l sc.toNat x.s x.m = some i) : find t sc x = (⟨i, whatOf t.l i, ⟨#[]⟩⟩, 0) := by
  rw [find_in h0 h1 h2]
  cases hl : x.m.length with
  | zero =>
    have e : x.m = [] := List.length_eq_zero_iff.1 hl
    rw [e] at hh
    rw [look, hh]
  | succ k =>
    rw [look, show x.m.take (k + 1) = x.m from List.take_of_length_le (by omega), hh]
theorem find_end {t : Tbl} {sc : Int} {x : D} (h0 : ¬ (sc < 0 ∨ (t.l.length : Int) ≤ sc)) (h1 : isSym x = true) (h2 : marksOk t x = true) (hh : hit t.l sc.toNat x.s x.m = none) (hm : x.m.length = 0) : find t sc x = (⟨0, 0, x.s⟩, 0) := by
  rw [find_in h0 h1 h2, hm]
  have e : x.m = [] := List.length_eq_zero_iff.1 hm
  rw [e] at hh
  rw [look, hh]
theorem find_past {t : Tbl} (ht : t.Ok) {sc : Int} {x : D} (h0 : ¬ (sc < 0 ∨ (t.l.length : Int) ≤ sc)) (h1 : isSym x = true) (h2 : marksOk t x = true) (hh : hit t.l sc.toNat x.s x.m = none) (hm : x.m.length ≠ 0) : find t sc x = find t (past t x) (less x) := by
  obtain ⟨k, hk⟩ : ∃ k, x.m.length = k + 1 := ⟨x.m.length - 1, by omega⟩
  have hp : past t x < t.l.length := mark_lt ht _
  have h3 : marksOk t (less x) = true := by
    unfold marksOk at h2 ⊢
    rw [List.all_eq_true] at h2 ⊢
    intro y hy
    exact h2 y (List.mem_of_mem_take hy)
  rw [find_in h0 h1 h2, find_in (sc := (past t x : Int)) (by omega) (less_sym h1) h3, hk, look, show x.m.take (k + 1) = x.m from List.take_of_length_le (by omega), hh]
  simp only
  have e1 : (less x).m = x.m.take k := by show x.m.take (x.m.length - 1) = _; rw [hk]; rfl
  have e2 : (less x).s = x.s := rfl
  rw [e1, e2, List.length_take, Nat.min_eq_left (by omega), look_take t x.s x.m k k _ (Nat.le_refl _), Int.toNat_natCast]
  unfold past
  rw [hk]
  rfl
/-- a scope's name is that name -/
theorem binds_same {t : Tbl} (ho : t.Ok) {x : D} (hx : isSym x = true) {i : Nat} (h0 : i ≠ 0) {b : Bd} (hb : t.l[i]? = some b) : binds t.l x.s x.m i = sameD b.id x := by
  have hs := (ho.inn i b hb (by omega)).2
  unfold binds
  rw [hb]
  simp only
  rw [Bool.eq_iff_iff]
  simp only [Bool.and_eq_true, decide_eq_true_eq]
  constructor
  · rintro ⟨h1, h2⟩
    rw [sym_ext hs hx h1 h2]
    unfold sameD
    rw [decide_eq_true (sym_parts hx).2.2.2.2.2.2.2, (eqD_iff x x).2 rfl]
    rfl
  · intro h
    unfold sameD at h
    simp only [Bool.and_eq_true] at h
    rw [(eqD_iff _ _).1 h.2]
    exact ⟨rfl, rfl⟩
end Sp
end Go.Proofs.YtjbjgceblanhpaaDoor
namespace Go.Proofs.YtjbjgceblanhpaaDoor
open Go.RowKit
attribute [local go_sem] Oper.semAt_some
namespace Sp
open Dt
/-- is a scope there? -/
def hasB (t : Tbl) (sc : Int) : Bool := decide (0 ≤ sc) && decide (sc < (t.l.length : Int))
theorem hasB_yes {t : Tbl} {sc : Int} : hasB t sc = true ↔ ¬ (sc < 0 ∨ (t.l.length : Int) ≤ sc) := by
  unfold hasB
  simp only [Bool.and_eq_true, decide_eq_true_eq]
  omega
theorem own_alloc (w : World) (base n size : Nat) (e : TypeId) (cs : Array Value) (hb : base ≤ w.heap.size) (hs : cs.size = n * size) (hn : n ≤ maxLen) : (w.alloc (.cells cs e)).ownsRow base e size (.slice (some ⟨w.heap.size, 0, none⟩) n n) n cs.toList :=
  ⟨by rw [Array.length_toList]; exact hs, .inr ⟨w.heap.size, n, cs, rfl, hb, World.alloc_heap_new w _, Nat.le_refl _, hn, hs, List.take_of_length_le (by rw [Array.length_toList, hs]; exact Nat.le_refl _)⟩⟩
theorem src_one (w : World) (v : Value) (t : TypeId) : Ap.Src (w.alloc (.cells #[v] t)) (.slice (some ⟨w.heap.size, 0, none⟩) 1 1) 1 [v] := by
  refine .inr ⟨_, _, rfl, fun j u hj => ?_⟩
  obtain ⟨hlt, rfl⟩ := List.getElem?_eq_some_iff.1 hj
  have hj0 : j = 0 := by simpa using hlt
  subst hj0
  unfold World.cell? Addr.add
  rw [if_pos rfl, World.alloc_heap_new]
  rfl
theorem src_cells (w : World) (cs : List Value) (n : Nat) (t : TypeId) : Ap.Src (w.alloc (.cells cs.toArray t)) (.slice (some ⟨w.heap.size, 0, none⟩) n n) n cs := by
  refine .inr ⟨_, _, rfl, fun j u hj => ?_⟩
  have e : (⟨w.heap.size, 0, none⟩ : Addr).add j = ⟨w.heap.size, j, none⟩ := by
    unfold Addr.add
    split
    · rename_i h0; rw [h0]
    · rw [Nat.zero_add]
  rw [e]
  unfold World.cell?
  rw [World.alloc_heap_new]
  simpa using hj
theorem grown_keep {n : Nat} {w w1 w3 : World} {v : Value} (hb : Below n w w1) (hn : n ≤ w.heap.size) (hw : w.heap.size ≤ n) (hg : w1.grownBy w3 v.ownBlock) : Keep (fun k => v.ownBlock = some k) w w3 :=
  ⟨hg.os.trans hb.os, hg.tape.trans hb.tape, hg.output.trans hb.output, Nat.le_trans hb.size hg.size, fun k hk hS => (hg.block k (Nat.lt_of_lt_of_le hk hb.size) (fun e => hS e.symm)).trans (hb.block k (by omega))⟩
/-- a mark is put -/
theorem RTb.pushM {w w1 w3 : World} {base R : Nat} {v1 v2 v2' : Value} {ys : List RS} {t : Tbl} {s : Nat} (h : RTb w base R v1 v2 ys t) (hb1 : Below w.heap.size w w1) (hown : w3.ownsRow base 3 1 v2' (t.m.length + 1) (t.m.map cellN ++ [cellN s])) (hg : w1.grownBy w3 v2.ownBlock)
    (hat : v2'.ownBlock = v2.ownBlock ∨ v2'.ownBlock = some w1.heap.size) (hok : (Tbl.mk t.l (t.m ++ [s])).Ok) :
    w3.cell? ⟨R, 1, none⟩ = some v2 ∧ w3.frozen? ⟨R, 1, none⟩ = false ∧ RTb (w3.setCell ⟨R, 1, none⟩ v2') base R v1 v2' ys ⟨t.l, t.m ++ [s]⟩ ∧ Keep (RMut R v1 v2) w (w3.setCell ⟨R, 1, none⟩ v2') ∧ RV w v2 v2' := by
  have hk := grown_keep hb1 (Nat.le_refl _) (Nat.le_refl _) hg
  have hlR := h.lt
  have hs1 := hb1.size
  have hlt := h.mutlt
  have hnR : v2.ownBlock ≠ some R := h.n2
  have hkR := keep1 w3 R 1 v2'
  have c1 := (hk.cell 1 hlR hnR).trans h.c1
  have hat2 : ∀ k, v2'.ownBlock = some k → v2.ownBlock = some k ∨ w.heap.size ≤ k := fun k hk => by
    rcases hat with e | e
    · exact .inl (by rw [← e]; exact hk)
    · right
      rw [e] at hk
      have := Option.some.inj hk
      omega
  have hn2' : v2'.ownBlock ≠ some R := fun e => by
    rcases hat2 R e with e | e
    · exact hnR e
    · omega
  refine ⟨c1, (hk.frozen 1 hlR hnR).trans (h.fz 1), ⟨?_, cell_set_eq _ _ _ _ _ c1, fun j => (frz_set _ _ _ _ _ _).trans ((hk.frozen j hlR hnR).trans (h.fz j)), ?_, ?_, h.yb, h.bR, h.n1, hn2', ?_, hok⟩, ?_, hat2⟩
  · rw [cell_set_ne _ _ _ _ _ (by omega)]
    exact (hk.cell 0 hlR hnR).trans h.c0
  · exact own_keep (own_keep h.row hk (fun k e e2 => h.n12 k e e2)) hkR (fun k e e2 => h.n1 (by rw [e, e2]))
  · have e : (t.m ++ [s]).length = t.m.length + 1 := by simp
    show World.ownsRow _ base 3 1 v2' (t.m ++ [s]).length ((t.m ++ [s]).map cellN)
    rw [e, List.map_append]
    exact own_keep hown hkR (fun k hk e => hn2' (by rw [hk, e]))
  · intro k e1 e2
    rcases hat2 k e2 with e | e
    · exact h.n12 k e1 e
    · have := hlt k (.inr (.inl e1)); omega
  · exact (hk.mono (fun k _ e => .inr (.inr e))).trans (hkR.mono (fun k _ e => .inl e))
/-- a scope is put -/
theorem RTb.pushL {w w1 w3 : World} {base R : Nat} {v1 v2 v1' : Value} {ys : List RS} {t : Tbl} {y : RS} (h : RTb w base R v1 v2 ys t) (hb1 : Below w.heap.size w w1) (hown : w3.ownsRow base 91 8 v1' (t.l.length + 1) (flatS ys ++ y.cells)) (hg : w1.grownBy w3 v1.ownBlock)
    (hat : v1'.ownBlock = v1.ownBlock ∨ v1'.ownBlock = some w1.heap.size) (hok : (Tbl.mk (t.l ++ [y.b]) t.m).Ok) :
    w3.cell? ⟨R, 0, none⟩ = some v1 ∧ w3.frozen? ⟨R, 0, none⟩ = false ∧ RTb (w3.setCell ⟨R, 0, none⟩ v1') base R v1' v2 (ys ++ [y]) ⟨t.l ++ [y.b], t.m⟩ ∧ Keep (RMut R v1 v2) w (w3.setCell ⟨R, 0, none⟩ v1') ∧ RV w v1 v1' := by
  have hk := grown_keep hb1 (Nat.le_refl _) (Nat.le_refl _) hg
  have hlR := h.lt
  have hs1 := hb1.size
  have hlt := h.mutlt
  have hnR : v1.ownBlock ≠ some R := h.n1
  have hkR := keep1 w3 R 0 v1'
  have c0 := (hk.cell 0 hlR hnR).trans h.c0
  have hat2 : ∀ k, v1'.ownBlock = some k → v1.ownBlock = some k ∨ w.heap.size ≤ k := fun k hk => by
    rcases hat with e | e
    · exact .inl (by rw [← e]; exact hk)
    · right
      rw [e] at hk
      have := Option.some.inj hk
      omega
  have hn1' : v1'.ownBlock ≠ some R := fun e => by
    rcases hat2 R e with e | e
    · exact hnR e
    · omega
  have hl := h.len
  refine ⟨c0, (hk.frozen 0 hlR hnR).trans (h.fz 0), ⟨cell_set_eq _ _ _ _ _ c0, ?_, fun j => (frz_set _ _ _ _ _ _).trans ((hk.frozen j hlR hnR).trans (h.fz j)), ?_, ?_, by rw [List.map_append, h.yb]; rfl, h.bR, hn1', h.n2, ?_, hok⟩, ?_, hat2⟩
  · rw [cell_set_ne _ _ _ _ _ (by omega)]
    exact (hk.cell 1 hlR hnR).trans h.c1
  · have e : (ys ++ [y]).length = t.l.length + 1 := by rw [List.length_append, hl]; rfl
    rw [e, flatS_app]
    exact own_keep hown hkR (fun k hk e => hn1' (by rw [hk, e]))
  · exact own_keep (own_keep h.row2 hk (fun k e e2 => h.n12 k e2 e)) hkR (fun k e e2 => h.n2 (by rw [e, e2]))
  · intro k e1 e2
    rcases hat2 k e1 with e | e
    · exact h.n12 k e e2
    · have := hlt k (.inr (.inr e2)); omega
  · exact (hk.mono (fun k _ e => .inr (.inl e))).trans (hkR.mono (fun k _ e => .inl e))
/-- the outermost scope, as it lies -/
def R0 : RS := ⟨bd0, .slice none 0 0, .slice none 0 0, .slice none 0 0⟩
theorem infoI : (Tryd.prog.info? 3).map (fun i => (i.zero, i.size, i.bytes)) = some (some (.int .i64 0), 1, 8) := by kernel_rfl
theorem infoS : (Tryd.prog.info? 91).map (fun i => (i.zero, i.size, i.bytes)) = some (some (.agg #[.int .i64 0, .int .i64 0, .int .i64 0, .string ⟨#[]⟩, .slice none 0 0, .slice none 0 0, .slice none 0 0, .int .i64 0]), 8, 120) := by kernel_rfl
end Sp
set_option maxRecDepth 100000 in
theorem rNew_any (w : World) :
    Calls Tryd.prog 22 #[] w fun e w' => ∃ R v1 v2, e = .returned (.pointer (some ⟨R, 0, none⟩)) ∧ Sp.RTb w' w.heap.size R v1 v2 [Sp.R0] Sp.Tbl.new ∧ Sp.RIds (fun _ => False) w' [Sp.R0] ∧ Below w.heap.size w w' := by
  go_enter Tryd.func22, Tryd.ntmps22
  go_wp2
  go_ret
  have h1 := Sp.own_alloc w w.heap.size 1 8 91 #[.int .i64 0, .int .i64 0, .int .i64 0, .string ⟨#[]⟩, .slice none 0 0, .slice none 0 0, .slice none 0 0, .int .i64 0] (Nat.le_refl _) rfl (by unfold maxLen; omega)
  obtain ⟨w1, hw1⟩ : ∃ w1, w.alloc (.cells #[.int .i64 0, .int .i64 0, .int .i64 0, .string ⟨#[]⟩, .slice none 0 0, .slice none 0 0, .slice none 0 0, .int .i64 0] 91) = w1 := ⟨_, rfl⟩
  have hb1 := Sp.below_new (Below.refl _ w) hw1 (Nat.le_refl _)
  rw [hw1] at h1 ⊢
  obtain ⟨hb, hs, -, -⟩ := hb1
  have d := Dt.two_new w1 (.slice (some ⟨w.heap.size, 0, none⟩) 1 1) (.slice none 0 0) 68
  have f := Dt.frz_new w1 #[.slice (some ⟨w.heap.size, 0, none⟩) 1 1, .slice none 0 0] 68
  have hb2 : Below w1.heap.size w1 (w1.alloc (.cells #[.slice (some ⟨w.heap.size, 0, none⟩) 1 1, .slice none 0 0] 68)) := (Below.refl _ _).alloc (Nat.le_refl _) _
  rw [hs] at d f
  refine ⟨w.heap.size + 1, .slice (some ⟨w.heap.size, 0, none⟩) 1 1, .slice none 0 0, rfl, ⟨d.1, d.2, f, Dt.own_below h1 hb2, World.ownsRow_nil _ _ _ _, rfl, by omega, ?_, (by simp [Value.ownBlock]), (fun k _ => by simp [Value.ownBlock]), Sp.Tbl.Ok.new⟩, ?_, hb.trans (hb2.mono hb.size)⟩
  · intro e
    have e2 : some w.heap.size = some (w.heap.size + 1) := e
    have := Option.some.inj e2
    omega
  · intro x hx
    rw [List.mem_singleton.1 hx]
    exact Dt.rep_zero _ _
set_option maxRecDepth 100000 in
theorem rHas_any {base R : Nat} {v1 v2 : Value} {ys : List Sp.RS} {t : Sp.Tbl} (sc : Int) (w : World) (h : Sp.RTb w base R v1 v2 ys t) :
    Calls Tryd.prog 48 #[.pointer (some ⟨R, 0, none⟩), .int .i64 sc] w fun e w' => e = .returned (.bool (Sp.hasB t sc)) ∧ w = w' := by
  obtain ⟨g, c, rfl, _⟩ := h.at
  have c0 := h.c0
  obtain ⟨E, hE⟩ : ∃ E, E = Sp.hasB t sc := ⟨_, rfl⟩
  rw [← hE]
  unfold Sp.hasB at hE
  clear h
  by_cases h0 : 0 ≤ sc
  · by_cases h1 : sc < (t.l.length : Int)
    · have HE : Hid (E = true) := by show _ = _; rw [hE, decide_eq_true h0, decide_eq_true h1]; rfl
      have h1' : decide (sc < (t.l.length : Int)) = true := decide_eq_true h1
      clear hE
      go_enter Tryd.func48, Tryd.ntmps48
      go_wp2
      go_ret
      exact ⟨by rw [HE.out]; rfl, rfl⟩
    · have HE : Hid (E = false) := by show _ = _; rw [hE, decide_eq_true h0, decide_eq_false h1]; rfl
      have h1' : decide (sc < (t.l.length : Int)) = false := decide_eq_false h1
      clear hE
      go_enter Tryd.func48, Tryd.ntmps48
      go_wp2
      go_ret
      exact ⟨by rw [HE.out]; rfl, rfl⟩
  · have HE : Hid (E = false) := by show _ = _; rw [hE, decide_eq_false h0]; rfl
    have h0' : decide (0 ≤ sc) = false := decide_eq_false h0
    clear hE
    go_enter Tryd.func48, Tryd.ntmps48
    go_wp2
    go_ret
    exact ⟨by rw [HE.out]; rfl, rfl⟩
set_option maxRecDepth 100000 in
set_option maxHeartbeats 4000000 in
theorem rSymbol05_any {F : Nat → Prop} (x : Dt.D) (vm vl vt : Value) (w : World) (hW : Dt.Wf x) (hR : Dt.Rep F w x vm vl vt) :
    Calls Tryd.prog 49 #[.agg #[.int .i64 x.k, .int .i64 x.n, .string x.s, vm, vl, vt]] w fun e w' => e = .returned (.bool (Sp.isSym x)) ∧ Below w.heap.size w w' := by
  obtain ⟨a1, n1, q1, a2, n2, q2, a3, n3, q3, rfl, rfl, rfl⟩ := hR.forms
  obtain ⟨w1, hw1⟩ : ∃ w1, w.alloc (.cells #[.int .i64 x.k, .int .i64 x.n, .string x.s, .slice a1 n1 q1, .slice a2 n2 q2, .slice a3 n3 q3] 26) = w1 := ⟨_, rfl⟩
  have hb1 : Below w.heap.size w w1 := by rw [← hw1]; exact (Below.refl _ _).alloc (Nat.le_refl _) _
  have hbx := Dt.six_new w x.k x.n x.s (.slice a1 n1 q1) (.slice a2 n2 q2) (.slice a3 n3 q3) 26
  rw [hw1] at hbx
  have b0 := hbx 0 (by omega)
  have b1 := hbx 1 (by omega)
  have b2 := hbx 2 (by omega)
  have b3 := hbx 3 (by omega)
  have b4 := hbx 4 (by omega)
  have b5 := hbx 5 (by omega)
  simp only [List.getElem?_toArray, List.getElem?_cons_zero, List.getElem?_cons_succ] at b0 b1 b2 b3 b4 b5
  have hck := rCheck_any x _ _ _ w1 hW (hR.below hb1)
  obtain ⟨E, hE⟩ : ∃ E, E = Sp.isSym x := ⟨_, rfl⟩
  rw [← hE]
  have HB := Lib.hid hb1
  have HE := Lib.hid hE
  clear hR hW hbx hb1 hE
  by_cases hk : x.k = 5
  · have hk' : (x.k == 5) = true := by simpa using hk
    have HK := Lib.hid hk
    clear hk
    by_cases hc : Dt.check x = 0
    · have hc' : (Dt.check x == 0) = true := by simpa using hc
      have HV : Hid (E = true) := by show _ = _; rw [HE.out]; unfold Sp.isSym; rw [decide_eq_true HK.out, decide_eq_true hc]; rfl
      clear hc
      go_enter Tryd.func49, Tryd.ntmps49
      go_wp2_with (go_at_call 56; refine hck.mono ?_; clear hck; rintro e w2 ⟨rfl, hb2⟩; have HB2 := Lib.hid (HB.out.trans (hb2.mono HB.out.size)); clear hb2)
      go_ret
      exact ⟨by rw [HV.out]; rfl, HB2.out⟩
    · have hc' : (Dt.check x == 0) = false := by simpa using hc
      have HV : Hid (E = false) := by show _ = _; rw [HE.out]; unfold Sp.isSym; rw [decide_eq_true HK.out, decide_eq_false hc]; rfl
      clear hc
      go_enter Tryd.func49, Tryd.ntmps49
      go_wp2_with (go_at_call 56; refine hck.mono ?_; clear hck; rintro e w2 ⟨rfl, hb2⟩; have HB2 := Lib.hid (HB.out.trans (hb2.mono HB.out.size)); clear hb2)
      go_ret
      exact ⟨by rw [HV.out]; rfl, HB2.out⟩
  · have hk' : (x.k == 5) = false := by simpa using hk
    have HV : Hid (E = false) := by show _ = _; rw [HE.out]; unfold Sp.isSym; rw [decide_eq_false hk]; rfl
    clear hk hck
    go_enter Tryd.func49, Tryd.ntmps49
    go_wp2
    go_ret
    exact ⟨by rw [HV.out]; rfl, HB.out⟩
namespace Sp
open Dt
/-- a scope of the document's table, as it lies -/
theorem RTb.scope {w : World} {base R : Nat} {v1 v2 : Value} {ys : List RS} {t : Tbl} (h : RTb w base R v1 v2 ys t) (q : Nat) (hq : q < t.l.length) : ∃ g c y, v1 = .slice (some ⟨g, 0, none⟩) t.l.length c ∧ g < w.heap.size ∧ y ∈ ys ∧ t.l[q]? = some y.b ∧ w.cell? ⟨g, q * 8, none⟩ = some (.int .i64 y.b.inn) ∧ Six w g (q * 8 + 1) y.b.id y.vm y.vl y.vt ∧ w.cell? ⟨g, q * 8 + 7, none⟩ = some (.int .i64 y.b.what) := by
  obtain ⟨g, c, e1, e2, e3⟩ := h.at
  have hyl : q < ys.length := by rw [h.len]; exact hq
  have h2 : t.l[q]? = some ys[q].b := by rw [← h.yb, List.getElem?_map, List.getElem?_eq_getElem hyl]; rfl
  exact ⟨g, c, ys[q], e1, e2, List.getElem_mem hyl, h2, e3 q hyl 0 (by omega), ⟨e3 q hyl 1 (by omega), e3 q hyl 2 (by omega), e3 q hyl 3 (by omega), e3 q hyl 4 (by omega), e3 q hyl 5 (by omega), e3 q hyl 6 (by omega)⟩, e3 q hyl 7 (by omega)⟩
def RMarkPost (base R : Nat) (v1 v2 : Value) (ys : List RS) (t' : Tbl) (w w' : World) : Prop := ∃ v2', RTb w' base R v1 v2' ys t' ∧ Keep (RMut R v1 v2) w w' ∧ RV w v2 v2'
theorem RMarkPost.same {base R : Nat} {v1 v2 : Value} {ys : List RS} {t : Tbl} {w w' : World} (h : RTb w base R v1 v2 ys t) (hb : Below w.heap.size w w') : RMarkPost base R v1 v2 ys t w w' :=
  ⟨v2, h.below hb, (Keep.refl _ w).below hb, fun _ h => .inl h⟩
def NamesPost (w : World) (l : List Nat) (e : Ending) (w' : World) : Prop := ∃ v, e = .returned v ∧ w'.ownsRow w.heap.size 3 1 v l.length (l.map cellN) ∧ Below w.heap.size w w'
theorem namesOf_out {t : Tbl} {s : Int} (h : hasB t s = false) : namesOf t s = [] := by
  unfold namesOf
  rw [if_pos]
  apply Classical.byContradiction
  intro h2
  rw [hasB_yes.2 h2] at h
  cases h
theorem namesOf_zero (t : Tbl) : namesOf t 0 = [] := by
  unfold namesOf
  split
  · rfl
  · exact ups_zero _
theorem namesOf_step {t : Tbl} (h : t.Ok) {q : Nat} (h0 : q ≠ 0) {b : Bd} (hb : t.l[q]? = some b) : namesOf t (q : Int) = q :: namesOf t (b.inn : Int) := by
  have hq := (List.getElem?_eq_some_iff.1 hb).1
  have hi := (h.inn q b hb (by omega)).1
  unfold namesOf
  rw [if_neg (by omega), if_neg (by omega), Int.toNat_natCast, Int.toNat_natCast, ups_step h h0 hb]
theorem namesOf_len {t : Tbl} (h : t.Ok) (s : Int) : (namesOf t s).length ≤ 16384 := by
  unfold namesOf
  split
  · simp
  · have := ups_len h s.toNat (by omega)
    have := h.small.1
    omega
theorem one_cellN (l : List Nat) : ∀ u ∈ l.map cellN, u.oneCell' = true := fun u hu => by
  obtain ⟨s, _, rfl⟩ := List.mem_map.1 hu
  rfl
end Sp
set_option maxRecDepth 100000 in
set_option maxHeartbeats 4000000 in
theorem rMark_any {base R : Nat} {v1 v2 : Value} {ys : List Sp.RS} {t : Sp.Tbl} (sc : Int) (w : World) (h : Sp.RTb w base R v1 v2 ys t) (hbw : base ≤ w.heap.size) :
    Calls Tryd.prog 36 #[.pointer (some ⟨R, 0, none⟩), .int .i64 sc] w fun e w' => e = .returned (.tuple #[.int .i64 (Sp.mark t sc).2.1, .int .i64 (Sp.mark t sc).2.2]) ∧ Sp.RMarkPost base R v1 v2 ys (Sp.mark t sc).1 w w' := by
  have hn := rHas_any sc w h
  obtain ⟨a, c, rfl, -⟩ := h.mat
  have c1 := h.c1
  have H := Lib.hid h
  obtain ⟨Q, hQ⟩ : ∃ Q, Q = Sp.mark t sc := ⟨_, rfl⟩
  rw [← hQ]
  by_cases h0 : sc < 0 ∨ (t.l.length : Int) ≤ sc
  · have HE : Hid (Sp.hasB t sc = false) := by
      show _ = _
      rw [Bool.eq_false_iff]
      exact fun h => Sp.hasB_yes.1 h h0
    have HR : Hid (Q = (t, 0, 50)) := by show _ = _; rw [hQ]; unfold Sp.mark; rw [if_pos h0]
    rw [HE.out] at hn
    clear h hQ h0
    go_enter Tryd.func36, Tryd.ntmps36
    go_wp2_with (go_at_call 48; refine hn.mono ?_; clear hn; rintro e w1 ⟨rfl, rfl⟩)
    refine bodyPost_ret (v := .tuple #[.int .i64 0, .int .i64 50]) (by simp [results, Tryd.results36, go_sem]) rfl ?_
    rw [HR.out]
    exact ⟨rfl, Sp.RMarkPost.same H.out (Below.refl _ _)⟩
  have HE : Hid (Sp.hasB t sc = true) := Sp.hasB_yes.2 h0
  rw [HE.out] at hn
  by_cases h1 : 16384 ≤ t.m.length
  · have HR : Hid (Q = (t, 0, 7)) := by show _ = _; rw [hQ]; unfold Sp.mark; rw [if_neg h0, if_pos h1]
    have h1' : decide ((16384 : Int) ≤ (t.m.length : Int)) = true := decide_eq_true (by omega)
    clear h hQ h0
    go_enter Tryd.func36, Tryd.ntmps36
    go_wp2_with (go_at_call 48; refine hn.mono ?_; clear hn; rintro e w1 ⟨rfl, rfl⟩)
    refine bodyPost_ret (v := .tuple #[.int .i64 0, .int .i64 7]) (by simp [results, Tryd.results36, go_sem]) rfl ?_
    rw [HR.out]
    exact ⟨rfl, Sp.RMarkPost.same H.out (Below.refl _ _)⟩
  · have HR : Hid (Q = ((⟨t.l, t.m ++ [sc.toNat]⟩ : Sp.Tbl), (t.m.length : Int) + 1, 0)) := by show _ = _; rw [hQ]; unfold Sp.mark; rw [if_neg h0, if_neg h1]
    have h1' : decide ((16384 : Int) ≤ (t.m.length : Int)) = false := decide_eq_false (by omega)
    have hok : (Sp.Tbl.mk t.l (t.m ++ [sc.toNat])).Ok := by
      have := h.ok.mark sc
      rw [← hQ, HR.out] at this
      exact this
    obtain ⟨s0, hs0⟩ : ∃ s0, s0 = sc.toNat := ⟨_, rfl⟩
    have hs0i : (s0 : Int) = sc := by omega
    rw [← hs0] at HR hok
    have HOK := Lib.hid hok
    obtain ⟨i0, hi, hz0, hz1, hz2⟩ := info_parts Sp.infoI
    have hm1 : t.m.length + 1 ≤ maxLen := by unfold maxLen; omega
    have hm2 : (t.m.length + 1) * 8 ≤ 140737488355328 := by omega
    have HRow := Lib.hid h.row2
    have HBW := Lib.hid hbw
    clear h hQ h0 hs0 hok hbw
    subst hs0i
    go_enter Tryd.func36, Tryd.ntmps36
    go_wp2_with (first | (go_at_call 48; refine hn.mono ?_; clear hn; rintro e w1 ⟨rfl, rfl⟩) | (at_builtin; refine Ap.list rfl _ _ 23 rfl base 3 i0 (.int .i64 0) 1 8 Tryd.underlying23 hi hz0 hz1 hz2 rfl (by decide) (.slice a t.m.length c) t.m.length (t.m.map Sp.cellN) rfl (HRow.out.alloc _) (.slice (some ⟨w.heap.size, 0, none⟩) 1 1) 1 [Sp.cellN s0] rfl (Sp.src_one _ _ _) rfl (by intro u hu; rw [List.mem_singleton.1 hu]; rfl) hm1 hm2 (by have := HBW.out; simp; omega) ?_; intro v' w3 hown hg hat; obtain ⟨g', cap', rfl⟩ := ownsRow_succ hown; obtain ⟨z1, zf, ht3, hk3, hv3⟩ := H.out.pushM ((Below.refl _ w).alloc (Nat.le_refl _) _) hown hg hat HOK.out; have HT3 := Lib.hid ht3; have HK3 := Lib.hid hk3; have HV3 := Lib.hid hv3; clear ht3 hk3 hv3 hown hg hat))
    refine bodyPost_ret (v := .tuple #[.int .i64 (t.m.length + 1), .int .i64 0]) (by simp [results, Tryd.results36, go_sem]) rfl ?_
    rw [HR.out]
    exact ⟨rfl, _, HT3.out, HK3.out, HV3.out⟩
set_option maxRecDepth 100000 in
set_option maxHeartbeats 4000000 in
theorem rNames_any {base R : Nat} {v1 v2 : Value} {ys : List Sp.RS} {t : Sp.Tbl} (sc : Int) (w : World) (h : Sp.RTb w base R v1 v2 ys t) :
    Calls Tryd.prog 39 #[.pointer (some ⟨R, 0, none⟩), .int .i64 sc] w (Sp.NamesPost w (Sp.namesOf t sc)) := by
  have H := Lib.hid h
  obtain ⟨i0, hi, hz0, hz1, hz2⟩ := info_parts Sp.infoI
  have HL := Lib.hid (Sp.namesOf_len h.ok sc)
  have HO := Lib.hid h.ok
  clear h
  go_enter Tryd.func39, Tryd.ntmps39
  go_wp2
  go_loopw [5, 6] (fun v x wr => ∃ (pre : List Nat) (s : Int) (a : Option Addr) (c : Nat), x = .int .i64 s ∧ v = .slice a pre.length c ∧ Hid (pre ++ Sp.namesOf t s = Sp.namesOf t sc) ∧ Hid (wr.ownsRow w.heap.size 3 1 (.slice a pre.length c) pre.length (pre.map Sp.cellN)) ∧ Hid (Below w.heap.size w wr)) (fun _ x _ => (intOf x).toNat)
  case atStart => exact ⟨[], sc, none, 0, rfl, rfl, rfl, World.ownsRow_nil _ _ _ _, Below.refl _ _⟩
  case round =>
    obtain ⟨pre, s, a, c, rfl, rfl, HP, HRW, HB⟩ := hrel
    have hn := rHas_any s wr (H.out.below HB.out)
    cases hb : Sp.hasB t s
    · have HE : Hid (pre = Sp.namesOf t sc) := by show _ = _; rw [← HP.out, Sp.namesOf_out hb, List.append_nil]
      rw [hb] at hn
      clear hb
      go_wp2_with (go_at_call 48; refine hn.mono ?_; clear hn; rintro e w1 ⟨rfl, rfl⟩)
      go_ret
      exact ⟨_, rfl, by rw [← HE.out]; exact HRW.out, HB.out⟩
    · have hsr := Sp.hasB_yes.1 hb
      obtain ⟨q, rfl⟩ : ∃ q : Nat, s = (q : Int) := ⟨s.toNat, by omega⟩
      have hql : q < t.l.length := by omega
      rw [hb] at hn
      clear hb hsr
      by_cases hz : q = 0
      · subst hz
        have HE : Hid (pre = Sp.namesOf t sc) := by show _ = _; rw [← HP.out]; show _ = pre ++ Sp.namesOf t 0; rw [Sp.namesOf_zero, List.append_nil]
        go_wp2_with (go_at_call 48; refine hn.mono ?_; clear hn; rintro e w1 ⟨rfl, rfl⟩)
        go_ret
        exact ⟨_, rfl, by rw [← HE.out]; exact HRW.out, HB.out⟩
      · have hz' : ((q : Int) != 0) = true := by simp; omega
        obtain ⟨g, c0, y, e1, hgl, -, hlq, k0, -, -⟩ := H.out.scope q hql
        subst e1
        have hinn := (HO.out.inn q y.b hlq (by omega)).1
        have HQ : Hid (pre ++ [q] ++ Sp.namesOf t (y.b.inn : Int) = Sp.namesOf t sc) := by show _ = _; rw [← HP.out, Sp.namesOf_step HO.out hz hlq, List.append_assoc]; rfl
        have hpl : pre.length < 16384 := by
          have h1 := HQ.out
          have h2 := HL.out
          rw [← h1] at h2
          simp at h2
          omega
        have hm1 : pre.length + 1 ≤ maxLen := by unfold maxLen; omega
        have hm2 : (pre.length + 1) * 8 ≤ 140737488355328 := by omega
        have hqli : (q : Int) < (t.l.length : Int) := by omega
        have hq0 : (0 : Int) ≤ (q : Int) := by omega
        have HWS : Hid (w.heap.size ≤ wr.heap.size) := HB.out.size
        have HK0 := Lib.hid k0
        have HGL := Lib.hid hgl
        have HGR : Hid (∀ w3, (wr.alloc (.cells #[.int .i64 (q : Int)] 3)).grownBy w3 (Value.slice a pre.length c).ownBlock → Below w.heap.size w w3) := fun w3 hg =>
          Dt.grown_below (HB.out.trans (((Below.refl _ wr).alloc (Nat.le_refl _) _).mono HWS.out)) hg (Nat.le_refl _) (fun k hk => (Dt.own_lt HRW.out k hk).1)
        clear hlq hz k0 hgl
        go_wp2_with (first | (go_at_call 48; refine hn.mono ?_; clear hn; rintro e w1 ⟨rfl, rfl⟩) | (at_builtin; refine Ap.list rfl _ _ 23 rfl w.heap.size 3 i0 (.int .i64 0) 1 8 Tryd.underlying23 hi hz0 hz1 hz2 rfl (by decide) (.slice a pre.length c) pre.length (pre.map Sp.cellN) rfl (HRW.out.alloc _) (.slice (some ⟨wr.heap.size, 0, none⟩) 1 1) 1 [Sp.cellN q] rfl (Sp.src_one _ _ _) rfl (by intro u hu; rw [List.mem_singleton.1 hu]; rfl) hm1 hm2 (by have := HWS.out; simp; omega) ?_; intro v' w3 hown hg hat; obtain ⟨g', cap', rfl⟩ := ownsRow_succ hown; have HB3 := Lib.hid (HGR.out w3 hg); have HO3 := Lib.hid hown; have d0 := (H.out.below HB3.out).c0; have d1 := (HB3.out.cell (p := ⟨g, q * 8, none⟩) HGL.out).trans HK0.out; clear hown hg hat))
        go_roundw
        case rel => exact ⟨pre ++ [q], y.b.inn, some ⟨g', 0, none⟩, cap', rfl, by simp, HQ, by show World.ownsRow _ _ _ _ _ _ _; rw [List.map_append, List.length_append]; exact HO3.out, HB3⟩
        case measure => simp [intOf]; omega
end Go.Proofs.YtjbjgceblanhpaaDoor
namespace Go.Proofs.YtjbjgceblanhpaaDoor
open Go.RowKit
attribute [local go_sem] Oper.semAt_some
namespace Sp
open Dt
/-- where a call of the document's Extend leads -/
def RExtPost (base R : Nat) (v1 v2 : Value) (ys : List RS) (t' : Tbl) (w w' : World) : Prop := ∃ v1' ys', RTb w' base R v1' v2 ys' t' ∧ Keep (RMut R v1 v2) w w' ∧ RV w v1 v1' ∧ (ys' = ys ∨ ∃ b, ys' = ys ++ [b] ∧ Rep (fun k => w.heap.size ≤ k ∧ v1'.ownBlock ≠ some k) w' b.b.id b.vm b.vl b.vt)
def RExtCut (base R : Nat) (v1 v2 : Value) (ys : List RS) (t' : Tbl) (w w' : World) (n : Nat) : Prop := RExtPost base R v1 v2 ys t' w w' ∧ ∃ g c, w'.cell? ⟨R, 0, none⟩ = some (.slice (some ⟨g, 0, none⟩) (n + 1) c)
theorem RExtPost.same {base R : Nat} {v1 v2 : Value} {ys : List RS} {t : Tbl} {w w' : World} (h : RTb w base R v1 v2 ys t) (hb : Below w.heap.size w w') : RExtPost base R v1 v2 ys t w w' :=
  ⟨v1, ys, h.below hb, (Keep.refl _ w).below hb, fun _ h => .inl h, .inl rfl⟩
theorem RExtPost.put {w w5 wA w8 : World} {base R : Nat} {v1 v2 v1' : Value} {ys : List RS} {t : Tbl} {y : RS} (h : RTb w base R v1 v2 ys t) (h5 : Below w.heap.size w w5) (hr : Rep (fun k => w.heap.size ≤ k ∧ k < w5.heap.size) w5 y.b.id y.vm y.vl y.vt) (hA : Below w5.heap.size w5 wA)
    (hown : w8.ownsRow base 91 8 v1' (t.l.length + 1) (flatS ys ++ y.cells)) (hg : wA.grownBy w8 v1.ownBlock) (hat : v1'.ownBlock = v1.ownBlock ∨ v1'.ownBlock = some wA.heap.size) (hok : (Tbl.mk (t.l ++ [y.b]) t.m).Ok) :
    w8.cell? ⟨R, 0, none⟩ = some v1 ∧ w8.frozen? ⟨R, 0, none⟩ = false ∧ RExtPost base R v1 v2 ys ⟨t.l ++ [y.b], t.m⟩ w (w8.setCell ⟨R, 0, none⟩ v1') := by
  have hsA := hA.size
  obtain ⟨h1, h2, h3, h4, h6⟩ := h.pushL (h5.trans (hA.mono h5.size)) hown hg hat hok
  refine ⟨h1, h2, v1', ys ++ [y], h3, h4, h6, .inr ⟨y, rfl, ?_⟩⟩
  have hlt := h.mutlt
  have hk : Keep (fun k => v1.ownBlock = some k ∨ k = R) w5 (w8.setCell ⟨R, 0, none⟩ v1') := by
    have k1 : Keep (fun k => v1.ownBlock = some k) w5 w8 := ⟨hg.os.trans hA.os, hg.tape.trans hA.tape, hg.output.trans hA.output, Nat.le_trans hA.size hg.size, fun k hk hS => (hg.block k (Nat.lt_of_lt_of_le hk hA.size) (fun e => hS e.symm)).trans (hA.block k hk)⟩
    exact (k1.mono (fun k _ e => .inl e)).trans ((keep1 w8 R 0 v1').mono (fun k _ e => .inr e))
  have hr8 : Rep (fun k => w.heap.size ≤ k ∧ k < w5.heap.size) (w8.setCell ⟨R, 0, none⟩ v1') y.b.id y.vm y.vl y.vt := Rep.keep hk (fun k hk2 _ e => by
    rcases e with e | e
    · have := hlt k (.inr (.inl e)); have := hk2.1; omega
    · have := hlt k (.inl e); have := hk2.1; omega) _ hr
  refine Rep.mono (fun k hk _ => ⟨hk.1, fun e => ?_⟩) _ hr8
  rcases hat with e2 | e2
  · have := hlt k (.inr (.inl (by rw [← e2]; exact e)))
    have := hk.1
    omega
  · rw [e2] at e
    have := Option.some.inj e
    have := hk.2
    omega
end Sp
set_option maxRecDepth 100000 in
set_option maxHeartbeats 8000000 in
theorem rExtend_any {F : Nat → Prop} {base R : Nat} {v1 v2 : Value} {ys : List Sp.RS} {t : Sp.Tbl} (sc : Int) (x : Dt.D) (vm vL vt : Value) (n : Int) (w : World) (h : Sp.RTb w base R v1 v2 ys t) (hbw : base ≤ w.heap.size) (hW : Dt.Wf x) (hR : Dt.Rep F w x vm vL vt) :
    Calls Tryd.prog 35 #[.pointer (some ⟨R, 0, none⟩), .int .i64 sc, .agg #[.int .i64 x.k, .int .i64 x.n, .string x.s, vm, vL, vt], .int .i64 n] w fun e w' => e = .returned (.tuple #[.int .i64 (Sp.extend t sc x n).2.1, .int .i64 (Sp.extend t sc x n).2.2]) ∧ Sp.RExtPost base R v1 v2 ys (Sp.extend t sc x n).1 w w' := by
  obtain ⟨a1, n1, q1, a2, n2, q2, a3, n3, q3, rfl, rfl, rfl⟩ := hR.forms
  obtain ⟨w1, hw1⟩ : ∃ w1, w.alloc (.cells #[.int .i64 x.k, .int .i64 x.n, .string x.s, .slice a1 n1 q1, .slice a2 n2 q2, .slice a3 n3 q3] 26) = w1 := ⟨_, rfl⟩
  have hb1 : Below w.heap.size w w1 := by rw [← hw1]; exact (Below.refl _ _).alloc (Nat.le_refl _) _
  have hbx := Dt.six_new w x.k x.n x.s (.slice a1 n1 q1) (.slice a2 n2 q2) (.slice a3 n3 q3) 26
  rw [hw1] at hbx
  have hBox : Dt.Box w1 w.heap.size x (.slice a1 n1 q1) (.slice a2 n2 q2) (.slice a3 n3 q3) := ⟨hbx 0 (by omega), hbx 1 (by omega), hbx 2 (by omega), hbx 3 (by omega), hbx 4 (by omega), hbx 5 (by omega)⟩
  have hs1 : w1.heap.size = w.heap.size + 1 := by rw [← hw1]; simp
  obtain ⟨Q, hQQ⟩ : ∃ Q, Q = Sp.extend t sc x n := ⟨_, rfl⟩
  rw [← hQQ]
  have HR := Lib.hid hQQ
  have HT := Lib.hid h
  have HW := Lib.hid hW
  have HREP := Lib.hid hR
  have HB1 := Lib.hid hb1
  have HBOX := Lib.hid hBox
  have HS1 := Lib.hid hs1
  have HBW := Lib.hid hbw
  have hmay := rHas_any sc w1 (h.below hb1)
  clear h hW hR hQQ hbx hs1 hbw
  by_cases h0 : sc < 0 ∨ (t.l.length : Int) ≤ sc
  · have HE : Hid (Sp.hasB t sc = false) := by
      show _ = _
      rw [Bool.eq_false_iff]
      exact fun h => Sp.hasB_yes.1 h h0
    have HV : Hid (Q = (t, 0, 50)) := by show _ = _; rw [HR.out]; unfold Sp.extend; rw [if_pos h0]
    rw [HE.out] at hmay
    clear h0 hBox hb1
    go_enter Tryd.func35, Tryd.ntmps35
    go_wp2_with (go_at_call 48; refine hmay.mono ?_; clear hmay; rintro e w2 ⟨rfl, rfl⟩)
    refine bodyPost_ret (v := .tuple #[.int .i64 0, .int .i64 50]) (by simp [results, Tryd.results35, go_sem]) rfl ?_
    rw [HV.out]
    exact ⟨rfl, Sp.RExtPost.same HT.out HB1.out⟩
  have HE : Hid (Sp.hasB t sc = true) := Sp.hasB_yes.2 h0
  rw [HE.out] at hmay
  have HN0 := Lib.hid h0
  have hsym := rSymbol05_any x _ _ _ w1 HW.out (HREP.out.below hb1)
  obtain ⟨b0, b1, b2, b3, b4, b5⟩ := hBox
  clear h0 hb1
  by_cases hy : Sp.isSym x = true
  case neg =>
    have hy' : Sp.isSym x = false := by simpa using hy
    have HV : Hid (Q = (t, 0, 5)) := by show _ = _; rw [HR.out]; unfold Sp.extend; rw [if_neg HN0.out, if_pos hy']
    rw [hy'] at hsym
    clear hy hy'
    go_enter Tryd.func35, Tryd.ntmps35
    go_wp2_with (first | (go_at_call 48; refine hmay.mono ?_; clear hmay; rintro e w2 ⟨rfl, rfl⟩) | (go_at_call 49; refine hsym.mono ?_; clear hsym; rintro e w2 ⟨rfl, hb2⟩; have HB2 := Lib.hid (HB1.out.trans (hb2.mono HB1.out.size)); clear hb2))
    refine bodyPost_ret (v := .tuple #[.int .i64 0, .int .i64 5]) (by simp [results, Tryd.results35, go_sem]) rfl ?_
    rw [HV.out]
    exact ⟨rfl, Sp.RExtPost.same HT.out HB2.out⟩
  rw [hy] at hsym
  have HY := Lib.hid hy
  clear hy
  have hl0 := HT.out.ok.small.1
  obtain ⟨g, c, rfl, -, -⟩ := HT.out.at
  by_cases hf : 16384 ≤ t.l.length
  · have HV : Hid (Q = (t, 0, 7)) := by show _ = _; rw [HR.out]; unfold Sp.extend; rw [if_neg HN0.out, if_neg (by rw [HY.out]; simp), if_pos hf]
    have hf' : decide ((16384 : Int) ≤ (t.l.length : Int)) = true := decide_eq_true (by omega)
    have t0 := HT.out.c0
    have HLT : Hid (R < w.heap.size) := HT.out.lt
    clear hf
    go_enter Tryd.func35, Tryd.ntmps35
    go_wp2_with (first | (go_at_call 48; refine hmay.mono ?_; clear hmay; rintro e w2 ⟨rfl, rfl⟩) | (go_at_call 49; refine hsym.mono ?_; clear hsym; rintro e w2 ⟨rfl, hb2⟩; have HB2 := Lib.hid (HB1.out.trans (hb2.mono HB1.out.size)); have t2 := (HB2.out.cell (p := ⟨R, 0, none⟩) HLT.out).trans t0; clear hb2))
    refine bodyPost_ret (v := .tuple #[.int .i64 0, .int .i64 7]) (by simp [results, Tryd.results35, go_sem]) rfl ?_
    rw [HV.out]
    exact ⟨rfl, Sp.RExtPost.same HT.out HB2.out⟩
  have hf' : decide ((16384 : Int) ≤ (t.l.length : Int)) = false := decide_eq_false (by omega)
  obtain ⟨s0, hs0⟩ : ∃ s0, s0 = sc.toNat := ⟨_, rfl⟩
  have hs0i : (s0 : Int) = sc := by have := HN0.out; omega
  have HV : Hid (Q = (⟨t.l ++ [⟨s0, x, n⟩], t.m⟩, (t.l.length : Int), 0)) := by show _ = _; rw [HR.out, hs0]; unfold Sp.extend; rw [if_neg HN0.out, if_neg (by rw [HY.out]; simp), if_neg hf]
  have hok : (Sp.Tbl.mk (t.l ++ [⟨s0, x, n⟩]) t.m).Ok := by
    have := HT.out.ok.extend sc x n
    rw [← HR.out, HV.out] at this
    exact this
  have HOK := Lib.hid hok
  rw [← hs0i] at hmay ⊢
  have t0 := HT.out.c0
  have HLT : Hid (R < w.heap.size) := HT.out.lt
  have HCX : Hid (Dt.clone x = x) := by show _ = _; unfold Dt.clone; rw [if_pos (Sp.sym_parts HY.out).2.2.2.2.2.2.2]
  obtain ⟨i0, hi, hz0, hz1, hz2⟩ := info_parts Sp.infoS
  have hmx : t.l.length + 1 ≤ maxLen := by unfold maxLen; omega
  have hby : (t.l.length + 1) * 120 ≤ 140737488355328 := by omega
  clear hf hs0 hs0i hok
  go_enter Tryd.func35, Tryd.ntmps35
  go_upto_region 7 with (first | (go_at_call 48; refine hmay.mono ?_; clear hmay; rintro e w2 ⟨rfl, rfl⟩) | (go_at_call 49; refine hsym.mono ?_; clear hsym; rintro e w5 ⟨rfl, hb2⟩; have HB2 := Lib.hid (HB1.out.trans (hb2.mono HB1.out.size)); have t2 := (HB2.out.cell (p := ⟨R, 0, none⟩) HLT.out).trans t0; have HBX5 := Lib.hid (Dt.Box.below HBOX.out hb2); clear b0 b1 b2 b3 b4 b5 hb2))
  have HTW := Lib.hid (HT.out.below HB2.out)
  have HBD : Hid (Below w5.heap.size w5 w5.drew) := (Below.refl _ w5).drew
  have HCL := Lib.hid (fun u (hu : Below w5.heap.size w5 u) => rClone_any x _ _ _ u HW.out ((HREP.out.below HB2.out).below hu))
  have HT0 := Lib.hid (fun u (hu : Below w5.heap.size w5 u) => (hu.cell (p := ⟨R, 0, none⟩) (block_lt_of_cell t2)).trans t2)
  have HBX : Hid (∀ u, Below w5.heap.size w5 u → Dt.Box u w.heap.size x (.slice a1 n1 q1) (.slice a2 n2 q2) (.slice a3 n3 q3)) := fun u hu => Dt.Box.below HBX5.out hu
  have HBX2 : Hid (∀ u, Keep (fun k => k = R ∨ (Value.slice (some ⟨g, 0, none⟩) t.l.length c).ownBlock = some k) w5 u → Dt.Box u w.heap.size x (.slice a1 n1 q1) (.slice a2 n2 q2) (.slice a3 n3 q3)) := fun u hu => Dt.Box.keep HBX5.out hu (fun e => by
    rcases e with e | e
    · have := HLT.out; omega
    · have e' : some g = some w.heap.size := e
      have := (Dt.own_lt HT.out.row _ e).2
      omega)
  have HOW := Lib.hid (fun u (hu : Below w5.heap.size w5 u) => (show u.ownsRow base 91 8 (.slice (some ⟨g, 0, none⟩) t.l.length c) t.l.length (Sp.flatS ys) by
    have := Dt.own_below HTW.out.row hu
    rw [HTW.out.len] at this
    exact this))
  have HBS : Hid (∀ u, Below w5.heap.size w5 u → base ≤ u.heap.size) := fun u hu => Nat.le_trans HBW.out (Nat.le_trans HB2.out.size hu.size)
  have HPU : Hid (∀ w6 b1 m1 p1 b2 m2 p2 b3 m3 p3 v' w8, Below w5.heap.size w5 w6 → Dt.Rep (fun k => w.heap.size ≤ k ∧ k < w6.heap.size) w6 x (.slice b1 m1 p1) (.slice b2 m2 p2) (.slice b3 m3 p3) → w8.ownsRow base 91 8 v' (t.l.length + 1) (Sp.flatS ys ++ [.int .i64 (s0 : Int), .int .i64 x.k, .int .i64 x.n, .string x.s, .slice b1 m1 p1, .slice b2 m2 p2, .slice b3 m3 p3, .int .i64 n]) → (w6.alloc (.cells #[.int .i64 (s0 : Int), .int .i64 x.k, .int .i64 x.n, .string x.s, .slice b1 m1 p1, .slice b2 m2 p2, .slice b3 m3 p3, .int .i64 n] 91)).grownBy w8 (Value.slice (some ⟨g, 0, none⟩) t.l.length c).ownBlock →
      (v'.ownBlock = (Value.slice (some ⟨g, 0, none⟩) t.l.length c).ownBlock ∨ v'.ownBlock = some (w6.alloc (.cells #[.int .i64 (s0 : Int), .int .i64 x.k, .int .i64 x.n, .string x.s, .slice b1 m1 p1, .slice b2 m2 p2, .slice b3 m3 p3, .int .i64 n] 91)).heap.size) →
      w8.cell? ⟨R, 0, none⟩ = some (.slice (some ⟨g, 0, none⟩) t.l.length c) ∧ w8.frozen? ⟨R, 0, none⟩ = false ∧ Sp.RExtPost base R (.slice (some ⟨g, 0, none⟩) t.l.length c) v2 ys ⟨t.l ++ [⟨s0, x, n⟩], t.m⟩ w (w8.setCell ⟨R, 0, none⟩ v')) :=
    fun w6 b1 m1 p1 b2 m2 p2 b3 m3 p3 v' w8 h1 h2 h3 h4 h5 => Sp.RExtPost.put HT.out (HB2.out.trans (h1.mono HB2.out.size)) (y := ⟨⟨s0, x, n⟩, .slice b1 m1 p1, .slice b2 m2 p2, .slice b3 m3 p3⟩) h2 ((Below.refl _ w6).alloc (Nat.le_refl _) _) h3 h4 h5 HOK.out
  clear t0
  go_cut [] (fun wx => Sp.RExtCut base R (.slice (some ⟨g, 0, none⟩) t.l.length c) v2 ys ⟨t.l ++ [⟨s0, x, n⟩], t.m⟩ w wx t.l.length)
  case first =>
    refine wp_region_noPanic ?_
    refine wp_region_held_drew (S := fun w' => Dt.Box w' w.heap.size x (.slice a1 n1 q1) (.slice a2 n2 q2) (.slice a3 n3 q3)) (by kernel_rfl) (HBX.out _ HBD.out) (fun hHeld => ?_)
    refine wpAnyH_take (i := 0) (oi := ⟨_, _, _, _, _, _⟩) (v := ?_) rfl (by kernel_rfl) (by kernel_rfl) (by kernel_rfl) (fun _ _ _ h => h) (Or.inl ⟨by rfl, ?_⟩) (by assumption) ?_
    rotate_left
    · intro w hSw
      try dsimp only at hSw
      go_simp
      try with_reducible rfl
    simp only [Act.put, List.setIfInBounds_toArray, List.set_cons_zero, List.set_cons_succ]
    refine wpAnyH_take (i := 1) (oi := ⟨_, _, _, _, _, _⟩) (v := ?_) rfl (by kernel_rfl) (by kernel_rfl) (by kernel_rfl) (fun _ _ _ h => h) (Or.inl ⟨by rfl, ?_⟩) (by assumption) ?_
    rotate_left
    · intro w hSw
      try dsimp only at hSw
      go_simp
      try with_reducible rfl
    simp only [Act.put, List.setIfInBounds_toArray, List.set_cons_zero, List.set_cons_succ]
    refine wpAnyH_take (i := 2) (oi := ⟨_, _, _, _, _, _⟩) (v := ?_) rfl (by kernel_rfl) (by kernel_rfl) (by kernel_rfl) (fun _ _ _ h => h) (Or.inl ⟨by rfl, ?_⟩) (by assumption) ?_
    rotate_left
    · intro w hSw
      try dsimp only at hSw
      go_simp
      try with_reducible rfl
    simp only [Act.put, List.setIfInBounds_toArray, List.set_cons_zero, List.set_cons_succ]
    refine wpAnyH_take (i := 3) (oi := ⟨_, _, _, _, _, _⟩) (v := ?_) rfl (by kernel_rfl) (by kernel_rfl) (by kernel_rfl) (fun _ _ _ h => h) (Or.inl ⟨by rfl, ?_⟩) (by assumption) ?_
    rotate_left
    · intro w hSw
      try dsimp only at hSw
      go_simp
      try with_reducible rfl
    simp only [Act.put, List.setIfInBounds_toArray, List.set_cons_zero, List.set_cons_succ]
    refine wpAnyH_take (i := 5) (oi := ⟨_, _, _, _, _, _⟩) (v := ?_) rfl (by kernel_rfl) (by kernel_rfl) (by kernel_rfl) (fun _ _ _ h => h) (Or.inl ⟨by rfl, ?_⟩) (by assumption) ?_
    rotate_left
    · intro w hSw
      try dsimp only at hSw
      go_simp
      try with_reducible rfl
    simp only [Act.put, List.setIfInBounds_toArray, List.set_cons_zero, List.set_cons_succ]
    refine wpAnyH_take (i := 6) (oi := ⟨_, _, _, _, _, _⟩) (v := ?_) rfl (by kernel_rfl) (by kernel_rfl) (by kernel_rfl) (fun _ _ _ h => h) (Or.inl ⟨by rfl, ?_⟩) (by assumption) ?_
    rotate_left
    · intro w hSw
      obtain ⟨g0, g1, g2, g3, g4, g5⟩ := hSw
      go_simp
      try with_reducible rfl
    simp only [Act.put, List.setIfInBounds_toArray, List.set_cons_zero, List.set_cons_succ]
    refine wpAnyH_take (i := 8) (oi := ⟨_, _, _, _, _, _⟩) (v := ?_) rfl (by kernel_rfl) (by kernel_rfl) (by kernel_rfl) (fun _ _ _ h => h) (Or.inl ⟨by rfl, ?_⟩) (by assumption) ?_
    rotate_left
    · intro w hSw
      try dsimp only at hSw
      go_simp
      try with_reducible rfl
    simp only [Act.put, List.setIfInBounds_toArray, List.set_cons_zero, List.set_cons_succ]
    refine wpAnyH_ready (rs := [4, 7]) (by kernel_rfl) (by simp) ?_
    refine AllReadyH.cons (o := ⟨_, _, _, _, _, _⟩) rfl (fun K hK => ?_) ?_
    · go_simp
      refine hK.out _ _ ?_ (fun hHeld => ?_)
      · exact HBX.out _ HBD.out
      clear hK K
      try simp only [Act.put, List.setIfInBounds_toArray, List.set_cons_zero, List.set_cons_succ]
      refine wpAnyH_ready (rs := [7]) (by kernel_rfl) (by simp) ?_
      refine AllReadyH.cons (o := ⟨_, _, _, _, _, _⟩) rfl (fun K hK => ?_) AllReadyH.nil
      go_simp
      refine (HCL.out _ HBD.out).mono ?_
      rintro e w6 ⟨⟨um, ul, ut, rfl, hr6⟩, hb6⟩
      obtain ⟨b1, m1, p1, b2, m2, p2, b3, m3, p3, rfl, rfl, rfl⟩ := hr6.forms
      rw [HCX.out] at hr6 ⊢
      have HB6 : Hid (Below w5.heap.size w5 w6) := HBD.out.trans (hb6.mono HBD.out.size)
      have t6 := HT0.out _ HB6.out
      have HR6 : Hid (Dt.Rep (fun k => w.heap.size ≤ k ∧ k < w6.heap.size) w6 x (.slice b1 m1 p1) (.slice b2 m2 p2) (.slice b3 m3 p3)) := Dt.Rep.mono (fun _ h hl => ⟨Nat.le_trans HB2.out.size (Nat.le_trans HBD.out.size h), hl⟩) x hr6
      clear hr6 hb6
      dsimp only
      refine hK.out _ _ ?_ (fun hHeld => ?_)
      · exact HBX.out _ HB6.out
      clear hK K
      try simp only [Act.put, List.setIfInBounds_toArray, List.set_cons_zero, List.set_cons_succ]
      refine wpAnyH_take (i := 9) (oi := ⟨_, _, _, _, _, _⟩) (v := ?_) rfl (by kernel_rfl) (by kernel_rfl) (by kernel_rfl) (fun _ _ _ h => h) (Or.inl ⟨by rfl, ?_⟩) (by assumption) ?_
      rotate_left
      · intro w hSw
        try dsimp only at hSw
        go_simp
        try with_reducible rfl
      simp only [Act.put, List.setIfInBounds_toArray, List.set_cons_zero, List.set_cons_succ]
      refine wpAnyH_ready (rs := [10]) (by kernel_rfl) (by simp) ?_
      refine AllReadyH.cons (o := ⟨_, _, _, _, _, _⟩) rfl (fun K hK => ?_) AllReadyH.nil
      go_simp
      have HBA : Hid (Below w5.heap.size w5 (w6.alloc (.cells #[.int .i64 (s0 : Int), .int .i64 x.k, .int .i64 x.n, .string x.s, .slice b1 m1 p1, .slice b2 m2 p2, .slice b3 m3 p3, .int .i64 n] 91))) := HB6.out.trans (((Below.refl _ w6).alloc (Nat.le_refl _) _).mono HB6.out.size)
      have t8 := HT0.out _ HBA.out
      refine hK.out _ _ ?_ (fun hHeld => ?_)
      · exact HBX.out _ HBA.out
      clear hK K
      try simp only [Act.put, List.setIfInBounds_toArray, List.set_cons_zero, List.set_cons_succ]
      refine wpAnyH_ready (rs := [11]) (by kernel_rfl) (by simp) ?_
      refine AllReadyH.cons (o := ⟨_, _, _, _, _, _⟩) rfl (fun K hK => ?_) AllReadyH.nil
      refine Ap.step rfl _ _ 66 (by rfl) base 91 i0 (.agg #[.int .i64 0, .int .i64 0, .int .i64 0, .string ⟨#[]⟩, .slice none 0 0, .slice none 0 0, .slice none 0 0, .int .i64 0]) 8 120 Tryd.underlying66 hi hz0 hz1 hz2 rfl (by decide) (.slice (some ⟨g, 0, none⟩) t.l.length c) t.l.length (Sp.flatS ys) (by rfl) ((HOW.out _ HB6.out).alloc _) (.slice (some ⟨w6.heap.size, 0, none⟩) 1 1) 1 [.int .i64 (s0 : Int), .int .i64 x.k, .int .i64 x.n, .string x.s, .slice b1 m1 p1, .slice b2 m2 p2, .slice b3 m3 p3, .int .i64 n] (by rfl) (Sp.src_cells w6 [.int .i64 (s0 : Int), .int .i64 x.k, .int .i64 x.n, .string x.s, .slice b1 m1 p1, .slice b2 m2 p2, .slice b3 m3 p3, .int .i64 n] 1 _) rfl (by simp [Value.oneCell']) hmx hby (HBS.out _ HBA.out) ?_
      intro v' w8 hown hgrow hat
      obtain ⟨g', cap', rfl⟩ := ownsRow_succ hown
      obtain ⟨z0, zf, hst⟩ := HPU.out w6 b1 m1 p1 b2 m2 p2 b3 m3 p3 (.slice (some ⟨g', 0, none⟩) (t.l.length + 1) cap') w8 HB6.out HR6.out hown hgrow hat
      have HBX8 := Lib.hid (HBX2.out _ (Sp.grown_kp (T := R) HBA.out hgrow))
      clear hown hgrow hat
      refine hK.out _ _ ?_ (fun hHeld => ?_)
      · exact HBX8.out
      clear hK K
      try simp only [Act.put, List.setIfInBounds_toArray, List.set_cons_zero, List.set_cons_succ]
      refine wpAnyH_take (i := 12) (oi := ⟨_, _, _, _, _, _⟩) (v := ?_) rfl (by kernel_rfl) (by kernel_rfl) (by kernel_rfl) (fun _ _ _ h => h) (Or.inl ⟨by rfl, ?_⟩) (by assumption) ?_
      rotate_left
      · intro w hSw
        try dsimp only at hSw
        go_simp
        try with_reducible rfl
      simp only [Act.put, List.setIfInBounds_toArray, List.set_cons_zero, List.set_cons_succ]
      refine wpAnyH_take (i := 13) (oi := ⟨_, _, _, _, _, _⟩) (v := ?_) rfl (by kernel_rfl) (by kernel_rfl) (by kernel_rfl) (fun _ _ _ h => h) (Or.inl ⟨by rfl, ?_⟩) (by assumption) ?_
      rotate_left
      · intro w hSw
        try dsimp only at hSw
        go_simp
        try with_reducible rfl
      simp only [Act.put, List.setIfInBounds_toArray, List.set_cons_zero, List.set_cons_succ]
      refine wpAnyH_ready (rs := [14]) (by kernel_rfl) (by simp) ?_
      refine AllReadyH.cons (o := ⟨_, _, _, _, _, _⟩) rfl (fun K hK => ?_) AllReadyH.nil
      go_simp
      refine hK.out _ _ ?_ (fun hHeld => ?_)
      · exact Dt.Box.keep HBX8.out (Dt.keep1 _ R 0 _) (by have := HLT.out; omega)
      clear hK K
      try simp only [Act.put, List.setIfInBounds_toArray, List.set_cons_zero, List.set_cons_succ]
      refine wpAnyH_done (by kernel_rfl) ?_ _
      refine NoPanic.normal ?_
      go_wp2_with fail
      go_meet
      exact ⟨hst, g', cap', Dt.cell_set_eq _ _ _ _ _ z0⟩
    refine AllReadyH.cons (o := ⟨_, _, _, _, _, _⟩) rfl (fun K hK => ?_) AllReadyH.nil
    go_simp
    refine (HCL.out _ HBD.out).mono ?_
    rintro e w6 ⟨⟨um, ul, ut, rfl, hr6⟩, hb6⟩
    obtain ⟨b1, m1, p1, b2, m2, p2, b3, m3, p3, rfl, rfl, rfl⟩ := hr6.forms
    rw [HCX.out] at hr6 ⊢
    have HB6 : Hid (Below w5.heap.size w5 w6) := HBD.out.trans (hb6.mono HBD.out.size)
    have t6 := HT0.out _ HB6.out
    have HR6 : Hid (Dt.Rep (fun k => w.heap.size ≤ k ∧ k < w6.heap.size) w6 x (.slice b1 m1 p1) (.slice b2 m2 p2) (.slice b3 m3 p3)) := Dt.Rep.mono (fun _ h hl => ⟨Nat.le_trans HB2.out.size (Nat.le_trans HBD.out.size h), hl⟩) x hr6
    clear hr6 hb6
    dsimp only
    refine hK.out _ _ ?_ (fun hHeld => ?_)
    · exact HBX.out _ HB6.out
    clear hK K
    try simp only [Act.put, List.setIfInBounds_toArray, List.set_cons_zero, List.set_cons_succ]
    refine wpAnyH_take (i := 9) (oi := ⟨_, _, _, _, _, _⟩) (v := ?_) rfl (by kernel_rfl) (by kernel_rfl) (by kernel_rfl) (fun _ _ _ h => h) (Or.inl ⟨by rfl, ?_⟩) (by assumption) ?_
    rotate_left
    · intro w hSw
      try dsimp only at hSw
      go_simp
      try with_reducible rfl
    simp only [Act.put, List.setIfInBounds_toArray, List.set_cons_zero, List.set_cons_succ]
    refine wpAnyH_ready (rs := [4, 10]) (by kernel_rfl) (by simp) ?_
    refine AllReadyH.cons (o := ⟨_, _, _, _, _, _⟩) rfl (fun K hK => ?_) ?_
    · go_simp
      refine hK.out _ _ ?_ (fun hHeld => ?_)
      · exact HBX.out _ HB6.out
      clear hK K
      try simp only [Act.put, List.setIfInBounds_toArray, List.set_cons_zero, List.set_cons_succ]
      refine wpAnyH_ready (rs := [10]) (by kernel_rfl) (by simp) ?_
      refine AllReadyH.cons (o := ⟨_, _, _, _, _, _⟩) rfl (fun K hK => ?_) AllReadyH.nil
      go_simp
      have HBA : Hid (Below w5.heap.size w5 (w6.alloc (.cells #[.int .i64 (s0 : Int), .int .i64 x.k, .int .i64 x.n, .string x.s, .slice b1 m1 p1, .slice b2 m2 p2, .slice b3 m3 p3, .int .i64 n] 91))) := HB6.out.trans (((Below.refl _ w6).alloc (Nat.le_refl _) _).mono HB6.out.size)
      have t8 := HT0.out _ HBA.out
      refine hK.out _ _ ?_ (fun hHeld => ?_)
      · exact HBX.out _ HBA.out
      clear hK K
      try simp only [Act.put, List.setIfInBounds_toArray, List.set_cons_zero, List.set_cons_succ]
      refine wpAnyH_ready (rs := [11]) (by kernel_rfl) (by simp) ?_
      refine AllReadyH.cons (o := ⟨_, _, _, _, _, _⟩) rfl (fun K hK => ?_) AllReadyH.nil
      refine Ap.step rfl _ _ 66 (by rfl) base 91 i0 (.agg #[.int .i64 0, .int .i64 0, .int .i64 0, .string ⟨#[]⟩, .slice none 0 0, .slice none 0 0, .slice none 0 0, .int .i64 0]) 8 120 Tryd.underlying66 hi hz0 hz1 hz2 rfl (by decide) (.slice (some ⟨g, 0, none⟩) t.l.length c) t.l.length (Sp.flatS ys) (by rfl) ((HOW.out _ HB6.out).alloc _) (.slice (some ⟨w6.heap.size, 0, none⟩) 1 1) 1 [.int .i64 (s0 : Int), .int .i64 x.k, .int .i64 x.n, .string x.s, .slice b1 m1 p1, .slice b2 m2 p2, .slice b3 m3 p3, .int .i64 n] (by rfl) (Sp.src_cells w6 [.int .i64 (s0 : Int), .int .i64 x.k, .int .i64 x.n, .string x.s, .slice b1 m1 p1, .slice b2 m2 p2, .slice b3 m3 p3, .int .i64 n] 1 _) rfl (by simp [Value.oneCell']) hmx hby (HBS.out _ HBA.out) ?_
      intro v' w8 hown hgrow hat
      obtain ⟨g', cap', rfl⟩ := ownsRow_succ hown
      obtain ⟨z0, zf, hst⟩ := HPU.out w6 b1 m1 p1 b2 m2 p2 b3 m3 p3 (.slice (some ⟨g', 0, none⟩) (t.l.length + 1) cap') w8 HB6.out HR6.out hown hgrow hat
      have HBX8 := Lib.hid (HBX2.out _ (Sp.grown_kp (T := R) HBA.out hgrow))
      clear hown hgrow hat
      refine hK.out _ _ ?_ (fun hHeld => ?_)
      · exact HBX8.out
      clear hK K
      try simp only [Act.put, List.setIfInBounds_toArray, List.set_cons_zero, List.set_cons_succ]
      refine wpAnyH_take (i := 12) (oi := ⟨_, _, _, _, _, _⟩) (v := ?_) rfl (by kernel_rfl) (by kernel_rfl) (by kernel_rfl) (fun _ _ _ h => h) (Or.inl ⟨by rfl, ?_⟩) (by assumption) ?_
      rotate_left
      · intro w hSw
        try dsimp only at hSw
        go_simp
        try with_reducible rfl
      simp only [Act.put, List.setIfInBounds_toArray, List.set_cons_zero, List.set_cons_succ]
      refine wpAnyH_take (i := 13) (oi := ⟨_, _, _, _, _, _⟩) (v := ?_) rfl (by kernel_rfl) (by kernel_rfl) (by kernel_rfl) (fun _ _ _ h => h) (Or.inl ⟨by rfl, ?_⟩) (by assumption) ?_
      rotate_left
      · intro w hSw
        try dsimp only at hSw
        go_simp
        try with_reducible rfl
      simp only [Act.put, List.setIfInBounds_toArray, List.set_cons_zero, List.set_cons_succ]
      refine wpAnyH_ready (rs := [14]) (by kernel_rfl) (by simp) ?_
      refine AllReadyH.cons (o := ⟨_, _, _, _, _, _⟩) rfl (fun K hK => ?_) AllReadyH.nil
      go_simp
      refine hK.out _ _ ?_ (fun hHeld => ?_)
      · exact Dt.Box.keep HBX8.out (Dt.keep1 _ R 0 _) (by have := HLT.out; omega)
      clear hK K
      try simp only [Act.put, List.setIfInBounds_toArray, List.set_cons_zero, List.set_cons_succ]
      refine wpAnyH_done (by kernel_rfl) ?_ _
      refine NoPanic.normal ?_
      go_wp2_with fail
      go_meet
      exact ⟨hst, g', cap', Dt.cell_set_eq _ _ _ _ _ z0⟩
    refine AllReadyH.cons (o := ⟨_, _, _, _, _, _⟩) rfl (fun K hK => ?_) AllReadyH.nil
    go_simp
    have HBA : Hid (Below w5.heap.size w5 (w6.alloc (.cells #[.int .i64 (s0 : Int), .int .i64 x.k, .int .i64 x.n, .string x.s, .slice b1 m1 p1, .slice b2 m2 p2, .slice b3 m3 p3, .int .i64 n] 91))) := HB6.out.trans (((Below.refl _ w6).alloc (Nat.le_refl _) _).mono HB6.out.size)
    have t8 := HT0.out _ HBA.out
    refine hK.out _ _ ?_ (fun hHeld => ?_)
    · exact HBX.out _ HBA.out
    clear hK K
    try simp only [Act.put, List.setIfInBounds_toArray, List.set_cons_zero, List.set_cons_succ]
    refine wpAnyH_ready (rs := [4]) (by kernel_rfl) (by simp) ?_
    refine AllReadyH.cons (o := ⟨_, _, _, _, _, _⟩) rfl (fun K hK => ?_) AllReadyH.nil
    go_simp
    refine hK.out _ _ ?_ (fun hHeld => ?_)
    · exact HBX.out _ HBA.out
    clear hK K
    try simp only [Act.put, List.setIfInBounds_toArray, List.set_cons_zero, List.set_cons_succ]
    refine wpAnyH_ready (rs := [11]) (by kernel_rfl) (by simp) ?_
    refine AllReadyH.cons (o := ⟨_, _, _, _, _, _⟩) rfl (fun K hK => ?_) AllReadyH.nil
    refine Ap.step rfl _ _ 66 (by rfl) base 91 i0 (.agg #[.int .i64 0, .int .i64 0, .int .i64 0, .string ⟨#[]⟩, .slice none 0 0, .slice none 0 0, .slice none 0 0, .int .i64 0]) 8 120 Tryd.underlying66 hi hz0 hz1 hz2 rfl (by decide) (.slice (some ⟨g, 0, none⟩) t.l.length c) t.l.length (Sp.flatS ys) (by rfl) ((HOW.out _ HB6.out).alloc _) (.slice (some ⟨w6.heap.size, 0, none⟩) 1 1) 1 [.int .i64 (s0 : Int), .int .i64 x.k, .int .i64 x.n, .string x.s, .slice b1 m1 p1, .slice b2 m2 p2, .slice b3 m3 p3, .int .i64 n] (by rfl) (Sp.src_cells w6 [.int .i64 (s0 : Int), .int .i64 x.k, .int .i64 x.n, .string x.s, .slice b1 m1 p1, .slice b2 m2 p2, .slice b3 m3 p3, .int .i64 n] 1 _) rfl (by simp [Value.oneCell']) hmx hby (HBS.out _ HBA.out) ?_
    intro v' w8 hown hgrow hat
    obtain ⟨g', cap', rfl⟩ := ownsRow_succ hown
    obtain ⟨z0, zf, hst⟩ := HPU.out w6 b1 m1 p1 b2 m2 p2 b3 m3 p3 (.slice (some ⟨g', 0, none⟩) (t.l.length + 1) cap') w8 HB6.out HR6.out hown hgrow hat
    have HBX8 := Lib.hid (HBX2.out _ (Sp.grown_kp (T := R) HBA.out hgrow))
    clear hown hgrow hat
    refine hK.out _ _ ?_ (fun hHeld => ?_)
    · exact HBX8.out
    clear hK K
    try simp only [Act.put, List.setIfInBounds_toArray, List.set_cons_zero, List.set_cons_succ]
    refine wpAnyH_take (i := 12) (oi := ⟨_, _, _, _, _, _⟩) (v := ?_) rfl (by kernel_rfl) (by kernel_rfl) (by kernel_rfl) (fun _ _ _ h => h) (Or.inl ⟨by rfl, ?_⟩) (by assumption) ?_
    rotate_left
    · intro w hSw
      try dsimp only at hSw
      go_simp
      try with_reducible rfl
    simp only [Act.put, List.setIfInBounds_toArray, List.set_cons_zero, List.set_cons_succ]
    refine wpAnyH_take (i := 13) (oi := ⟨_, _, _, _, _, _⟩) (v := ?_) rfl (by kernel_rfl) (by kernel_rfl) (by kernel_rfl) (fun _ _ _ h => h) (Or.inl ⟨by rfl, ?_⟩) (by assumption) ?_
    rotate_left
    · intro w hSw
      try dsimp only at hSw
      go_simp
      try with_reducible rfl
    simp only [Act.put, List.setIfInBounds_toArray, List.set_cons_zero, List.set_cons_succ]
    refine wpAnyH_ready (rs := [14]) (by kernel_rfl) (by simp) ?_
    refine AllReadyH.cons (o := ⟨_, _, _, _, _, _⟩) rfl (fun K hK => ?_) AllReadyH.nil
    go_simp
    refine hK.out _ _ ?_ (fun hHeld => ?_)
    · exact Dt.Box.keep HBX8.out (Dt.keep1 _ R 0 _) (by have := HLT.out; omega)
    clear hK K
    try simp only [Act.put, List.setIfInBounds_toArray, List.set_cons_zero, List.set_cons_succ]
    refine wpAnyH_done (by kernel_rfl) ?_ _
    refine NoPanic.normal ?_
    go_wp2_with fail
    go_meet
    exact ⟨hst, g', cap', Dt.cell_set_eq _ _ _ _ _ z0⟩
  case rest =>
    obtain ⟨hst, g', c', k0⟩ := hcut
    have HC := Lib.hid hst
    clear hst
    go_wp2
    refine bodyPost_ret (v := .tuple #[.int .i64 (t.l.length : Int), .int .i64 0]) (by simp [results, Tryd.results35, go_sem]) rfl ?_
    rw [HV.out]
    exact ⟨rfl, HC.out⟩
end Go.Proofs.YtjbjgceblanhpaaDoor
namespace Go.Proofs.YtjbjgceblanhpaaDoor
open Go.RowKit Go.Sort
attribute [local go_sem] Oper.semAt_some
namespace Sp
open Dt
/-- the box of the name that is looked for, and the answer's -/
structure FBx (W : World) (X : Nat) (x : D) (vm vl vt : Value) : Prop where
  b : Box W X x vm vl vt
  r0 : W.cell? ⟨X + 1, 0, none⟩ = some (.int .i64 0)
  r1 : W.cell? ⟨X + 1, 1, none⟩ = some (.int .i64 0)
  r2 : W.cell? ⟨X + 1, 2, none⟩ = some (.string ⟨#[]⟩)
  f : ∀ j, W.frozen? ⟨X + 1, j, none⟩ = false
theorem FBx.below {W W' : World} {X : Nat} {x : D} {vm vl vt : Value} (h : FBx W X x vm vl vt) (hb : Below W.heap.size W W') : FBx W' X x vm vl vt := by
  have hl : X + 1 < W.heap.size := block_lt_of_cell h.r0
  exact ⟨h.b.below hb, (hb.cell (p := ⟨X + 1, 0, none⟩) (block_lt_of_cell h.r0)).trans h.r0, (hb.cell (p := ⟨X + 1, 1, none⟩) (block_lt_of_cell h.r1)).trans h.r1, (hb.cell (p := ⟨X + 1, 2, none⟩) (block_lt_of_cell h.r2)).trans h.r2, fun j => (hb.frozen (p := ⟨X + 1, j, none⟩) hl).trans (h.f j)⟩
theorem FBx.mk' {w w2 : World} {x : D} {vm vl vt : Value} (hw : (w.alloc (.cells #[.int .i64 x.k, .int .i64 x.n, .string x.s, vm, vl, vt] 26)).alloc (.cells #[.int .i64 0, .int .i64 0, .string ⟨#[]⟩] 35) = w2) : FBx w2 w.heap.size x vm vl vt ∧ Below w.heap.size w w2 ∧ w2.heap.size = w.heap.size + 2 := by
  obtain ⟨w1, hw1⟩ : ∃ w1, w.alloc (.cells #[.int .i64 x.k, .int .i64 x.n, .string x.s, vm, vl, vt] 26) = w1 := ⟨_, rfl⟩
  rw [hw1] at hw
  have a2 := six_new w x.k x.n x.s vm vl vt 26
  rw [hw1] at a2
  have s1 : w1.heap.size = w.heap.size + 1 := by rw [← hw1]; simp
  have b1 : Below w.heap.size w w1 := by rw [← hw1]; exact (Below.refl _ _).alloc (Nat.le_refl _) _
  have b2 : Below w1.heap.size w1 w2 := by rw [← hw]; exact (Below.refl _ _).alloc (Nat.le_refl _) _
  have B2 : Box w1 w.heap.size x vm vl vt := ⟨a2 0 (by omega), a2 1 (by omega), a2 2 (by omega), a2 3 (by omega), a2 4 (by omega), a2 5 (by omega)⟩
  have a3 : w2.cell? ⟨w1.heap.size, 0, none⟩ = some (.int .i64 0) ∧ w2.cell? ⟨w1.heap.size, 1, none⟩ = some (.int .i64 0) ∧ w2.cell? ⟨w1.heap.size, 2, none⟩ = some (.string ⟨#[]⟩) := by
    rw [← hw]
    unfold World.cell?
    rw [World.alloc_heap_new]
    exact ⟨rfl, rfl, rfl⟩
  have f3 : ∀ j, w2.frozen? ⟨w1.heap.size, j, none⟩ = false := fun j => by rw [← hw]; exact frz_new w1 _ _ j
  rw [s1] at a3 f3
  exact ⟨⟨B2.below b2, a3.1, a3.2.1, a3.2.2, f3⟩, b1.trans (b2.mono b1.size), by rw [← hw, World.size_alloc, s1]⟩
/-- the answer is stored -/
theorem fst_below {n : Nat} {a W : World} (h : Below n a W) {Y : Nat} (hY : n ≤ Y) (u v s : Value) : Below n a (((W.setCell ⟨Y, 0, none⟩ u).setCell ⟨Y, 1, none⟩ v).setCell ⟨Y, 2, none⟩ s) :=
  ((h.setCell (p := ⟨Y, 0, none⟩) hY u).setCell (p := ⟨Y, 1, none⟩) hY v).setCell (p := ⟨Y, 2, none⟩) hY s
theorem fst_keep (W : World) (Y : Nat) (u v s : Value) : Keep (fun k => k = Y) W (((W.setCell ⟨Y, 0, none⟩ u).setCell ⟨Y, 1, none⟩ v).setCell ⟨Y, 2, none⟩ s) :=
  (((Keep.refl (fun k => k = Y) W).setCell rfl 0 u).setCell rfl 1 v).setCell rfl 2 s
end Sp
set_option maxRecDepth 100000 in
set_option maxHeartbeats 16000000 in
theorem rFind_any {G : Nat → Prop} {base R : Nat} {v1 v2 : Value} {ys : List Sp.RS} {t : Sp.Tbl} (k : Nat) : ∀ {F : Nat → Prop} (sc : Int) (x : Dt.D) (vm vL vt : Value) (w : World), x.m.length = k → Sp.RTb w base R v1 v2 ys t → Sp.RIds G w ys → Dt.Wf x → Dt.Rep F w x vm vL vt →
    Calls Tryd.prog 37 #[.pointer (some ⟨R, 0, none⟩), .int .i64 sc, .agg #[.int .i64 x.k, .int .i64 x.n, .string x.s, vm, vL, vt]] w fun e w' => e = .returned (.tuple #[(Sp.find t sc x).1.val, .int .i64 (Sp.find t sc x).2]) ∧ Below w.heap.size w w' := by
  induction k using Nat.strongRecOn with
  | _ k ih =>
  intro F sc x vm vL vt w hk h hI hW hR
  have HIH0 := Lib.hid ih
  obtain ⟨a1, n1, q1, a2, n2, q2, a3, n3, q3, rfl, rfl, rfl⟩ := hR.forms
  obtain ⟨ai, ci, e1, hci, hmc⟩ := ((Dt.rep_iff _ _ _ _ _ _).1 hR).1
  obtain ⟨rfl, rfl, rfl⟩ : a1 = ai ∧ n1 = x.m.length ∧ q1 = ci := by cases e1; exact ⟨rfl, rfl, rfl⟩
  clear e1 ih
  obtain ⟨w2, hw2⟩ : ∃ w2, (w.alloc (.cells #[.int .i64 x.k, .int .i64 x.n, .string x.s, .slice a1 x.m.length q1, .slice a2 n2 q2, .slice a3 n3 q3] 26)).alloc (.cells #[.int .i64 0, .int .i64 0, .string ⟨#[]⟩] 35) = w2 := ⟨_, rfl⟩
  obtain ⟨hFB, hb2, hs2⟩ := Sp.FBx.mk' hw2
  obtain ⟨⟨⟨fs, fw, fn⟩, fe⟩, hQ⟩ : ∃ r, r = Sp.find t sc x := ⟨_, rfl⟩
  rw [← hQ]
  unfold Sp.Seen.val
  dsimp only
  have HQ := Lib.hid hQ
  have HT := Lib.hid h
  have HI := Lib.hid hI
  have HW := Lib.hid hW
  have HR := Lib.hid hR
  have HB2 := Lib.hid hb2
  have HFB := Lib.hid hFB
  have HS2 := Lib.hid hs2
  have HMC := Lib.hid hmc
  have HKK := Lib.hid hk
  have hmay := rHas_any sc w2 (h.below hb2)
  obtain ⟨b, r0, r1, r2, rf⟩ := hFB
  have rf0 := rf 0
  have rf1 := rf 1
  have rf2 := rf 2
  clear h hI hW hR hQ hb2 hs2 hmc rf hk
  by_cases h0 : sc < 0 ∨ (t.l.length : Int) ≤ sc
  · have HE : Hid (Sp.hasB t sc = false) := by
      show _ = _
      rw [Bool.eq_false_iff]
      exact fun h => Sp.hasB_yes.1 h h0
    have HV : Hid ((((⟨fs, fw, fn⟩ : Sp.Seen), fe) : Sp.Seen × Int) = (⟨0, 0, ⟨#[]⟩⟩, 50)) := by show _ = _; rw [HQ.out]; unfold Sp.find; rw [if_pos h0]
    rw [HE.out] at hmay
    clear h0 b
    go_enter Tryd.func37, Tryd.ntmps37
    go_wp2_with (go_at_call 48; refine hmay.mono ?_; clear hmay; rintro e w4 ⟨rfl, rfl⟩; clear hw2)
    refine bodyPost_ret (v := .tuple #[.agg #[.int .i64 0, .int .i64 0, .string ⟨#[]⟩], .int .i64 50]) (by simp [results, Tryd.results37, go_sem, r0, r1, r2]) rfl ?_
    have hv := HV.out
    cases hv
    exact ⟨rfl, Sp.fst_below HB2.out (by omega) _ _ _⟩
  have HE : Hid (Sp.hasB t sc = true) := Sp.hasB_yes.2 h0
  rw [HE.out] at hmay
  have HN0 := Lib.hid h0
  have hsym := rSymbol05_any x _ _ _ w2 HW.out (HR.out.below HB2.out)
  obtain ⟨b0, b1, b2, b3, b4, b5⟩ := b
  clear h0
  by_cases hy : Sp.isSym x = true
  case neg =>
    have hy' : Sp.isSym x = false := by simpa using hy
    have HV : Hid ((((⟨fs, fw, fn⟩ : Sp.Seen), fe) : Sp.Seen × Int) = (⟨0, 0, ⟨#[]⟩⟩, 5)) := by show _ = _; rw [HQ.out]; unfold Sp.find; rw [if_neg HN0.out, if_pos hy']
    rw [hy'] at hsym
    clear hy hy'
    go_enter Tryd.func37, Tryd.ntmps37
    go_wp2_with (first | (go_at_call 48; refine hmay.mono ?_; clear hmay; rintro e w4 ⟨rfl, rfl⟩; clear hw2) | (go_at_call 49; refine hsym.mono ?_; clear hsym; rintro e w3 ⟨rfl, hb3⟩; have HB3 := Lib.hid (HB2.out.trans (hb3.mono HB2.out.size)); obtain ⟨-, r0, r1, r2, rf⟩ := HFB.out.below hb3; have rf0 := rf 0; have rf1 := rf 1; have rf2 := rf 2; clear hb3 rf))
    refine bodyPost_ret (v := .tuple #[.agg #[.int .i64 0, .int .i64 0, .string ⟨#[]⟩], .int .i64 5]) (by simp [results, Tryd.results37, go_sem, r0, r1, r2]) rfl ?_
    have hv := HV.out
    cases hv
    exact ⟨rfl, Sp.fst_below HB3.out (by omega) _ _ _⟩
  rw [hy] at hsym
  have HY := Lib.hid hy
  clear hy
  have hm16 : x.m.length ≤ 16 := (Sp.sym_parts HY.out).2.2.2.2.1
  have HMR := Lib.hid (Sp.sym_parts HY.out).2.2.2.2.2.1
  have HL0 := Lib.hid HT.out.ok.small
  go_enter Tryd.func37, Tryd.ntmps37
  go_wp2_with (first | (go_at_call 48; refine hmay.mono ?_; clear hmay; rintro e w4 ⟨rfl, rfl⟩; clear hw2) | (go_at_call 49; refine hsym.mono ?_; clear hsym; rintro e w3 ⟨rfl, hb3⟩; have HB3 := Lib.hid (HB2.out.trans (hb3.mono HB2.out.size)); have HF3 := Lib.hid (HFB.out.below hb3); clear hb3 b0 b1 b2 b3 b4 b5 r0 r1 r2 rf0 rf1 rf2))
  have HT3 := Lib.hid (HT.out.below HB3.out)
  go_loopw [8] (fun v wr => ∃ j : Nat, v = .int .i64 j ∧ j ≤ x.m.length ∧ Hid (∀ q, q < j → (hq : q < x.m.length) → x.m[q] ≤ (t.m.length : Int)) ∧ Hid (Below w3.heap.size w3 wr)) (fun v _ => x.m.length - (intOf v).toNat)
  case atStart => exact ⟨0, rfl, Nat.zero_le _, fun q hq => absurd hq (by omega), Below.refl _ _⟩
  case round =>
    obtain ⟨j, rfl, hj, HG, HBR⟩ := hrel
    have hfr := HF3.out.below HBR.out
    obtain ⟨b, r0, r1, r2, rf⟩ := hfr
    obtain ⟨b0, b1, b2, b3, b4, b5⟩ := b
    by_cases hlt : j < x.m.length
    · have hlti : (j : Int) < (x.m.length : Int) := by omega
      have hj0 : (0 : Int) ≤ (j : Int) := by omega
      have hj16 : (j : Int) < 16 := by omega
      obtain ⟨bm, om, rfl, -, hbml, hmcell⟩ := HMC.out (by intro e; rw [e] at hlt; simp at hlt)
      have HBWR := Lib.hid (HB3.out.trans (HBR.out.mono HB3.out.size))
      have mj := (HBWR.out.cell (p := ⟨bm, om + j, none⟩) hbml).trans (hmcell j hlt)
      obtain ⟨y, hyj⟩ : ∃ y, y = x.m[j] := ⟨_, rfl⟩
      rw [← hyj] at mj
      have HYJ := Lib.hid hyj
      obtain ⟨am, cm, hv2, -⟩ := HT.out.mat
      have c1 := (HT3.out.below HBR.out).c1
      rw [hv2] at c1
      clear hmcell hyj
      by_cases hg : y ≤ (t.m.length : Int)
      · have hg' : decide ((t.m.length : Int) < y) = false := decide_eq_false (by omega)
        have HG2 : Hid (∀ q, q < j + 1 → (hq : q < x.m.length) → x.m[q] ≤ (t.m.length : Int)) := by
          intro q hq1 hq2
          by_cases e : q = j
          · subst e; rw [← HYJ.out]; exact hg
          · exact HG.out q (by omega) hq2
        clear hg
        go_wp2_with fail
        go_quiet (fail)
        go_wp2
        go_roundw
        case rel => exact ⟨j + 1, by simp, by omega, HG2, Dt.bdrew HBR.out _⟩
        case measure => simp [intOf]; omega
      · have hg' : decide ((t.m.length : Int) < y) = true := decide_eq_true (by omega)
        have HV : Hid ((((⟨fs, fw, fn⟩ : Sp.Seen), fe) : Sp.Seen × Int) = (⟨0, 0, ⟨#[]⟩⟩, 50)) := by
          show _ = _
          rw [HQ.out]
          unfold Sp.find
          rw [if_neg HN0.out, if_neg (by rw [HY.out]; simp), if_pos]
          rw [Bool.eq_false_iff]
          intro ha
          have := List.all_eq_true.1 ha y (by rw [HYJ.out]; exact List.getElem_mem hlt)
          exact hg (of_decide_eq_true this)
        have rf0 := rf 0
        have rf1 := rf 1
        have rf2 := rf 2
        clear hg
        go_wp2_with fail
        go_quiet (fail)
        go_wp2
        refine bodyPost_ret (v := .tuple #[.agg #[.int .i64 0, .int .i64 0, .string ⟨#[]⟩], .int .i64 50]) (by simp [results, Tryd.results37, go_sem, r0, r1, r2]) rfl ?_
        have hv := HV.out
        cases hv
        exact ⟨rfl, Sp.fst_below (Dt.bdrew (HB3.out.trans (HBR.out.mono HB3.out.size)) _) (by omega) _ _ _⟩
    · obtain rfl : j = x.m.length := by omega
      have hge : ¬ ((x.m.length : Int) < (x.m.length : Int)) := by omega
      have HMK : Hid (Sp.marksOk t x = true) := by
        show _ = _
        unfold Sp.marksOk
        rw [List.all_eq_true]
        intro y hy
        obtain ⟨q, hq, rfl⟩ := List.mem_iff_getElem.1 hy
        exact decide_eq_true (HG.out q hq hq)
      have HBX := Lib.hid (HB3.out.trans (HBR.out.mono HB3.out.size))
      have HFX := Lib.hid (HF3.out.below HBR.out)
      have HTX := Lib.hid (HT3.out.below HBR.out)
      obtain ⟨s0, hs0⟩ : ∃ s0 : Nat, sc = (s0 : Int) := ⟨sc.toNat, by have := HN0.out; omega⟩
      subst hs0
      have hs0l : s0 < t.l.length := by have := HN0.out; omega
      obtain ⟨wx, hwx⟩ : ∃ wx, wx = wr := ⟨_, rfl⟩
      rw [← hwx] at HBX HFX HTX b3
      rw [← hwx]
      clear b0 b1 b2 b3 b4 b5 r0 r1 r2 rf HG HBR HB3 HF3 HT3 hwx
      obtain ⟨⟨b0, b1, b2, b3, b4, b5⟩, r0, r1, r2, rf⟩ := HFX.out
      go_wp2_with fail
      go_loopw [9] (fun v wr => ∃ q : Nat, v = .int .i64 q ∧ q < t.l.length ∧ Hid (Sp.hit t.l q x.s x.m = Sp.hit t.l s0 x.s x.m) ∧ Hid (Below wx.heap.size wx wr)) (fun v _ => (intOf v).toNat)
      case atStart => exact ⟨s0, rfl, hs0l, rfl, Below.refl _ _⟩
      case round =>
        clear b0 b1 b2 b3 b4 b5 r0 r1 r2 rf
        obtain ⟨q, rfl, hq, HH, HBR⟩ := hrel
        obtain ⟨⟨b0, b1, b2, b3, b4, b5⟩, r0, r1, r2, rf⟩ := HFX.out.below HBR.out
        have HBWR := Lib.hid (HBX.out.trans (HBR.out.mono HBX.out.size))
        by_cases hz : q = 0
        · subst hz
          have HHN : Hid (Sp.hit t.l ((s0 : Int).toNat) x.s x.m = none) := by show _ = _; rw [Int.toNat_natCast, ← HH.out]; exact Sp.hit_zero _ _ _
          by_cases hm0 : x.m.length = 0
          · have HV : Hid ((((⟨fs, fw, fn⟩ : Sp.Seen), fe) : Sp.Seen × Int) = (⟨0, 0, x.s⟩, 0)) := by show _ = _; rw [HQ.out]; exact Sp.find_end HN0.out HY.out HMK.out HHN.out hm0
            have hm0' : ((x.m.length : Int) == 0) = true := beq_iff_eq.2 (by omega)
            have rf0 := rf 0
            have rf1 := rf 1
            have rf2 := rf 2
            clear hm0
            go_wp2
            refine bodyPost_ret (v := .tuple #[.agg #[.int .i64 0, .int .i64 0, .string x.s], .int .i64 0]) (by simp [results, Tryd.results37, go_sem, r0, r1, r2]) rfl ?_
            have hv := HV.out
            cases hv
            exact ⟨rfl, Sp.fst_below HBWR.out (by omega) _ _ _⟩
          · obtain ⟨l, hl⟩ : ∃ l, x.m.length = l + 1 := ⟨x.m.length - 1, by omega⟩
            have hm0' : ((x.m.length : Int) == 0) = false := beq_eq_false_iff_ne.2 (by omega)
            have hll : l < x.m.length := by omega
            obtain ⟨bm, om, rfl, -, hbml, hmcell⟩ := HMC.out (by intro e; rw [e] at hll; simp at hll)
            have HV0 := Lib.hid (Sp.find_past HT.out.ok HN0.out HY.out HMK.out HHN.out hm0)
            obtain ⟨am, cm, hv2, hmat⟩ := HT.out.mat
            obtain ⟨y, hyl⟩ : ∃ y, y = x.m[l] := ⟨_, rfl⟩
            have hy1 : 1 ≤ y ∧ y ≤ 1048576 := HMR.out y (by rw [hyl]; exact List.getElem_mem hll)
            have hyt : y ≤ (t.m.length : Int) := by
              have h9 := HMK.out
              unfold Sp.marksOk at h9
              exact of_decide_eq_true (List.all_eq_true.1 h9 y (by rw [hyl]; exact List.getElem_mem hll))
            obtain ⟨p, hp⟩ : ∃ p : Nat, y = (p : Int) + 1 := ⟨(y - 1).toNat, by omega⟩
            have hpl : p < t.m.length := by omega
            obtain ⟨gm, hgm, hmp⟩ := hmat p hpl
            obtain ⟨s1, hs1⟩ : ∃ s1, s1 = t.m[p] := ⟨_, rfl⟩
            have HPA : Hid (Sp.past t x = s1) := by
              show _ = _
              unfold Sp.past
              rw [show x.m.length - 1 = l by omega, List.getD_eq_getElem?_getD, List.getD_eq_getElem?_getD, List.getElem?_eq_getElem hll, ← hyl, hp]
              show (t.m[(((p : Int) + 1).toNat - 1)]?).getD 0 = s1
              rw [show ((p : Int) + 1).toNat - 1 = p by omega, List.getElem?_eq_getElem hpl, hs1]
              rfl
            rw [← hs1] at hmp
            have HV : Hid ((((⟨fs, fw, fn⟩ : Sp.Seen), fe) : Sp.Seen × Int) = Sp.find t (s1 : Int) (Sp.less x)) := by show _ = _; rw [HQ.out, HV0.out, HPA.out]
            have HC : Hid (∀ W, Below w.heap.size w W → Calls Tryd.prog 37 #[.pointer (some ⟨R, 0, none⟩), .int .i64 (s1 : Int), .agg #[.int .i64 5, .int .i64 0, .string x.s, .slice (some ⟨bm, om, none⟩) l q1, .slice none 0 0, .slice none 0 0]] W fun e w' => e = .returned (.tuple #[.agg #[.int .i64 (fs : Int), .int .i64 fw, .string fn], .int .i64 fe]) ∧ Below W.heap.size W w') := fun W hb => by
              have hrl : Dt.Rep F W (Sp.less x) (.slice (some ⟨bm, om, none⟩) l q1) (.slice none 0 0) (.slice none 0 0) := by
                refine (Dt.rep_iff _ _ _ _ _ _).2 ⟨?_, ⟨none, 0, rfl, Nat.le_refl _, fun h => absurd rfl h⟩, ⟨none, 0, rfl, Nat.le_refl _, fun h => absurd rfl h⟩⟩
                have h9 := Sp.IRow.take ((Dt.rep_iff _ _ _ _ _ _).1 (HR.out.below hb)).1 (x.m.length - 1) (by omega)
                have e : (x.m.take (x.m.length - 1)).length = l := by rw [List.length_take]; omega
                rw [e] at h9
                exact h9
              have h9 := HIH0.out (x.m.length - 1) (by rw [← HKK.out]; omega) (s1 : Int) (Sp.less x) _ _ _ W (by show (x.m.take _).length = _; rw [List.length_take]; omega) (HT.out.below hb) (HI.out.below hb) (Sp.sym_wf (Sp.less_sym HY.out)) hrl
              rw [← HV.out] at h9
              exact h9
            have HBD : Hid (Below w.heap.size w wr.drew) := HBWR.out.drew
            have HIH := Lib.hid (HC.out _ HBD.out)
            have HFD := Lib.hid ((HFX.out.below HBR.out).below ((Below.refl wr.heap.size wr).drew))
            have HBRD : Hid (Below wx.heap.size wx wr.drew) := HBR.out.drew
            have HSX : Hid (∀ W, Keep (fun k => k = w.heap.size + 1) w W ∧ Dt.Box W w.heap.size x (.slice (some ⟨bm, om, none⟩) x.m.length q1) (.slice a2 n2 q2) (.slice a3 n3 q3) → W.cell? ⟨R, 1, none⟩ = some (.slice (some ⟨gm, 0, none⟩) t.m.length cm) ∧ W.cell? ⟨w.heap.size, 3, none⟩ = some (.slice (some ⟨bm, om, none⟩) x.m.length q1) ∧ W.cell? ⟨w.heap.size, 2, none⟩ = some (.string x.s) ∧ W.cell? ⟨bm, om + l, none⟩ = some (.int .i64 ((p : Int) + 1)) ∧ W.cell? ⟨gm, p, none⟩ = some (.int .i64 (s1 : Int))) := fun W ⟨hk, hbx⟩ => by
              have k1 := (hk.cell 1 HT.out.lt (fun e => by have e2 : R = w.heap.size + 1 := e; have := HT.out.lt; omega)).trans HT.out.c1
              have k2 := (hk.cell (om + l) hbml (fun e => by have e2 : bm = w.heap.size + 1 := e; omega)).trans (hmcell l hll)
              have hgml : gm < w.heap.size := block_lt_of_cell hmp
              have k3 := (hk.cell p hgml (fun e => by have e2 : gm = w.heap.size + 1 := e; omega)).trans hmp
              rw [hv2, hgm] at k1
              rw [← hyl, hp] at k2
              exact ⟨k1, hbx.2.2.2.1, hbx.2.2.1, k2, k3⟩
            have HK2 : Hid (∀ W, Below w.heap.size w W → Keep (fun k => k = w.heap.size + 1) w W) := fun W hb => (Keep.refl _ w).below hb
            have hl1 : (x.m.length : Int) - 1 = (l : Int) := by omega
            have hli : (l : Int) < (x.m.length : Int) := by omega
            have hl0 : (0 : Int) ≤ (l : Int) := by omega
            have hlc : l ≤ q1 := by omega
            have hlci : (l : Int) ≤ (q1 : Int) := by omega
            have hpi : (p : Int) < (t.m.length : Int) := by omega
            have hp0 : (0 : Int) ≤ (p : Int) := by omega
            have hwp : IntKind.i64.wrap (p : Int) = (p : Int) := IntWalk.i64_in _ (by have := HL0.out.2; omega)
            clear hl hy1 hyt hp hmat hgm hmp hs1 hyl hm0 hmcell hv2
            go_upto_region 18 with (fail)
            refine wp_region_noPanic ?_
            refine wp_region_held_drew (S := fun W => Keep (fun k => k = w.heap.size + 1) w W ∧ Dt.Box W w.heap.size x (.slice (some ⟨bm, om, none⟩) x.m.length q1) (.slice a2 n2 q2) (.slice a3 n3 q3)) (by kernel_rfl) ⟨HK2.out _ HBD.out, HFD.out.b⟩ (fun hHeld => ?_)
            refine wpAnyH_take (i := 0) (oi := ⟨_, _, _, _, _, _⟩) (v := ?_) rfl (by kernel_rfl) (by kernel_rfl) (by kernel_rfl) (fun _ _ _ h => h) (Or.inl ⟨by rfl, ?_⟩) (by assumption) ?_
            rotate_left
            · intro w hSw
              try dsimp only at hSw
              go_simp
              try with_reducible rfl
            simp only [Act.put, List.setIfInBounds_toArray, List.set_cons_zero, List.set_cons_succ]
            refine wpAnyH_take (i := 1) (oi := ⟨_, _, _, _, _, _⟩) (v := ?_) rfl (by kernel_rfl) (by kernel_rfl) (by kernel_rfl) (fun _ _ _ h => h) (Or.inl ⟨by rfl, ?_⟩) (by assumption) ?_
            rotate_left
            · intro w hSw
              try dsimp only at hSw
              go_simp
              try with_reducible rfl
            simp only [Act.put, List.setIfInBounds_toArray, List.set_cons_zero, List.set_cons_succ]
            refine wpAnyH_take (i := 2) (oi := ⟨_, _, _, _, _, _⟩) (v := ?_) rfl (by kernel_rfl) (by kernel_rfl) (by kernel_rfl) (fun _ _ _ h => h) (Or.inl ⟨by rfl, ?_⟩) (by assumption) ?_
            rotate_left
            · intro w hSw
              try dsimp only at hSw
              go_simp
              try with_reducible rfl
            simp only [Act.put, List.setIfInBounds_toArray, List.set_cons_zero, List.set_cons_succ]
            refine wpAnyH_take (i := 3) (oi := ⟨_, _, _, _, _, _⟩) (v := ?_) rfl (by kernel_rfl) (by kernel_rfl) (by kernel_rfl) (fun _ _ _ h => h) (Or.inl ⟨by rfl, ?_⟩) (by assumption) ?_
            rotate_left
            · intro w hSw
              try dsimp only at hSw
              go_simp
              try with_reducible rfl
            simp only [Act.put, List.setIfInBounds_toArray, List.set_cons_zero, List.set_cons_succ]
            refine wpAnyH_take (i := 4) (oi := ⟨_, _, _, _, _, _⟩) (v := ?_) rfl (by kernel_rfl) (by kernel_rfl) (by kernel_rfl) (fun _ _ _ h => h) (Or.inl ⟨by rfl, ?_⟩) (by assumption) ?_
            rotate_left
            · intro w hSw
              obtain ⟨g0, g1, g2, g3, g4⟩ := HSX.out _ hSw
              go_simp
              try with_reducible rfl
            simp only [Act.put, List.setIfInBounds_toArray, List.set_cons_zero, List.set_cons_succ]
            refine wpAnyH_take (i := 5) (oi := ⟨_, _, _, _, _, _⟩) (v := ?_) rfl (by kernel_rfl) (by kernel_rfl) (by kernel_rfl) (fun _ _ _ h => h) (Or.inl ⟨by rfl, ?_⟩) (by assumption) ?_
            rotate_left
            · intro w hSw
              try dsimp only at hSw
              go_simp
              try with_reducible rfl
            simp only [Act.put, List.setIfInBounds_toArray, List.set_cons_zero, List.set_cons_succ]
            refine wpAnyH_take (i := 6) (oi := ⟨_, _, _, _, _, _⟩) (v := ?_) rfl (by kernel_rfl) (by kernel_rfl) (by kernel_rfl) (fun _ _ _ h => h) (Or.inl ⟨by rfl, ?_⟩) (by assumption) ?_
            rotate_left
            · intro w hSw
              obtain ⟨g0, g1, g2, g3, g4⟩ := HSX.out _ hSw
              go_simp
              try with_reducible rfl
            simp only [Act.put, List.setIfInBounds_toArray, List.set_cons_zero, List.set_cons_succ]
            refine wpAnyH_take (i := 7) (oi := ⟨_, _, _, _, _, _⟩) (v := ?_) rfl (by kernel_rfl) (by kernel_rfl) (by kernel_rfl) (fun _ _ _ h => h) (Or.inl ⟨by rfl, ?_⟩) (by assumption) ?_
            rotate_left
            · intro w hSw
              try dsimp only at hSw
              go_simp
              try with_reducible rfl
            simp only [Act.put, List.setIfInBounds_toArray, List.set_cons_zero, List.set_cons_succ]
            refine wpAnyH_take (i := 8) (oi := ⟨_, _, _, _, _, _⟩) (v := ?_) rfl (by kernel_rfl) (by kernel_rfl) (by kernel_rfl) (fun _ _ _ h => h) (Or.inl ⟨by rfl, ?_⟩) (by assumption) ?_
            rotate_left
            · intro w hSw
              try dsimp only at hSw
              go_simp
              try with_reducible rfl
            simp only [Act.put, List.setIfInBounds_toArray, List.set_cons_zero, List.set_cons_succ]
            refine wpAnyH_take (i := 9) (oi := ⟨_, _, _, _, _, _⟩) (v := ?_) rfl (by kernel_rfl) (by kernel_rfl) (by kernel_rfl) (fun _ _ _ h => h) (Or.inl ⟨by rfl, ?_⟩) (by assumption) ?_
            rotate_left
            · intro w hSw
              obtain ⟨g0, g1, g2, g3, g4⟩ := HSX.out _ hSw
              go_simp
              try with_reducible rfl
            simp only [Act.put, List.setIfInBounds_toArray, List.set_cons_zero, List.set_cons_succ]
            refine wpAnyH_take (i := 10) (oi := ⟨_, _, _, _, _, _⟩) (v := ?_) rfl (by kernel_rfl) (by kernel_rfl) (by kernel_rfl) (fun _ _ _ h => h) (Or.inl ⟨by rfl, ?_⟩) (by assumption) ?_
            rotate_left
            · intro w hSw
              try dsimp only at hSw
              go_simp
              try with_reducible rfl
            simp only [Act.put, List.setIfInBounds_toArray, List.set_cons_zero, List.set_cons_succ]
            refine wpAnyH_take (i := 11) (oi := ⟨_, _, _, _, _, _⟩) (v := ?_) rfl (by kernel_rfl) (by kernel_rfl) (by kernel_rfl) (fun _ _ _ h => h) (Or.inl ⟨by rfl, ?_⟩) (by assumption) ?_
            rotate_left
            · intro w hSw
              try dsimp only at hSw
              go_simp
              try with_reducible rfl
            simp only [Act.put, List.setIfInBounds_toArray, List.set_cons_zero, List.set_cons_succ]
            refine wpAnyH_take (i := 12) (oi := ⟨_, _, _, _, _, _⟩) (v := ?_) rfl (by kernel_rfl) (by kernel_rfl) (by kernel_rfl) (fun _ _ _ h => h) (Or.inl ⟨by rfl, ?_⟩) (by assumption) ?_
            rotate_left
            · intro w hSw
              obtain ⟨g0, g1, g2, g3, g4⟩ := HSX.out _ hSw
              go_simp
              try with_reducible rfl
            simp only [Act.put, List.setIfInBounds_toArray, List.set_cons_zero, List.set_cons_succ]
            refine wpAnyH_take (i := 13) (oi := ⟨_, _, _, _, _, _⟩) (v := ?_) rfl (by kernel_rfl) (by kernel_rfl) (by kernel_rfl) (fun _ _ _ h => h) (Or.inl ⟨by rfl, ?_⟩) (by assumption) ?_
            rotate_left
            · intro w hSw
              try dsimp only at hSw
              go_simp
              try with_reducible rfl
            simp only [Act.put, List.setIfInBounds_toArray, List.set_cons_zero, List.set_cons_succ]
            refine wpAnyH_take (i := 14) (oi := ⟨_, _, _, _, _, _⟩) (v := ?_) rfl (by kernel_rfl) (by kernel_rfl) (by kernel_rfl) (fun _ _ _ h => h) (Or.inl ⟨by rfl, ?_⟩) (by assumption) ?_
            rotate_left
            · intro w hSw
              obtain ⟨g0, g1, g2, g3, g4⟩ := HSX.out _ hSw
              go_simp
              try with_reducible rfl
            simp only [Act.put, List.setIfInBounds_toArray, List.set_cons_zero, List.set_cons_succ]
            refine wpAnyH_take (i := 15) (oi := ⟨_, _, _, _, _, _⟩) (v := ?_) rfl (by kernel_rfl) (by kernel_rfl) (by kernel_rfl) (fun _ _ _ h => h) (Or.inl ⟨by rfl, ?_⟩) (by assumption) ?_
            rotate_left
            · intro w hSw
              try dsimp only at hSw
              go_simp
              try with_reducible rfl
            simp only [Act.put, List.setIfInBounds_toArray, List.set_cons_zero, List.set_cons_succ]
            refine wpAnyH_take (i := 16) (oi := ⟨_, _, _, _, _, _⟩) (v := ?_) rfl (by kernel_rfl) (by kernel_rfl) (by kernel_rfl) (fun _ _ _ h => h) (Or.inl ⟨by rfl, ?_⟩) (by assumption) ?_
            rotate_left
            · intro w hSw
              obtain ⟨g0, g1, g2, g3, g4⟩ := HSX.out _ hSw
              go_simp
              try with_reducible rfl
            simp only [Act.put, List.setIfInBounds_toArray, List.set_cons_zero, List.set_cons_succ]
            refine wpAnyH_take (i := 17) (oi := ⟨_, _, _, _, _, _⟩) (v := ?_) rfl (by kernel_rfl) (by kernel_rfl) (by kernel_rfl) (fun _ _ _ h => h) (Or.inl ⟨by rfl, ?_⟩) (by assumption) ?_
            rotate_left
            · intro w hSw
              try dsimp only at hSw
              go_simp
              try with_reducible rfl
            simp only [Act.put, List.setIfInBounds_toArray, List.set_cons_zero, List.set_cons_succ]
            refine wpAnyH_take (i := 18) (oi := ⟨_, _, _, _, _, _⟩) (v := ?_) rfl (by kernel_rfl) (by kernel_rfl) (by kernel_rfl) (fun _ _ _ h => h) (Or.inl ⟨by rfl, ?_⟩) (by assumption) ?_
            rotate_left
            · intro w hSw
              try dsimp only at hSw
              go_simp
              try with_reducible rfl
            simp only [Act.put, List.setIfInBounds_toArray, List.set_cons_zero, List.set_cons_succ]
            refine wpAnyH_take (i := 19) (oi := ⟨_, _, _, _, _, _⟩) (v := ?_) rfl (by kernel_rfl) (by kernel_rfl) (by kernel_rfl) (fun _ _ _ h => h) (Or.inl ⟨by rfl, ?_⟩) (by assumption) ?_
            rotate_left
            · intro w hSw
              try dsimp only at hSw
              go_simp
              try with_reducible rfl
            simp only [Act.put, List.setIfInBounds_toArray, List.set_cons_zero, List.set_cons_succ]
            refine wpAnyH_ready (rs := [20]) (by kernel_rfl) (by simp) ?_
            refine AllReadyH.cons (o := ⟨_, _, _, _, _, _⟩) rfl (fun K hK => ?_) AllReadyH.nil
            go_simp
            refine (HIH.out).mono ?_
            rintro e w9 ⟨rfl, hb9⟩
            have HB9 := Lib.hid (HBD.out.trans (hb9.mono HBD.out.size))
            have HF9 := Lib.hid (HFD.out.below hb9)
            obtain ⟨-, y0, y1, y2, yf⟩ := HFD.out.below hb9
            have f0 := yf 0
            have f1 := yf 1
            have f2 := yf 2
            clear hb9 yf
            dsimp only
            refine hK.out _ _ ?_ (fun hHeld => ?_)
            · exact ⟨HK2.out _ HB9.out, HF9.out.b⟩
            clear hK K
            try simp only [Act.put, List.setIfInBounds_toArray, List.set_cons_zero, List.set_cons_succ]
            refine wpAnyH_take (i := 21) (oi := ⟨_, _, _, _, _, _⟩) (v := ?_) rfl (by kernel_rfl) (by kernel_rfl) (by kernel_rfl) (fun _ _ _ h => h) (Or.inl ⟨by rfl, ?_⟩) (by assumption) ?_
            rotate_left
            · intro w hSw
              try dsimp only at hSw
              go_simp
              try with_reducible rfl
            simp only [Act.put, List.setIfInBounds_toArray, List.set_cons_zero, List.set_cons_succ]
            refine wpAnyH_take (i := 22) (oi := ⟨_, _, _, _, _, _⟩) (v := ?_) rfl (by kernel_rfl) (by kernel_rfl) (by kernel_rfl) (fun _ _ _ h => h) (Or.inl ⟨by rfl, ?_⟩) (by assumption) ?_
            rotate_left
            · intro w hSw
              try dsimp only at hSw
              go_simp
              try with_reducible rfl
            simp only [Act.put, List.setIfInBounds_toArray, List.set_cons_zero, List.set_cons_succ]
            refine wpAnyH_ready (rs := [23]) (by kernel_rfl) (by simp) ?_
            refine AllReadyH.cons (o := ⟨_, _, _, _, _, _⟩) rfl (fun K hK => ?_) AllReadyH.nil
            go_simp
            refine hK.out _ _ ?_ (fun hHeld => ?_)
            · exact ⟨(HK2.out _ HB9.out).trans (Sp.fst_keep _ _ _ _ _), HF9.out.b.keep (Sp.fst_keep _ _ _ _ _) (fun e => by have e2 : w.heap.size = w.heap.size + 1 := e; omega)⟩
            clear hK K
            try simp only [Act.put, List.setIfInBounds_toArray, List.set_cons_zero, List.set_cons_succ]
            refine wpAnyH_take (i := 24) (oi := ⟨_, _, _, _, _, _⟩) (v := ?_) rfl (by kernel_rfl) (by kernel_rfl) (by kernel_rfl) (fun _ _ _ h => h) (Or.inl ⟨by rfl, ?_⟩) (by assumption) ?_
            rotate_left
            · intro w hSw
              try dsimp only at hSw
              go_simp
              try with_reducible rfl
            simp only [Act.put, List.setIfInBounds_toArray, List.set_cons_zero, List.set_cons_succ]
            refine wpAnyH_done (by kernel_rfl) ?_ _
            refine NoPanic.normal ?_
            go_wp2_with fail
            refine bodyPost_ret (v := .tuple #[.agg #[.int .i64 (fs : Int), .int .i64 fw, .string fn], .int .i64 fe]) (by simp [results, Tryd.results37, go_sem, y0, y1, y2]) rfl ?_
            exact ⟨rfl, Sp.fst_below HB9.out (by omega) _ _ _⟩
        · have hz' : ((q : Int) != 0) = true := by simp; omega
          obtain ⟨g, c0, y, e1, hgl, hym, hlq, k0, ⟨k1, k2, k3, k4, k5, k6⟩, k7⟩ := HT.out.scope q hq
          subst e1
          obtain ⟨d1, o1, p1, d2, o2, p2, d3, o3, p3, e2, e3, e4⟩ := (HI.out y hym).forms
          rw [e2] at k4
          rw [e3] at k5
          rw [e4] at k6
          have hid := (HT.out.ok.inn q y.b hlq (by omega))
          have hRy := HI.out y hym
          rw [e2, e3, e4] at hRy
          have hc : ∀ i v, w.cell? ⟨g, i, none⟩ = some v → ∀ d os, (grow (redrawn wr d) os).cell? ⟨g, i, none⟩ = some v := fun i v h => cell_regrown ((HBWR.out.cell (p := ⟨g, i, none⟩) hgl).trans h)
          have j0 := hc _ _ k0
          have j1 := hc _ _ k1
          have j2 := hc _ _ k2
          have j3 := hc _ _ k3
          have j4 := hc _ _ k4
          have j5 := hc _ _ k5
          have j6 := hc _ _ k6
          have j7 := hc _ _ k7
          have u0 := cell_regrown b0
          have u1 := cell_regrown b1
          have u2 := cell_regrown b2
          have u3 := cell_regrown b3
          have u4 := cell_regrown b4
          have u5 := cell_regrown b5
          have z0 := cell_regrown (HTX.out.below HBR.out).c0
          obtain ⟨Q, hQ⟩ : ∃ Q, Q = Dt.sameD y.b.id x := ⟨_, rfl⟩
          have cV : ∀ d os, Calls Tryd.prog 14 #[.agg #[.int .i64 y.b.id.k, .int .i64 y.b.id.n, .string y.b.id.s, .slice d1 o1 p1, .slice d2 o2 p2, .slice d3 o3 p3], .agg #[.int .i64 x.k, .int .i64 x.n, .string x.s, .slice a1 x.m.length q1, .slice a2 n2 q2, .slice a3 n3 q3]] (grow (redrawn wr d) os) fun e w'' => e = .returned (.bool Q) ∧ ∃ p : Regrown, w'' = grow (redrawn wr p.d) p.os := fun d os => by
            have hb9 := below_regrown wr d os
            have hbw := HBWR.out.trans (hb9.mono HBWR.out.size)
            rw [hQ]
            exact Calls.regrown_of (rSame_any y.b.id x _ _ _ _ _ _ _ (Sp.sym_wf hid.2) HW.out (hRy.below hbw) (HR.out.below hbw))
          have HBI := Lib.hid ((Sp.binds_same HT.out.ok HY.out hz hlq).trans hQ.symm)
          have HHS := Lib.hid (Sp.hit_step HT.out.ok hz hlq x.s x.m)
          have HWO : Hid (Sp.whatOf t.l q = y.b.what) := by show _ = _; unfold Sp.whatOf; rw [hlq]
          have hinn := hid.1
          have hqi : (q : Int) < (t.l.length : Int) := by omega
          have hq0 : (0 : Int) ≤ (q : Int) := by omega
          have HF4 := Lib.hid (HFX.out.below HBR.out)
          have HZ := Lib.hid hz
          have hkind : y.b.id.k = y.b.id.k := rfl
          clear k0 k1 k2 k3 k4 k5 k6 k7 hlq hid hRy hc e2 e3 e4 hQ hz b0 b1 b2 b3 b4 b5 r0 r1 r2 rf hkind
          cases Q with
          | true =>
            have HV : Hid ((((⟨fs, fw, fn⟩ : Sp.Seen), fe) : Sp.Seen × Int) = (⟨q, y.b.what, ⟨#[]⟩⟩, 0)) := by
              show _ = _
              rw [HQ.out, ← HWO.out]
              refine Sp.find_hit HN0.out HY.out HMK.out ?_
              rw [Int.toNat_natCast, ← HH.out, HHS.out, HBI.out, if_pos rfl]
            go_wp2
            refine wp_region_quiet_below (by kernel_rfl) (by kernel_rfl) ?_
            repeat (go_big_quiet_step (exact cV _ _))
            refine wpQuiet_nil ?_
            intro _ hw'
            obtain ⟨⟨dq, osq⟩, hw''⟩ := hw'
            subst hw''
            have HBQ := Lib.hid (below_regrown wr dq osq)
            obtain ⟨-, r0, r1, r2, rf⟩ := HF4.out.below HBQ.out
            have rf0 := rf 0
            have rf1 := rf 1
            have rf2 := rf 2
            clear rf
            go_wp2
            refine bodyPost_ret (v := .tuple #[.agg #[.int .i64 (q : Int), .int .i64 y.b.what, .string ⟨#[]⟩], .int .i64 0]) (by simp [results, Tryd.results37, go_sem, r0, r1, r2]) rfl ?_
            have hv := HV.out
            cases hv
            exact ⟨rfl, Sp.fst_below (HBWR.out.trans (HBQ.out.mono HBWR.out.size)) (by omega) _ _ _⟩
          | false =>
            have HH2 : Hid (Sp.hit t.l y.b.inn x.s x.m = Sp.hit t.l s0 x.s x.m) := by
              show _ = _
              rw [← HH.out, HHS.out, HBI.out, if_neg (by simp)]
            go_wp2
            refine wp_region_quiet_below (by kernel_rfl) (by kernel_rfl) ?_
            repeat (go_big_quiet_step (exact cV _ _))
            refine wpQuiet_nil ?_
            intro _ hw'
            obtain ⟨⟨dq, osq⟩, hw''⟩ := hw'
            subst hw''
            have HBQ := Lib.hid (below_regrown wr dq osq)
            go_wp2
            go_roundw
            case rel => exact ⟨y.b.inn, rfl, by omega, HH2, HBR.out.trans (HBQ.out.mono HBR.out.size)⟩
            case measure => simp [intOf]; omega
end Go.Proofs.YtjbjgceblanhpaaDoor
namespace Go.Proofs.YtjbjgceblanhpaaDoor
open Go.RowKit
attribute [local go_sem] Oper.semAt_some
set_option maxRecDepth 100000 in
set_option maxHeartbeats 8000000 in
theorem rSame05_any {F G I : Nat → Prop} {base R : Nat} {v1 v2 : Value} {ys : List Sp.RS} {t : Sp.Tbl} (a b : Int) (x y : Dt.D) (vm vL vt um uL ut : Value) (w : World) (h : Sp.RTb w base R v1 v2 ys t) (hI : Sp.RIds I w ys) (hW : Dt.Wf x) (hR : Dt.Rep F w x vm vL vt) (hW2 : Dt.Wf y) (hR2 : Dt.Rep G w y um uL ut) :
    Calls Tryd.prog 38 #[.pointer (some ⟨R, 0, none⟩), .int .i64 a, .agg #[.int .i64 x.k, .int .i64 x.n, .string x.s, vm, vL, vt], .int .i64 b, .agg #[.int .i64 y.k, .int .i64 y.n, .string y.s, um, uL, ut]] w fun e w' => e = .returned (.tuple #[.bool (Sp.same t a x b y).1, .int .i64 (Sp.same t a x b y).2]) ∧ Below w.heap.size w w' := by
  obtain ⟨a1, n1, q1, a2, n2, q2, a3, n3, q3, rfl, rfl, rfl⟩ := hR.forms
  obtain ⟨c1, o1, r1, c2, o2, r2, c3, o3, r3, rfl, rfl, rfl⟩ := hR2.forms
  obtain ⟨w2, hw2, hb2, hs2, hx2, hy2⟩ := Dt.boxes2 w x y (.slice a1 n1 q1) (.slice a2 n2 q2) (.slice a3 n3 q3) (.slice c1 o1 r1) (.slice c2 o2 r2) (.slice c3 o3 r3)
  obtain ⟨V, hRR⟩ : ∃ V, V = Sp.same t a x b y := ⟨_, rfl⟩
  rw [← hRR]
  obtain ⟨⟨⟨us, uw, un⟩, e1⟩, hu⟩ : ∃ r, r = Sp.find t a x := ⟨_, rfl⟩
  obtain ⟨⟨⟨vs, vw, vn⟩, e2⟩, hv⟩ : ∃ r, r = Sp.find t b y := ⟨_, rfl⟩
  have HR : Hid (V = if e1 ≠ 0 then (false, e1) else if e2 ≠ 0 then (false, e2) else (decide (Sp.Seen.mk us uw un = Sp.Seen.mk vs vw vn), 0)) := by show _ = _; rw [hRR]; unfold Sp.same; rw [← hu, ← hv]
  have HF1 : Hid (∀ W, Below w.heap.size w W → Calls Tryd.prog 37 #[.pointer (some ⟨R, 0, none⟩), .int .i64 a, .agg #[.int .i64 x.k, .int .i64 x.n, .string x.s, .slice a1 n1 q1, .slice a2 n2 q2, .slice a3 n3 q3]] W fun e w' => e = .returned (.tuple #[.agg #[.int .i64 (us : Int), .int .i64 uw, .string un], .int .i64 e1]) ∧ Below W.heap.size W w') := fun W hb => by
    have := rFind_any _ a x _ _ _ W rfl (h.below hb) (hI.below hb) hW (hR.below hb)
    rw [← hu] at this
    exact this
  have HF2 : Hid (∀ W, Below w.heap.size w W → Calls Tryd.prog 37 #[.pointer (some ⟨R, 0, none⟩), .int .i64 b, .agg #[.int .i64 y.k, .int .i64 y.n, .string y.s, .slice c1 o1 r1, .slice c2 o2 r2, .slice c3 o3 r3]] W fun e w' => e = .returned (.tuple #[.agg #[.int .i64 (vs : Int), .int .i64 vw, .string vn], .int .i64 e2]) ∧ Below W.heap.size W w') := fun W hb => by
    have := rFind_any _ b y _ _ _ W rfl (h.below hb) (hI.below hb) hW2 (hR2.below hb)
    rw [← hv] at this
    exact this
  have hf1 := HF1.out w2 hb2
  have HY2 := Lib.hid hy2
  have HB2 := Lib.hid hb2
  obtain ⟨b0, b1, b2, b3, b4, b5⟩ := hx2
  obtain ⟨d0, d1, d2, d3, d4, d5⟩ := id hy2
  clear h hI hW hR hW2 hR2 hRR hu hv hy2 hb2 HF1
  by_cases h1 : e1 = 0
  case neg =>
    have h1' : (e1 != 0) = true := by simpa using h1
    have HV : Hid (V = (false, e1)) := by show _ = _; rw [HR.out, if_pos h1]
    clear h1
    go_enter Tryd.func38, Tryd.ntmps38
    go_wp2_with (go_at_call 37; refine hf1.mono ?_; clear hf1; rintro e w3 ⟨rfl, hb3⟩; have HB3 := Lib.hid (HB2.out.trans (hb3.mono HB2.out.size)); clear hb3)
    refine bodyPost_ret (v := .tuple #[.bool false, .int .i64 e1]) (by simp [results, Tryd.results38, go_sem]) rfl ?_
    rw [HV.out]
    exact ⟨rfl, HB3.out.trans (((Below.refl _ w3).alloc (Nat.le_refl _) _).mono HB3.out.size)⟩
  subst h1
  by_cases h2 : e2 = 0
  case neg =>
    have h2' : (e2 != 0) = true := by simpa using h2
    have HV : Hid (V = (false, e2)) := by show _ = _; rw [HR.out, if_neg (by simp), if_pos h2]
    clear h2
    go_enter Tryd.func38, Tryd.ntmps38
    go_wp2_with (go_at_call 37; refine hf1.mono ?_; clear hf1; rintro e w3 ⟨rfl, hb3⟩; obtain ⟨w4, hw4⟩ : ∃ w4, w3.alloc (.cells #[.int .i64 (us : Int), .int .i64 uw, .string un] 35) = w4 := ⟨_, rfl⟩; have HB4 := Lib.hid (Sp.below_new hb3 hw4 hb3.size); obtain ⟨d0, d1, d2, d3, d4, d5⟩ := HY2.out.below HB4.out.1; have hf2 := HF2.out w4 (HB2.out.trans (HB4.out.1.mono HB2.out.size)); clear hb3; refine Hid.out ?_)
    refine Lib.hid ?_
    go_wp2_with (go_at_call 37; refine hf2.mono ?_; clear hf2; rintro e w5 ⟨rfl, hb5⟩; have HB5 := Lib.hid (HB4.out.1.trans (hb5.mono HB4.out.1.size)); clear hb5)
    refine bodyPost_ret (v := .tuple #[.bool false, .int .i64 e2]) (by simp [results, Tryd.results38, go_sem]) rfl ?_
    rw [HV.out]
    have hbb := HB2.out.trans (HB5.out.mono HB2.out.size)
    exact ⟨rfl, hbb.trans (((Below.refl _ w5).alloc (Nat.le_refl _) _).mono hbb.size)⟩
  subst h2
  have HV : Hid (V = (decide (Sp.Seen.mk us uw un = Sp.Seen.mk vs vw vn), 0)) := by show _ = _; rw [HR.out, if_neg (by simp), if_neg (by simp)]
  by_cases h1 : us = vs
  case neg =>
    have h1' : ¬ ((us : Int) = (vs : Int)) := by omega
    have HD : Hid (decide (Sp.Seen.mk us uw un = Sp.Seen.mk vs vw vn) = false) := decide_eq_false (fun e => h1 (by cases e; rfl))
    go_enter Tryd.func38, Tryd.ntmps38
    go_wp2_with (go_at_call 37; refine hf1.mono ?_; clear hf1; rintro e w3 ⟨rfl, hb3⟩; obtain ⟨w4, hw4⟩ : ∃ w4, w3.alloc (.cells #[.int .i64 (us : Int), .int .i64 uw, .string un] 35) = w4 := ⟨_, rfl⟩; have HB4 := Lib.hid (Sp.below_new hb3 hw4 hb3.size); obtain ⟨d0, d1, d2, d3, d4, d5⟩ := HY2.out.below HB4.out.1; have hf2 := HF2.out w4 (HB2.out.trans (HB4.out.1.mono HB2.out.size)); clear hb3; refine Hid.out ?_)
    refine Lib.hid ?_
    have k0 : w4.cell? ⟨w3.heap.size, 0, none⟩ = some (.int .i64 (us : Int)) := by unfold World.cell?; rw [HB4.out.2.2.1]; rfl
    have k1 : w4.cell? ⟨w3.heap.size, 1, none⟩ = some (.int .i64 uw) := by unfold World.cell?; rw [HB4.out.2.2.1]; rfl
    have k2 : w4.cell? ⟨w3.heap.size, 2, none⟩ = some (.string un) := by unfold World.cell?; rw [HB4.out.2.2.1]; rfl
    have HK := Lib.hid (And.intro k0 (And.intro k1 k2))
    clear k0 k1 k2
    go_wp2_with (go_at_call 37; refine hf2.mono ?_; clear hf2; rintro e w5 ⟨rfl, hb5⟩; have HB5 := Lib.hid (HB4.out.1.trans (hb5.mono HB4.out.1.size)); have k0 := (hb5.cell (p := ⟨w3.heap.size, 0, none⟩) (block_lt_of_cell HK.out.1)).trans HK.out.1; have k1 := (hb5.cell (p := ⟨w3.heap.size, 1, none⟩) (block_lt_of_cell HK.out.2.1)).trans HK.out.2.1; have k2 := (hb5.cell (p := ⟨w3.heap.size, 2, none⟩) (block_lt_of_cell HK.out.2.2)).trans HK.out.2.2; obtain ⟨w6, hw6⟩ : ∃ w6, w5.alloc (.cells #[.int .i64 (vs : Int), .int .i64 vw, .string vn] 35) = w6 := ⟨_, rfl⟩; have HB6 := Lib.hid (Sp.below_new (Below.refl _ w5) hw6 (Nat.le_refl _)); clear hb5; refine Hid.out ?_)
    refine Lib.hid ?_
    have m0 := (HB6.out.1.cell (p := ⟨w3.heap.size, 0, none⟩) (block_lt_of_cell k0)).trans k0
    have m1 := (HB6.out.1.cell (p := ⟨w3.heap.size, 1, none⟩) (block_lt_of_cell k1)).trans k1
    have m2 := (HB6.out.1.cell (p := ⟨w3.heap.size, 2, none⟩) (block_lt_of_cell k2)).trans k2
    have l0 : w6.cell? ⟨w5.heap.size, 0, none⟩ = some (.int .i64 (vs : Int)) := by unfold World.cell?; rw [HB6.out.2.2.1]; rfl
    have l1 : w6.cell? ⟨w5.heap.size, 1, none⟩ = some (.int .i64 vw) := by unfold World.cell?; rw [HB6.out.2.2.1]; rfl
    have l2 : w6.cell? ⟨w5.heap.size, 2, none⟩ = some (.string vn) := by unfold World.cell?; rw [HB6.out.2.2.1]; rfl
    clear k0 k1 k2
    have HBB := Lib.hid ((HB2.out.trans (HB5.out.mono HB2.out.size)).trans (HB6.out.1.mono (HB2.out.trans (HB5.out.mono HB2.out.size)).size))
    go_wp2
    refine bodyPost_ret (v := .tuple #[.bool false, .int .i64 0]) (by simp [results, Tryd.results38, go_sem]) rfl ?_
    rw [HV.out, HD.out]
    exact ⟨rfl, HBB.out⟩
  subst h1
  by_cases h2 : uw = vw
  case neg =>
    have HD : Hid (decide (Sp.Seen.mk us uw un = Sp.Seen.mk us vw vn) = false) := decide_eq_false (fun e => h2 (by cases e; rfl))
    go_enter Tryd.func38, Tryd.ntmps38
    go_wp2_with (go_at_call 37; refine hf1.mono ?_; clear hf1; rintro e w3 ⟨rfl, hb3⟩; obtain ⟨w4, hw4⟩ : ∃ w4, w3.alloc (.cells #[.int .i64 (us : Int), .int .i64 uw, .string un] 35) = w4 := ⟨_, rfl⟩; have HB4 := Lib.hid (Sp.below_new hb3 hw4 hb3.size); obtain ⟨d0, d1, d2, d3, d4, d5⟩ := HY2.out.below HB4.out.1; have hf2 := HF2.out w4 (HB2.out.trans (HB4.out.1.mono HB2.out.size)); clear hb3; refine Hid.out ?_)
    refine Lib.hid ?_
    have k0 : w4.cell? ⟨w3.heap.size, 0, none⟩ = some (.int .i64 (us : Int)) := by unfold World.cell?; rw [HB4.out.2.2.1]; rfl
    have k1 : w4.cell? ⟨w3.heap.size, 1, none⟩ = some (.int .i64 uw) := by unfold World.cell?; rw [HB4.out.2.2.1]; rfl
    have k2 : w4.cell? ⟨w3.heap.size, 2, none⟩ = some (.string un) := by unfold World.cell?; rw [HB4.out.2.2.1]; rfl
    have HK := Lib.hid (And.intro k0 (And.intro k1 k2))
    clear k0 k1 k2
    go_wp2_with (go_at_call 37; refine hf2.mono ?_; clear hf2; rintro e w5 ⟨rfl, hb5⟩; have HB5 := Lib.hid (HB4.out.1.trans (hb5.mono HB4.out.1.size)); have k0 := (hb5.cell (p := ⟨w3.heap.size, 0, none⟩) (block_lt_of_cell HK.out.1)).trans HK.out.1; have k1 := (hb5.cell (p := ⟨w3.heap.size, 1, none⟩) (block_lt_of_cell HK.out.2.1)).trans HK.out.2.1; have k2 := (hb5.cell (p := ⟨w3.heap.size, 2, none⟩) (block_lt_of_cell HK.out.2.2)).trans HK.out.2.2; obtain ⟨w6, hw6⟩ : ∃ w6, w5.alloc (.cells #[.int .i64 (us : Int), .int .i64 vw, .string vn] 35) = w6 := ⟨_, rfl⟩; have HB6 := Lib.hid (Sp.below_new (Below.refl _ w5) hw6 (Nat.le_refl _)); clear hb5; refine Hid.out ?_)
    refine Lib.hid ?_
    have m0 := (HB6.out.1.cell (p := ⟨w3.heap.size, 0, none⟩) (block_lt_of_cell k0)).trans k0
    have m1 := (HB6.out.1.cell (p := ⟨w3.heap.size, 1, none⟩) (block_lt_of_cell k1)).trans k1
    have m2 := (HB6.out.1.cell (p := ⟨w3.heap.size, 2, none⟩) (block_lt_of_cell k2)).trans k2
    have l0 : w6.cell? ⟨w5.heap.size, 0, none⟩ = some (.int .i64 (us : Int)) := by unfold World.cell?; rw [HB6.out.2.2.1]; rfl
    have l1 : w6.cell? ⟨w5.heap.size, 1, none⟩ = some (.int .i64 vw) := by unfold World.cell?; rw [HB6.out.2.2.1]; rfl
    have l2 : w6.cell? ⟨w5.heap.size, 2, none⟩ = some (.string vn) := by unfold World.cell?; rw [HB6.out.2.2.1]; rfl
    clear k0 k1 k2
    have HBB := Lib.hid ((HB2.out.trans (HB5.out.mono HB2.out.size)).trans (HB6.out.1.mono (HB2.out.trans (HB5.out.mono HB2.out.size)).size))
    go_wp2
    refine bodyPost_ret (v := .tuple #[.bool false, .int .i64 0]) (by simp [results, Tryd.results38, go_sem]) rfl ?_
    rw [HV.out, HD.out]
    exact ⟨rfl, HBB.out⟩
  subst h2
  by_cases h3 : un = vn
  case neg =>
    have h3' : ¬ (un.toList = vn.toList) := fun e => h3 (Sp.toList_inj e)
    have HD : Hid (decide (Sp.Seen.mk us uw un = Sp.Seen.mk us uw vn) = false) := decide_eq_false (fun e => h3 (by cases e; rfl))
    go_enter Tryd.func38, Tryd.ntmps38
    go_wp2_with (go_at_call 37; refine hf1.mono ?_; clear hf1; rintro e w3 ⟨rfl, hb3⟩; obtain ⟨w4, hw4⟩ : ∃ w4, w3.alloc (.cells #[.int .i64 (us : Int), .int .i64 uw, .string un] 35) = w4 := ⟨_, rfl⟩; have HB4 := Lib.hid (Sp.below_new hb3 hw4 hb3.size); obtain ⟨d0, d1, d2, d3, d4, d5⟩ := HY2.out.below HB4.out.1; have hf2 := HF2.out w4 (HB2.out.trans (HB4.out.1.mono HB2.out.size)); clear hb3; refine Hid.out ?_)
    refine Lib.hid ?_
    have k0 : w4.cell? ⟨w3.heap.size, 0, none⟩ = some (.int .i64 (us : Int)) := by unfold World.cell?; rw [HB4.out.2.2.1]; rfl
    have k1 : w4.cell? ⟨w3.heap.size, 1, none⟩ = some (.int .i64 uw) := by unfold World.cell?; rw [HB4.out.2.2.1]; rfl
    have k2 : w4.cell? ⟨w3.heap.size, 2, none⟩ = some (.string un) := by unfold World.cell?; rw [HB4.out.2.2.1]; rfl
    have HK := Lib.hid (And.intro k0 (And.intro k1 k2))
    clear k0 k1 k2
    go_wp2_with (go_at_call 37; refine hf2.mono ?_; clear hf2; rintro e w5 ⟨rfl, hb5⟩; have HB5 := Lib.hid (HB4.out.1.trans (hb5.mono HB4.out.1.size)); have k0 := (hb5.cell (p := ⟨w3.heap.size, 0, none⟩) (block_lt_of_cell HK.out.1)).trans HK.out.1; have k1 := (hb5.cell (p := ⟨w3.heap.size, 1, none⟩) (block_lt_of_cell HK.out.2.1)).trans HK.out.2.1; have k2 := (hb5.cell (p := ⟨w3.heap.size, 2, none⟩) (block_lt_of_cell HK.out.2.2)).trans HK.out.2.2; obtain ⟨w6, hw6⟩ : ∃ w6, w5.alloc (.cells #[.int .i64 (us : Int), .int .i64 uw, .string vn] 35) = w6 := ⟨_, rfl⟩; have HB6 := Lib.hid (Sp.below_new (Below.refl _ w5) hw6 (Nat.le_refl _)); clear hb5; refine Hid.out ?_)
    refine Lib.hid ?_
    have m0 := (HB6.out.1.cell (p := ⟨w3.heap.size, 0, none⟩) (block_lt_of_cell k0)).trans k0
    have m1 := (HB6.out.1.cell (p := ⟨w3.heap.size, 1, none⟩) (block_lt_of_cell k1)).trans k1
    have m2 := (HB6.out.1.cell (p := ⟨w3.heap.size, 2, none⟩) (block_lt_of_cell k2)).trans k2
    have l0 : w6.cell? ⟨w5.heap.size, 0, none⟩ = some (.int .i64 (us : Int)) := by unfold World.cell?; rw [HB6.out.2.2.1]; rfl
    have l1 : w6.cell? ⟨w5.heap.size, 1, none⟩ = some (.int .i64 uw) := by unfold World.cell?; rw [HB6.out.2.2.1]; rfl
    have l2 : w6.cell? ⟨w5.heap.size, 2, none⟩ = some (.string vn) := by unfold World.cell?; rw [HB6.out.2.2.1]; rfl
    clear k0 k1 k2
    have HBB := Lib.hid ((HB2.out.trans (HB5.out.mono HB2.out.size)).trans (HB6.out.1.mono (HB2.out.trans (HB5.out.mono HB2.out.size)).size))
    go_wp2
    refine bodyPost_ret (v := .tuple #[.bool false, .int .i64 0]) (by simp [results, Tryd.results38, go_sem]) rfl ?_
    rw [HV.out, HD.out]
    exact ⟨rfl, HBB.out⟩
  subst h3
  have HD : Hid (decide (Sp.Seen.mk us uw un = Sp.Seen.mk us uw un) = true) := decide_eq_true rfl
  go_enter Tryd.func38, Tryd.ntmps38
  go_wp2_with (go_at_call 37; refine hf1.mono ?_; clear hf1; rintro e w3 ⟨rfl, hb3⟩; obtain ⟨w4, hw4⟩ : ∃ w4, w3.alloc (.cells #[.int .i64 (us : Int), .int .i64 uw, .string un] 35) = w4 := ⟨_, rfl⟩; have HB4 := Lib.hid (Sp.below_new hb3 hw4 hb3.size); obtain ⟨d0, d1, d2, d3, d4, d5⟩ := HY2.out.below HB4.out.1; have hf2 := HF2.out w4 (HB2.out.trans (HB4.out.1.mono HB2.out.size)); clear hb3; refine Hid.out ?_)
  refine Lib.hid ?_
  have k0 : w4.cell? ⟨w3.heap.size, 0, none⟩ = some (.int .i64 (us : Int)) := by unfold World.cell?; rw [HB4.out.2.2.1]; rfl
  have k1 : w4.cell? ⟨w3.heap.size, 1, none⟩ = some (.int .i64 uw) := by unfold World.cell?; rw [HB4.out.2.2.1]; rfl
  have k2 : w4.cell? ⟨w3.heap.size, 2, none⟩ = some (.string un) := by unfold World.cell?; rw [HB4.out.2.2.1]; rfl
  have HK := Lib.hid (And.intro k0 (And.intro k1 k2))
  clear k0 k1 k2
  go_wp2_with (go_at_call 37; refine hf2.mono ?_; clear hf2; rintro e w5 ⟨rfl, hb5⟩; have HB5 := Lib.hid (HB4.out.1.trans (hb5.mono HB4.out.1.size)); have k0 := (hb5.cell (p := ⟨w3.heap.size, 0, none⟩) (block_lt_of_cell HK.out.1)).trans HK.out.1; have k1 := (hb5.cell (p := ⟨w3.heap.size, 1, none⟩) (block_lt_of_cell HK.out.2.1)).trans HK.out.2.1; have k2 := (hb5.cell (p := ⟨w3.heap.size, 2, none⟩) (block_lt_of_cell HK.out.2.2)).trans HK.out.2.2; obtain ⟨w6, hw6⟩ : ∃ w6, w5.alloc (.cells #[.int .i64 (us : Int), .int .i64 uw, .string un] 35) = w6 := ⟨_, rfl⟩; have HB6 := Lib.hid (Sp.below_new (Below.refl _ w5) hw6 (Nat.le_refl _)); clear hb5; refine Hid.out ?_)
  refine Lib.hid ?_
  have m0 := (HB6.out.1.cell (p := ⟨w3.heap.size, 0, none⟩) (block_lt_of_cell k0)).trans k0
  have m1 := (HB6.out.1.cell (p := ⟨w3.heap.size, 1, none⟩) (block_lt_of_cell k1)).trans k1
  have m2 := (HB6.out.1.cell (p := ⟨w3.heap.size, 2, none⟩) (block_lt_of_cell k2)).trans k2
  have l0 : w6.cell? ⟨w5.heap.size, 0, none⟩ = some (.int .i64 (us : Int)) := by unfold World.cell?; rw [HB6.out.2.2.1]; rfl
  have l1 : w6.cell? ⟨w5.heap.size, 1, none⟩ = some (.int .i64 uw) := by unfold World.cell?; rw [HB6.out.2.2.1]; rfl
  have l2 : w6.cell? ⟨w5.heap.size, 2, none⟩ = some (.string un) := by unfold World.cell?; rw [HB6.out.2.2.1]; rfl
  clear k0 k1 k2
  have HBB := Lib.hid ((HB2.out.trans (HB5.out.mono HB2.out.size)).trans (HB6.out.1.mono (HB2.out.trans (HB5.out.mono HB2.out.size)).size))
  go_wp2
  refine bodyPost_ret (v := .tuple #[.bool true, .int .i64 0]) (by simp [results, Tryd.results38, go_sem]) rfl ?_
  rw [HV.out, HD.out]
  exact ⟨rfl, HBB.out⟩
end Go.Proofs.YtjbjgceblanhpaaDoor
