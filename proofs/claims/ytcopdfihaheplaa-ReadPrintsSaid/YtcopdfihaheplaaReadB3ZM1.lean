/-
  Several texts of this proof in one: Put, DtGoesP, DtGoes, DtAll, DtSame, DtOwnP, DtOpen, RdModel, Mem, DtOwn, RdBase, RdRow, RdVec, RdTail.
-/
import Derived.Test.YtcopdfihaheplaaApp
import Derived.Test.YtcopdfihaheplaaTbKeep
import Derived.Deep.MidRow
import Derived.Laws.OwnMore
import Derived.Test.YtcopdfihaheplaaDtAlone
import Derived.Deep.Draws
import Derived.Deep.RegionHeld3
import Derived.Deep.DeepCutAuto
import Derived.Deep.Slices
import Derived.Deep.Fields
import Derived.SizedLaws
import Derived.Test.YtcopdfihaheplaaDtModel
import Derived.Test.YtcopdfihaheplaaLexWordsP
import Derived.Lib.Hide
import Derived.Lib.Builder
import Derived.WalkSpells
import Derived.Deep.RegionLaw
import Derived.Deep.Cut
namespace Go.Proofs.Ytcopdfihaheplaa
open Go.RowKit
namespace Pt
theorem heap_setCell (w : World) (b o k : Nat) (v : Value) : (w.setCell ⟨b, o, none⟩ v).heap[k]? = if b = k then w.heap[k]?.map (fun x => match x with | .cells c e f => .cells (c.setIfInBounds o v) e f | x => x) else w.heap[k]? := by
 simp [World.setCell, Array.getElem?_modify]
 split <;> rfl
theorem world_ext {a b : World} (h0 : a.tape = b.tape) (h1 : a.drawn = b.drawn) (h2 : a.os = b.os) (h3 : a.output = b.output) (h4 : ∀ k : Nat, a.heap[k]? = b.heap[k]?) : a = b := by
 obtain ⟨x1, x2, x3, x4, x5⟩ := a
 obtain ⟨y1, y2, y3, y4, y5⟩ := b
 simp only at h0 h1 h2 h3 h4
 subst h0 h1 h2 h3
 congr 1
 exact Array.ext_getElem? fun i => h4 i
theorem setCell_comm (w : World) (b o g p : Nat) (u v : Value) (h : b ≠ g) : (w.setCell ⟨b, o, none⟩ u).setCell ⟨g, p, none⟩ v = (w.setCell ⟨g, p, none⟩ v).setCell ⟨b, o, none⟩ u := by
 refine world_ext rfl rfl rfl rfl fun k => ?_
 rw [heap_setCell, heap_setCell, heap_setCell, heap_setCell]
 by_cases h1 : g = k
 ·by_cases h2 : b = k
  ·exact absurd (h2.trans h1.symm) h
  ·simp [h1, h2]
 ·by_cases h2 : b = k
  ·simp [h1, h2]
  ·simp [h1, h2]
theorem setCells_comm (b o g : Nat) (u : Value) (h : b ≠ g) : ∀ (vs : List Value) (p : Nat) (w : World), (w.setCell ⟨b, o, none⟩ u).setCells g p vs = (w.setCells g p vs).setCell ⟨b, o, none⟩ u
 | [], _, _ => rfl
 | v :: r, p, w => by
  rw [World.setCells, World.setCells, setCell_comm w b o g p u v h]
  exact setCells_comm b o g u h r (p + 1) _
theorem keep_setCells {S : Nat → Prop} {g : Nat} (hg : S g) : ∀ (vs : List Value) (p : Nat) {a w : World}, Keep S a w → Keep S a (w.setCells g p vs)
 | [], _, _, _, h => h
 | v :: r, p, a, w, h => by
  rw [World.setCells]
  exact keep_setCells hg r (p + 1) (h.setCell hg p v)
theorem own_set {w : World} {base size n g cap : Nat} {e : TypeId} {ys zs : List Value} {z v : Value} (h : w.ownsRow base e size (.slice (some ⟨g, 0, none⟩) n cap) n (ys ++ z :: zs)) :
  (w.setCell ⟨g, ys.length, none⟩ v).ownsRow base e size (.slice (some ⟨g, 0, none⟩) n cap) n (ys ++ v :: zs) := by
 obtain ⟨h0, h1⟩ := h
 refine ⟨by rw [← h0]; simp, ?_⟩
 rcases h1 with ⟨h1, _⟩ | ⟨g', cap', cur, e1, e2, e3, e4, e5, e6, e7⟩
 ·cases h1
 ·have eg : g = g' := by cases e1; rfl
  have ec : cap = cap' := by cases e1; rfl
  subst eg ec
  refine .inr ⟨g, cap, cur.setIfInBounds ys.length v, rfl, e2, ?_, e4, e5, by simpa using e6, ?_⟩
  ·rw [heap_setCell, if_pos rfl, e3]; rfl
  ·have hl : ys.length < n * size := by rw [← h0]; simp
   rw [Array.toList_setIfInBounds, List.take_set, e7]
   simp
theorem own_puts : ∀ (vs : List Value) {w : World} {base size n g cap o : Nat} {e : TypeId} {ys zs ts : List Value}, zs.length = vs.length → ys.length = o → w.ownsRow base e size (.slice (some ⟨g, 0, none⟩) n cap) n (ys ++ zs ++ ts) →
  (w.setCells g o vs).ownsRow base e size (.slice (some ⟨g, 0, none⟩) n cap) n (ys ++ vs ++ ts)
 | [], w, base, size, n, g, cap, o, e, ys, zs, ts, hz, _, h => by
  obtain rfl : zs = [] := List.length_eq_zero_iff.1 hz
  exact h
 | v :: r, w, base, size, n, g, cap, o, e, ys, zs, ts, hz, ho, h => by
  match zs, hz with
  | z :: q, hz =>
   subst ho
   rw [World.setCells]
   have h1 : w.ownsRow base e size (.slice (some ⟨g, 0, none⟩) n cap) n (ys ++ z :: (q ++ ts)) := by simpa using h
   have h2 := own_set (v := v) h1
   have h3 : (w.setCell ⟨g, ys.length, none⟩ v).ownsRow base e size (.slice (some ⟨g, 0, none⟩) n cap) n ((ys ++ [v]) ++ q ++ ts) := by simpa using h2
   have := own_puts r (o := ys.length + 1) (by simpa using hz) (by simp) h3
   simpa using this
theorem own_put {w : World} {base size n g cap o : Nat} {e : TypeId} {xs zs : List Value} (vs : List Value) (h : w.ownsRow base e size (.slice (some ⟨g, 0, none⟩) (n + 1) cap) (n + 1) (xs ++ zs)) (hz : zs.length = vs.length) (ho : xs.length = o) :
  (w.setCells g o vs).ownsRow base e size (.slice (some ⟨g, 0, none⟩) (n + 1) cap) (n + 1) (xs ++ vs) := by
 have := own_puts vs (ts := []) hz ho (by simpa using h)
 simpa using this
theorem own_there {w : World} {base size n g cap o m : Nat} {e : TypeId} {xs : List Value} (h : w.ownsRow base e size (.slice (some ⟨g, 0, none⟩) n cap) n xs) (ho : o + m ≤ xs.length) : w.there g o m := by
 intro j hj
 obtain ⟨h0, h1⟩ := h
 rcases h1 with ⟨h1, _⟩ | ⟨g', cap', cur, e1, e2, e3, e4, e5, e6, e7⟩
 ·cases h1
 ·have eg : g = g' := by cases e1; rfl
  subst eg
  have hl : o + j < cur.size := by
   have : xs.length ≤ cur.size := by rw [← e7, List.length_take]; simp only [Array.length_toList]; omega
   omega
  constructor
  ·unfold World.cell?
   simp only [e3]
   simp [hl]
  ·unfold World.frozen?
   simp only [e3]
   simp
theorem own_block {w : World} {base size n g cap : Nat} {e : TypeId} {xs : List Value} (h : w.ownsRow base e size (.slice (some ⟨g, 0, none⟩) n cap) n xs) : base ≤ g ∧ g < w.heap.size := h.lt g rfl
theorem there_setCell {w : World} {b o n : Nat} (h : w.there b o n) (B j : Nat) (v : Value) : (w.setCell ⟨B, j, none⟩ v).there b o n := World.there_setCells h B j [v]
section
variable {P : Program} {w : World}
end
end Pt
end Go.Proofs.Ytcopdfihaheplaa
namespace Go.Proofs.Ytcopdfihaheplaa
open Go.RowKit
namespace Dt
mutual
def pre : D → List D
 | .mk k n s m l t => .mk k n s m l t :: (pres l ++ pres t)
def pres : List D → List D
 | [] => []
 | d :: r => pre d ++ pres r
end
structure P where
 d : D
 vm : Value
 vl : Value
 vt : Value
def P.cells (p : P) : List Value := [.int .i64 p.d.k, .int .i64 p.d.n, .string p.d.s, p.vm, p.vl, p.vt]
def flatP (ls : List P) : List Value := ls.flatMap P.cells
theorem flatP_app (ls : List P) (p : P) : flatP (ls ++ [p]) = flatP ls ++ p.cells := by unfold flatP; simp
theorem flatP_length (ls : List P) : (flatP ls).length = ls.length * 6 := by
 induction ls with
 | nil => rfl
 | cons a l ih =>
  have e : flatP (a :: l) = a.cells ++ flatP l := rfl
  rw [e, List.length_append, ih]
  have : a.cells.length = 6 := rfl
  simp; omega
structure Wk (w : World) (base B : Nat) (e : Int) (vp vd : Value) (ls : List P) (ds : List Int) : Prop where
 c0 : w.cell? ⟨B, 0, none⟩ = some vp
 c1 : w.cell? ⟨B, 1, none⟩ = some vd
 c2 : w.cell? ⟨B, 2, none⟩ = some (.int .i64 e)
 fz : ∀ j, w.frozen? ⟨B, j, none⟩ = false
 rp : w.ownsRow base 25 6 vp ls.length (flatP ls)
 rd : w.ownsRow base 3 1 vd ds.length (ds.map (Value.int .i64))
 np : vp.ownBlock ≠ some B
 nd : vd.ownBlock ≠ some B
 pd : ∀ k, vp.ownBlock = some k → vd.ownBlock ≠ some k
 rep : ∀ p ∈ ls, Rep (fun k => k < base) w p.d p.vm p.vl p.vt
 len : ls.length ≤ 4096
 eq : ds.length ≤ ls.length
 le : base ≤ B
def WS (B : Nat) (vp vd : Value) (k : Nat) : Prop := k = B ∨ vp.ownBlock = some k ∨ vd.ownBlock = some k
def RV (w : World) (v v' : Value) : Prop := ∀ k, v'.ownBlock = some k → v.ownBlock = some k ∨ w.heap.size ≤ k
theorem own_keep {S : Nat → Prop} {w w' : World} {b size n : Nat} {e : TypeId} {v : Value} {xs : List Value} (h : w.ownsRow b e size v n xs) (hc : Keep S w w') (hS : ∀ k, v.ownBlock = some k → ¬ S k) : w'.ownsRow b e size v n xs := by
 obtain ⟨h0, h1⟩ := h
 refine ⟨h0, ?_⟩
 rcases h1 with h1 | ⟨g, cap, cur, e1, e2, e3, e4⟩
 ·exact .inl h1
 ·refine .inr ⟨g, cap, cur, e1, e2, ?_, e4⟩
  rw [hc.block g (Array.getElem?_eq_some_iff.1 e3).1 (hS g (by rw [e1]; rfl))]
  exact e3
theorem row_form {w : World} {base size n : Nat} {e : TypeId} {v : Value} {xs : List Value} (h : w.ownsRow base e size v n xs) : ∃ a c, v = .slice a n c := by
 rcases h.2 with ⟨rfl, rfl⟩ | ⟨g, cap, cur, rfl, _⟩
 ·exact ⟨none, 0, rfl⟩
 ·exact ⟨_, _, rfl⟩
theorem own_lt {w : World} {base size n : Nat} {e : TypeId} {v : Value} {xs : List Value} (h : w.ownsRow base e size v n xs) : ∀ k, v.ownBlock = some k → base ≤ k ∧ k < w.heap.size := by
 intro k hk
 rcases h.2 with ⟨rfl, _⟩ | ⟨g, cap, cur, rfl, e2, e3, _⟩
 ·cases hk
 ·have : g = k := by cases hk; rfl
  subst this
  exact ⟨e2, (Array.getElem?_eq_some_iff.1 e3).1⟩
theorem Wk.below {w w' : World} {base B : Nat} {e : Int} {vp vd : Value} {ls : List P} {ds : List Int} (h : Wk w base B e vp vd ls ds) (hb : Below w.heap.size w w') : Wk w' base B e vp vd ls ds := by
 have hk := (Keep.refl (fun _ => False) w).below hb
 have hl : B < w.heap.size := block_lt_of_cell h.c0
 exact ⟨(hk.cell 0 hl (fun h => h)).trans h.c0, (hk.cell 1 hl (fun h => h)).trans h.c1, (hk.cell 2 hl (fun h => h)).trans h.c2, fun j => (hk.frozen j hl (fun h => h)).trans (h.fz j), own_keep h.rp hk (fun _ _ h => h), own_keep h.rd hk (fun _ _ h => h), h.np, h.nd, h.pd, fun p hp => (h.rep p hp).below hb, h.len, h.eq, h.le⟩
theorem Wk.fail {w : World} {base B : Nat} {e : Int} {vp vd : Value} {ls : List P} {ds : List Int} (h : Wk w base B e vp vd ls ds) (e' : Int) : Wk (w.setCell ⟨B, 2, none⟩ (.int .i64 e')) base B e' vp vd ls ds := by
 have hk : Keep (fun k => k = B) w (w.setCell ⟨B, 2, none⟩ (.int .i64 e')) := (Keep.refl (fun k => k = B) w).setCell rfl 2 _
 have n : ∀ j, j ≠ 2 → (⟨B, 2, none⟩ : Addr) ≠ ⟨B, j, none⟩ := fun j hj e => by cases e; exact hj rfl
 refine ⟨(World.cell?_setCell_other _ _ _ _ (n 0 (by omega))).trans h.c0, (World.cell?_setCell_other _ _ _ _ (n 1 (by omega))).trans h.c1, World.cell?_setCell_same' _ _ _ (by rw [h.c2]; rfl), fun j => (World.frozen?_setCell _ _ _ _).trans (h.fz j), own_keep h.rp hk (fun k hk e => h.np (by rw [hk, e])), own_keep h.rd hk (fun k hk e => h.nd (by rw [hk, e])), h.np, h.nd, h.pd, fun p hp => Rep.keep hk (fun b hb _ e => ?_) p.d (h.rep p hp), h.len, h.eq, h.le⟩
 have := h.le
 omega
def chkE (x : D) (deep : Nat) (r : Int × Nat) : Int × Nat := if r.1 = 0 then chk x deep r.2 else r
def chksE (l : List D) (deep : Nat) (r : Int × Nat) : Int × Nat := if r.1 = 0 then chks l deep r.2 else r
theorem chksE_cons (d : D) (l : List D) (deep : Nat) (r : Int × Nat) : chksE (d :: l) deep r = chksE l deep (chkE d deep r) := by
 unfold chksE chkE
 by_cases h : r.1 = 0
 ·rw [if_pos h, if_pos h, chks]
 ·rw [if_neg h, if_neg h, if_neg h]
theorem chksE_nil (deep : Nat) (r : Int × Nat) : chksE [] deep r = r := by
 unfold chksE
 obtain ⟨a, b⟩ := r
 by_cases h : a = 0
 ·subst h; rw [if_pos rfl, chks]
 ·rw [if_neg h]
theorem chksE_drop {L : List D} {deep j : Nat} {r : Int × Nat} (hj : j < L.length) : chksE (L.drop j) deep r = chksE (L.drop (j + 1)) deep (chkE L[j] deep r) := by
 rw [List.drop_eq_getElem_cons hj, chksE_cons]
theorem chk_goodE {d : D} {deep p : Nat} (h : ¬ 64 < deep) (h' : ¬ 4096 ≤ p) (hs : single d = true) : chk d deep p = chksE d.t (deep + 1) (chksE d.l (deep + 1) (0, p + 1)) := by
 rw [chk_good h h' hs]
 unfold chksE
 rw [if_pos rfl]
theorem pres_snoc : ∀ (l : List D) (j : Nat) (h : j < l.length), pres (l.take (j + 1)) = pres (l.take j) ++ pre l[j]
 | [], j, h => absurd h (by simp)
 | d :: r, 0, h => by simp [pres]
 | d :: r, j + 1, h => by
  have := pres_snoc r j (by simpa using h)
  simp only [List.take_succ_cons, pres, List.getElem_cons_succ, this, List.append_assoc]
theorem pre_eq (d : D) : pre d = d :: (pres d.l ++ pres d.t) := by cases d; rw [pre]; rfl
theorem grown_below {n : Nat} {w wA w' : World} {row : Option Nat} (hb : Below n w wA) (hg : wA.grownBy w' row) (hn : n ≤ w.heap.size) (hrow : ∀ k, row = some k → n ≤ k) : Below n w w' :=
 ⟨hg.os.trans hb.os, hg.tape.trans hb.tape, hg.output.trans hb.output, Nat.le_trans hb.size hg.size, fun k hk => (hg.block k (by have := hb.size; omega) (fun e => by have := hrow k e.symm; omega)).trans (hb.block k hk)⟩
theorem Rep.keep2 {F : Nat → Prop} {w w' : World} {d : D} {vm vl vt : Value} (h : Rep F w d vm vl vt) (hb : Below w.heap.size w w') : Rep F w' d vm vl vt := h.below hb
theorem grown_keep {w wA w' : World} {row : Option Nat} {B : Nat} (hb : Below w.heap.size w wA) (hg : wA.grownBy w' row) : Keep (fun k => k = B ∨ row = some k) w w' :=
 ⟨hg.os.trans hb.os, hg.tape.trans hb.tape, hg.output.trans hb.output, Nat.le_trans hb.size hg.size, fun k hk hn => (hg.block k (by have := hb.size; omega) (fun e => hn (.inr e.symm))).trans (hb.block k hk)⟩
theorem Wk.push {w wA w5 : World} {base B g cap : Nat} {vp vd : Value} {ls : List P} {ds : List Int} (h : Wk w base B 0 vp vd ls ds) (hl : ls.length < 4096) (p : P) (hp : Rep (fun k => k < base) w p.d p.vm p.vl p.vt) (hA : Below w.heap.size w wA)
  {zs : List Value} (hz : zs.length = 6) (hown : w5.ownsRow base 25 6 (.slice (some ⟨g, 0, none⟩) (ls.length + 1) cap) (ls.length + 1) (flatP ls ++ zs)) (hg : wA.grownBy w5 vp.ownBlock) (hat : vp.ownBlock = some g ∨ w.heap.size ≤ g) :
  Wk ((w5.setCells g (ls.length * 6) p.cells).setCell ⟨B, 0, none⟩ (.slice (some ⟨g, 0, none⟩) (ls.length + 1) cap)) base B 0 (.slice (some ⟨g, 0, none⟩) (ls.length + 1) cap) vd (ls ++ [p]) ds ∧
  Keep (WS B vp vd) w ((w5.setCells g (ls.length * 6) p.cells).setCell ⟨B, 0, none⟩ (.slice (some ⟨g, 0, none⟩) (ls.length + 1) cap)) ∧ RV w vp (.slice (some ⟨g, 0, none⟩) (ls.length + 1) cap) := by
 have hB : B < w.heap.size := block_lt_of_cell h.c0
 have hgB : g ≠ B := by
  rcases hat with e | e
  ·intro e'; exact h.np (by rw [e, e'])
  ·omega
 have hK5 : Keep (fun k => vp.ownBlock = some k) w w5 := ⟨hg.os.trans hA.os, hg.tape.trans hA.tape, hg.output.trans hA.output, Nat.le_trans hA.size hg.size, fun k hk hn => (hg.block k (by have := hA.size; omega) (fun e => hn e.symm)).trans (hA.block k hk)⟩
 have hKS : Keep (WS B vp vd) w w5 := hK5.mono (fun k _ e => .inr (.inl e))
 have hrow := Pt.own_put p.cells hown (by rw [hz]; rfl) (flatP_length ls)
 have hbase := h.le
 have hgb := (Pt.own_block hown).1
 -- the parts behind the two stores
 have hKg : Keep (fun k => k = g ∨ vp.ownBlock = some k) w (w5.setCells g (ls.length * 6) p.cells) := Pt.keep_setCells (.inl rfl) _ _ (hK5.mono (fun k _ e => .inr e))
 have hKf : Keep (fun k => k = B ∨ k = g ∨ vp.ownBlock = some k) w ((w5.setCells g (ls.length * 6) p.cells).setCell ⟨B, 0, none⟩ (.slice (some ⟨g, 0, none⟩) (ls.length + 1) cap)) := (hKg.mono (fun k _ e => .inr e)).setCell (.inl rfl) 0 _
 have hSvd : ∀ k, vd.ownBlock = some k → ¬ (k = g ∨ vp.ownBlock = some k) := by
  intro k hk e
  rcases e with e | e
  ·subst e
   rcases hat with e' | e'
   ·exact h.pd k e' hk
   ·have := (own_lt h.rd k hk).2; omega
  ·exact h.pd k e hk
 have hSB : ¬ (B = g ∨ vp.ownBlock = some B) := by
  intro e
  rcases e with e | e
  ·exact hgB e.symm
  ·exact h.np e
 have c0 : ((w5.setCells g (ls.length * 6) p.cells).cell? ⟨B, 0, none⟩).isSome = true := by rw [hKg.cell 0 hB hSB, h.c0]; rfl
 have ne : ∀ j, j ≠ 0 → (⟨B, 0, none⟩ : Addr) ≠ ⟨B, j, none⟩ := fun j hj e => by cases e; exact hj rfl
 refine ⟨⟨World.cell?_setCell_same' _ _ _ c0, ?_, ?_, fun j => ?_, ?_, ?_, ?_, h.nd, ?_, ?_, ?_, ?_, hbase⟩, ?_, ?_⟩
 ·rw [World.cell?_setCell_other _ _ _ _ (ne 1 (by omega)), hKg.cell 1 hB hSB]; exact h.c1
 ·rw [World.cell?_setCell_other _ _ _ _ (ne 2 (by omega)), hKg.cell 2 hB hSB]; exact h.c2
 ·rw [World.frozen?_setCell, hKg.frozen j hB hSB]; exact h.fz j
 ·rw [List.length_append, flatP_app]
  exact own_keep (S := fun k => k = B) hrow ((Keep.refl (fun k => k = B) _).setCell rfl 0 _) (fun k hk e => by cases hk; exact hgB e)
 ·exact own_keep h.rd hKf (fun k hk e => by
   rcases e with e | e
   ·exact h.nd (by rw [hk, e])
   ·exact hSvd k hk e)
 ·intro e; cases e; exact hgB rfl
 ·intro k hk hk'
  cases hk
  exact hSvd _ hk' (.inl rfl)
 ·intro q hq
  have hqr : Rep (fun k => k < base) w q.d q.vm q.vl q.vt := by
   rcases List.mem_append.1 hq with hq | hq
   ·exact h.rep q hq
   ·obtain rfl : q = p := by simpa using hq
    exact hp
  refine Rep.keep hKf (fun b hb hb' e => ?_) q.d hqr
  rcases e with e | e | e
  ·omega
  ·omega
  ·have := (own_lt h.rp b e).1; omega
 ·rw [List.length_append]; show ls.length + 1 ≤ 4096; omega
 ·rw [List.length_append]; have := h.eq; show ds.length ≤ ls.length + 1; omega
 ·refine hKf.mono (fun k hk e => ?_)
  rcases e with e | e | e
  ·exact .inl e
  ·subst e
   rcases hat with e' | e'
   ·exact .inr (.inl e')
   ·omega
  ·exact .inr (.inl e)
 ·intro k hk
  cases hk
  exact hat
theorem Wk.pushD {w wA w5 : World} {base B : Nat} {vp vd vd' : Value} {ls : List P} {ds : List Int} (h : Wk w base B 0 vp vd ls ds) (hl : ds.length + 1 ≤ ls.length) (x : Int) (hA : Below w.heap.size w wA)
  (hown : w5.ownsRow base 3 1 vd' (ds.length + 1) (ds.map (Value.int .i64) ++ [.int .i64 x])) (hg : wA.grownBy w5 vd.ownBlock) (hat : vd'.ownBlock = vd.ownBlock ∨ vd'.ownBlock = some wA.heap.size) :
  Wk (w5.setCell ⟨B, 1, none⟩ vd') base B 0 vp vd' ls (ds ++ [x]) ∧ Keep (WS B vp vd) w (w5.setCell ⟨B, 1, none⟩ vd') ∧ RV w vd vd' := by
 have hB : B < w.heap.size := block_lt_of_cell h.c0
 have hK5 : Keep (fun k => vd.ownBlock = some k) w w5 := ⟨hg.os.trans hA.os, hg.tape.trans hA.tape, hg.output.trans hA.output, Nat.le_trans hA.size hg.size, fun k hk hn => (hg.block k (by have := hA.size; omega) (fun e => hn e.symm)).trans (hA.block k hk)⟩
 have hKf : Keep (fun k => k = B ∨ vd.ownBlock = some k) w (w5.setCell ⟨B, 1, none⟩ vd') := (hK5.mono (fun k _ e => .inr e)).setCell (.inl rfl) 1 _
 have hSB : ¬ (vd.ownBlock = some B) := h.nd
 have hnB : vd'.ownBlock ≠ some B := by
  rcases hat with e | e
  ·rw [e]; exact h.nd
  ·rw [e]; intro e'; cases e'; have := hA.size; omega
 have c1 : (w5.cell? ⟨B, 1, none⟩).isSome = true := by rw [hK5.cell 1 hB hSB, h.c1]; rfl
 have ne : ∀ j, j ≠ 1 → (⟨B, 1, none⟩ : Addr) ≠ ⟨B, j, none⟩ := fun j hj e => by cases e; exact hj rfl
 have hbase := h.le
 have hrv : RV w vd vd' := by
  intro k hk
  rcases hat with e | e
  ·rw [e] at hk; exact .inl hk
  ·rw [e] at hk; cases hk; have := hA.size; exact .inr this
 refine ⟨⟨?_, World.cell?_setCell_same' _ _ _ c1, ?_, fun j => ?_, ?_, ?_, h.np, hnB, ?_, ?_, h.len, by simpa using hl, hbase⟩, ?_, hrv⟩
 ·rw [World.cell?_setCell_other _ _ _ _ (ne 0 (by omega)), hK5.cell 0 hB hSB]; exact h.c0
 ·rw [World.cell?_setCell_other _ _ _ _ (ne 2 (by omega)), hK5.cell 2 hB hSB]; exact h.c2
 ·rw [World.frozen?_setCell, hK5.frozen j hB hSB]; exact h.fz j
 ·exact own_keep h.rp hKf (fun k hk e => by
   rcases e with e | e
   ·exact h.np (by rw [hk, e])
   ·exact h.pd k hk e)
 ·rw [List.length_append, List.map_append]
  exact own_keep (S := fun k => k = B) hown ((Keep.refl (fun k => k = B) _).setCell rfl 1 _) (fun k hk e => hnB (by rw [hk, e]))
 ·intro k hk hk'
  rcases hrv k hk' with e | e
  ·exact h.pd k hk e
  ·have := (own_lt h.rp k hk).2; omega
 ·intro q hq
  refine Rep.keep hKf (fun b hb hb' e => ?_) q.d (h.rep q hq)
  rcases e with e | e
  ·omega
  ·have := (own_lt h.rd b e).1; omega
 ·refine hKf.mono (fun k hk e => ?_)
  rcases e with e | e
  ·exact .inl e
  ·exact .inr (.inr e)
def GoPost (w : World) (base B : Nat) (vp vd : Value) (r : Int × Nat) (L : List D) (w' : World) : Prop :=
 ∃ vp' vd' ls' ds', Wk w' base B r.1 vp' vd' ls' ds' ∧ ls'.length = r.2 ∧ (r.1 = 0 → ls'.map P.d = L) ∧ Keep (WS B vp vd) w w' ∧ RV w vp vp' ∧ RV w vd vd'
theorem WS.step {w w1 w2 : World} {B : Nat} {vp vd vp1 vd1 vp2 vd2 : Value} (h1 : Keep (WS B vp vd) w w1) (r1 : RV w vp vp1) (s1 : RV w vd vd1) (h2 : Keep (WS B vp1 vd1) w1 w2) (r2 : RV w1 vp1 vp2) (s2 : RV w1 vd1 vd2) : Keep (WS B vp vd) w w2 ∧ RV w vp vp2 ∧ RV w vd vd2 := by
 refine ⟨?_, ?_, ?_⟩
 ·have h2' : Keep (fun k => WS B vp vd k ∨ w.heap.size ≤ k) w1 w2 := h2.mono (fun k _ e => by
   rcases e with e | e | e
   ·exact .inl (.inl e)
   ·rcases r1 k e with e | e
    ·exact .inl (.inr (.inl e))
    ·exact .inr e
   ·rcases s1 k e with e | e
    ·exact .inl (.inr (.inr e))
    ·exact .inr e)
  refine ((h1.mono (T := fun k => WS B vp vd k ∨ w.heap.size ≤ k) (fun k _ e => .inl e)).trans h2').mono (fun k hk e => ?_)
  rcases e with e | e
  ·exact e
  ·omega
 ·intro k hk
  rcases r2 k hk with e | e
  ·exact r1 k e
  ·have := h1.size; exact .inr (by omega)
 ·intro k hk
  rcases s2 k hk with e | e
  ·exact s1 k e
  ·have := h1.size; exact .inr (by omega)
end Dt
set_option maxRecDepth 100000 in
theorem goes_done {w : World} {base B : Nat} {e : Int} {vp vd : Value} {ls : List Dt.P} {ds : List Int} (h : Dt.Wk w base B e vp vd ls ds) (he : e ≠ 0) (x : Dt.D) (vm vl vt : Value) (deep : Int) :
  Calls Try.prog 46 #[.pointer (some ⟨B, 0, none⟩), .agg #[.int .i64 x.k, .int .i64 x.n, .string x.s, vm, vl, vt], .int .i64 deep] w fun r w' => r = .returned (.tuple #[]) ∧ Below w.heap.size w w' := by
 have hb : Below w.heap.size w (w.alloc (.cells #[.int .i64 x.k, .int .i64 x.n, .string x.s, vm, vl, vt] 25)) := (Below.refl _ _).alloc (Nat.le_refl _) _
 have c2 := (h.below hb).c2
 have he0 : (e == 0) = false := by simpa using he
 go_enter Try.func46, Try.ntmps46
 go_wp2
 refine bodyPost_ret (v := .tuple #[]) (by simp [results, Try.results46, go_sem]) rfl ?_
 exact ⟨rfl, hb⟩
end Go.Proofs.Ytcopdfihaheplaa
namespace Go.Proofs.Ytcopdfihaheplaa
open Go.RowKit
namespace Dt
def Goes (x : D) : Prop := ∀ (deep base B : Nat) (vp vd vm vl vt : Value) (ls : List P) (ds : List Int) (w : World), Wf x → Rep (fun k => k < base) w x vm vl vt → Wk w base B 0 vp vd ls ds → deep ≤ 65 →
 Calls Try.prog 46 #[.pointer (some ⟨B, 0, none⟩), .agg #[.int .i64 x.k, .int .i64 x.n, .string x.s, vm, vl, vt], .int .i64 (deep : Int)] w
  fun r w' => r = .returned (.tuple #[]) ∧ GoPost w base B vp vd (chk x deep ls.length) (ls.map P.d ++ pre x) w'
theorem infoD : (Try.prog.info? 25).map (fun i => (i.zero, i.size, i.bytes)) = some (some (.agg #[.int .i64 0, .int .i64 0, .string ⟨#[]⟩, .slice none 0 0, .slice none 0 0, .slice none 0 0]), 6, 104) := by kernel_rfl
theorem infoI : (Try.prog.info? 3).map (fun i => (i.zero, i.size, i.bytes)) = some (some (.int .i64 0), 1, 8) := by kernel_rfl
def Box (w : World) (X : Nat) (d : D) (vm vl vt : Value) : Prop := w.cell? ⟨X, 0, none⟩ = some (.int .i64 d.k) ∧ w.cell? ⟨X, 1, none⟩ = some (.int .i64 d.n) ∧ w.cell? ⟨X, 2, none⟩ = some (.string d.s) ∧ w.cell? ⟨X, 3, none⟩ = some vm ∧ w.cell? ⟨X, 4, none⟩ = some vl ∧ w.cell? ⟨X, 5, none⟩ = some vt
def Pushed (w : World) (base B : Nat) (vp vd : Value) (ls : List P) (ds : List Int) (p : P) (w' : World) : Prop :=
 ∃ vp', Wk w' base B 0 vp' vd (ls ++ [p]) ds ∧ Keep (WS B vp vd) w w' ∧ RV w vp vp'
theorem GoPost.fail {w w1 : World} {base B : Nat} {vp vd : Value} {ls : List P} {ds : List Int} {L : List D} (h : Wk w base B 0 vp vd ls ds) (hb : Below w.heap.size w w1) (e : Int) (he : e ≠ 0) : GoPost w base B vp vd (e, ls.length) L (w1.setCell ⟨B, 2, none⟩ (.int .i64 e)) :=
 ⟨vp, vd, ls, ds, (h.below hb).fail e, rfl, fun h => absurd h he, ((Keep.refl _ w).below hb).setCell (.inl rfl) 2 _, fun _ h => .inl h, fun _ h => .inl h⟩
end Dt
set_option maxRecDepth 100000 in
set_option maxHeartbeats 8000000 in
theorem goes_bad (x : Dt.D) (deep base B : Nat) (vp vd vm vl vt : Value) (ls : List Dt.P) (ds : List Int) (w : World) (hW : Dt.Wf x) (hR : Dt.Rep (fun k => k < base) w x vm vl vt) (hK : Dt.Wk w base B 0 vp vd ls ds) (hd : deep ≤ 65)
  (hbad : 64 < deep ∨ 4096 ≤ ls.length ∨ Dt.single x = false) :
  Calls Try.prog 46 #[.pointer (some ⟨B, 0, none⟩), .agg #[.int .i64 x.k, .int .i64 x.n, .string x.s, vm, vl, vt], .int .i64 (deep : Int)] w
   fun r w' => r = .returned (.tuple #[]) ∧ Dt.GoPost w base B vp vd (Dt.chk x deep ls.length) (ls.map Dt.P.d ++ Dt.pre x) w' := by
 obtain ⟨a1, n1, q1, a2, n2, q2, a3, n3, q3, rfl, rfl, rfl⟩ := hR.forms
 obtain ⟨w1, hw1⟩ : ∃ w1, w.alloc (.cells #[.int .i64 x.k, .int .i64 x.n, .string x.s, .slice a1 n1 q1, .slice a2 n2 q2, .slice a3 n3 q3] 25) = w1 := ⟨_, rfl⟩
 have hb1 : Below w.heap.size w w1 := by rw [← hw1]; exact (Below.refl _ _).alloc (Nat.le_refl _) _
 have hK1 := hK.below hb1
 have hsix := Dt.six_new w x.k x.n x.s (.slice a1 n1 q1) (.slice a2 n2 q2) (.slice a3 n3 q3) 25
 rw [hw1] at hsix
 have d0 : w1.cell? ⟨w.heap.size, 0, none⟩ = some (.int .i64 x.k) := hsix 0 (by omega)
 have d1 : w1.cell? ⟨w.heap.size, 1, none⟩ = some (.int .i64 x.n) := hsix 1 (by omega)
 have d2 : w1.cell? ⟨w.heap.size, 2, none⟩ = some (.string x.s) := hsix 2 (by omega)
 have d3 : w1.cell? ⟨w.heap.size, 3, none⟩ = some (.slice a1 n1 q1) := hsix 3 (by omega)
 have d4 : w1.cell? ⟨w.heap.size, 4, none⟩ = some (.slice a2 n2 q2) := hsix 4 (by omega)
 have d5 : w1.cell? ⟨w.heap.size, 5, none⟩ = some (.slice a3 n3 q3) := hsix 5 (by omega)
 obtain ⟨ap, cp, rfl⟩ := Dt.row_form hK.rp
 have c0 := hK1.c0
 have c2 := hK1.c2
 have f2 := hK1.fz 2
 have hll := hK.len
 have hlen : (ls.length : Int) ≤ 4096 := by omega
 have hal := alone_x x (.slice a1 n1 q1) (.slice a2 n2 q2) (.slice a3 n3 q3) w1 hW (hR.below hb1)
 obtain ⟨M, hM⟩ : ∃ M, M = Dt.chk x deep ls.length := ⟨_, rfl⟩
 rw [← hM]
 have HK := Lib.hid hK
 have HB := Lib.hid hb1
 have hbl : B < w1.heap.size := block_lt_of_cell c0
 clear hsix hR hW hK1 hK
 by_cases h1 : 64 < deep
 ·have hdi : (64 : Int) < (deep : Int) := by omega
  have HM : Hid (M = (4, ls.length)) := by show _ = _; rw [hM, Dt.chk_deep h1]
  clear hM hbad hal
  go_enter Try.func46, Try.ntmps46
  go_wp2
  refine bodyPost_ret (v := .tuple #[]) (by simp [results, Try.results46, go_sem]) rfl ?_
  rw [HM.out]
  exact ⟨rfl, Dt.GoPost.fail HK.out HB.out 4 (by omega)⟩
 have hdi : (deep : Int) ≤ 64 := by omega
 by_cases h2 : 4096 ≤ ls.length
 ·have hli : (4096 : Int) ≤ (ls.length : Int) := by omega
  have HM : Hid (M = (3, ls.length)) := by show _ = _; rw [hM, Dt.chk_long h1 h2]
  clear hM hbad hal h2
  go_enter Try.func46, Try.ntmps46
  go_wp2
  refine bodyPost_ret (v := .tuple #[]) (by simp [results, Try.results46, go_sem]) rfl ?_
  rw [HM.out]
  exact ⟨rfl, Dt.GoPost.fail HK.out HB.out 3 (by omega)⟩
 have hli : (ls.length : Int) < 4096 := by omega
 have hs : Dt.single x = false := by
  rcases hbad with h | h | h
  ·exact absurd h h1
  ·exact absurd h h2
  ·exact h
 have HM : Hid (M = (20, ls.length)) := by show _ = _; rw [hM, Dt.chk_bad h1 h2 hs]
 rw [hs] at hal
 clear hM hbad hs h2
 go_enter Try.func46, Try.ntmps46
 go_wp2_with fail
 refine hal.mono ?_
 rintro e w2 ⟨rfl, hb2⟩
 have c0' := (hb2.cell (p := ⟨B, 0, none⟩) hbl).trans c0
 have c2' := (hb2.cell (p := ⟨B, 2, none⟩) hbl).trans c2
 have f2' := (hb2.frozen (p := ⟨B, 2, none⟩) hbl).trans f2
 have HB2 := Lib.hid (HB.out.trans (hb2.mono HB.out.size))
 clear hal c0 c2 f2 d0 d1 d2 d3 d4 d5 hb2
 go_wp2
 refine bodyPost_ret (v := .tuple #[]) (by simp [results, Try.results46, go_sem]) rfl ?_
 rw [HM.out]
 exact ⟨rfl, Dt.GoPost.fail HK.out HB2.out 20 (by omega)⟩
namespace Dt
def Inv (w2 : World) (base B : Nat) (vp vd : Value) (L : List D) (l0 : List D) (deep : Nat) (r0 : Int × Nat) (j : Nat) (wr : World) : Prop :=
 ∃ e vpj vdj lsj dsj, Wk wr base B e vpj vdj lsj dsj ∧ chksE L deep r0 = chksE (L.drop j) deep (e, lsj.length) ∧ (e = 0 → lsj.map P.d = l0 ++ pres (L.take j)) ∧ Keep (WS B vp vd) w2 wr ∧ RV w2 vp vpj ∧ RV w2 vd vdj
theorem Inv.keep {w2 : World} {base B : Nat} {vp vd : Value} {L l0 : List D} {deep : Nat} {r0 : Int × Nat} {j : Nat} {wr : World} (h : Inv w2 base B vp vd L l0 deep r0 j wr) : Keep (WS B vp vd) w2 wr := by
 obtain ⟨_, _, _, _, _, _, _, _, h, _⟩ := h
 exact h
theorem inv_step {w w2 wr : World} {base B c : Nat} {a : Option Addr} {vp vd : Value} {L l0 : List D} {deep : Nat} {r0 : Int × Nat} {j : Nat} (hRow : Row (fun k => k < base) w (.slice a L.length c) L) (hW : Wfs L) (hB : Below w.heap.size w w2) (hvp : ∀ k, vp.ownBlock = some k → base ≤ k) (hvd : ∀ k, vd.ownBlock = some k → base ≤ k) (hG : ∀ y ∈ L, Goes y)
  (hI : Inv w2 base B vp vd L l0 deep r0 j wr) (hd : deep ≤ 65) (hlt : j < L.length) :
  ∃ (y : D) (g o : Nat) (vm vl vt : Value), a = some ⟨g, o, none⟩ ∧ Six wr g (o + j * 6) y vm vl vt ∧ Hid (Calls Try.prog 46 #[.pointer (some ⟨B, 0, none⟩), .agg #[.int .i64 y.k, .int .i64 y.n, .string y.s, vm, vl, vt], .int .i64 (deep : Int)] wr
   fun r w' => r = .returned (.tuple #[]) ∧ Inv w2 base B vp vd L l0 deep r0 (j + 1) w') := by
 obtain ⟨a', c', h1, h2, h3⟩ := hRow
 obtain ⟨g, o, h4, h5, h6, h7⟩ := h3 (by intro e; rw [e] at hlt; simp at hlt)
 have ea : a = a' := by cases h1; rfl
 obtain ⟨e, vpj, vdj, lsj, dsj, k1, k2, k3, k4, k5, k6⟩ := hI
 have hbase := k1.le
 have hk : Keep (WS B vp vd) w wr := ((Keep.refl _ w).below hB).trans k4
 have hr := Reps.keep (F := fun k => k < base) hk (fun b hb _ hs => by
  rcases hs with hs | hs | hs
  ·omega
  ·have := hvp b hs; omega
  ·have := hvd b hs; omega) L h5 h6 h7
 obtain ⟨vm, vl, vt, hs, hp⟩ := hr.at j hlt
 refine ⟨L[j], g, o, vm, vl, vt, ea.trans h4, hs, ?_⟩
 have hy := hG L[j] (List.getElem_mem hlt)
 by_cases he : e = 0
 ·subst he
  refine Calls.mono (hy deep base B vpj vdj vm vl vt lsj dsj wr (hW.at j hlt) hp k1 hd) ?_
  rintro r w' ⟨hr1, vp', vd', ls', ds', m1, m2, m3, m4, m5, m6⟩
  obtain ⟨q1, q2, q3⟩ := WS.step k4 k5 k6 m4 m5 m6
  refine ⟨hr1, _, vp', vd', ls', ds', m1, ?_, fun h0 => ?_, q1, q2, q3⟩
  ·rw [k2, chksE_drop hlt, m2]
   unfold chkE
   rw [if_pos rfl]
  ·rw [m3 h0, k3 rfl, pres_snoc L j hlt, List.append_assoc]
 ·refine Calls.mono (goes_done k1 he L[j] vm vl vt deep) ?_
  rintro r w' ⟨hr1, hb⟩
  refine ⟨hr1, e, vpj, vdj, lsj, dsj, k1.below hb, ?_, fun h0 => absurd h0 he, k4.below hb, k5, k6⟩
  rw [k2, chksE_drop hlt]
  unfold chkE
  rw [if_neg he]
end Dt
set_option maxRecDepth 100000 in
set_option maxHeartbeats 8000000 in
theorem goes_good (x : Dt.D) (hl : ∀ y ∈ x.l, Dt.Goes y) (ht : ∀ y ∈ x.t, Dt.Goes y) (deep base B : Nat) (vp vd vm vl vt : Value) (ls : List Dt.P) (ds : List Int) (w : World) (hW : Dt.Wf x) (hR : Dt.Rep (fun k => k < base) w x vm vl vt) (hK : Dt.Wk w base B 0 vp vd ls ds) (hd : deep ≤ 65)
  (h1 : ¬ 64 < deep) (h2 : ¬ 4096 ≤ ls.length) (hs : Dt.single x = true) :
  Calls Try.prog 46 #[.pointer (some ⟨B, 0, none⟩), .agg #[.int .i64 x.k, .int .i64 x.n, .string x.s, vm, vl, vt], .int .i64 (deep : Int)] w
   fun r w' => r = .returned (.tuple #[]) ∧ Dt.GoPost w base B vp vd (Dt.chk x deep ls.length) (ls.map Dt.P.d ++ Dt.pre x) w' := by
 obtain ⟨⟨a1, q1, rfl, _⟩, ⟨a2, q2, rfl, _⟩, ⟨a3, q3, rfl, _⟩⟩ := (Dt.rep_iff _ _ _ _ _ _).1 hR
 obtain ⟨w1, hw1⟩ : ∃ w1, w.alloc (.cells #[.int .i64 x.k, .int .i64 x.n, .string x.s, .slice a1 x.m.length q1, .slice a2 x.l.length q2, .slice a3 x.t.length q3] 25) = w1 := ⟨_, rfl⟩
 have hb1 : Below w.heap.size w w1 := by rw [← hw1]; exact (Below.refl _ _).alloc (Nat.le_refl _) _
 have hK1 := hK.below hb1
 have hsix := Dt.six_new w x.k x.n x.s (.slice a1 x.m.length q1) (.slice a2 x.l.length q2) (.slice a3 x.t.length q3) 25
 rw [hw1] at hsix
 have d0 : w1.cell? ⟨w.heap.size, 0, none⟩ = some (.int .i64 x.k) := hsix 0 (by omega)
 have d1 : w1.cell? ⟨w.heap.size, 1, none⟩ = some (.int .i64 x.n) := hsix 1 (by omega)
 have d2 : w1.cell? ⟨w.heap.size, 2, none⟩ = some (.string x.s) := hsix 2 (by omega)
 have d3 : w1.cell? ⟨w.heap.size, 3, none⟩ = some (.slice a1 x.m.length q1) := hsix 3 (by omega)
 have d4 : w1.cell? ⟨w.heap.size, 4, none⟩ = some (.slice a2 x.l.length q2) := hsix 4 (by omega)
 have d5 : w1.cell? ⟨w.heap.size, 5, none⟩ = some (.slice a3 x.t.length q3) := hsix 5 (by omega)
 obtain ⟨ap, cp, rfl⟩ := Dt.row_form hK.rp
 obtain ⟨ad, cd, rfl⟩ := Dt.row_form hK.rd
 have c0 := hK1.c0
 have c2 := hK1.c2
 have hll := hK.len
 have hlen : (ls.length : Int) < 4096 := by omega
 have hal := alone_x x (.slice a1 x.m.length q1) (.slice a2 x.l.length q2) (.slice a3 x.t.length q3) w1 hW (hR.below hb1)
 rw [hs] at hal
 have hdi : (deep : Int) ≤ 64 := by omega
 have hX1 : w.heap.size < w1.heap.size := by rw [← hw1]; simp
 have HDP : Hid (Dt.chk x deep ls.length = Dt.chksE x.t (deep + 1) (Dt.chksE x.l (deep + 1) (0, ls.length + 1))) := Dt.chk_goodE h1 h2 hs
 have HPR : Hid (Dt.pre x = x :: (Dt.pres x.l ++ Dt.pres x.t)) := Dt.pre_eq x
 have HW := Lib.hid hW
 have HR := Lib.hid hR
 have HK := Lib.hid hK
 have HB := Lib.hid hb1
 have HL := Lib.hid hl
 have HT := Lib.hid ht
 have h2' : ls.length < 4096 := by omega
 have hbl : B < w1.heap.size := block_lt_of_cell c0
 have hbw : B < w.heap.size := block_lt_of_cell hK.c0
 have hl64 := (Dt.wf_len hW).1
 have ht64 := (Dt.wf_len hW).2
 have HXW : Hid (w.heap.size = w.heap.size) := rfl
 obtain ⟨X, hX⟩ : ∃ X, w.heap.size = X := ⟨_, rfl⟩
 rw [hX] at d0 d1 d2 d3 d4 d5 hX1
 clear hsix hR hW hK1 hK hs hl ht h2 HXW
 obtain ⟨i0, hi, hz0, hz1, hz2⟩ := info_parts Dt.infoD
 go_enter Try.func46, Try.ntmps46
 go_wp2_with fail
 refine hal.mono ?_
 rintro e w2 ⟨rfl, hb2⟩
 clear hal hw1
 have HX := Lib.hid hX
 clear hX
 have e0 := (hb2.cell (p := ⟨X, 0, none⟩) hX1).trans d0
 have e1 := (hb2.cell (p := ⟨X, 1, none⟩) hX1).trans d1
 have e2 := (hb2.cell (p := ⟨X, 2, none⟩) hX1).trans d2
 have e3 := (hb2.cell (p := ⟨X, 3, none⟩) hX1).trans d3
 have e4 := (hb2.cell (p := ⟨X, 4, none⟩) hX1).trans d4
 have e5 := (hb2.cell (p := ⟨X, 5, none⟩) hX1).trans d5
 have hB2 := HB.out.trans (hb2.mono HB.out.size)
 have HK2 := Lib.hid (HK.out.below hB2)
 have HB2 := Lib.hid hB2
 have z0 := HK2.out.c0
 have hX2 : X < w2.heap.size := Nat.lt_of_lt_of_le hX1 hb2.size
 have HS6 : Hid (∀ w', Keep (fun k => k = B ∨ (Value.slice ap ls.length cp).ownBlock = some k) w2 w' → Dt.Box w' X x (.slice a1 x.m.length q1) (.slice a2 x.l.length q2) (.slice a3 x.t.length q3)) := by
  intro w' hk
  have hn : ¬ (X = B ∨ (Value.slice ap ls.length cp).ownBlock = some X) := by
   intro e
   rcases e with e | e
   ·have := HX.out; omega
   ·have := (Dt.own_lt HK.out.rp X e).2; have := HX.out; omega
  exact ⟨(hk.cell 0 hX2 hn).trans e0, (hk.cell 1 hX2 hn).trans e1, (hk.cell 2 hX2 hn).trans e2, (hk.cell 3 hX2 hn).trans e3, (hk.cell 4 hX2 hn).trans e4, (hk.cell 5 hX2 hn).trans e5⟩
 have hB2l : B < w2.heap.size := block_lt_of_cell z0
 clear hb2 hB2 c0 c2 d0 d1 d2 d3 d4 d5 HB hX1 hbl
 go_upto_region 8 with fail
 go_cut [] (fun wx => Dt.Pushed w2 base B (.slice ap ls.length cp) (.slice ad ds.length cd) ls ds ⟨x, .slice a1 x.m.length q1, .slice a2 x.l.length q2, .slice a3 x.t.length q3⟩ wx)
 case first =>
  have hmx : ls.length + 1 ≤ maxLen := by unfold maxLen; omega
  have hby : (ls.length + 1) * 104 ≤ 140737488355328 := by omega
  obtain ⟨wA, hwA⟩ : ∃ wA, w2.drew.alloc (.cells #[.int .i64 0, .int .i64 0, .string ⟨#[]⟩, .slice none 0 0, .slice none 0 0, .slice none 0 0] 25) = wA := ⟨_, rfl⟩
  have hbA : Below w2.heap.size w2 wA := by rw [← hwA]; exact (Below.refl _ w2).drew.alloc (Nat.le_refl _) _
  have z0A : wA.cell? ⟨B, 0, none⟩ = some (.slice ap ls.length cp) := (hbA.cell (p := ⟨B, 0, none⟩) hB2l).trans z0
  have HWA := Lib.hid hbA
  have HOW : Hid (wA.ownsRow base 25 6 (.slice ap ls.length cp) ls.length (Dt.flatP ls)) := Dt.own_keep (S := fun _ => False) HK2.out.rp ((Keep.refl _ w2).below hbA) (fun _ _ h => h)
  have HNEW := Lib.hid (World.news_of_block (w := wA) (B := w2.heap.size) (cs := #[.int .i64 0, .int .i64 0, .string ⟨#[]⟩, .slice none 0 0, .slice none 0 0, .slice none 0 0]) (t := 25) (fr := (0, 0)) (by rw [← hwA]; exact heap_alloc_new w2.drew _))
  have HONE : Hid (∀ u ∈ [Value.int .i64 0, .int .i64 0, .string ⟨#[]⟩, .slice none 0 0, .slice none 0 0, .slice none 0 0], u.oneCell' = true) := by show ∀ u ∈ _, _; simp [Value.oneCell']
  have HBS : Hid (base ≤ wA.heap.size) := by show _ ≤ _; have := HK2.out.le; have := hbA.size; omega
  have hsA : wA.heap.size = w2.heap.size + 1 := by rw [← hwA]; simp
  have HinfoS : Hid ((Try.prog.info? 25).map (·.size) = some 6) := by show _ = _; rw [hi]; simp [hz1]
  have hx : Dt.Box w2.drew X x (.slice a1 x.m.length q1) (.slice a2 x.l.length q2) (.slice a3 x.t.length q3) := ⟨e0, e1, e2, e3, e4, e5⟩
  have hxA : Dt.Box wA X x (.slice a1 x.m.length q1) (.slice a2 x.l.length q2) (.slice a3 x.t.length q3) := HS6.out _ ((Keep.refl _ w2).below hbA)
  have hli0 : (0 : Int) ≤ (ls.length : Int) := by omega
  have hli1 : (ls.length : Int) < (ls.length : Int) + 1 := by omega
  have HPU : Hid (∀ g cap w5, w5.ownsRow base 25 6 (.slice (some ⟨g, 0, none⟩) (ls.length + 1) cap) (ls.length + 1) (Dt.flatP ls ++ [.int .i64 0, .int .i64 0, .string ⟨#[]⟩, .slice none 0 0, .slice none 0 0, .slice none 0 0]) → wA.grownBy w5 (Value.slice ap ls.length cp).ownBlock → ((Value.slice ap ls.length cp).ownBlock = some g ∨ g = wA.heap.size) →
    Dt.Pushed w2 base B (.slice ap ls.length cp) (.slice ad ds.length cd) ls ds ⟨x, .slice a1 x.m.length q1, .slice a2 x.l.length q2, .slice a3 x.t.length q3⟩ ((w5.setCells g (ls.length * 6) [.int .i64 x.k, .int .i64 x.n, .string x.s, .slice a1 x.m.length q1, .slice a2 x.l.length q2, .slice a3 x.t.length q3]).setCell ⟨B, 0, none⟩ (.slice (some ⟨g, 0, none⟩) (ls.length + 1) cap))) := by
   intro g cap w5 hown hgrow hat
   obtain ⟨k1, k2, k3⟩ := HK2.out.push h2' ⟨x, .slice a1 x.m.length q1, .slice a2 x.l.length q2, .slice a3 x.t.length q3⟩ (HR.out.keep2 HB2.out) HWA.out rfl hown hgrow (hat.imp id (fun e => by rw [e]; exact HWA.out.size))
   exact ⟨_, k1, k2, k3⟩
  have HTA : Hid (∀ g cap w5, w5.ownsRow base 25 6 (.slice (some ⟨g, 0, none⟩) (ls.length + 1) cap) (ls.length + 1) (Dt.flatP ls ++ [.int .i64 0, .int .i64 0, .string ⟨#[]⟩, .slice none 0 0, .slice none 0 0, .slice none 0 0]) → wA.grownBy w5 (Value.slice ap ls.length cp).ownBlock → ((Value.slice ap ls.length cp).ownBlock = some g ∨ g = wA.heap.size) →
    w5.there g (ls.length * 6) 6 ∧ Hid (B ≠ g) ∧ Hid (∀ w', Keep (fun k => k = g ∨ k = B) w5 w' → Dt.Box w' X x (.slice a1 x.m.length q1) (.slice a2 x.l.length q2) (.slice a3 x.t.length q3)) ∧ (∀ vv, ((w5.setCells g (ls.length * 6) vv).cell? ⟨B, 0, none⟩ = some (.slice ap ls.length cp) ∧ (w5.setCells g (ls.length * 6) vv).frozen? ⟨B, 0, none⟩ = false)) ∧ w5.frozen? ⟨B, 0, none⟩ = false ∧ w5.cell? ⟨B, 0, none⟩ = some (.slice ap ls.length cp)) := by
   intro g cap w5 hown hgrow hat
   have hkg : Keep (fun k => k = B ∨ (Value.slice ap ls.length cp).ownBlock = some k) w2 w5 := Dt.grown_keep HWA.out hgrow
   have hgB : B ≠ g := by
    rcases hat with e | e
    ·intro e'; exact HK2.out.np (by rw [e, e'])
    ·omega
   have hnB : ¬ (Value.slice ap ls.length cp).ownBlock = some B := HK2.out.np
   have hk5 : Keep (fun k => (Value.slice ap ls.length cp).ownBlock = some k) w2 w5 := ⟨hkg.os, hkg.tape, hkg.output, hkg.size, fun k hk hn => (hgrow.block k (by omega) (fun e => hn e.symm)).trans (HWA.out.block k hk)⟩
   refine ⟨Pt.own_there hown (by rw [List.length_append, Dt.flatP_length]; exact Nat.le_refl _), Lib.hid hgB, Lib.hid (fun w' hk => HS6.out w' (((hkg.mono (T := fun k => (k = B ∨ (Value.slice ap ls.length cp).ownBlock = some k) ∨ k = g) (fun k _ e => .inl e)).trans (hk.mono (fun k _ e => e.elim .inr (fun e => .inl (.inl e))))).mono (fun k hk e => ?_))), fun vv => ⟨?_, ?_⟩, (hk5.frozen 0 hB2l hnB).trans (HK2.out.fz 0), (hk5.cell 0 hB2l hnB).trans z0⟩
   ·rcases e with e | e
    ·exact e
    ·subst e
     rcases hat with e' | e'
     ·exact .inr e'
     ·omega
   ·rw [World.cell?_setCells_out g vv _ w5 ⟨B, 0, none⟩ (fun h => absurd h hgB)]
    exact (hk5.cell 0 hB2l hnB).trans z0
   ·rw [World.frozen?_setCells]
    exact (hk5.frozen 0 hB2l hnB).trans (HK2.out.fz 0)
  clear e0 e1 e2 e3 e4 e5 hbA
  refine wp_region_noPanic ?_
  refine wp_region_held_drew (S := fun w' => Dt.Box w' X x (.slice a1 x.m.length q1) (.slice a2 x.l.length q2) (.slice a3 x.t.length q3)) (by kernel_rfl) hx (fun hHeld => ?_)
  refine wpAnyH_take (i := 0) (oi := ⟨_, _, _, _, _, _⟩) (v := ?_) rfl (by kernel_rfl) (by kernel_rfl) (by kernel_rfl) (fun _ _ _ h => h) (Or.inl ⟨by rfl, ?_⟩) (by assumption) ?_
  rotate_left
  ·intro w hSw
   try dsimp only at hSw
   go_simp
   try with_reducible rfl
  simp only [Act.put, List.setIfInBounds_toArray, List.set_cons_zero, List.set_cons_succ]
  refine wpAnyH_take (i := 1) (oi := ⟨_, _, _, _, _, _⟩) (v := ?_) rfl (by kernel_rfl) (by kernel_rfl) (by kernel_rfl) (fun _ _ _ h => h) (Or.inl ⟨by rfl, ?_⟩) (by assumption) ?_
  rotate_left
  ·intro w hSw
   try dsimp only at hSw
   go_simp
   try with_reducible rfl
  simp only [Act.put, List.setIfInBounds_toArray, List.set_cons_zero, List.set_cons_succ]
  refine wpAnyH_take (i := 2) (oi := ⟨_, _, _, _, _, _⟩) (v := ?_) rfl (by kernel_rfl) (by kernel_rfl) (by kernel_rfl) (fun _ _ _ h => h) (Or.inl ⟨by rfl, ?_⟩) (by assumption) ?_
  rotate_left
  ·intro w hSw
   try dsimp only at hSw
   go_simp
   try with_reducible rfl
  simp only [Act.put, List.setIfInBounds_toArray, List.set_cons_zero, List.set_cons_succ]
  refine wpAnyH_take (i := 4) (oi := ⟨_, _, _, _, _, _⟩) (v := ?_) rfl (by kernel_rfl) (by kernel_rfl) (by kernel_rfl) (fun _ _ _ h => h) (Or.inl ⟨by rfl, ?_⟩) (by assumption) ?_
  rotate_left
  ·intro w hSw
   obtain ⟨g0, g1, g2, g3, g4, g5⟩ := hSw
   go_simp
   try with_reducible rfl
  simp only [Act.put, List.setIfInBounds_toArray, List.set_cons_zero, List.set_cons_succ]
  refine wpAnyH_ready (rs := [3, 6]) (by kernel_rfl) (by simp) ?_
  refine AllReadyH.cons (o := ⟨_, _, _, _, _, _⟩) rfl (fun K hK => ?_) ?_
  ·go_simp
   refine hK.out _ _ ?_ (fun hHeld => ?_)
   ·exact hx
   clear hK K
   try simp only [Act.put, List.setIfInBounds_toArray, List.set_cons_zero, List.set_cons_succ]
   refine wpAnyH_take (i := 5) (oi := ⟨_, _, _, _, _, _⟩) (v := ?_) rfl (by kernel_rfl) (by kernel_rfl) (by kernel_rfl) (fun _ _ _ h => h) (Or.inl ⟨by rfl, ?_⟩) (by assumption) ?_
   rotate_left
   ·intro w hSw
    try dsimp only at hSw
    go_simp
    try with_reducible rfl
   simp only [Act.put, List.setIfInBounds_toArray, List.set_cons_zero, List.set_cons_succ]
   refine wpAnyH_ready (rs := [6]) (by kernel_rfl) (by simp) ?_
   refine AllReadyH.cons (o := ⟨_, _, _, _, _, _⟩) rfl (fun K hK => ?_) AllReadyH.nil
   go_simp
   refine hK.out _ _ ?_ (fun hHeld => ?_)
   ·exact hxA
   clear hK K
   try simp only [Act.put, List.setIfInBounds_toArray, List.set_cons_zero, List.set_cons_succ]
   refine wpAnyH_ready (rs := [7]) (by kernel_rfl) (by simp) ?_
   refine AllReadyH.cons (o := ⟨_, _, _, _, _, _⟩) rfl (fun K hK => ?_) AllReadyH.nil
   refine step_append_lies _ (by rfl) _ _ 23 (by rfl) base 25 i0 (.agg #[.int .i64 0, .int .i64 0, .string ⟨#[]⟩, .slice none 0 0, .slice none 0 0, .slice none 0 0]) 6 104 Try.underlying23 hi hz0 hz1 hz2 rfl (by decide) (.slice ap ls.length cp) ls.length (Dt.flatP ls) (by rfl) HOW.out ⟨w2.heap.size, 0, none⟩ 1 1 [.int .i64 0, .int .i64 0, .string ⟨#[]⟩, .slice none 0 0, .slice none 0 0, .slice none 0 0] (by rfl) rfl HNEW.out HONE.out (by omega) hmx hby HBS.out _ rfl ?_
   intro g cap w5 hown hgrow hat hlt
   refine hK.out _ _ ?_ (fun hHeld => ?_)
   ·exact HS6.out _ (Dt.grown_keep HWA.out hgrow)
   clear hK K
   try simp only [Act.put, List.setIfInBounds_toArray, List.set_cons_zero, List.set_cons_succ]
   obtain ⟨hthere, HgB, HBX2, hbc⟩ := HTA.out g cap w5 hown hgrow hat
   have hsb := hbc.1
   have hfb := hbc.2
   refine wpAnyH_take (i := 10) (oi := ⟨_, _, _, _, _, _⟩) (v := ?_) rfl (by kernel_rfl) (by kernel_rfl) (by kernel_rfl) (fun _ _ _ h => h) (Or.inl ⟨by rfl, ?_⟩) (by assumption) ?_
   rotate_left
   ·intro w hSw
    try dsimp only at hSw
    go_simp
    try with_reducible rfl
   simp only [Act.put, List.setIfInBounds_toArray, List.set_cons_zero, List.set_cons_succ]
   refine wpAnyH_take (i := 11) (oi := ⟨_, _, _, _, _, _⟩) (v := ?_) rfl (by kernel_rfl) (by kernel_rfl) (by kernel_rfl) (fun _ _ _ h => h) (Or.inl ⟨by rfl, ?_⟩) (by assumption) ?_
   rotate_left
   ·intro w hSw
    try dsimp only at hSw
    go_simp
    try with_reducible rfl
   simp only [Act.put, List.setIfInBounds_toArray, List.set_cons_zero, List.set_cons_succ]
   refine wpAnyH_take (i := 8) (oi := ⟨_, _, _, _, _, _⟩) (v := ?_) rfl (by kernel_rfl) (by kernel_rfl) (by kernel_rfl) (fun _ _ _ h => h) (Or.inl ⟨by rfl, ?_⟩) (by assumption) ?_
   rotate_left
   ·intro w hSw
    try dsimp only at hSw
    go_simp
    try with_reducible rfl
   simp only [Act.put, List.setIfInBounds_toArray, List.set_cons_zero, List.set_cons_succ]
   refine wpAnyH_ready (rs := [9, 12]) (by kernel_rfl) (by simp) ?_
   refine AllReadyH.cons (o := ⟨_, _, _, _, _, _⟩) rfl (fun K hK => ?_) ?_
   ·rw [if_pos (by rfl)]
    refine wp_store_mid _ _ _ rfl g (ls.length * 6) #[.int .i64 x.k, .int .i64 x.n, .string x.s, .slice a1 x.m.length q1, .slice a2 x.l.length q2, .slice a3 x.t.length q3] rfl rfl hthere HinfoS.out (by simp [Value.oneCell']) ?_
    refine hK.out _ _ ?_ (fun hHeld => ?_)
    ·exact HBX2.out _ (Pt.keep_setCells (.inl rfl) _ _ (Keep.refl _ _))
    clear hK K
    try simp only [Act.put]
    refine wpAnyH_ready (rs := [12]) (by kernel_rfl) (by simp) ?_
    refine AllReadyH.cons (o := ⟨_, _, _, _, _, _⟩) rfl (fun K hK => ?_) AllReadyH.nil
    go_simp
    refine hK.out _ _ ?_ (fun hHeld => ?_)
    ·exact HBX2.out _ ((Pt.keep_setCells (.inl rfl) _ _ (Keep.refl _ _)).setCell (.inr rfl) _ _)
    clear hK K
    try simp only [Act.put, List.setIfInBounds_toArray, List.set_cons_zero, List.set_cons_succ]
    refine wpAnyH_done (by kernel_rfl) ?_ _
    refine NoPanic.normal ?_
    go_wp2_with fail
    go_meet
    exact HPU.out _ _ _ hown hgrow hat
   refine AllReadyH.cons (o := ⟨_, _, _, _, _, _⟩) rfl (fun K hK => ?_) AllReadyH.nil
   go_simp
   refine hK.out _ _ ?_ (fun hHeld => ?_)
   ·exact HBX2.out _ ((Keep.refl _ _).setCell (.inr rfl) _ _)
   clear hK K
   try simp only [Act.put, List.setIfInBounds_toArray, List.set_cons_zero, List.set_cons_succ]
   refine wpAnyH_ready (rs := [9]) (by kernel_rfl) (by simp) ?_
   refine AllReadyH.cons (o := ⟨_, _, _, _, _, _⟩) rfl (fun K hK => ?_) AllReadyH.nil
   rw [if_pos (by rfl)]
   refine wp_store_mid _ _ _ rfl g (ls.length * 6) #[.int .i64 x.k, .int .i64 x.n, .string x.s, .slice a1 x.m.length q1, .slice a2 x.l.length q2, .slice a3 x.t.length q3] rfl rfl (Pt.there_setCell hthere _ _ _) HinfoS.out (by simp [Value.oneCell']) ?_
   refine hK.out _ _ ?_ (fun hHeld => ?_)
   ·exact HBX2.out _ (Pt.keep_setCells (.inl rfl) _ _ ((Keep.refl _ _).setCell (.inr rfl) _ _))
   clear hK K
   try simp only [Act.put]
   refine wpAnyH_done (by kernel_rfl) ?_ _
   refine NoPanic.normal ?_
   rw [Pt.setCells_comm _ _ _ _ HgB.out]
   go_wp2_with fail
   go_meet
   exact HPU.out _ _ _ hown hgrow hat
  refine AllReadyH.cons (o := ⟨_, _, _, _, _, _⟩) rfl (fun K hK => ?_) AllReadyH.nil
  go_simp
  refine hK.out _ _ ?_ (fun hHeld => ?_)
  ·exact hxA
  clear hK K
  try simp only [Act.put, List.setIfInBounds_toArray, List.set_cons_zero, List.set_cons_succ]
  refine wpAnyH_ready (rs := [3]) (by kernel_rfl) (by simp) ?_
  refine AllReadyH.cons (o := ⟨_, _, _, _, _, _⟩) rfl (fun K hK => ?_) AllReadyH.nil
  go_simp
  refine hK.out _ _ ?_ (fun hHeld => ?_)
  ·exact hxA
  clear hK K
  try simp only [Act.put, List.setIfInBounds_toArray, List.set_cons_zero, List.set_cons_succ]
  refine wpAnyH_take (i := 5) (oi := ⟨_, _, _, _, _, _⟩) (v := ?_) rfl (by kernel_rfl) (by kernel_rfl) (by kernel_rfl) (fun _ _ _ h => h) (Or.inl ⟨by rfl, ?_⟩) (by assumption) ?_
  rotate_left
  ·intro w hSw
   try dsimp only at hSw
   go_simp
   try with_reducible rfl
  simp only [Act.put, List.setIfInBounds_toArray, List.set_cons_zero, List.set_cons_succ]
  refine wpAnyH_ready (rs := [7]) (by kernel_rfl) (by simp) ?_
  refine AllReadyH.cons (o := ⟨_, _, _, _, _, _⟩) rfl (fun K hK => ?_) AllReadyH.nil
  refine step_append_lies _ (by rfl) _ _ 23 (by rfl) base 25 i0 (.agg #[.int .i64 0, .int .i64 0, .string ⟨#[]⟩, .slice none 0 0, .slice none 0 0, .slice none 0 0]) 6 104 Try.underlying23 hi hz0 hz1 hz2 rfl (by decide) (.slice ap ls.length cp) ls.length (Dt.flatP ls) (by rfl) HOW.out ⟨w2.heap.size, 0, none⟩ 1 1 [.int .i64 0, .int .i64 0, .string ⟨#[]⟩, .slice none 0 0, .slice none 0 0, .slice none 0 0] (by rfl) rfl HNEW.out HONE.out (by omega) hmx hby HBS.out _ rfl ?_
  intro g cap w5 hown hgrow hat hlt
  refine hK.out _ _ ?_ (fun hHeld => ?_)
  ·exact HS6.out _ (Dt.grown_keep HWA.out hgrow)
  clear hK K
  try simp only [Act.put, List.setIfInBounds_toArray, List.set_cons_zero, List.set_cons_succ]
  obtain ⟨hthere, HgB, HBX2, hbc⟩ := HTA.out g cap w5 hown hgrow hat
  have hsb := hbc.1
  have hfb := hbc.2
  refine wpAnyH_take (i := 10) (oi := ⟨_, _, _, _, _, _⟩) (v := ?_) rfl (by kernel_rfl) (by kernel_rfl) (by kernel_rfl) (fun _ _ _ h => h) (Or.inl ⟨by rfl, ?_⟩) (by assumption) ?_
  rotate_left
  ·intro w hSw
   try dsimp only at hSw
   go_simp
   try with_reducible rfl
  simp only [Act.put, List.setIfInBounds_toArray, List.set_cons_zero, List.set_cons_succ]
  refine wpAnyH_take (i := 11) (oi := ⟨_, _, _, _, _, _⟩) (v := ?_) rfl (by kernel_rfl) (by kernel_rfl) (by kernel_rfl) (fun _ _ _ h => h) (Or.inl ⟨by rfl, ?_⟩) (by assumption) ?_
  rotate_left
  ·intro w hSw
   try dsimp only at hSw
   go_simp
   try with_reducible rfl
  simp only [Act.put, List.setIfInBounds_toArray, List.set_cons_zero, List.set_cons_succ]
  refine wpAnyH_take (i := 8) (oi := ⟨_, _, _, _, _, _⟩) (v := ?_) rfl (by kernel_rfl) (by kernel_rfl) (by kernel_rfl) (fun _ _ _ h => h) (Or.inl ⟨by rfl, ?_⟩) (by assumption) ?_
  rotate_left
  ·intro w hSw
   try dsimp only at hSw
   go_simp
   try with_reducible rfl
  simp only [Act.put, List.setIfInBounds_toArray, List.set_cons_zero, List.set_cons_succ]
  refine wpAnyH_ready (rs := [9, 12]) (by kernel_rfl) (by simp) ?_
  refine AllReadyH.cons (o := ⟨_, _, _, _, _, _⟩) rfl (fun K hK => ?_) ?_
  ·rw [if_pos (by rfl)]
   refine wp_store_mid _ _ _ rfl g (ls.length * 6) #[.int .i64 x.k, .int .i64 x.n, .string x.s, .slice a1 x.m.length q1, .slice a2 x.l.length q2, .slice a3 x.t.length q3] rfl rfl hthere HinfoS.out (by simp [Value.oneCell']) ?_
   refine hK.out _ _ ?_ (fun hHeld => ?_)
   ·exact HBX2.out _ (Pt.keep_setCells (.inl rfl) _ _ (Keep.refl _ _))
   clear hK K
   try simp only [Act.put]
   refine wpAnyH_ready (rs := [12]) (by kernel_rfl) (by simp) ?_
   refine AllReadyH.cons (o := ⟨_, _, _, _, _, _⟩) rfl (fun K hK => ?_) AllReadyH.nil
   go_simp
   refine hK.out _ _ ?_ (fun hHeld => ?_)
   ·exact HBX2.out _ ((Pt.keep_setCells (.inl rfl) _ _ (Keep.refl _ _)).setCell (.inr rfl) _ _)
   clear hK K
   try simp only [Act.put, List.setIfInBounds_toArray, List.set_cons_zero, List.set_cons_succ]
   refine wpAnyH_done (by kernel_rfl) ?_ _
   refine NoPanic.normal ?_
   go_wp2_with fail
   go_meet
   exact HPU.out _ _ _ hown hgrow hat
  refine AllReadyH.cons (o := ⟨_, _, _, _, _, _⟩) rfl (fun K hK => ?_) AllReadyH.nil
  go_simp
  refine hK.out _ _ ?_ (fun hHeld => ?_)
  ·exact HBX2.out _ ((Keep.refl _ _).setCell (.inr rfl) _ _)
  clear hK K
  try simp only [Act.put, List.setIfInBounds_toArray, List.set_cons_zero, List.set_cons_succ]
  refine wpAnyH_ready (rs := [9]) (by kernel_rfl) (by simp) ?_
  refine AllReadyH.cons (o := ⟨_, _, _, _, _, _⟩) rfl (fun K hK => ?_) AllReadyH.nil
  rw [if_pos (by rfl)]
  refine wp_store_mid _ _ _ rfl g (ls.length * 6) #[.int .i64 x.k, .int .i64 x.n, .string x.s, .slice a1 x.m.length q1, .slice a2 x.l.length q2, .slice a3 x.t.length q3] rfl rfl (Pt.there_setCell hthere _ _ _) HinfoS.out (by simp [Value.oneCell']) ?_
  refine hK.out _ _ ?_ (fun hHeld => ?_)
  ·exact HBX2.out _ (Pt.keep_setCells (.inl rfl) _ _ ((Keep.refl _ _).setCell (.inr rfl) _ _))
  clear hK K
  try simp only [Act.put]
  refine wpAnyH_done (by kernel_rfl) ?_ _
  refine NoPanic.normal ?_
  rw [Pt.setCells_comm _ _ _ _ HgB.out]
  go_wp2_with fail
  go_meet
  exact HPU.out _ _ _ hown hgrow hat
 case rest =>
  obtain ⟨vp', hK3, hk3, hr3⟩ := hcut
  have z1 := hK3.c1
  have f1 := hK3.fz 1
  have hds := HK.out.eq
  obtain ⟨i1, hi1, hy0, hy1, hy2⟩ := info_parts Dt.infoI
  have hm1 : ds.length + 1 ≤ maxLen := by unfold maxLen; omega
  have hm2 : (ds.length + 1) * 8 ≤ 140737488355328 := by omega
  have hBc : B < wc.heap.size := block_lt_of_cell z1
  have HOD := Lib.hid hK3.rd
  have hm3 : base ≤ wc.heap.size + 1 := by have := hK3.le; omega
  have HPD : Hid (∀ v' w5, w5.ownsRow base 3 1 v' (ds.length + 1) (ds.map (Value.int .i64) ++ [.int .i64 (deep : Int)]) → (wc.alloc (.cells #[.int .i64 (deep : Int)] 3)).grownBy w5 (Value.slice ad ds.length cd).ownBlock → (v'.ownBlock = (Value.slice ad ds.length cd).ownBlock ∨ v'.ownBlock = some (wc.heap.size + 1)) →
    Hid (Dt.Inv w2 base B (.slice ap ls.length cp) (.slice ad ds.length cd) x.l (ls.map Dt.P.d ++ [x]) (deep + 1) (0, ls.length + 1) 0 (w5.setCell ⟨B, 1, none⟩ v')) ∧ w5.cell? ⟨B, 1, none⟩ = some (.slice ad ds.length cd) ∧ w5.frozen? ⟨B, 1, none⟩ = false) := by
   intro v' w5 hown hg hat
   have hA : Below wc.heap.size wc (wc.alloc (.cells #[.int .i64 (deep : Int)] 3)) := (Below.refl _ _).alloc (Nat.le_refl _) _
   obtain ⟨k1, k2, k3⟩ := hK3.pushD (by rw [List.length_append]; show ds.length + 1 ≤ ls.length + 1; omega) (deep : Int) hA hown hg (by rw [World.size_alloc]; exact hat)
   obtain ⟨q1, q2, q3⟩ := Dt.WS.step hk3 hr3 (fun _ h => .inl h) k2 (fun _ h => .inl h) k3
   have hk5 : Keep (fun k => (Value.slice ad ds.length cd).ownBlock = some k) wc w5 := ⟨hg.os.trans hA.os, hg.tape.trans hA.tape, hg.output.trans hA.output, Nat.le_trans hA.size hg.size, fun k hk hn => (hg.block k (by have := hA.size; omega) (fun e => hn e.symm)).trans (hA.block k hk)⟩
   refine ⟨⟨0, vp', v', _, _, k1, ?_, fun _ => by simp [Dt.pres], q1, q2, q3⟩, (hk5.cell 1 hBc hK3.nd).trans z1, (hk5.frozen 1 hBc hK3.nd).trans f1⟩
   rw [List.drop_zero, List.length_append]
   rfl
  have HBX : Hid (∀ w', Keep (Dt.WS B (.slice ap ls.length cp) (.slice ad ds.length cd)) w2 w' → Dt.Box w' X x (.slice a1 x.m.length q1) (.slice a2 x.l.length q2) (.slice a3 x.t.length q3)) := by
   have hb0 := HS6.out w2 (Keep.refl _ _)
   intro w' hk
   have hn : ¬ Dt.WS B (.slice ap ls.length cp) (.slice ad ds.length cd) X := by
    intro e
    have hx := HX.out
    rcases e with e | e | e
    ·omega
    ·have := (Dt.own_lt HK.out.rp X e).2; omega
    ·have := (Dt.own_lt HK.out.rd X e).2; omega
   obtain ⟨g0, g1, g2, g3, g4, g5⟩ := hb0
   exact ⟨(hk.cell 0 hX2 hn).trans g0, (hk.cell 1 hX2 hn).trans g1, (hk.cell 2 hX2 hn).trans g2, (hk.cell 3 hX2 hn).trans g3, (hk.cell 4 hX2 hn).trans g4, (hk.cell 5 hX2 hn).trans g5⟩
  have HVP := Lib.hid (fun k h => (Dt.own_lt HK.out.rp k h).1)
  have HVD := Lib.hid (fun k h => (Dt.own_lt HK.out.rd k h).1)
  have HRL := Lib.hid ((Dt.rep_iff _ _ _ _ _ _).1 HR.out).2.1
  have HRT := Lib.hid ((Dt.rep_iff _ _ _ _ _ _).1 HR.out).2.2
  clear hK3 hk3 hr3 hds
  go_wp2_with (at_builtin; refine Ap.list rfl _ _ 22 rfl base 3 i1 (.int .i64 0) 1 8 Try.underlying22 hi1 hy0 hy1 hy2 rfl (by decide) (.slice ad ds.length cd) ds.length (ds.map (Value.int .i64)) rfl (HOD.out.alloc _) (.slice (some ⟨wc.heap.size, 0, none⟩) 1 1) 1 [.int .i64 (deep : Int)] rfl (.inr ⟨_, _, rfl, World.news_of_block (cs := #[.int .i64 (deep : Int)]) (t := 3) (fr := (0, 0)) (heap_alloc_new wc _)⟩) rfl (by simp [Value.oneCell']) hm1 hm2 (by simpa using hm3) ?_; intro v' w5 hown hg hat; obtain ⟨a5, c5, rfl⟩ := Dt.row_form hown; obtain ⟨HI0, g1, g2⟩ := HPD.out _ w5 hown hg (by simpa using hat); clear hown hg hat)
  obtain ⟨w6, hw6⟩ : ∃ w6, w5.setCell ⟨B, 1, none⟩ (.slice a5 (ds.length + 1) c5) = w6 := ⟨_, rfl⟩
  rw [hw6] at HI0 ⊢
  clear hw6 g1 g2 z1 f1 z0 HPD HOD
  go_loopw [6] (fun v wr => ∃ j : Nat, v = .int .i64 j ∧ j ≤ x.l.length ∧ Hid (Dt.Inv w2 base B (.slice ap ls.length cp) (.slice ad ds.length cd) x.l (ls.map Dt.P.d ++ [x]) (deep + 1) (0, ls.length + 1) j wr)) (fun v _ => x.l.length - (intOf v).toNat)
  case atStart => exact ⟨0, rfl, Nat.zero_le _, HI0⟩
  case round =>
   obtain ⟨j, rfl, hj, HI⟩ := hrel
   obtain ⟨b0, b1, b2, b3, b4, b5⟩ := HBX.out wr HI.out.keep
   by_cases hlt : j < x.l.length
   ·have hlti : (j : Int) < (x.l.length : Int) := by omega
    obtain ⟨y, g, o, vmj, vlj, vtj, hag, hsx, HC⟩ := Dt.inv_step HRL.out (Dt.wf_l HW.out) HB2.out HVP.out HVD.out HL.out HI.out (by omega) hlt
    have HAG := Lib.hid hag
    obtain ⟨y0, y1, y2, y3, y4, y5⟩ := hsx
    rw [show (((deep + 1 : Nat) : Int)) = (deep : Int) + 1 by omega] at HC
    subst hag
    clear HI
    go_wp2_with fail
    refine HC.out.mono ?_
    rintro e w7 ⟨rfl, hI7⟩
    have HI7 := Lib.hid hI7
    clear hI7 HC b0 b1 b2 b3 b4 b5 y0 y1 y2 y3 y4 y5
    go_wp2
    go_roundw
    case rel => first | exact ⟨j + 1, by simp, by omega, HI7⟩ | exact ⟨_, _, _, _, _, _, _, _, _, _, _, _, ⟨j + 1, by simp, by omega, HI7⟩, rfl⟩
    case measure => simp [intOf]; omega
   ·obtain rfl : j = x.l.length := by omega
    have hgei : (x.l.length : Int) ≤ (x.l.length : Int) := by omega
    have HI0' : Hid (Dt.Inv w2 base B (.slice ap ls.length cp) (.slice ad ds.length cd) x.t (ls.map Dt.P.d ++ [x] ++ Dt.pres x.l) (deep + 1) (Dt.chksE x.l (deep + 1) (0, ls.length + 1)) 0 wr) := by
     obtain ⟨e, vpj, vdj, lsj, dsj, k1, k2, k3, k4, k5, k6⟩ := HI.out
     refine ⟨e, vpj, vdj, lsj, dsj, k1, ?_, fun h0 => ?_, k4, k5, k6⟩
     ·rw [k2, List.drop_length, Dt.chksE_nil, List.drop_zero]
     ·rw [k3 h0, List.take_length, List.take_zero]; simp [Dt.pres]
    clear HI
    go_wp2
    obtain ⟨wo, hwo⟩ : ∃ wo, wo = wr := ⟨_, rfl⟩
    rw [← hwo] at HI0' b0 b1 b2 b3 b4 b5 ⊢
    clear hwo
    go_loopw [7] (fun v wr => ∃ j : Nat, v = .int .i64 j ∧ j ≤ x.t.length ∧ Hid (Dt.Inv w2 base B (.slice ap ls.length cp) (.slice ad ds.length cd) x.t (ls.map Dt.P.d ++ [x] ++ Dt.pres x.l) (deep + 1) (Dt.chksE x.l (deep + 1) (0, ls.length + 1)) j wr)) (fun v _ => x.t.length - (intOf v).toNat)
    case atStart => exact ⟨0, rfl, Nat.zero_le _, HI0'⟩
    case round =>
     obtain ⟨j, rfl, hj, HI⟩ := hrel
     obtain ⟨b0, b1, b2, b3, b4, b5⟩ := HBX.out wr HI.out.keep
     by_cases hlt : j < x.t.length
     ·have hlti : (j : Int) < (x.t.length : Int) := by omega
      obtain ⟨y, g, o, vmj, vlj, vtj, hag, hsx, HC⟩ := Dt.inv_step HRT.out (Dt.wf_t HW.out) HB2.out HVP.out HVD.out HT.out HI.out (by omega) hlt
      have HAG := Lib.hid hag
      obtain ⟨y0, y1, y2, y3, y4, y5⟩ := hsx
      rw [show (((deep + 1 : Nat) : Int)) = (deep : Int) + 1 by omega] at HC
      subst hag
      clear HI
      go_wp2_with fail
      refine HC.out.mono ?_
      rintro e w7 ⟨rfl, hI7⟩
      have HI7 := Lib.hid hI7
      clear hI7 HC b0 b1 b2 b3 b4 b5 y0 y1 y2 y3 y4 y5
      go_wp2
      go_roundw
      case rel => first | exact ⟨j + 1, by simp, by omega, HI7⟩ | exact ⟨_, _, _, _, _, _, _, _, _, _, _, _, ⟨j + 1, by simp, by omega, HI7⟩, rfl⟩
      case measure => simp [intOf]; omega
     ·obtain rfl : j = x.t.length := by omega
      have hgei : (x.t.length : Int) ≤ (x.t.length : Int) := by omega
      go_wp2
      go_end0
      refine ⟨rfl, ?_⟩
      obtain ⟨e, vpj, vdj, lsj, dsj, k1, k2, k3, k4, k5, k6⟩ := HI.out
      rw [List.drop_length, Dt.chksE_nil] at k2
      have hb2 := HB2.out
      refine ⟨vpj, vdj, lsj, dsj, by rw [HDP.out, k2]; exact k1, by rw [HDP.out, k2], fun h0 => ?_, ((Keep.refl _ w).below hb2).trans k4, fun k hk => ?_, fun k hk => ?_⟩
      ·rw [HDP.out, k2] at h0
       rw [k3 h0, List.take_length, HPR.out]
       simp
      ·rcases k5 k hk with h | h
       ·exact .inl h
       ·have := hb2.size; exact .inr (by omega)
      ·rcases k6 k hk with h | h
       ·exact .inl h
       ·have := hb2.size; exact .inr (by omega)
mutual
theorem Dt.goes_any : ∀ x : Dt.D, Dt.Goes x
 | .mk k n s m l t => by
  intro deep base B vp vd vm vl vt ls ds w hW hR hK hd
  by_cases h1 : 64 < deep
  ·exact goes_bad (.mk k n s m l t) deep base B vp vd vm vl vt ls ds w hW hR hK hd (.inl h1)
  by_cases h2 : 4096 ≤ ls.length
  ·exact goes_bad (.mk k n s m l t) deep base B vp vd vm vl vt ls ds w hW hR hK hd (.inr (.inl h2))
  by_cases hs : Dt.single (.mk k n s m l t) = true
  ·exact goes_good (.mk k n s m l t) (Dt.goess_any l) (Dt.goess_any t) deep base B vp vd vm vl vt ls ds w hW hR hK hd h1 h2 hs
  ·exact goes_bad (.mk k n s m l t) deep base B vp vd vm vl vt ls ds w hW hR hK hd (.inr (.inr (by simpa using hs)))
theorem Dt.goess_any : ∀ (l : List Dt.D) (y : Dt.D), y ∈ l → Dt.Goes y
 | [], _, h => absurd h (by simp)
 | x :: r, y, h => (List.mem_cons.1 h).elim (fun e => by rw [e]; exact Dt.goes_any x) (fun h' => Dt.goess_any r y h')
end
end Go.Proofs.Ytcopdfihaheplaa
namespace Go.Proofs.Ytcopdfihaheplaa
open Go.RowKit
namespace Dt
def WalkedPost (x : D) (base : Nat) (w : World) (e : Ending) (w' : World) : Prop :=
 ∃ B vp vd ls ds, e = .returned (.pointer (some ⟨B, 0, none⟩)) ∧ Wk w' base B (check x) vp vd ls ds ∧ (check x = 0 → ls.map P.d = pre x) ∧ Below w.heap.size w w'
theorem Wk.fresh (w : World) (base : Nat) (hbase : base ≤ w.heap.size) : Wk (w.alloc (.cells #[.slice none 0 0, .slice none 0 0, .int .i64 0] 72)) base w.heap.size 0 (.slice none 0 0) (.slice none 0 0) [] [] := by
 have hh := heap_alloc_new w (.cells #[.slice none 0 0, .slice none 0 0, .int .i64 0] 72)
 refine ⟨?_, ?_, ?_, fun j => ?_, World.ownsRow_nil _ _ _ _, World.ownsRow_nil _ _ _ _, by simp [Value.ownBlock], by simp [Value.ownBlock], fun k h => by simp [Value.ownBlock] at h, fun p h => by simp at h, by simp, by simp, hbase⟩
 ·unfold World.cell?; rw [hh]; rfl
 ·unfold World.cell?; rw [hh]; rfl
 ·unfold World.cell?; rw [hh]; rfl
 ·unfold World.frozen?; rw [hh]; simp
theorem rep_all {F : Nat → Prop} {w : World} {d : D} {vm vl vt : Value} (h : Rep F w d vm vl vt) : Rep (fun k => k < w.heap.size) w d vm vl vt := Rep.mono (fun _ _ h => h) d h
end Dt
set_option maxRecDepth 100000 in
set_option maxHeartbeats 4000000 in
theorem walked_any (x : Dt.D) (vm vl vt : Value) (base : Nat) (w : World) (hbase : base ≤ w.heap.size) (hW : Dt.Wf x) (hR : Dt.Rep (fun k => k < base) w x vm vl vt) :
  Calls Try.prog 29 #[.agg #[.int .i64 x.k, .int .i64 x.n, .string x.s, vm, vl, vt]] w (Dt.WalkedPost x base w) := by
 obtain ⟨a1, n1, q1, a2, n2, q2, a3, n3, q3, rfl, rfl, rfl⟩ := hR.forms
 obtain ⟨w1, hw1⟩ : ∃ w1, w.alloc (.cells #[.int .i64 x.k, .int .i64 x.n, .string x.s, .slice a1 n1 q1, .slice a2 n2 q2, .slice a3 n3 q3] 25) = w1 := ⟨_, rfl⟩
 have hb1 : Below w.heap.size w w1 := by rw [← hw1]; exact (Below.refl _ _).alloc (Nat.le_refl _) _
 have hs1 : w1.heap.size = w.heap.size + 1 := by rw [← hw1]; simp
 have hsix := Dt.six_new w x.k x.n x.s (.slice a1 n1 q1) (.slice a2 n2 q2) (.slice a3 n3 q3) 25
 rw [hw1] at hsix
 have d0 : w1.cell? ⟨w.heap.size, 0, none⟩ = some (.int .i64 x.k) := hsix 0 (by omega)
 have d1 : w1.cell? ⟨w.heap.size, 1, none⟩ = some (.int .i64 x.n) := hsix 1 (by omega)
 have d2 : w1.cell? ⟨w.heap.size, 2, none⟩ = some (.string x.s) := hsix 2 (by omega)
 have d3 : w1.cell? ⟨w.heap.size, 3, none⟩ = some (.slice a1 n1 q1) := hsix 3 (by omega)
 have d4 : w1.cell? ⟨w.heap.size, 4, none⟩ = some (.slice a2 n2 q2) := hsix 4 (by omega)
 have d5 : w1.cell? ⟨w.heap.size, 5, none⟩ = some (.slice a3 n3 q3) := hsix 5 (by omega)
 have hK := Dt.Wk.fresh w1 base (Nat.le_trans hbase hb1.size)
 have hR1 := hR.below hb1
 obtain ⟨w2, hw2⟩ : ∃ w2, w1.alloc (.cells #[.slice none 0 0, .slice none 0 0, .int .i64 0] 72) = w2 := ⟨_, rfl⟩
 have hb2 : Below w1.heap.size w1 w2 := by rw [← hw2]; exact (Below.refl _ _).alloc (Nat.le_refl _) _
 rw [hw2] at hK
 have hlt : w.heap.size < w1.heap.size := by omega
 have e0 := (hb2.cell (p := ⟨w.heap.size, 0, none⟩) hlt).trans d0
 have e1 := (hb2.cell (p := ⟨w.heap.size, 1, none⟩) hlt).trans d1
 have e2 := (hb2.cell (p := ⟨w.heap.size, 2, none⟩) hlt).trans d2
 have e3 := (hb2.cell (p := ⟨w.heap.size, 3, none⟩) hlt).trans d3
 have e4 := (hb2.cell (p := ⟨w.heap.size, 4, none⟩) hlt).trans d4
 have e5 := (hb2.cell (p := ⟨w.heap.size, 5, none⟩) hlt).trans d5
 have hgo := Dt.goes_any x 1 base w1.heap.size (.slice none 0 0) (.slice none 0 0) _ _ _ [] [] w2 hW (hR1.below hb2) hK (by omega)
 rw [show (((1 : Nat)) : Int) = 1 from rfl, hs1] at hgo
 have HS := Lib.hid hs1
 have HB2 := Lib.hid (hb1.trans (hb2.mono hb1.size))
 have HGO := Lib.hid hgo
 clear hsix hR hR1 hK hgo hb1 hb2 d0 d1 d2 d3 d4 d5 hW hlt
 go_enter Try.func29, Try.ntmps29
 go_wp2_with fail
 refine HGO.out.mono ?_
 rintro e w3 ⟨rfl, vp', vd', ls', ds', k1, k2, k3, k4, k5, k6⟩
 have HX : Hid (Dt.WalkedPost x base w (.returned (.pointer (some ⟨w.heap.size + 1, 0, none⟩))) w3) := by
  have hs := HS.out
  have hb3 : Below w.heap.size w w3 := HB2.out.trans (k4.to_below (fun k hk => by
   rcases hk with h | h | h
   ·omega
   ·simp [Value.ownBlock] at h
   ·simp [Value.ownBlock] at h) HB2.out.size)
  refine ⟨w.heap.size + 1, vp', vd', ls', ds', rfl, ?_, fun h0 => by simpa using k3 h0, hb3⟩
  exact k1
 clear k1 k2 k3 k4 k5 k6 HGO e0 e1 e2 e3 e4 e5
 go_wp2
 go_ret
 exact HX.out
set_option maxRecDepth 100000 in
set_option maxHeartbeats 4000000 in
theorem rCheck_any {F : Nat → Prop} (x : Dt.D) (vm vl vt : Value) (w : World) (hW : Dt.Wf x) (hR : Dt.Rep F w x vm vl vt) :
  Calls Try.prog 15 #[.agg #[.int .i64 x.k, .int .i64 x.n, .string x.s, vm, vl, vt]] w fun e w' => e = .returned (.int .i64 (Dt.check x)) ∧ Below w.heap.size w w' := by
 have hb0 : Below w.heap.size w (w.alloc (.cells #[.int .i64 x.k, .int .i64 x.n, .string x.s, vm, vl, vt] 25)) := (Below.refl _ _).alloc (Nat.le_refl _) _
 have hw := walked_any x vm vl vt w.heap.size _ hb0.size hW ((Dt.rep_all hR).below hb0)
 have HB := Lib.hid hb0
 obtain ⟨a1, n1, q1, a2, n2, q2, a3, n3, q3, rfl, rfl, rfl⟩ := hR.forms
 clear hR hW hb0
 go_enter Try.func15, Try.ntmps15
 go_wp2_with fail
 refine hw.mono ?_
 rintro e w1 ⟨B, vp, vd, ls, ds, rfl, hK, hp, hb1⟩
 have c2 := hK.c2
 have HB1 := Lib.hid (HB.out.trans (hb1.mono HB.out.size))
 clear hw hK hp hb1
 go_wp2
 go_ret
 exact ⟨rfl, HB1.out⟩
namespace Dt
end Dt
end Go.Proofs.Ytcopdfihaheplaa
namespace Go.Proofs.Ytcopdfihaheplaa
open Go.RowKit
namespace Dt
theorem bdrew {n : Nat} {a w : World} (h : Below n a w) (k : Nat) : Below n a (w.drewN k) := ⟨h.os, h.tape, h.output, h.size, h.block⟩
theorem part_at {w : World} {base : Nat} {v : Value} {ls : List P} (h : w.ownsRow base 25 6 v ls.length (flatP ls)) (j : Nat) (hj : j < ls.length) : ∃ g c, v = .slice (some ⟨g, 0, none⟩) ls.length c ∧ g < w.heap.size ∧ Six w g (j * 6) ls[j].d ls[j].vm ls[j].vl ls[j].vt := by
 rcases h.2 with ⟨_, h0⟩ | ⟨g, cap, cur, rfl, e2, e3, e4⟩
 ·omega
 ·refine ⟨g, cap, rfl, (h.lt g rfl).2, ?_⟩
  have hc := fun c u hu => h.cells (g := g) rfl (j * 6 + c) u hu
  have hadd : ∀ k, (⟨g, 0, none⟩ : Addr).add k = ⟨g, k, none⟩ := fun k => by unfold Addr.add; split <;> simp_all
  simp only [hadd] at hc
  have hf : ∀ c, c < 6 → (flatP ls)[j * 6 + c]? = ls[j].cells[c]? := by
   intro c hc6
   have hsplit : ls = ls.take j ++ ls[j] :: ls.drop (j + 1) := by rw [← List.drop_eq_getElem_cons hj, List.take_append_drop]
   have hlen : (flatP (ls.take j)).length = j * 6 := by rw [flatP_length, List.length_take, Nat.min_eq_left (by omega)]
   have : flatP ls = flatP (ls.take j) ++ (ls[j].cells ++ flatP (ls.drop (j + 1))) := by
    conv => lhs; rw [hsplit]
    unfold flatP
    rw [List.flatMap_append, List.flatMap_cons]
   rw [this, List.getElem?_append_right (by omega), hlen, show j * 6 + c - j * 6 = c by omega, List.getElem?_append_left (by show c < 6; exact hc6)]
  exact ⟨hc 0 _ (hf 0 (by omega)), hc 1 _ (hf 1 (by omega)), hc 2 _ (hf 2 (by omega)), hc 3 _ (hf 3 (by omega)), hc 4 _ (hf 4 (by omega)), hc 5 _ (hf 5 (by omega))⟩
end Dt
namespace Dt
theorem Box.below {w w' : World} {X : Nat} {d : D} {a b c : Value} (h : Box w X d a b c) (hb : Below w.heap.size w w') : Box w' X d a b c := by
 obtain ⟨h0, h1, h2, h3, h4, h5⟩ := h
 have hl := block_lt_of_cell h0
 exact ⟨(hb.cell (p := ⟨X, 0, none⟩) hl).trans h0, (hb.cell (p := ⟨X, 1, none⟩) hl).trans h1, (hb.cell (p := ⟨X, 2, none⟩) hl).trans h2, (hb.cell (p := ⟨X, 3, none⟩) hl).trans h3, (hb.cell (p := ⟨X, 4, none⟩) hl).trans h4, (hb.cell (p := ⟨X, 5, none⟩) hl).trans h5⟩
end Dt
end Go.Proofs.Ytcopdfihaheplaa
namespace Go.Proofs.Ytcopdfihaheplaa
open Go.RowKit
namespace Dt
mutual
def Fine : D → Prop
 | .mk _ _ _ m l t => m.length ≤ 16 ∧ l.length ≤ 4096 ∧ t.length ≤ 4096 ∧ Fines l ∧ Fines t
def Fines : List D → Prop
 | [] => True
 | d :: r => Fine d ∧ Fines r
end
theorem Fines.at : ∀ {l : List D}, Fines l → ∀ y ∈ l, Fine y
 | [], _, y, h => absurd h (by simp)
 | d :: r, hw, y, h => by
  rw [Fines] at hw
  rcases List.mem_cons.1 h with rfl | h
  ·exact hw.1
  ·exact Fines.at hw.2 y h
theorem fine_parts {d : D} (h : Fine d) : d.m.length ≤ 16 ∧ d.l.length ≤ 4096 ∧ d.t.length ≤ 4096 ∧ Fines d.l ∧ Fines d.t := by cases d; rw [Fine] at h; exact h
structure Rowing (w : World) (base : Nat) (v : Value) (ls : List P) : Prop where
 row : w.ownsRow base 25 6 v ls.length (flatP ls)
 rep : ∀ p ∈ ls, Rep (fun k => base ≤ k ∧ v.ownBlock ≠ some k) w p.d p.vm p.vl p.vt
theorem Rowing.nil (w : World) (base : Nat) : Rowing w base (.slice none 0 0) [] := ⟨World.ownsRow_nil _ _ _ _, by simp⟩
theorem Rowing.keep {S : Nat → Prop} {w w' : World} {base : Nat} {v : Value} {ls : List P} (h : Rowing w base v ls) (hk : Keep S w w') (hS : ∀ k, base ≤ k → k < w.heap.size → ¬ S k) : Rowing w' base v ls :=
 ⟨own_keep h.row hk (fun k hk => hS k (own_lt h.row k hk).1 (own_lt h.row k hk).2), fun p hp => Rep.keep hk (fun b hb hb' => hS b hb.1 hb') p.d (h.rep p hp)⟩
theorem Rowing.below {w w' : World} {base : Nat} {v : Value} {ls : List P} (h : Rowing w base v ls) (hb : Below w.heap.size w w') : Rowing w' base v ls :=
 h.keep (S := fun _ => False) ((Keep.refl _ w).below hb) (fun _ _ _ h => h)
theorem Rowing.push {w w1 wA w5 : World} {base : Nat} {v v' : Value} {ls : List P} {p : P} (h : Rowing w base v ls) (hbase : base ≤ w.heap.size) (h1 : Below w.heap.size w w1) (hp : Rep (fun k => w.heap.size ≤ k) w1 p.d p.vm p.vl p.vt) (hA : Below w1.heap.size w1 wA)
  (hown : w5.ownsRow base 25 6 v' (ls.length + 1) (flatP ls ++ p.cells)) (hg : wA.grownBy w5 v.ownBlock) (hat : v'.ownBlock = v.ownBlock ∨ v'.ownBlock = some wA.heap.size) :
  Rowing w5 base v' (ls ++ [p]) ∧ Keep (fun k => v.ownBlock = some k) w w5 := by
 have hwA : Below w.heap.size w wA := h1.trans (hA.mono h1.size)
 have hK : Keep (fun k => v.ownBlock = some k) w w5 := ⟨hg.os.trans hwA.os, hg.tape.trans hwA.tape, hg.output.trans hwA.output, Nat.le_trans hwA.size hg.size, fun k hk hn => (hg.block k (by have := hwA.size; omega) (fun e => hn e.symm)).trans (hwA.block k hk)⟩
 have hK1 : Keep (fun k => v.ownBlock = some k) w1 w5 := ⟨hg.os.trans hA.os, hg.tape.trans hA.tape, hg.output.trans hA.output, Nat.le_trans hA.size hg.size, fun k hk hn => (hg.block k (by have := hA.size; omega) (fun e => hn e.symm)).trans (hA.block k hk)⟩
 have hvl : ∀ k, v.ownBlock = some k → base ≤ k ∧ k < w.heap.size := own_lt h.row
 refine ⟨⟨by rw [List.length_append, flatP_app]; exact hown, fun q hq => ?_⟩, hK⟩
 rcases List.mem_append.1 hq with hq | hq
 ·have hr := Rep.keep hK (fun b hb _ e => hb.2 e) q.d (h.rep q hq)
  have hr0 : Rep (fun k => k < w.heap.size ∧ base ≤ k ∧ v.ownBlock ≠ some k) w q.d q.vm q.vl q.vt := Rep.mono (fun b hb hl => ⟨hl, hb⟩) q.d (h.rep q hq)
  refine Rep.mono (fun b hb _ => ⟨hb.2.1, fun e => ?_⟩) q.d (Rep.keep hK (fun b hb _ e => hb.2.2 e) q.d hr0)
  rcases hat with e' | e'
  ·rw [e'] at e; exact hb.2.2 e
  ·rw [e'] at e; cases e; have := hwA.size; omega
 ·obtain rfl : q = p := by simpa using hq
  have hr0 : Rep (fun k => k < w1.heap.size ∧ w.heap.size ≤ k) w1 q.d q.vm q.vl q.vt := Rep.mono (fun b hb hl => ⟨hl, hb⟩) q.d hp
  refine Rep.mono (fun b hb _ => ⟨Nat.le_trans hbase hb.2, fun e => ?_⟩) q.d (Rep.keep hK1 (fun b hb _ e => by have := (hvl b e).2; omega) q.d hr0)
  rcases hat with e' | e'
  ·rw [e'] at e; have := (hvl b e).2; omega
  ·rw [e'] at e; cases e; have := hA.size; omega
theorem Rowing.to_row {w : World} {base : Nat} {v : Value} {ls : List P} (h : Rowing w base v ls) : Row (fun k => base ≤ k) w v (ls.map P.d) := by
 have hreps : ∀ g, v.ownBlock = some g → Reps (fun k => base ≤ k) w (ls.map P.d) g 0 := by
  intro g hg
  refine Reps.of fun j hj => ?_
  have hj' : j < ls.length := by simpa using hj
  obtain ⟨g', c, rfl, _, hs⟩ := part_at h.row j hj'
  cases hg
  refine ⟨ls[j].vm, ls[j].vl, ls[j].vt, by rw [Nat.zero_add]; simpa using hs, ?_⟩
  have := Rep.mono (fun b hb _ => hb.1) _ (h.rep ls[j] (List.getElem_mem hj'))
  simpa using this
 rcases h.row.2 with ⟨h1, h0⟩ | ⟨g, cap, cur, rfl, e2, e3, e4, _⟩
 ·have : ls = [] := List.length_eq_zero_iff.1 h0
  subst this
  exact ⟨none, 0, by rw [h1]; rfl, Nat.le_refl _, fun hn => absurd rfl hn⟩
 ·refine ⟨some ⟨g, 0, none⟩, cap, by simp, by simpa using e4, fun _ => ⟨g, 0, rfl, e2, (Array.getElem?_eq_some_iff.1 e3).1, hreps g rfl⟩⟩
end Dt
end Go.Proofs.Ytcopdfihaheplaa
namespace Go.Proofs.Ytcopdfihaheplaa
open Go.ChangeShapes Go.WideShapes Go.RowKit Go.Deep
namespace Dt
section
variable {H : Type} {enc : TypeId × Value → H} {P : Program} {w : World} {base : Nat} {spare : Nat → Bool} {held : Bool}
theorem weights_all {e : TypeId} : ∀ {l : List (DataW H)} {d : DataW H}, d ∈ l → ∀ n ∈ d.weights P e, n ∈ DataW.weightsAll P e l
 | a :: l, d, hd, n, hn => by
  simp only [DataW.weightsAll, List.mem_append]
  rcases List.mem_cons.1 hd with rfl | hd
  ·exact .inl hn
  ·exact .inr (weights_all hd n hn)
def Fits (P : Program) (t : TypeId) (d : DataW H) : Prop := ∀ n ∈ d.weights P t, n ≤ reachBytes
theorem trod_six {t : TypeId} {f0 f1 f2 f3 f4 f5 : Field} {fuel : Nat} {cs : List Value} {x : DataW H × List MemPlace} (hs : P.underlying t = some (.struct #[f0, f1, f2, f3, f4, f5])) (hone : oneCellFields P #[f0, f1, f2, f3, f4, f5] = true) (hC : P.cellsOf t = 6)
  (h : DataW.trod enc P w base spare held fuel t cs = some x) (hf : Fits P t x.1) :
  ∃ (v0 v1 v2 v3 v4 v5 : Value) (y0 y1 y2 y3 y4 y5 : DataW H × List MemPlace) (n : Nat), fuel = n + 1 ∧ cs = [v0, v1, v2, v3, v4, v5] ∧
   (DataW.trod enc P w base spare held n f0.type [v0] = some y0 ∧ Fits P f0.type y0.1) ∧ (DataW.trod enc P w base spare held n f1.type [v1] = some y1 ∧ Fits P f1.type y1.1) ∧ (DataW.trod enc P w base spare held n f2.type [v2] = some y2 ∧ Fits P f2.type y2.1) ∧ (DataW.trod enc P w base spare held n f3.type [v3] = some y3 ∧ Fits P f3.type y3.1) ∧ (DataW.trod enc P w base spare held n f4.type [v4] = some y4 ∧ Fits P f4.type y4.1) ∧ (DataW.trod enc P w base spare held n f5.type [v5] = some y5 ∧ Fits P f5.type y5.1) := by
 obtain ⟨xs, n, hn, hx, hsz, hlen, hg⟩ := DataW.trod_struct hs h
 match cs, hsz.trans hC with
 | [c0, c1, c2, c3, c4, c5], _ =>
  obtain ⟨o0, k0⟩ := hone_of hone 0 f0 rfl
  obtain ⟨o1, k1⟩ := hone_of hone 1 f1 rfl
  obtain ⟨o2, k2⟩ := hone_of hone 2 f2 rfl
  obtain ⟨o3, k3⟩ := hone_of hone 3 f3 rfl
  obtain ⟨o4, k4⟩ := hone_of hone 4 f4 rfl
  obtain ⟨o5, k5⟩ := hone_of hone 5 f5 rfl
  match xs, hlen with
  | [y0, y1, y2, y3, y4, y5], _ =>
   have hw : ∀ (i : Nat) (f : Field) (y : DataW H × List MemPlace), #[f0, f1, f2, f3, f4, f5][i]? = some f → [y0, y1, y2, y3, y4, y5][i]? = some y → Fits P f.type y.1 := by
    intro i f y h1 h2 m hm
    refine hf m ?_
    rw [hx]
    show m ∈ (DataW.agg ([y0, y1, y2, y3, y4, y5].map (·.1))).weights P t
    simp only [DataW.weights, hs]
    refine DataW.weights_mem_each (j := i) (t := f.type) (d := y.1) ?_ ?_ m hm
    ·rw [List.getElem?_map, Array.getElem?_toList, h1]; rfl
    ·rw [List.getElem?_map, h2]; rfl
   exact ⟨c0, c1, c2, c3, c4, c5, y0, y1, y2, y3, y4, y5, n, hn, rfl, ⟨by simpa [o0, k0] using hg 0 f0 rfl, hw 0 f0 y0 rfl rfl⟩, ⟨by simpa [o1, k1] using hg 1 f1 rfl, hw 1 f1 y1 rfl rfl⟩, ⟨by simpa [o2, k2] using hg 2 f2 rfl, hw 2 f2 y2 rfl rfl⟩, ⟨by simpa [o3, k3] using hg 3 f3 rfl, hw 3 f3 y3 rfl rfl⟩, ⟨by simpa [o4, k4] using hg 4 f4 rfl, hw 4 f4 y4 rfl rfl⟩, ⟨by simpa [o5, k5] using hg 5 f5 rfl, hw 5 f5 y5 rfl rfl⟩⟩
theorem open_row {t e : TypeId} {fuel : Nat} {cs : List Value} {x : DataW H × List MemPlace} (ht : P.underlying t = some (.slice e)) (h : DataW.trod enc P w base spare held fuel t cs = some x) (hf : Fits P t x.1) :
  (cs = [.slice none 0 0]) ∨ ∃ (a : Addr) (len cap n : Nat), fuel = n + 1 ∧ cs = [.slice (some a) len cap] ∧ len ≤ cap ∧ len * P.bytesOf e ≤ reachBytes ∧
   ∀ i, i < len → ∃ cs' y, w.cells? base (a.add (i * P.cellsOf e)) (P.cellsOf e) = some cs' ∧ DataW.trod enc P w base spare held n e cs' = some y ∧ Fits P e y.1 := by
 rcases DataW.trod_slice ht h with ⟨h0, _⟩ | ⟨a, len, cap, elems, rest, n, hn, hcs, hx, hb, hl, hm, hlen, hel, _, _⟩
 ·exact .inl h0
 refine .inr ⟨a, len, cap, n, hn, hcs, hl, ?_, fun i hi => ?_⟩
 ·have h9 := hf ((elems.length + rest.length) * P.bytesOf e) (by rw [hx]; simp [DataW.weights, ht])
  rw [hlen] at h9
  exact Nat.le_trans (Nat.mul_le_mul_right _ (Nat.le_add_right _ _)) h9
 ·have h1 := hel i hi
  rw [List.getElem?_eq_getElem (by omega)] at h1
  obtain ⟨cs', h2, h3⟩ := Option.bind_eq_some_iff.1 h1
  refine ⟨cs', elems[i], h2, h3, fun m hm' => hf m ?_⟩
  rw [hx]
  simp only [DataW.weights, ht, List.mem_cons, List.mem_append]
  exact .inr (.inl (weights_all (List.mem_map_of_mem (List.getElem_mem _)) m hm'))
end
theorem gather {α : Type} (Q : Nat → α → Prop) : ∀ n, (∀ i, i < n → ∃ t, Q i t) → ∃ l : List α, l.length = n ∧ ∀ j, (h : j < l.length) → Q j l[j]
 | 0, _ => ⟨[], rfl, fun j h => absurd h (by simp)⟩
 | n + 1, h => by
  obtain ⟨l, hl, hq⟩ := gather Q n (fun i hi => h i (by omega))
  obtain ⟨t, ht⟩ := h n (by omega)
  refine ⟨l ++ [t], by simp [hl], fun j hj => ?_⟩
  by_cases e : j < l.length
  ·rw [List.getElem_append_left e]; exact hq j e
  ·have : j = l.length := by simp at hj; omega
   subst this
   rw [List.getElem_append_right (by omega)]
   simpa [hl] using ht
theorem add_none {b o i : Nat} : (⟨b, o, none⟩ : Addr).add i = ⟨b, o + i, none⟩ := by unfold Addr.add; split <;> simp_all
theorem spot_none {w : World} {b o : Nat} {spot : Option Nat} {i : Nat} {v : Value} (h : w.cell? ((⟨b, o, spot⟩ : Addr).add i) = some v) (hi : i = 0) : spot = none := by
 subst hi
 have := World.cell?_spot h
 simpa [Addr.add] using this
section
variable {H : Type} {enc : TypeId × Value → H} {w : World} {base : Nat} {spare : Nat → Bool} {held : Bool}
set_option maxRecDepth 100000 in
theorem open_ints {fuel : Nat} {v : Value} {x : DataW H × List MemPlace} (h : DataW.trod enc Try.prog w base spare held fuel 22 [v] = some x) (hf : Fits Try.prog 22 x.1) :
  ∃ m : List Int, IRow (fun _ => True) w v m ∧ m.length ≤ 140737488355328 ∧ ∀ y ∈ m, -9223372036854775808 ≤ y ∧ y ≤ 9223372036854775807 := by
 rcases open_row Try.underlying22 h hf with h0 | ⟨a, len, cap, n, -, hcs, hl, hb, hel⟩
 ·obtain rfl : v = .slice none 0 0 := by simpa using h0
  exact ⟨[], ⟨none, 0, rfl, Nat.le_refl _, fun h => absurd rfl h⟩, by simp, by simp⟩
 ·obtain rfl : v = .slice (some a) len cap := by simpa using hcs
  have hC : Try.prog.cellsOf 3 = 1 := by kernel_rfl
  have hB : Try.prog.bytesOf 3 = 8 := by kernel_rfl
  rw [hB] at hb
  rw [hC] at hel
  have hr : reachBytes = 140737488351232 := by decide
  obtain ⟨m, hm, hq⟩ := gather (fun i (y : Int) => w.cell? (a.add i) = some (.int .i64 y) ∧ -9223372036854775808 ≤ y ∧ y ≤ 9223372036854775807) len (fun i hi => by
   obtain ⟨cs', y, hc, ht, _⟩ := hel i hi
   obtain ⟨z, e0, _, hz⟩ := DataW.trod_int Try.underlying3 ht
   subst e0
   obtain ⟨_, _, hat⟩ := World.cells?_some hc
   have g0 := hat 0 (by omega)
   rw [Nat.mul_one] at g0
   have hz' : (decide (IntKind.i64.min ≤ z) && decide (z ≤ IntKind.i64.max)) = true := hz
   rw [show IntKind.i64.min = -9223372036854775808 by decide, show IntKind.i64.max = 9223372036854775807 by decide] at hz'
   simp only [Bool.and_eq_true, decide_eq_true_eq] at hz'
   refine ⟨z, ?_, hz'⟩
   have e9 : (a.add i).add 0 = a.add i := by unfold Addr.add; rw [if_pos rfl]
   rw [e9] at g0
   exact g0)
  refine ⟨m, ⟨some a, cap, by rw [hm], by omega, fun hn => ?_⟩, by omega, fun y hy => ?_⟩
  ·have hpos : 0 < m.length := List.length_pos_iff.2 hn
   obtain ⟨b, off, spot⟩ := a
   obtain rfl := spot_none (hq 0 hpos).1 rfl
   refine ⟨b, off, rfl, trivial, ?_, fun j hj => ?_⟩
   ·have := (hq 0 hpos).1
    rw [add_none] at this
    exact block_lt_of_cell this
   ·have := (hq j hj).1
    rw [add_none] at this
    exact this
  ·obtain ⟨j, hj, rfl⟩ := List.getElem_of_mem hy
   exact (hq j hj).2
theorem wfs_of {l : List D} (h : ∀ j, (hj : j < l.length) → Wf l[j]) : Wfs l := by
 induction l with
 | nil => rw [Wfs]; trivial
 | cons a l ih =>
  rw [Wfs]
  exact ⟨h 0 (by simp), ih (fun j hj => h (j + 1) (by simpa using hj))⟩
set_option maxRecDepth 100000 in
theorem open_data {fuel : Nat} {v : Value} {x : DataW H × List MemPlace} (h : DataW.trod enc Try.prog w base spare held fuel 23 [v] = some x) (hf : Fits Try.prog 23 x.1)
  (ih : ∀ n, n < fuel → ∀ cs y, DataW.trod enc Try.prog w base spare held n 25 cs = some y → Fits Try.prog 25 y.1 → ∃ (d : D) (vm vl vt : Value), cs = [.int .i64 d.k, .int .i64 d.n, .string d.s, vm, vl, vt] ∧ Wf d ∧ Rep (fun _ => True) w d vm vl vt) :
  ∃ l : List D, Row (fun _ => True) w v l ∧ l.length ≤ 140737488355328 ∧ Wfs l := by
 rcases open_row Try.underlying23 h hf with h0 | ⟨a, len, cap, n, hn, hcs, hl, hb, hel⟩
 ·obtain rfl : v = .slice none 0 0 := by simpa using h0
  exact ⟨[], ⟨none, 0, rfl, Nat.le_refl _, fun h => absurd rfl h⟩, by simp, by rw [Wfs]; trivial⟩
 ·obtain rfl : v = .slice (some a) len cap := by simpa using hcs
  have hC : Try.prog.cellsOf 25 = 6 := by kernel_rfl
  have hB : Try.prog.bytesOf 25 = 104 := by kernel_rfl
  rw [hB] at hb
  rw [hC] at hel
  have hr : reachBytes = 140737488351232 := by decide
  obtain ⟨l, hm, hq⟩ := gather (fun i (d : D) => Wf d ∧ ∃ vm vl vt, Rep (fun _ => True) w d vm vl vt ∧ ∀ j, j < 6 → w.cell? ((a.add (i * 6)).add j) = [Value.int .i64 d.k, .int .i64 d.n, .string d.s, vm, vl, vt][j]?) len (fun i hi => by
   obtain ⟨cs', y, hc, ht, hfy⟩ := hel i hi
   obtain ⟨d, vm, vl, vt, e0, hw, hr⟩ := ih n (by omega) cs' y ht hfy
   subst e0
   obtain ⟨_, _, hat⟩ := World.cells?_some hc
   exact ⟨d, hw, vm, vl, vt, hr, hat⟩)
  refine ⟨l, ⟨some a, cap, by rw [hm], by omega, fun hne => ?_⟩, by omega, wfs_of (fun j hj => (hq j hj).1)⟩
  have hpos : 0 < l.length := List.length_pos_iff.2 hne
  obtain ⟨b, off, spot⟩ := a
  obtain ⟨_, vm, vl, vt, _, h6⟩ := hq 0 hpos
  have e0 := h6 0 (by omega)
  rw [Nat.zero_mul] at e0
  have hsp : spot = none := by
   have e9 : (((⟨b, off, spot⟩ : Addr).add 0).add 0) = (⟨b, off, spot⟩ : Addr).add 0 := by unfold Addr.add; simp
   rw [e9] at e0
   exact spot_none e0 rfl
  subst hsp
  rw [add_none, add_none] at e0
  refine ⟨b, off, rfl, trivial, block_lt_of_cell e0, Reps.of (fun j hj => ?_)⟩
  obtain ⟨_, vm, vl, vt, hrep, h6⟩ := hq j hj
  refine ⟨vm, vl, vt, ⟨?_, ?_, ?_, ?_, ?_, ?_⟩, hrep⟩
  ·have := h6 0 (by omega); rw [add_none, add_none] at this; exact this
  ·have := h6 1 (by omega); rw [add_none, add_none] at this; exact this
  ·have := h6 2 (by omega); rw [add_none, add_none] at this; exact this
  ·have := h6 3 (by omega); rw [add_none, add_none] at this; exact this
  ·have := h6 4 (by omega); rw [add_none, add_none] at this; exact this
  ·have := h6 5 (by omega); rw [add_none, add_none] at this; exact this
set_option maxRecDepth 100000 in
theorem open_fuel : ∀ (fuel : Nat) (cs : List Value) (y : DataW H × List MemPlace), DataW.trod enc Try.prog w base spare held fuel 25 cs = some y → Fits Try.prog 25 y.1 → ∃ (d : D) (vm vl vt : Value), cs = [.int .i64 d.k, .int .i64 d.n, .string d.s, vm, vl, vt] ∧ Wf d ∧ Rep (fun _ => True) w d vm vl vt := by
 intro fuel
 induction fuel using Nat.strongRecOn with
 | _ fuel ih =>
  intro cs y h hf
  have hC : Try.prog.cellsOf 25 = 6 := by kernel_rfl
  obtain ⟨v0, v1, v2, v3, v4, v5, y0, y1, y2, y3, y4, y5, n, rfl, rfl, ⟨h0, _⟩, ⟨h1, _⟩, ⟨h2, f2⟩, ⟨h3, f3⟩, ⟨h4, f4⟩, ⟨h5, f5⟩⟩ := trod_six Try.underlying25 (by kernel_rfl) hC h hf
  obtain ⟨k, e0, _, _⟩ := DataW.trod_int Try.underlying3 h0
  obtain ⟨z, e1, _, hz⟩ := DataW.trod_int Try.underlying2 h1
  obtain ⟨s, e2, hx2, hs⟩ := DataW.trod_string Try.underlying9 h2
  obtain ⟨m, hm, hml, _⟩ := open_ints h3 f3
  have ih' : ∀ n', n' < n → ∀ cs y, DataW.trod enc Try.prog w base spare held n' 25 cs = some y → Fits Try.prog 25 y.1 → ∃ (d : D) (vm vl vt : Value), cs = [.int .i64 d.k, .int .i64 d.n, .string d.s, vm, vl, vt] ∧ Wf d ∧ Rep (fun _ => True) w d vm vl vt := fun n' hn => ih n' (by omega)
  obtain ⟨l, hl, hll, hlw⟩ := open_data h4 f4 ih'
  obtain ⟨t, ht, htl, htw⟩ := open_data h5 f5 ih'
  obtain rfl : v0 = .int .i64 k := by simpa using e0
  obtain rfl : v1 = .int .i64 z := by simpa using e1
  obtain rfl : v2 = .string s := by simpa using e2
  have hz' : (decide (IntKind.i64.min ≤ z) && decide (z ≤ IntKind.i64.max)) = true := hz
  rw [show IntKind.i64.min = -9223372036854775808 by decide, show IntKind.i64.max = 9223372036854775807 by decide] at hz'
  simp only [Bool.and_eq_true, decide_eq_true_eq] at hz'
  have hs2 : s.size ≤ 140737488355328 := by
   have hr : reachBytes = 140737488351232 := by decide
   have h9 := f2 s.data.toList.length (by rw [hx2]; simp [DataW.weights])
   have e9 : s.data.toList.length = s.size := by rw [Array.length_toList]; rfl
   omega
  refine ⟨.mk k z s m l t, v3, v4, v5, rfl, ?_, (rep_iff _ _ _ _ _ _).2 ⟨hm, hl, ht⟩⟩
  rw [Wf]
  exact ⟨hz', hs2, hml, hll, htl, hlw, htw⟩
end
end Dt
end Go.Proofs.Ytcopdfihaheplaa
namespace Go.Proofs.Ytcopdfihaheplaa
namespace Rd
open Dt Lx
inductive Res where
 | ok (d : D) (rest : List PTok)
 | bad (at_ : Nat) (e : Int)
 | out
def sgn (k : Int) : ByteArray :=
 if k = 4 then ⟨#[113, 117, 111, 116, 101]⟩
 else if k = 5 then ⟨#[113, 117, 97, 115, 105, 113, 117, 111, 116, 101]⟩
 else if k = 6 then ⟨#[117, 110, 113, 117, 111, 116, 101]⟩
 else ⟨#[117, 110, 113, 117, 111, 116, 101, 45, 115, 112, 108, 105, 99, 105, 110, 103]⟩
def leafD (t : Tok) : D := .mk (t.k - 8) t.n ⟨t.s.toArray⟩ [] [] []
def listD (l : List D) : D := .mk 6 0 ⟨#[]⟩ [] l []
def vecD (l : List D) : D := .mk 8 0 ⟨#[]⟩ [] l []
def symD (s : ByteArray) : D := .mk 5 0 s [] [] []
def quoteD (k : Int) (d : D) : D := listD [symD (sgn k), d]
def joinD (acc : List D) (x : D) : D := if x.k = 6 ∨ x.k = 7 then .mk x.k 0 ⟨#[]⟩ [] (acc ++ x.l) x.t else .mk 7 0 ⟨#[]⟩ [] acc [x]
mutual
def pd : Nat → List PTok → Res
 | 0, _ => .out
 | _ + 1, [] => .out
 | f + 1, t :: r =>
  if t.t.k = 1 then pl f t.at_ [] r
  else if t.t.k = 3 then pv f t.at_ [] r
  else if t.t.k = 2 ∨ t.t.k = 8 then .bad t.at_ 40
  else if 4 ≤ t.t.k ∧ t.t.k ≤ 7 then pq f t.at_ t.t.k r
  else .ok (leafD t.t) r
def pq : Nat → Nat → Int → List PTok → Res
 | 0, _, _, _ => .out
 | _ + 1, a, _, [] => .bad a 41
 | f + 1, _, k, x :: r => match pd f (x :: r) with
  | .ok d rest => .ok (quoteD k d) rest
  | .bad b e => .bad b e
  | .out => .out
def pl : Nat → Nat → List D → List PTok → Res
 | 0, _, _, _ => .out
 | _ + 1, a, _, [] => .bad a 41
 | f + 1, a, acc, x :: r =>
  if x.t.k = 2 then .ok (listD acc) r
  else if x.t.k = 8 ∧ acc ≠ [] then pt f a acc r
  else match pd f (x :: r) with
   | .ok d rest => pl f a (acc ++ [d]) rest
   | .bad b e => .bad b e
   | .out => .out
def pt : Nat → Nat → List D → List PTok → Res
 | 0, _, _, _ => .out
 | _ + 1, a, _, [] => .bad a 41
 | f + 1, a, acc, x :: r => match pd f (x :: r) with
  | .ok _d [] => .bad a 41
  | .ok d (y :: rest) => if y.t.k = 2 then .ok (joinD acc d) rest else .bad y.at_ 40
  | .bad b e => .bad b e
  | .out => .out
def pv : Nat → Nat → List D → List PTok → Res
 | 0, _, _, _ => .out
 | _ + 1, a, _, [] => .bad a 41
 | f + 1, a, acc, x :: r =>
  if x.t.k = 2 then .ok (vecD acc) r
  else match pd f (x :: r) with
   | .ok d rest => pv f a (acc ++ [d]) rest
   | .bad b e => .bad b e
   | .out => .out
end
def Le (n : Nat) : Res → Prop
 | .ok _ rest => rest.length ≤ n
 | _ => True
theorem res_len : ∀ f, (∀ ts n, ts.length ≤ n + 1 → Le n (pd f ts)) ∧ (∀ a k ts n, ts.length ≤ n + 1 → Le n (pq f a k ts)) ∧ (∀ a acc ts n, ts.length ≤ n + 1 → Le n (pl f a acc ts)) ∧ (∀ a acc ts n, ts.length ≤ n + 1 → Le n (pt f a acc ts)) ∧ (∀ a acc ts n, ts.length ≤ n + 1 → Le n (pv f a acc ts)) := by
 intro f
 induction f with
 | zero => exact ⟨fun _ _ _ => by rw [pd]; trivial, fun _ _ _ _ _ => by rw [pq]; trivial, fun _ _ _ _ _ => by rw [pl]; trivial, fun _ _ _ _ _ => by rw [pt]; trivial, fun _ _ _ _ _ => by rw [pv]; trivial⟩
 | succ f ih =>
  obtain ⟨h1, h2, h3, h4, h5⟩ := ih
  have lm : ∀ {r : Res} {m n : Nat}, Le m r → m ≤ n → Le n r := fun {r m n} h hmn => by
   cases r with
   | ok d rest => exact Nat.le_trans h hmn
   | bad => trivial
   | out => trivial
  refine ⟨fun ts n hn => ?_, fun a k ts n hn => ?_, fun a acc ts n hn => ?_, fun a acc ts n hn => ?_, fun a acc ts n hn => ?_⟩
  ·cases ts with
   | nil => rw [pd]; trivial
   | cons t r =>
    rw [pd]
    simp only [List.length_cons] at hn
    split
    ·exact h3 _ _ _ _ (by omega)
    split
    ·exact h5 _ _ _ _ (by omega)
    split
    ·trivial
    split
    ·exact h2 _ _ _ _ (by omega)
    ·show r.length ≤ n; omega
  ·cases ts with
   | nil => rw [pq]; trivial
   | cons x r =>
    rw [pq]
    have := h1 (x :: r) n hn
    cases hp : pd f (x :: r) with
    | ok d rest => rw [hp] at this; exact this
    | bad => trivial
    | out => trivial
  ·cases ts with
   | nil => rw [pl]; trivial
   | cons x r =>
    rw [pl]
    simp only [List.length_cons] at hn
    split
    ·show r.length ≤ n; omega
    split
    ·exact h4 _ _ _ _ (by omega)
    ·have := h1 (x :: r) n hn
     cases hp : pd f (x :: r) with
     | ok d rest => rw [hp] at this; exact h3 _ _ _ _ (by have : rest.length ≤ n := this; omega)
     | bad => trivial
     | out => trivial
  ·cases ts with
   | nil => rw [pt]; trivial
   | cons x r =>
    rw [pt]
    have := h1 (x :: r) n hn
    cases hp : pd f (x :: r) with
    | ok d rest =>
     rw [hp] at this
     cases rest with
     | nil => trivial
     | cons y rest =>
      have h6 : rest.length + 1 ≤ n := this
      simp only
      split
      ·show rest.length ≤ n; omega
      ·trivial
    | bad => trivial
    | out => trivial
  ·cases ts with
   | nil => rw [pv]; trivial
   | cons x r =>
    rw [pv]
    simp only [List.length_cons] at hn
    split
    ·show r.length ≤ n; omega
    ·have := h1 (x :: r) n hn
     cases hp : pd f (x :: r) with
     | ok d rest => rw [hp] at this; exact h5 _ _ _ _ (by have : rest.length ≤ n := this; omega)
     | bad => trivial
     | out => trivial
def Mn (n : Nat) : Res → Prop
 | .ok d rest => d.l.length + rest.length ≤ n
 | _ => True
theorem res_many : ∀ f, (∀ ts, Mn ts.length (pd f ts)) ∧ (∀ a k ts, Mn (ts.length + 1) (pq f a k ts)) ∧ (∀ a acc ts, Mn (acc.length + ts.length) (pl f a acc ts)) ∧ (∀ a acc ts, Mn (acc.length + ts.length) (pt f a acc ts)) ∧ (∀ a acc ts, Mn (acc.length + ts.length) (pv f a acc ts)) := by
 intro f
 induction f with
 | zero => exact ⟨fun _ => by rw [pd]; trivial, fun _ _ _ => by rw [pq]; trivial, fun _ _ _ => by rw [pl]; trivial, fun _ _ _ => by rw [pt]; trivial, fun _ _ _ => by rw [pv]; trivial⟩
 | succ f ih =>
  obtain ⟨h1, h2, h3, h4, h5⟩ := ih
  have lm : ∀ {r : Res} {m n : Nat}, Mn m r → m ≤ n → Mn n r := fun {r m n} h hmn => by
   cases r with
   | ok d rest => exact Nat.le_trans h hmn
   | bad => trivial
   | out => trivial
  refine ⟨fun ts => ?_, fun a k ts => ?_, fun a acc ts => ?_, fun a acc ts => ?_, fun a acc ts => ?_⟩
  ·cases ts with
   | nil => rw [pd]; trivial
   | cons t r =>
    rw [pd]
    simp only [List.length_cons]
    split
    ·exact lm (h3 _ [] r) (by simp)
    split
    ·exact lm (h5 _ [] r) (by simp)
    split
    ·trivial
    split
    ·exact h2 _ _ r
    ·show 0 + r.length ≤ _; omega
  ·cases ts with
   | nil => rw [pq]; trivial
   | cons x r =>
    rw [pq]
    have hl := (res_len f).1 (x :: r) r.length (by simp)
    cases hp : pd f (x :: r) with
    | ok d rest => rw [hp] at hl; have : rest.length ≤ r.length := hl; show 2 + rest.length ≤ _; simp only [List.length_cons]; omega
    | bad => trivial
    | out => trivial
  ·cases ts with
   | nil => rw [pl]; trivial
   | cons x r =>
    rw [pl]
    simp only [List.length_cons]
    split
    ·show acc.length + r.length ≤ _; omega
    split
    ·exact lm (h4 _ acc r) (by omega)
    ·have hl := (res_len f).1 (x :: r) r.length (by simp)
     cases hp : pd f (x :: r) with
     | ok d rest => rw [hp] at hl; have : rest.length ≤ r.length := hl; exact lm (h3 _ (acc ++ [d]) rest) (by simp; omega)
     | bad => trivial
     | out => trivial
  ·cases ts with
   | nil => rw [pt]; trivial
   | cons x r =>
    rw [pt]
    have hm := h1 (x :: r)
    cases hp : pd f (x :: r) with
    | ok d rest =>
     rw [hp] at hm
     cases rest with
     | nil => trivial
     | cons y rest =>
      have h6 : d.l.length + (rest.length + 1) ≤ (x :: r).length := hm
      simp only
      split
      ·show (joinD acc d).l.length + rest.length ≤ _
       unfold joinD
       split
       ·show (acc ++ d.l).length + rest.length ≤ _; rw [List.length_append]; omega
       ·show acc.length + rest.length ≤ _; omega
      ·trivial
    | bad => trivial
    | out => trivial
  ·cases ts with
   | nil => rw [pv]; trivial
   | cons x r =>
    rw [pv]
    simp only [List.length_cons]
    split
    ·show acc.length + r.length ≤ _; omega
    ·have hl := (res_len f).1 (x :: r) r.length (by simp)
     cases hp : pd f (x :: r) with
     | ok d rest => rw [hp] at hl; have : rest.length ≤ r.length := hl; exact lm (h5 _ (acc ++ [d]) rest) (by simp; omega)
     | bad => trivial
     | out => trivial
theorem fuel : ∀ f, (∀ ts, 2 * ts.length ≤ f → ts ≠ [] → pd f ts ≠ .out) ∧ (∀ a k ts, 2 * ts.length + 1 ≤ f → pq f a k ts ≠ .out) ∧ (∀ a acc ts, 2 * ts.length + 1 ≤ f → pl f a acc ts ≠ .out) ∧ (∀ a acc ts, 2 * ts.length + 1 ≤ f → pt f a acc ts ≠ .out) ∧ (∀ a acc ts, 2 * ts.length + 1 ≤ f → pv f a acc ts ≠ .out) := by
 intro f
 induction f with
 | zero => exact ⟨fun ts h hn => by cases ts with | nil => exact absurd rfl hn | cons => simp at h, fun _ _ _ h => by omega, fun _ _ _ h => by omega, fun _ _ _ h => by omega, fun _ _ _ h => by omega⟩
 | succ f ih =>
  obtain ⟨h1, h2, h3, h4, h5⟩ := ih
  refine ⟨fun ts h hn => ?_, fun a k ts h => ?_, fun a acc ts h => ?_, fun a acc ts h => ?_, fun a acc ts h => ?_⟩
  ·cases ts with
   | nil => exact absurd rfl hn
   | cons t r =>
    rw [pd]
    simp only [List.length_cons] at h
    split
    ·exact h3 _ _ _ (by omega)
    split
    ·exact h5 _ _ _ (by omega)
    split
    ·intro e; cases e
    split
    ·exact h2 _ _ _ (by omega)
    ·intro e; cases e
  ·cases ts with
   | nil => rw [pq]; intro e; cases e
   | cons x r =>
    rw [pq]
    have := h1 (x :: r) (by omega) (by simp)
    cases hp : pd f (x :: r) with
    | ok d rest => intro e; cases e
    | bad => intro e; cases e
    | out => exact absurd hp this
  ·cases ts with
   | nil => rw [pl]; intro e; cases e
   | cons x r =>
    rw [pl]
    have h9 := h
    simp only [List.length_cons] at h
    split
    ·intro e; cases e
    split
    ·exact h4 _ _ _ (by omega)
    ·have := h1 (x :: r) (by omega) (by simp)
     have hl := (res_len f).1 (x :: r) r.length (by simp)
     cases hp : pd f (x :: r) with
     | ok d rest => rw [hp] at hl; exact h3 _ _ _ (by have : rest.length ≤ r.length := hl; omega)
     | bad => intro e; cases e
     | out => exact absurd hp this
  ·cases ts with
   | nil => rw [pt]; intro e; cases e
   | cons x r =>
    rw [pt]
    have := h1 (x :: r) (by omega) (by simp)
    cases hp : pd f (x :: r) with
    | ok d rest =>
     cases rest with
     | nil => intro e; cases e
     | cons y rest =>
      simp only
      split
      ·intro e; cases e
      ·intro e; cases e
    | bad => intro e; cases e
    | out => exact absurd hp this
  ·cases ts with
   | nil => rw [pv]; intro e; cases e
   | cons x r =>
    rw [pv]
    simp only [List.length_cons] at h
    split
    ·intro e; cases e
    ·have := h1 (x :: r) (by simp; omega) (by simp)
     have hl := (res_len f).1 (x :: r) r.length (by simp)
     cases hp : pd f (x :: r) with
     | ok d rest => rw [hp] at hl; exact h5 _ _ _ (by have : rest.length ≤ r.length := hl; omega)
     | bad => intro e; cases e
     | out => exact absurd hp this
def rf : Nat → List PTok → List (Nat × D) → List (Nat × D) × Nat × Int
 | 0, _, acc => (acc, 0, 0)
 | _ + 1, [], acc => (acc, 0, 0)
 | f + 1, t :: r, acc =>
  if acc.length = 256 then ([], t.at_, 3)
  else match pd (2 * (r.length + 1)) (t :: r) with
   | .ok d rest => if check d = 0 then rf f rest (acc ++ [(t.at_, d)]) else ([], t.at_, check d)
   | .bad a e => ([], a, e)
   | .out => ([], 0, 0)
def read (s : List UInt8) : List (Nat × D) × Nat × Int :=
 if (lex s).2.2 ≠ 0 then ([], (lex s).2.1, (lex s).2.2) else rf ((lex s).1.length + 1) (lex s).1 []
end Rd
end Go.Proofs.Ytcopdfihaheplaa
namespace Go.Proofs.Ytcopdfihaheplaa
open Go.RowKit
def Hp (w : World) (B : Nat) (cs : Array Value) (t : TypeId) : Prop := w.heap[B]? = some (.cells cs t (0, 0))
theorem Hp.cell {w : World} {B : Nat} {cs : Array Value} {t : TypeId} (h : Hp w B cs t) (i : Nat) {v : Value} (hv : cs[i]? = some v) : w.cell? ⟨B, i, none⟩ = some v := by
 rw [Lib.cell_of_heap h]
 exact hv
theorem Hp.frz {w : World} {B : Nat} {cs : Array Value} {t : TypeId} (h : Hp w B cs t) (i : Nat) : w.frozen? ⟨B, i, none⟩ = false := Lib.frozen_of_heap h i
theorem Hp.lt {w : World} {B : Nat} {cs : Array Value} {t : TypeId} (h : Hp w B cs t) : B < w.heap.size := (Array.getElem?_eq_some_iff.1 h).1
theorem Hp.keep {S : Nat → Prop} {w w' : World} {B : Nat} {cs : Array Value} {t : TypeId} (h : Hp w B cs t) (hk : Keep S w w') (hn : ¬ S B) : Hp w' B cs t := (hk.block B h.lt hn).trans h
theorem Hp.below {w w' : World} {B : Nat} {cs : Array Value} {t : TypeId} (h : Hp w B cs t) (hb : Below w.heap.size w w') : Hp w' B cs t := (hb.block B h.lt).trans h
theorem Hp.set {w : World} {B : Nat} {cs : Array Value} {t : TypeId} (h : Hp w B cs t) (i : Nat) (v : Value) : Hp (w.setCell ⟨B, i, none⟩ v) B (cs.setIfInBounds i v) t := by
 show ((w.heap.modify B _))[B]? = _
 rw [Array.getElem?_modify, if_pos rfl, h]
 rfl
theorem Hp.new {w w1 : World} {cs : Array Value} {t : TypeId} (h : w.alloc (.cells cs t) = w1) : Hp w1 w.heap.size cs t := by rw [← h]; show (w.heap.push _)[w.heap.size]? = _; simp
theorem new_below {w w1 : World} {o : Obj} (h : w.alloc o = w1) : Below w.heap.size w w1 ∧ w1.heap.size = w.heap.size + 1 := ⟨by rw [← h]; exact (Below.refl _ w).alloc (Nat.le_refl _) o, by rw [← h, World.size_alloc]⟩
theorem set_keep (w : World) (B i : Nat) (v : Value) : Keep (fun k => k = B) w (w.setCell ⟨B, i, none⟩ v) := (Keep.refl (fun k => k = B) w).setCell rfl _ _
theorem keep_of_below {S : Nat → Prop} {w w' : World} (h : Below w.heap.size w w') : Keep S w w' := (Keep.refl S w).below h
theorem Keep.le {S T : Nat → Prop} {w w' : World} (h : Keep S w w') (hT : ∀ k, S k → T k) : Keep T w w' := h.mono (fun k _ e => hT k e)
def set6 (w : World) (B : Nat) (a b c d e f : Value) : World := (((((w.setCell ⟨B, 0, none⟩ a).setCell ⟨B, 1, none⟩ b).setCell ⟨B, 2, none⟩ c).setCell ⟨B, 3, none⟩ d).setCell ⟨B, 4, none⟩ e).setCell ⟨B, 5, none⟩ f
theorem Hp.set6 {w : World} {B : Nat} {u0 u1 u2 u3 u4 u5 : Value} {t : TypeId} (h : Hp w B #[u0, u1, u2, u3, u4, u5] t) (a b c d e f : Value) : Hp (set6 w B a b c d e f) B #[a, b, c, d, e, f] t :=
 (((((h.set 0 a).set 1 b).set 2 c).set 3 d).set 4 e).set 5 f
theorem set6_keep (w : World) (B : Nat) (a b c d e f : Value) : Keep (fun k => k = B) w (set6 w B a b c d e f) :=
 ((((((Keep.refl (fun k => k = B) w).setCell rfl 0 a).setCell rfl 1 b).setCell rfl 2 c).setCell rfl 3 d).setCell rfl 4 e).setCell rfl 5 f
def set5 (w : World) (B : Nat) (a b c d e : Value) : World := ((((w.setCell ⟨B, 0, none⟩ a).setCell ⟨B, 1, none⟩ b).setCell ⟨B, 2, none⟩ c).setCell ⟨B, 3, none⟩ d).setCell ⟨B, 4, none⟩ e
theorem Hp.set5 {w : World} {B : Nat} {u0 u1 u2 u3 u4 : Value} {t : TypeId} (h : Hp w B #[u0, u1, u2, u3, u4] t) (a b c d e : Value) : Hp (set5 w B a b c d e) B #[a, b, c, d, e] t :=
 ((((h.set 0 a).set 1 b).set 2 c).set 3 d).set 4 e
theorem set5_keep (w : World) (B : Nat) (a b c d e : Value) : Keep (fun k => k = B) w (set5 w B a b c d e) :=
 (((((Keep.refl (fun k => k = B) w).setCell rfl 0 a).setCell rfl 1 b).setCell rfl 2 c).setCell rfl 3 d).setCell rfl 4 e
theorem Hp.there {w : World} {B : Nat} {cs : Array Value} {t : TypeId} (h : Hp w B cs t) {n : Nat} (hn : n ≤ cs.size) : w.there B 0 n := fun j hj => by
 rw [Nat.zero_add]
 refine ⟨?_, h.frz j⟩
 rw [h.cell j (Array.getElem?_eq_getElem (by omega))]
 rfl
theorem setCells6 (w : World) (B : Nat) (a b c d e f : Value) : w.setCells B 0 (#[a, b, c, d, e, f] : Array Value).toList = set6 w B a b c d e f := rfl
end Go.Proofs.Ytcopdfihaheplaa
namespace Go.Proofs.Ytcopdfihaheplaa
open Go.RowKit
namespace Dt
end Dt
namespace Dt
theorem Box.keep {S : Nat → Prop} {w w' : World} {X : Nat} {d : D} {a b c : Value} (h : Box w X d a b c) (hk : Keep S w w') (hS : ¬ S X) : Box w' X d a b c := by
 obtain ⟨h0, h1, h2, h3, h4, h5⟩ := h
 have hl := block_lt_of_cell h0
 exact ⟨(hk.cell 0 hl hS).trans h0, (hk.cell 1 hl hS).trans h1, (hk.cell 2 hl hS).trans h2, (hk.cell 3 hl hS).trans h3, (hk.cell 4 hl hS).trans h4, (hk.cell 5 hl hS).trans h5⟩
theorem cell_set_ne (w : World) (X i j : Nat) (v : Value) (h : i ≠ j) : (w.setCell ⟨X, i, none⟩ v).cell? ⟨X, j, none⟩ = w.cell? ⟨X, j, none⟩ := World.cell?_setCell_other _ _ _ _ (by intro e; cases e; exact h rfl)
theorem cell_set_eq (w : World) (X i : Nat) (v u : Value) (h : w.cell? ⟨X, i, none⟩ = some u) : (w.setCell ⟨X, i, none⟩ v).cell? ⟨X, i, none⟩ = some v := World.cell?_setCell_same' _ _ _ (by rw [h]; rfl)
theorem Box.set5 {w : World} {X : Nat} {d : D} {a b c : Value} (h : Box w X d a b c) (v : Value) : Box (w.setCell ⟨X, 5, none⟩ v) X d a b v := by
 obtain ⟨h0, h1, h2, h3, h4, h5⟩ := h
 exact ⟨(cell_set_ne w X 5 0 v (by omega)).trans h0, (cell_set_ne w X 5 1 v (by omega)).trans h1, (cell_set_ne w X 5 2 v (by omega)).trans h2, (cell_set_ne w X 5 3 v (by omega)).trans h3, (cell_set_ne w X 5 4 v (by omega)).trans h4, cell_set_eq w X 5 v _ h5⟩
theorem IRow.mono {F G : Nat → Prop} {w : World} {v : Value} {m : List Int} (h : IRow F w v m) (hFG : ∀ b, F b → b < w.heap.size → G b) : IRow G w v m := by
 obtain ⟨a, c, h1, h2, h3⟩ := h
 refine ⟨a, c, h1, h2, fun hn => ?_⟩
 obtain ⟨b, o, e1, e2, e3, e4⟩ := h3 hn
 exact ⟨b, o, e1, hFG b e2 e3, e3, e4⟩
theorem Row.mono {F G : Nat → Prop} {w : World} {v : Value} {l : List D} (h : Row F w v l) (hFG : ∀ b, F b → b < w.heap.size → G b) : Row G w v l := by
 obtain ⟨a, c, h1, h2, h3⟩ := h
 refine ⟨a, c, h1, h2, fun hn => ?_⟩
 obtain ⟨b, o, e1, e2, e3, e4⟩ := h3 hn
 exact ⟨b, o, e1, hFG b e2 e3, e3, Reps.mono hFG l e4⟩
end Dt
namespace Dt
theorem rep_zero (F : Nat → Prop) (w : World) : Rep F w (.mk 0 0 ⟨#[]⟩ [] [] []) (.slice none 0 0) (.slice none 0 0) (.slice none 0 0) :=
 (rep_iff _ _ _ _ _ _).2 ⟨⟨none, 0, rfl, Nat.le_refl _, fun h => absurd rfl h⟩, ⟨none, 0, rfl, Nat.le_refl _, fun h => absurd rfl h⟩, ⟨none, 0, rfl, Nat.le_refl _, fun h => absurd rfl h⟩⟩
end Dt
end Go.Proofs.Ytcopdfihaheplaa
namespace Go.Proofs.Ytcopdfihaheplaa
open Go.RowKit
attribute [local go_sem] Oper.semAt_some
namespace Rd
open Lx
def tokV (p : PTok) : Value := .agg #[.int .i64 p.t.k, .int .i64 (p.at_ : Int), .int .i64 (p.to : Int), .int .i64 p.t.n, .string ⟨p.t.s.toArray⟩]
structure Src (w : World) (tb : Nat) (xs : List PTok) : Prop where
 lt : tb < w.heap.size
 tok : ∀ i, (h : i < xs.length) → w.cell? ⟨tb, i * 5, none⟩ = some (.int .i64 xs[i].t.k) ∧ w.cell? ⟨tb, i * 5 + 1, none⟩ = some (.int .i64 (xs[i].at_ : Int)) ∧ w.cell? ⟨tb, i * 5 + 2, none⟩ = some (.int .i64 (xs[i].to : Int)) ∧ w.cell? ⟨tb, i * 5 + 3, none⟩ = some (.int .i64 xs[i].t.n) ∧ w.cell? ⟨tb, i * 5 + 4, none⟩ = some (.string ⟨xs[i].t.s.toArray⟩)
theorem Src.keep {S : Nat → Prop} {w w' : World} {tb : Nat} {xs : List PTok} (h : Src w tb xs) (hk : Keep S w w') (hS : ¬ S tb) : Src w' tb xs :=
 ⟨Nat.lt_of_lt_of_le h.lt hk.size, fun i hi => by
  obtain ⟨h0, h1, h2, h3, h4⟩ := h.tok i hi
  exact ⟨(hk.cell _ h.lt hS).trans h0, (hk.cell _ h.lt hS).trans h1, (hk.cell _ h.lt hS).trans h2, (hk.cell _ h.lt hS).trans h3, (hk.cell _ h.lt hS).trans h4⟩⟩
theorem Src.below {w w' : World} {tb : Nat} {xs : List PTok} (h : Src w tb xs) (hb : Below w.heap.size w w') : Src w' tb xs := h.keep (S := fun _ => False) (keep_of_below hb) id
def St (w : World) (P tb C : Nat) (xs rest : List PTok) (at_ e : Int) : Prop :=
 ∃ (a : Option Addr) (pre : List PTok), Hp w P #[.slice a rest.length (C - pre.length), .int .i64 at_, .int .i64 e] 69 ∧ xs = pre ++ rest ∧ (rest ≠ [] → a = some ⟨tb, pre.length * 5, none⟩)
theorem St.keep {S : Nat → Prop} {w w' : World} {P tb C : Nat} {xs rest : List PTok} {at_ e : Int} (h : St w P tb C xs rest at_ e) (hk : Keep S w w') (hS : ¬ S P) : St w' P tb C xs rest at_ e := by
 obtain ⟨a, pre, h1, h2, h3⟩ := h
 exact ⟨a, pre, h1.keep hk hS, h2, h3⟩
theorem St.below {w w' : World} {P tb C : Nat} {xs rest : List PTok} {at_ e : Int} (h : St w P tb C xs rest at_ e) (hb : Below w.heap.size w w') : St w' P tb C xs rest at_ e := h.keep (S := fun _ => False) (keep_of_below hb) id
theorem St.lt {w : World} {P tb C : Nat} {xs rest : List PTok} {at_ e : Int} (h : St w P tb C xs rest at_ e) : P < w.heap.size := by
 obtain ⟨a, pre, h1, h2, h3⟩ := h
 exact h1.lt
def NextPost (P tb C : Nat) (xs : List PTok) (t : PTok) (r : List PTok) (at_ er : Int) (w : World) (e : Ending) (w' : World) : Prop :=
 e = .returned (.tuple #[tokV t, .bool true]) ∧ St w' P tb C xs r at_ er ∧ Keep (fun k => k = P) w w'
def noTok : Value := .agg #[.int .i64 0, .int .i64 0, .int .i64 0, .int .i64 0, .string ⟨#[]⟩]
def zeroD : Value := .agg #[.int .i64 0, .int .i64 0, .string ⟨#[]⟩, .slice none 0 0, .slice none 0 0, .slice none 0 0]
def NoPost (P tb C : Nat) (xs : List PTok) (at_ er : Int) (w : World) (e : Ending) (w' : World) : Prop :=
 e = .returned (.tuple #[noTok, .bool false]) ∧ St w' P tb C xs [] at_ er ∧ Keep (fun k => k = P) w w'
def FailPost (P tb C : Nat) (xs rest : List PTok) (at_ er : Int) (w : World) (e : Ending) (w' : World) : Prop :=
 e = .returned zeroD ∧ St w' P tb C xs rest at_ er ∧ Keep (fun k => k = P) w w'
end Rd
set_option maxRecDepth 100000 in
set_option maxHeartbeats 8000000 in
theorem next_yes (P tb C : Nat) (xs : List Lx.PTok) (t : Lx.PTok) (r : List Lx.PTok) (at_ er : Int) (w : World) (hS : Rd.Src w tb xs) (h : Rd.St w P tb C xs (t :: r) at_ er) (hC : xs.length ≤ C) (_hx : xs.length ≤ 4096) (_hCC : C ≤ 9223372036854775807) :
  Calls Try.prog 40 #[.pointer (some ⟨P, 0, none⟩)] w (Rd.NextPost P tb C xs t r at_ er w) := by
 obtain ⟨a, pre, hP, hpre, ha⟩ := h
 obtain rfl := ha (by simp)
 have hlen : xs.length = pre.length + (r.length + 1) := by rw [hpre]; simp
 have hi : pre.length < xs.length := by omega
 obtain ⟨x0, x1, x2, x3, x4⟩ := hS.tok pre.length hi
 have hxi : xs[pre.length] = t := by simp only [hpre]; simp
 rw [hxi] at x0 x1 x2 x3 x4
 obtain ⟨n, hn⟩ : ∃ n, r.length = n := ⟨_, rfl⟩
 obtain ⟨c, hc⟩ : ∃ c, C - pre.length = c := ⟨_, rfl⟩
 obtain ⟨q, hq⟩ : ∃ q, pre.length = q := ⟨_, rfl⟩
 rw [show (t :: r).length = n + 1 by simp [hn], hc] at hP
 have hcn : n + 1 ≤ c := by omega
 rw [hq] at x0 x1 x2 x3 x4 hP
 obtain ⟨w1, hw1⟩ : ∃ w1, w.alloc (.cells #[.int .i64 0, .int .i64 0, .int .i64 0, .int .i64 0, .string ⟨#[]⟩] 47) = w1 := ⟨_, rfl⟩
 obtain ⟨tk, htk⟩ : ∃ tk, t.t.k = tk := ⟨_, rfl⟩
 obtain ⟨tn, htn⟩ : ∃ tn, t.t.n = tn := ⟨_, rfl⟩
 obtain ⟨ts, hts⟩ : ∃ ts : ByteArray, ⟨t.t.s.toArray⟩ = ts := ⟨_, rfl⟩
 obtain ⟨ta, hta⟩ : ∃ ta : Int, (t.at_ : Int) = ta := ⟨_, rfl⟩
 obtain ⟨tz, hto⟩ : ∃ tz : Int, (t.to : Int) = tz := ⟨_, rfl⟩
 have HTV : Hid (Rd.tokV t = .agg #[.int .i64 tk, .int .i64 ta, .int .i64 tz, .int .i64 tn, .string ts]) := by show _ = _; unfold Rd.tokV; rw [htk, hta, hto, htn, hts]
 rw [htk] at x0
 rw [hta] at x1
 rw [hto] at x2
 rw [htn] at x3
 rw [hts] at x4
 obtain ⟨w2, hw2⟩ : ∃ w2, w1.alloc (.cells #[.int .i64 tk, .int .i64 ta, .int .i64 tz, .int .i64 tn, .string ts] 47) = w2 := ⟨_, rfl⟩
 obtain ⟨hb1, hs1⟩ := new_below hw1
 obtain ⟨hb2, hs2⟩ := new_below hw2
 have hR1 := Hp.new hw1
 have hT2 := Hp.new hw2
 have hP1 := hP.below hb1
 have hP2 := hP1.below hb2
 have hR2 := hR1.below hb2
 have hPl := hP.lt
 obtain ⟨R, hR⟩ : ∃ R, w.heap.size = R := ⟨_, rfl⟩
 obtain ⟨T, hT⟩ : ∃ T, w1.heap.size = T := ⟨_, rfl⟩
 rw [hR] at hR1 hR2 hs1 hPl
 rw [hT] at hT2 hs1 hs2
 have hneR : ¬ R = P := by omega
 have hneT : ¬ T = P := by omega
 have hTR : ¬ T = R := by omega
 have xs1 := fun i => hb1.cell (p := ⟨tb, i, none⟩) hS.lt
 have x0' := (xs1 _).trans x0
 have x1' := (xs1 _).trans x1
 have x2' := (xs1 _).trans x2
 have x3' := (xs1 _).trans x3
 have x4' := (xs1 _).trans x4
 have p0 := hP1.cell 0 rfl
 have q0 := hP2.cell 0 rfl
 have q1 := hP2.frz 0
 have hn0 : (((n : Int) + 1) == 0) = false := by simp; omega
 have hni : (1 : Int) ≤ (n : Int) + 1 := by omega
 have hcni : (n : Int) + 1 ≤ (c : Int) := by omega
 have hpos : (0 : Int) < (n : Int) + 1 := by omega
 have HEND : Hid (∀ (a2 : Option Addr) (w3 : World), w2.setCell ⟨P, 0, none⟩ (.slice a2 n (c - 1)) = w3 → (n ≠ 0 → a2 = some ⟨tb, q * 5 + 5, none⟩) → Rd.NextPost P tb C xs t r at_ er w (.returned (.tuple #[Rd.tokV t, .bool true])) (set5 w3 R (.int .i64 tk) (.int .i64 ta) (.int .i64 tz) (.int .i64 tn) (.string ts))) := by
  intro a2 w3 hw3 ha2
  have hk1 : Keep (fun k => k = P) w2 w3 := by rw [← hw3]; exact set_keep _ _ _ _
  have hk2 := set5_keep w3 R (.int .i64 tk) (.int .i64 ta) (.int .i64 tz) (.int .i64 tn) (.string ts)
  refine ⟨rfl, ⟨a2, pre ++ [t], ?_, by rw [hpre]; simp, fun hr => ?_⟩, ?_⟩
  ·have h3 : Hp w3 P #[.slice a2 n (c - 1), .int .i64 at_, .int .i64 er] 69 := by rw [← hw3]; exact hP2.set 0 _
   have h4 := h3.keep hk2 (fun e => hneR e.symm)
   rw [hn, show C - (pre ++ [t]).length = c - 1 by simp; omega]
   exact h4
  ·rw [ha2 (by intro e; exact hr (List.eq_nil_of_length_eq_zero (hn.trans e)))]
   simp only [List.length_append, List.length_cons, List.length_nil, hq]
   congr 2
   omega
  ·have hkA : Keep (fun k => k = P ∨ k = R) w w3 := ((keep_of_below (hR ▸ hb1 : Below w.heap.size w w1)).trans (keep_of_below hb2)).trans (hk1.le (fun k e => .inl e))
   refine (hkA.trans (hk2.le (fun k e => .inr e))).mono (fun k hk e => ?_)
   rcases e with e | e
   ·exact e
   ·omega
 have HCL : Hid (∀ (V : Value) (w3 : World), w2.setCell ⟨P, 0, none⟩ V = w3 → (∀ i v, #[Value.int .i64 tk, .int .i64 ta, .int .i64 tz, .int .i64 tn, .string ts][i]? = some v → w3.cell? ⟨T, i, none⟩ = some v) ∧ (∀ i v, #[Value.int .i64 0, .int .i64 0, .int .i64 0, .int .i64 0, .string ⟨#[]⟩][i]? = some v → w3.cell? ⟨R, i, none⟩ = some v) ∧ (∀ i, w3.frozen? ⟨R, i, none⟩ = false)) := by
  intro V w3 hw3
  have hk1 : Keep (fun k => k = P) w2 w3 := by rw [← hw3]; exact set_keep _ _ _ _
  exact ⟨fun i v hv => (hT2.keep hk1 hneT).cell i hv, fun i v hv => (hR2.keep hk1 hneR).cell i hv, fun i => (hR2.keep hk1 hneR).frz i⟩
 have hnc : c = 1 → n = 0 := fun e => by omega
 clear hxi hpre hlen hi hn hc hq htk htn hts hta hto hb1 hb2 hs1 hs2 ha hS hC _hx _hCC hR1 hT2 hP1 hP2 hR2 hP hPl xs1 x0 x1 x2 x3 x4 hcn
 by_cases hc1 : c = 1
 ·obtain ⟨w3, hw3⟩ : ∃ w3, w2.setCell ⟨P, 0, none⟩ (.slice (some ⟨tb, q * 5, none⟩) n 0) = w3 := ⟨_, rfl⟩
  have HE := Lib.hid (HEND.out (some ⟨tb, q * 5, none⟩) w3 (by rw [hc1]; exact hw3) (fun e => absurd (hnc hc1) e))
  obtain ⟨hy, hd, hf⟩ := HCL.out _ w3 hw3
  have y0 := hy 0 _ rfl
  have y1 := hy 1 _ rfl
  have y2 := hy 2 _ rfl
  have y3 := hy 3 _ rfl
  have y4 := hy 4 _ rfl
  have d0 := hd 0 _ rfl
  have d1 := hd 1 _ rfl
  have d2 := hd 2 _ rfl
  have d3 := hd 3 _ rfl
  have d4 := hd 4 _ rfl
  have k0 := hf 0
  have k1 := hf 1
  have k2 := hf 2
  have k3 := hf 3
  have k4 := hf 4
  clear hy hd hf HCL HEND hnc
  go_enter Try.func40, Try.ntmps40
  go_wp2
  refine bodyPost_ret (v := .tuple #[.agg #[.int .i64 tk, .int .i64 ta, .int .i64 tz, .int .i64 tn, .string ts], .bool true]) (by simp [results, Try.results40, go_sem, *]) rfl ?_
  rw [← HTV.out]
  exact HE.out
 ·obtain ⟨w3, hw3⟩ : ∃ w3, w2.setCell ⟨P, 0, none⟩ (.slice (some ⟨tb, q * 5 + 5, none⟩) n (c - 1)) = w3 := ⟨_, rfl⟩
  have HE := Lib.hid (HEND.out (some ⟨tb, q * 5 + 5, none⟩) w3 hw3 (fun _ => rfl))
  obtain ⟨hy, hd, hf⟩ := HCL.out _ w3 hw3
  have y0 := hy 0 _ rfl
  have y1 := hy 1 _ rfl
  have y2 := hy 2 _ rfl
  have y3 := hy 3 _ rfl
  have y4 := hy 4 _ rfl
  have d0 := hd 0 _ rfl
  have d1 := hd 1 _ rfl
  have d2 := hd 2 _ rfl
  have d3 := hd 3 _ rfl
  have d4 := hd 4 _ rfl
  have k0 := hf 0
  have k1 := hf 1
  have k2 := hf 2
  have k3 := hf 3
  have k4 := hf 4
  clear hy hd hf HCL HEND hnc
  go_enter Try.func40, Try.ntmps40
  go_wp2
  refine bodyPost_ret (v := .tuple #[.agg #[.int .i64 tk, .int .i64 ta, .int .i64 tz, .int .i64 tn, .string ts], .bool true]) (by simp [results, Try.results40, go_sem, *]) rfl ?_
  rw [← HTV.out]
  exact HE.out
set_option maxRecDepth 100000 in
set_option maxHeartbeats 8000000 in
theorem next_no (P tb C : Nat) (xs : List Lx.PTok) (at_ er : Int) (w : World) (h : Rd.St w P tb C xs [] at_ er) :
  Calls Try.prog 40 #[.pointer (some ⟨P, 0, none⟩)] w (Rd.NoPost P tb C xs at_ er w) := by
 obtain ⟨a, pre, hP, hpre, -⟩ := h
 rw [List.length_nil] at hP
 obtain ⟨w1, hw1⟩ : ∃ w1, w.alloc (.cells #[.int .i64 0, .int .i64 0, .int .i64 0, .int .i64 0, .string ⟨#[]⟩] 47) = w1 := ⟨_, rfl⟩
 obtain ⟨hb1, hs1⟩ := new_below hw1
 have hR1 := Hp.new hw1
 have hP1 := hP.below hb1
 have p0 := hP1.cell 0 rfl
 have hPl := hP.lt
 obtain ⟨R, hR⟩ : ∃ R, w.heap.size = R := ⟨_, rfl⟩
 rw [hR] at hR1 hPl
 have HEND : Hid (Rd.NoPost P tb C xs at_ er w (.returned (.tuple #[Rd.noTok, .bool false])) (set5 w1 R (.int .i64 0) (.int .i64 0) (.int .i64 0) (.int .i64 0) (.string ⟨#[]⟩))) := by
  have hk2 := set5_keep w1 R (.int .i64 0) (.int .i64 0) (.int .i64 0) (.int .i64 0) (.string ⟨#[]⟩)
  refine ⟨rfl, ⟨a, pre, hP1.keep hk2 (by omega), hpre, fun e => absurd rfl e⟩, ?_⟩
  exact ((keep_of_below hb1).trans (hk2.le (T := fun k => k = P ∨ k = R) (fun k e => .inr e))).mono (fun k hk e => by omega)
 have d0 := hR1.cell 0 rfl
 have d1 := hR1.cell 1 rfl
 have d2 := hR1.cell 2 rfl
 have d3 := hR1.cell 3 rfl
 have d4 := hR1.cell 4 rfl
 have k0 := hR1.frz 0
 have k1 := hR1.frz 1
 have k2 := hR1.frz 2
 have k3 := hR1.frz 3
 have k4 := hR1.frz 4
 clear hP hP1 hR1 hb1 hs1 hpre hPl
 go_enter Try.func40, Try.ntmps40
 go_wp2
 refine bodyPost_ret (v := .tuple #[.agg #[.int .i64 0, .int .i64 0, .int .i64 0, .int .i64 0, .string ⟨#[]⟩], .bool false]) (by simp [results, Try.results40, go_sem, *]) rfl ?_
 exact HEND.out
set_option maxRecDepth 100000 in
set_option maxHeartbeats 8000000 in
theorem fail_any (P tb C : Nat) (xs rest : List Lx.PTok) (at_ er : Int) (w : World) (h : Rd.St w P tb C xs rest 0 0) :
  Calls Try.prog 67 #[.pointer (some ⟨P, 0, none⟩), .int .i64 at_, .int .i64 er] w (Rd.FailPost P tb C xs rest at_ er w) := by
 obtain ⟨a, pre, hP, hpre, ha⟩ := h
 obtain ⟨w1, hw1⟩ : ∃ w1, w.alloc (.cells #[.int .i64 0, .int .i64 0, .string ⟨#[]⟩, .slice none 0 0, .slice none 0 0, .slice none 0 0] 25) = w1 := ⟨_, rfl⟩
 obtain ⟨hb1, hs1⟩ := new_below hw1
 have hR1 := Hp.new hw1
 have hP1 := hP.below hb1
 have p1 := hP1.cell 1 rfl
 have p2 := hP1.cell 2 rfl
 have f1 := hP1.frz 1
 have f2 := hP1.frz 2
 have hPl := hP.lt
 obtain ⟨R, hR⟩ : ∃ R, w.heap.size = R := ⟨_, rfl⟩
 rw [hR] at hR1 hPl
 obtain ⟨w2, hw2⟩ : ∃ w2, (w1.setCell ⟨P, 1, none⟩ (.int .i64 at_)).setCell ⟨P, 2, none⟩ (.int .i64 er) = w2 := ⟨_, rfl⟩
 have hk1 : Keep (fun k => k = P) w1 w2 := by rw [← hw2]; exact (set_keep _ _ _ _).trans (set_keep _ _ _ _)
 have hP2 : Hp w2 P #[.slice a rest.length (C - pre.length), .int .i64 at_, .int .i64 er] 69 := by rw [← hw2]; exact (hP1.set 1 _).set 2 _
 have hR2 := hR1.keep hk1 (by omega : ¬ R = P)
 have HEND : Hid (Rd.FailPost P tb C xs rest at_ er w (.returned Rd.zeroD) (set6 w2 R (.int .i64 0) (.int .i64 0) (.string ⟨#[]⟩) (.slice none 0 0) (.slice none 0 0) (.slice none 0 0))) := by
  have hk2 := set6_keep w2 R (.int .i64 0) (.int .i64 0) (.string ⟨#[]⟩) (.slice none 0 0) (.slice none 0 0) (.slice none 0 0)
  refine ⟨rfl, ⟨a, pre, hP2.keep hk2 (by omega), hpre, ha⟩, ?_⟩
  exact (((keep_of_below hb1).trans (hk1.le (T := fun k => k = P ∨ k = R) (fun k e => .inl e))).trans (hk2.le (fun k e => .inr e))).mono (fun k hk e => by omega)
 have d0 := hR2.cell 0 rfl
 have d1 := hR2.cell 1 rfl
 have d2 := hR2.cell 2 rfl
 have d3 := hR2.cell 3 rfl
 have d4 := hR2.cell 4 rfl
 have d5 := hR2.cell 5 rfl
 have k0 := hR2.frz 0
 have k1 := hR2.frz 1
 have k2 := hR2.frz 2
 have k3 := hR2.frz 3
 have k4 := hR2.frz 4
 have k5 := hR2.frz 5
 clear hP hP1 hR1 hb1 hs1 hpre hPl ha hk1 hP2 hR2
 go_enter Try.func67, Try.ntmps67
 go_wp2
 refine bodyPost_ret (v := .agg #[.int .i64 0, .int .i64 0, .string ⟨#[]⟩, .slice none 0 0, .slice none 0 0, .slice none 0 0]) (by simp [results, Try.results67, go_sem, *]) rfl ?_
 exact HEND.out
set_option maxRecDepth 100000 in
set_option maxHeartbeats 8000000 in
theorem stray_any (P tb C : Nat) (xs rest : List Lx.PTok) (t : Lx.PTok) (w : World) (h : Rd.St w P tb C xs rest 0 0) :
  Calls Try.prog 44 #[.pointer (some ⟨P, 0, none⟩), Rd.tokV t] w (Rd.FailPost P tb C xs rest (t.at_ : Int) 40 w) := by
 unfold Rd.tokV
 obtain ⟨tk, htk⟩ : ∃ tk, t.t.k = tk := ⟨_, rfl⟩
 obtain ⟨tn, htn⟩ : ∃ tn, t.t.n = tn := ⟨_, rfl⟩
 obtain ⟨ts, hts⟩ : ∃ ts : ByteArray, ⟨t.t.s.toArray⟩ = ts := ⟨_, rfl⟩
 obtain ⟨ta, hta⟩ : ∃ ta : Int, (t.at_ : Int) = ta := ⟨_, rfl⟩
 obtain ⟨tz, hto⟩ : ∃ tz : Int, (t.to : Int) = tz := ⟨_, rfl⟩
 rw [htk, htn, hts, hta, hto]
 clear htk htn hts hta hto
 obtain ⟨w1, hw1⟩ : ∃ w1, w.alloc (.cells #[.int .i64 tk, .int .i64 ta, .int .i64 tz, .int .i64 tn, .string ts] 47) = w1 := ⟨_, rfl⟩
 obtain ⟨w2, hw2⟩ : ∃ w2, w1.alloc (.cells #[.int .i64 0, .int .i64 0, .string ⟨#[]⟩, .slice none 0 0, .slice none 0 0, .slice none 0 0] 25) = w2 := ⟨_, rfl⟩
 obtain ⟨hb1, hs1⟩ := new_below hw1
 obtain ⟨hb2, hs2⟩ := new_below hw2
 have hT2 := (Hp.new hw1).below hb2
 have hR2 := Hp.new hw2
 have hPl := h.lt
 have hf := fail_any P tb C xs rest ta 40 w2 ((h.below hb1).below hb2)
 obtain ⟨T, hT⟩ : ∃ T, w.heap.size = T := ⟨_, rfl⟩
 obtain ⟨R, hR⟩ : ∃ R, w1.heap.size = R := ⟨_, rfl⟩
 rw [hT] at hT2 hs1 hPl
 rw [hR] at hR2 hs1 hs2
 have y1 := hT2.cell 1 rfl
 have HK : Hid (Keep (fun k => k = P ∨ T ≤ k) w w2) := (keep_of_below hb1).trans (keep_of_below hb2)
 have HR2 := Lib.hid hR2
 have HN : Hid (P < T ∧ R = T + 1 ∧ w2.heap.size = T + 2) := ⟨hPl, hs1, by omega⟩
 have HT := Lib.hid hT
 clear h hb1 hb2 hs1 hs2 hT2 hR2 hPl
 go_enter Try.func44, Try.ntmps44
 go_wp2_with fail
 refine hf.mono ?_
 rintro e w3 ⟨rfl, hst, hk⟩
 unfold Rd.zeroD
 have hR3 := HR2.out.keep hk (by have := HN.out; omega)
 have HEND : Hid (Rd.FailPost P tb C xs rest ta 40 w (.returned Rd.zeroD) (set6 w3 R (.int .i64 0) (.int .i64 0) (.string ⟨#[]⟩) (.slice none 0 0) (.slice none 0 0) (.slice none 0 0))) := by
  have hk2 := set6_keep w3 R (.int .i64 0) (.int .i64 0) (.string ⟨#[]⟩) (.slice none 0 0) (.slice none 0 0) (.slice none 0 0)
  refine ⟨rfl, hst.keep hk2 (by have := HN.out; omega), ?_⟩
  exact ((HK.out.trans (hk.le (fun k e => .inl e))).trans (hk2.le (fun k e => .inr (by have := HN.out; omega)))).mono (fun k hk e => by have := HT.out; omega)
 have d0 := hR3.cell 0 rfl
 have d1 := hR3.cell 1 rfl
 have d2 := hR3.cell 2 rfl
 have d3 := hR3.cell 3 rfl
 have d4 := hR3.cell 4 rfl
 have d5 := hR3.cell 5 rfl
 have k0 := hR3.frz 0
 have k1 := hR3.frz 1
 have k2 := hR3.frz 2
 have k3 := hR3.frz 3
 have k4 := hR3.frz 4
 have k5 := hR3.frz 5
 clear hf hst hk hR3 y1 hw1 hw2
 go_wp2
 refine bodyPost_ret (v := .agg #[.int .i64 0, .int .i64 0, .string ⟨#[]⟩, .slice none 0 0, .slice none 0 0, .slice none 0 0]) (by simp [results, Try.results44, go_sem, *]) rfl ?_
 exact HEND.out
end Go.Proofs.Ytcopdfihaheplaa
namespace Go.Proofs.Ytcopdfihaheplaa
open Go.RowKit
namespace Rd
open Dt Lx
def Says (r : Res) (x : D) (rest : List PTok) (at_ er : Int) : Prop := (r = .ok x rest ∧ at_ = 0 ∧ er = 0) ∨ (∃ (b : Nat) (c : Int), r = .bad b c ∧ at_ = (b : Int) ∧ er = c ∧ c ≠ 0)
def Nz (v : Value) : Prop := v = .slice none 0 0 ∨ ∃ ad n c, v = .slice (some ad) n c
theorem own_nz {w : World} {base size n : Nat} {e : TypeId} {v : Value} {xs : List Value} (h : w.ownsRow base e size v n xs) : Nz v := by
 rcases h.2 with ⟨h1, h0⟩ | ⟨g, cap, cur, rfl, _⟩
 ·exact .inl h1
 ·exact .inr ⟨_, _, _, rfl⟩
def OutB (b P tb C : Nat) (xs : List PTok) (w : World) (r : Res) (e : Ending) (w' : World) : Prop :=
 ∃ (x : D) (vm vl vt : Value) (rest : List PTok) (at_ er : Int), e = .returned (.agg #[.int .i64 x.k, .int .i64 x.n, .string x.s, vm, vl, vt]) ∧ Rep (fun k => b ≤ k) w' x vm vl vt ∧ Nz vl ∧ St w' P tb C xs rest at_ er ∧ Keep (fun k => k = P ∨ b ≤ k) w w' ∧ Says r x rest at_ er
def Out (P tb C : Nat) (xs : List PTok) (w : World) (r : Res) (e : Ending) (w' : World) : Prop :=
 ∃ (x : D) (vm vl vt : Value) (rest : List PTok) (at_ er : Int), e = .returned (.agg #[.int .i64 x.k, .int .i64 x.n, .string x.s, vm, vl, vt]) ∧ Rep (fun k => w.heap.size ≤ k) w' x vm vl vt ∧ Nz vl ∧ St w' P tb C xs rest at_ er ∧ Keep (fun k => k = P) w w' ∧ Says r x rest at_ er
structure G (P tb C : Nat) (xs : List PTok) : Prop where
 ne : P ≠ tb
 cap : xs.length ≤ C
 few : xs.length ≤ 4096
 C2 : C ≤ 9223372036854775807
 ok : ∀ p ∈ xs, 1 ≤ p.t.k ∧ p.t.k ≤ 13
theorem Out.fin {P tb C : Nat} {xs rest : List PTok} {w wz : World} {r : Res} {R : Nat} {x : D} {vm vl vt : Value} {at_ er : Int} (hk : Keep (fun k => k = P) w wz) (hl : w.heap.size ≤ R) (hP : P < w.heap.size)
  (hrep : Rep (fun k => w.heap.size ≤ k ∧ k ≠ R) wz x vm vl vt) (hz : Nz vl) (hst : St wz P tb C xs rest at_ er) (hs : Says r x rest at_ er) : Out P tb C xs w r (.returned (.agg #[.int .i64 x.k, .int .i64 x.n, .string x.s, vm, vl, vt])) (set6 wz R (.int .i64 x.k) (.int .i64 x.n) (.string x.s) vm vl vt) := by
 have hk2 := set6_keep wz R (.int .i64 x.k) (.int .i64 x.n) (.string x.s) vm vl vt
 refine ⟨x, vm, vl, vt, rest, at_, er, rfl, Rep.mono (fun b hb _ => hb.1) x (Rep.keep hk2 (fun b hb _ e => hb.2 e) x hrep), hz, hst.keep hk2 (by omega), ?_, hs⟩
 exact ((hk.le (T := fun k => k = P ∨ k = R) (fun k e => .inl e)).trans (hk2.le (fun k e => .inr e))).mono (fun k hk e => by omega)
theorem OutB.fin {b P tb C : Nat} {xs rest : List PTok} {w wz : World} {r : Res} {R : Nat} {x : D} {vm vl vt : Value} {at_ er : Int} (hk : Keep (fun k => k = P ∨ b ≤ k) w wz) (hl : b ≤ R) (hP : P < b)
  (hrep : Rep (fun k => b ≤ k ∧ k ≠ R) wz x vm vl vt) (hz : Nz vl) (hst : St wz P tb C xs rest at_ er) (hs : Says r x rest at_ er) : OutB b P tb C xs w r (.returned (.agg #[.int .i64 x.k, .int .i64 x.n, .string x.s, vm, vl, vt])) (set6 wz R (.int .i64 x.k) (.int .i64 x.n) (.string x.s) vm vl vt) := by
 have hk2 := set6_keep wz R (.int .i64 x.k) (.int .i64 x.n) (.string x.s) vm vl vt
 exact ⟨x, vm, vl, vt, rest, at_, er, rfl, Rep.mono (fun b hb _ => hb.1) x (Rep.keep hk2 (fun b hb _ e => hb.2 e) x hrep), hz, hst.keep hk2 (by omega), hk.trans (hk2.le (fun k e => .inr (by omega))), hs⟩
theorem rep_zero (F : Nat → Prop) (w : World) : Rep F w (.mk 0 0 ⟨#[]⟩ [] [] []) (.slice none 0 0) (.slice none 0 0) (.slice none 0 0) :=
 (rep_iff _ _ _ _ _ _).2 ⟨⟨none, 0, rfl, Nat.le_refl _, fun h => absurd rfl h⟩, ⟨none, 0, rfl, Nat.le_refl _, fun h => absurd rfl h⟩, ⟨none, 0, rfl, Nat.le_refl _, fun h => absurd rfl h⟩⟩
theorem rep_row {F : Nat → Prop} {w : World} {vl : Value} {acc : List D} (kk : Int) (h : Row F w vl acc) : Rep F w (.mk kk 0 ⟨#[]⟩ [] acc []) (.slice none 0 0) vl (.slice none 0 0) :=
 (rep_iff _ _ _ _ _ _).2 ⟨⟨none, 0, rfl, Nat.le_refl _, fun h => absurd rfl h⟩, h, ⟨none, 0, rfl, Nat.le_refl _, fun h => absurd rfl h⟩⟩
def meas (w : World) (P : Nat) : Nat := match w.cell? ⟨P, 2, none⟩, w.cell? ⟨P, 0, none⟩ with
 | some (.int _ e), some (.slice _ n _) => if e = 0 then n + 1 else 0
 | _, _ => 0
theorem St.meas {w : World} {P tb C : Nat} {xs rest : List PTok} {at_ e : Int} (h : St w P tb C xs rest at_ e) : meas w P = if e = 0 then rest.length + 1 else 0 := by
 obtain ⟨a, pre, h1, -, -⟩ := h
 unfold Rd.meas
 rw [h1.cell 2 rfl, h1.cell 0 rfl]
 rfl
theorem flatP_len (l : List Dt.P) : (flatP l).length = l.length * 6 := by
 unfold flatP
 induction l with
 | nil => rfl
 | cons q l ih => rw [List.flatMap_cons, List.length_append, ih, List.length_cons]; show 6 + _ = _; omega
theorem flatP_one (qs : List Dt.P) (h : ∀ p ∈ qs, ∃ a1 n1 c1 a2 n2 c2 a3 n3 c3, p.vm = .slice a1 n1 c1 ∧ p.vl = .slice a2 n2 c2 ∧ p.vt = .slice a3 n3 c3) : ∀ u ∈ flatP qs, u.oneCell' = true := by
 intro u hu
 obtain ⟨p, hp, hu⟩ := List.mem_flatMap.1 hu
 obtain ⟨a1, n1, c1, a2, n2, c2, a3, n3, c3, e1, e2, e3⟩ := h p hp
 unfold P.cells at hu
 rw [e1, e2, e3] at hu
 simp only [List.mem_cons, List.not_mem_nil, or_false] at hu
 rcases hu with rfl | rfl | rfl | rfl | rfl | rfl <;> rfl
theorem flatP_at {qs : List Dt.P} {j : Nat} {u : Value} (h : (flatP qs)[j]? = some u) : ∃ i r, ∃ hi : i < qs.length, r < 6 ∧ j = i * 6 + r ∧ (qs[i].cells)[r]? = some u := by
 have hl : ∀ l : List Dt.P, (flatP l).length = l.length * 6 := fun l => by
  unfold flatP
  induction l with
  | nil => rfl
  | cons q l ih => rw [List.flatMap_cons, List.length_append, ih, List.length_cons]; show 6 + _ = _; omega
 have hlt : j < qs.length * 6 := by rw [← hl]; exact (List.getElem?_eq_some_iff.1 h).1
 have hi : j / 6 < qs.length := by omega
 refine ⟨j / 6, j % 6, hi, Nat.mod_lt _ (by decide), by omega, ?_⟩
 rw [← h]
 conv => rhs; rw [← List.take_append_drop (j / 6) qs, List.drop_eq_getElem_cons hi]
 have e1 : flatP (qs.take (j / 6) ++ qs[j / 6] :: qs.drop (j / 6 + 1)) = flatP (qs.take (j / 6)) ++ (qs[j / 6].cells ++ flatP (qs.drop (j / 6 + 1))) := by unfold flatP; rw [List.flatMap_append, List.flatMap_cons]
 rw [e1, List.getElem?_append_right (by rw [hl, List.length_take]; omega), hl, List.length_take, Nat.min_eq_left (by omega)]
 rw [List.getElem?_append_left (by show _ < 6; omega)]
 congr 1
 omega
theorem pushK {S : Nat → Prop} {w w1 wA w5 : World} {base : Nat} {v v' : Value} {ls : List P} {p : P} (h : Rowing w base v ls) (hbase : base ≤ w.heap.size) (h1 : Keep S w w1) (hS : ∀ k, base ≤ k → ¬ S k) (hp : Rep (fun k => w.heap.size ≤ k) w1 p.d p.vm p.vl p.vt) (hA : Below w1.heap.size w1 wA)
  (hown : w5.ownsRow base 25 6 v' (ls.length + 1) (flatP ls ++ p.cells)) (hg : wA.grownBy w5 v.ownBlock) (hat : v'.ownBlock = v.ownBlock ∨ v'.ownBlock = some wA.heap.size) :
  Rowing w5 base v' (ls ++ [p]) ∧ Keep (fun k => S k ∨ v.ownBlock = some k) w w5 := by
 have hwA : Keep S w wA := h1.trans (keep_of_below hA)
 have hK : Keep (fun k => S k ∨ v.ownBlock = some k) w w5 := ⟨hg.os.trans hwA.os, hg.tape.trans hwA.tape, hg.output.trans hwA.output, Nat.le_trans hwA.size hg.size, fun k hk hn => (hg.block k (by have := hwA.size; omega) (fun e => hn (.inr e.symm))).trans (hwA.block k hk (fun e => hn (.inl e)))⟩
 have hK1 : Keep (fun k => v.ownBlock = some k) w1 w5 := ⟨hg.os.trans hA.os, hg.tape.trans hA.tape, hg.output.trans hA.output, Nat.le_trans hA.size hg.size, fun k hk hn => (hg.block k (by have := hA.size; omega) (fun e => hn e.symm)).trans (hA.block k hk)⟩
 have hvl : ∀ k, v.ownBlock = some k → base ≤ k ∧ k < w.heap.size := own_lt h.row
 refine ⟨⟨by rw [List.length_append, flatP_app]; exact hown, fun q hq => ?_⟩, hK⟩
 rcases List.mem_append.1 hq with hq | hq
 ·have hr0 : Rep (fun k => k < w.heap.size ∧ base ≤ k ∧ v.ownBlock ≠ some k) w q.d q.vm q.vl q.vt := Rep.mono (fun b hb hl => ⟨hl, hb⟩) q.d (h.rep q hq)
  refine Rep.mono (fun b hb _ => ⟨hb.2.1, fun e => ?_⟩) q.d (Rep.keep hK (fun b hb _ e => e.elim (hS b hb.2.1) (fun e => hb.2.2 e)) q.d hr0)
  rcases hat with e' | e'
  ·rw [e'] at e; exact hb.2.2 e
  ·rw [e'] at e; cases e; have := hwA.size; omega
 ·obtain rfl : q = p := by simpa using hq
  have hr0 : Rep (fun k => k < w1.heap.size ∧ w.heap.size ≤ k) w1 q.d q.vm q.vl q.vt := Rep.mono (fun b hb hl => ⟨hl, hb⟩) q.d hp
  refine Rep.mono (fun b hb _ => ⟨Nat.le_trans hbase hb.2, fun e => ?_⟩) q.d (Rep.keep hK1 (fun b hb _ e => by have := (hvl b e).2; omega) q.d hr0)
  rcases hat with e' | e'
  ·rw [e'] at e; have := (hvl b e).2; omega
  ·rw [e'] at e; cases e; have := hA.size; omega
theorem srcNew {w wD : World} {a b c d e f : Value} {t : TypeId} (h : w.alloc (.cells #[a, b, c, d, e, f] t) = wD) : Ap.Src wD (.slice (some ⟨w.heap.size, 0, none⟩) 1 1) 1 [a, b, c, d, e, f] :=
 .inr ⟨_, _, rfl, fun j u hu => by
  rw [Addr.add_mid, Nat.zero_add]
  have h2 : #[a, b, c, d, e, f][j]? = some u := by rw [← hu]; simp
  exact (Hp.new h).cell j h2⟩
theorem row_of_own {F : Nat → Prop} {w : World} {base n : Nat} {v : Value} {ls : List Dt.P} (hown : w.ownsRow base 25 6 v n (flatP ls)) (hn : n = ls.length) (hF : ∀ j, v.ownBlock = some j → F j) (hr : ∀ p ∈ ls, Rep F w p.d p.vm p.vl p.vt) : Row F w v (ls.map Dt.P.d) := by
 subst hn
 have hreps : ∀ g, v.ownBlock = some g → Reps F w (ls.map Dt.P.d) g 0 := by
  intro g hg
  refine Reps.of fun j hj => ?_
  have hj' : j < ls.length := by simpa using hj
  obtain ⟨g', c, rfl, _, hs⟩ := part_at hown j hj'
  cases hg
  refine ⟨ls[j].vm, ls[j].vl, ls[j].vt, by rw [Nat.zero_add]; simpa using hs, ?_⟩
  have := hr ls[j] (List.getElem_mem hj')
  simpa using this
 rcases hown.2 with ⟨h1, h0⟩ | ⟨g, cap, cur, rfl, e2, e3, e4, _⟩
 ·have : ls = [] := List.length_eq_zero_iff.1 h0
  subst this
  exact ⟨none, 0, by rw [h1]; rfl, Nat.le_refl _, fun hn => absurd rfl hn⟩
 ·exact ⟨some ⟨g, 0, none⟩, cap, by simp, by simpa using e4, fun _ => ⟨g, 0, rfl, hF g rfl, (Array.getElem?_eq_some_iff.1 e3).1, hreps g rfl⟩⟩
theorem row_parts {F : Nat → Prop} {w : World} {a : Option Addr} {n c : Nat} {l : List D} (h : Row F w (.slice a n c) l) (hz : Nz (.slice a n c)) : ∃ qs : List Dt.P, qs.map Dt.P.d = l ∧ Ap.Src w (.slice a n c) n (flatP qs) ∧ ∀ q ∈ qs, Rep F w q.d q.vm q.vl q.vt := by
 obtain ⟨a', c', e, hc, hr⟩ := h
 cases e
 cases l with
 | nil =>
  refine ⟨[], rfl, ?_, fun q hq => by cases hq⟩
  rcases hz with e | ⟨ad, n, c, e⟩
  ·cases e; exact .inl ⟨rfl, rfl, rfl⟩
  ·cases e; exact .inr ⟨ad, _, rfl, fun j u hu => by simp [flatP] at hu⟩
 | cons d0 l0 =>
  obtain ⟨g, o, rfl, -, hlt, hreps⟩ := hr (by simp)
  have hq : ∀ j : Fin (d0 :: l0).length, ∃ q : Dt.P, q.d = (d0 :: l0)[j.1] ∧ Six w g (o + j.1 * 6) q.d q.vm q.vl q.vt ∧ Rep F w q.d q.vm q.vl q.vt := fun j => by
   obtain ⟨vm, vl, vt, h1, h2⟩ := hreps.at j.1 j.2
   exact ⟨⟨_, vm, vl, vt⟩, rfl, h1, h2⟩
  refine ⟨List.ofFn (fun j => Classical.choose (hq j)), ?_, .inr ⟨⟨g, o, none⟩, _, rfl, ?_⟩, ?_⟩
  ·apply List.ext_getElem
   ·simp
   ·intro j h1 h2
    simp only [List.getElem_map, List.getElem_ofFn]
    exact (Classical.choose_spec (hq ⟨j, h2⟩)).1
  ·intro j u hu
   rw [Addr.add_mid]
   obtain ⟨i, r, hi, hr6, hjr, hg⟩ := flatP_at hu
   rw [List.length_ofFn] at hi
   rw [List.getElem_ofFn] at hg
   obtain ⟨s0, s1, s2, s3, s4, s5⟩ := (Classical.choose_spec (hq ⟨i, hi⟩)).2.1
   rw [hjr, ← Nat.add_assoc]
   obtain rfl | rfl | rfl | rfl | rfl | rfl : r = 0 ∨ r = 1 ∨ r = 2 ∨ r = 3 ∨ r = 4 ∨ r = 5 := by omega
   all_goals (simp only [P.cells] at hg; cases hg; first | exact s0 | exact s1 | exact s2 | exact s3 | exact s4 | exact s5)
  ·intro q hq2
   obtain ⟨j, rfl⟩ := List.mem_ofFn.1 hq2
   exact (Classical.choose_spec (hq j)).2.2
theorem rep_sym (F : Nat → Prop) (w : World) (s : ByteArray) : Rep F w (symD s) (.slice none 0 0) (.slice none 0 0) (.slice none 0 0) :=
 (rep_iff _ _ _ _ _ _).2 ⟨⟨none, 0, rfl, Nat.le_refl _, fun h => absurd rfl h⟩, ⟨none, 0, rfl, Nat.le_refl _, fun h => absurd rfl h⟩, ⟨none, 0, rfl, Nat.le_refl _, fun h => absurd rfl h⟩⟩
theorem own_base {w : World} {base base' size n : Nat} {e : TypeId} {v : Value} {xs : List Value} (h : w.ownsRow base e size v n xs) (hb : base' ≤ base) : w.ownsRow base' e size v n xs := by
 obtain ⟨h1, h2⟩ := h
 refine ⟨h1, h2.elim .inl (fun h3 => ?_)⟩
 obtain ⟨g, cap, cur, e1, e2, e3⟩ := h3
 exact .inr ⟨g, cap, cur, e1, Nat.le_trans hb e2, e3⟩
theorem two_forms {s : ByteArray} {y : D} {b1 b2 b3 : Option Addr} {m1 m2 m3 p1 p2 p3 : Nat} {p : Dt.P} (hp : p ∈ [Dt.P.mk (symD s) (.slice none 0 0) (.slice none 0 0) (.slice none 0 0), Dt.P.mk y (.slice b1 m1 p1) (.slice b2 m2 p2) (.slice b3 m3 p3)]) : ∃ a1 n1 c1 a2 n2 c2 a3 n3 c3, p.vm = .slice a1 n1 c1 ∧ p.vl = .slice a2 n2 c2 ∧ p.vt = .slice a3 n3 c3 := by
 simp only [List.mem_cons, List.not_mem_nil, or_false] at hp
 rcases hp with rfl | rfl
 ·exact ⟨_, _, _, _, _, _, _, _, _, rfl, rfl, rfl⟩
 ·exact ⟨_, _, _, _, _, _, _, _, _, rfl, rfl, rfl⟩
theorem two_src {w : World} {B : Nat} {s : ByteArray} {y : D} {vm vl vt : Value} {t : TypeId} (h : Hp w B #[.int .i64 5, .int .i64 0, .string s, .slice none 0 0, .slice none 0 0, .slice none 0 0, .int .i64 y.k, .int .i64 y.n, .string y.s, vm, vl, vt] t) :
  ∀ j u, (flatP [Dt.P.mk (symD s) (.slice none 0 0) (.slice none 0 0) (.slice none 0 0), Dt.P.mk y vm vl vt])[j]? = some u → w.cell? ((⟨B, 0, none⟩ : Addr).add j) = some u := by
 intro j u hu
 rw [Addr.add_mid, Nat.zero_add]
 refine h.cell j ?_
 rw [← hu, ← Array.getElem?_toList]
 rfl
end Rd
theorem Dt.Cd_keep_grown {w w' : World} {v : Value} (hg : w.grownBy w' v.ownBlock) : Keep (fun k => v.ownBlock = some k) w w' := ⟨hg.os, hg.tape, hg.output, hg.size, fun k hk hn => hg.block k hk (fun e => hn e.symm)⟩
end Go.Proofs.Ytcopdfihaheplaa
namespace Go.Proofs.Ytcopdfihaheplaa
open Go.RowKit
attribute [local go_sem] Oper.semAt_some
namespace Rd
open Dt Lx
def DatumIs (P tb C : Nat) (xs : List PTok) (f : Nat) : Prop := ∀ (ts : List PTok) (w : World), ts ≠ [] → Src w tb xs → St w P tb C xs ts 0 0 → pd f ts ≠ .out → Calls Try.prog 28 #[.pointer (some ⟨P, 0, none⟩)] w (Out P tb C xs w (pd f ts))
def VInv (a : Nat) (R : Res) (f : Nat) (acc : List D) (ts : List PTok) (at_ er : Int) : Prop := (er = 0 ∧ at_ = 0 ∧ pv f a acc ts = R ∧ R ≠ .out ∧ (∃ q, f = q + 1) ∧ acc.length + ts.length ≤ 4096) ∨ (er ≠ 0 ∧ ∃ (b : Nat), at_ = (b : Int) ∧ R = .bad b er)
end Rd
set_option maxRecDepth 100000 in
set_option maxHeartbeats 16000000 in
theorem vector_any (P tb C : Nat) (xs : List Lx.PTok) (hG : Rd.G P tb C xs) (F : Nat) (hD : ∀ g, g < F → Rd.DatumIs P tb C xs g) (t : Lx.PTok) (r : List Lx.PTok) (w : World) (hSrc : Rd.Src w tb xs) (hSt : Rd.St w P tb C xs r 0 0) (hR : Rd.pv F t.at_ [] r ≠ .out) :
  Calls Try.prog 43 #[.pointer (some ⟨P, 0, none⟩), Rd.tokV t] w (Rd.Out P tb C xs w (Rd.pv F t.at_ [] r)) := by
 unfold Rd.tokV
 obtain ⟨tk, htk⟩ : ∃ tk, t.t.k = tk := ⟨_, rfl⟩
 obtain ⟨tn, htn⟩ : ∃ tn, t.t.n = tn := ⟨_, rfl⟩
 obtain ⟨ts, hts⟩ : ∃ ts : ByteArray, ⟨t.t.s.toArray⟩ = ts := ⟨_, rfl⟩
 obtain ⟨ta, hta⟩ : ∃ ta : Nat, t.at_ = ta := ⟨_, rfl⟩
 obtain ⟨tz, hto⟩ : ∃ tz : Int, (t.to : Int) = tz := ⟨_, rfl⟩
 rw [hta] at hR ⊢
 rw [htk, htn, hts, hto]
 clear htk htn hts hta hto
 obtain ⟨RR, hRR⟩ : ∃ RR, Rd.pv F ta [] r = RR := ⟨_, rfl⟩
 have hV0 : Rd.VInv ta RR F [] r 0 0 := .inl ⟨rfl, rfl, hRR, hRR ▸ hR, by
  cases F with
  | zero => exact absurd (by rw [Rd.pv]) hR
  | succ q => exact ⟨q, rfl⟩, by
   obtain ⟨_, pre, -, hpre, -⟩ := hSt
   have := hG.few
   rw [hpre] at this
   simp at this ⊢
   omega⟩
 rw [hRR]
 obtain ⟨w1, hw1⟩ : ∃ w1, w.alloc (.cells #[.int .i64 tk, .int .i64 (ta : Int), .int .i64 tz, .int .i64 tn, .string ts] 47) = w1 := ⟨_, rfl⟩
 obtain ⟨w2, hw2⟩ : ∃ w2, w1.alloc (.cells #[.int .i64 0, .int .i64 0, .string ⟨#[]⟩, .slice none 0 0, .slice none 0 0, .slice none 0 0] 25) = w2 := ⟨_, rfl⟩
 obtain ⟨w3, hw3⟩ : ∃ w3, w2.alloc (.cells #[.int .i64 8, .int .i64 0, .string ⟨#[]⟩, .slice none 0 0, .slice none 0 0, .slice none 0 0] 25) = w3 := ⟨_, rfl⟩
 obtain ⟨hb1, hs1⟩ := new_below hw1
 obtain ⟨hb2, hs2⟩ := new_below hw2
 obtain ⟨hb3, hs3⟩ := new_below hw3
 have hT3 := ((Hp.new hw1).below hb2).below hb3
 have hR3 := (Hp.new hw2).below hb3
 have hD3 := Hp.new hw3
 have hb13 := hb1.trans ((hb2.trans (hb3.mono hb2.size)).mono hb1.size)
 obtain ⟨T, hT⟩ : ∃ T, w.heap.size = T := ⟨_, rfl⟩
 obtain ⟨R, hRb⟩ : ∃ R, w1.heap.size = R := ⟨_, rfl⟩
 obtain ⟨D, hDb⟩ : ∃ D, w2.heap.size = D := ⟨_, rfl⟩
 rw [hT] at hT3 hs1
 rw [hRb] at hR3 hs1 hs2
 rw [hDb] at hD3 hs2 hs3
 have hPl := hSt.lt
 rw [hT] at hPl
 have HN : Hid (P < T ∧ R = T + 1 ∧ D = T + 2 ∧ w3.heap.size = T + 3 ∧ w.heap.size = T) := ⟨hPl, hs1, by omega, by omega, hT⟩
 have HT3 := Lib.hid hT3
 have HR3 := Lib.hid hR3
 have HD3 := Lib.hid hD3
 have HK3 : Hid (Keep (fun k => k = P) w w3) := keep_of_below hb13
 have HST3 := Lib.hid (hSt.below hb13)
 have HSRC := Lib.hid hSrc
 have HG := Lib.hid hG
 have HD := Lib.hid hD
 have HV0 := Lib.hid hV0
 have HROW0 : Hid (Dt.Rowing w3 (D + 1) (.slice none 0 0) [] ∧ ([] : List Dt.P).length = 0) := ⟨Dt.Rowing.nil _ _, rfl⟩
 obtain ⟨i0, hi, hz0, hz1, hz2⟩ := info_parts Dt.infoD
 have HW3 := Lib.hid hw3
 have HI1 := Lib.hid hi
 have HZ0 := Lib.hid hz0
 have HZ1 := Lib.hid hz1
 have HZ2 := Lib.hid hz2
 clear hb1 hb2 hb3 hs1 hs2 hs3 hT3 hR3 hD3 hb13 hSt hSrc hG hD hV0 hRR hR hPl hi hz0 hz1 hz2 hw3
 go_enter Try.func43, Try.ntmps43
 go_wp2
 rw [HW3.out]
 clear hw1 hw2
 go_loopw [7] (fun _ wr => ∃ (k : Nat) (ps : List Dt.P) (al : Option Addr) (cl f : Nat) (us : List Lx.PTok) (at_ er : Int), Hid (Hp wr D #[.int .i64 8, .int .i64 0, .string ⟨#[]⟩, .slice none 0 0, .slice al k cl, .slice none 0 0] 25) ∧ Hid (Dt.Rowing wr (D + 1) (.slice al k cl) ps ∧ ps.length = k) ∧ Hid (Rd.St wr P tb C xs us at_ er) ∧ Hid (Rd.VInv ta RR f (ps.map Dt.P.d) us at_ er ∧ f ≤ F) ∧ Hid (Keep (fun k => k = P) w wr) ∧ Hid (Keep (fun k => k = P ∨ D ≤ k) w3 wr)) (fun _ wr => Rd.meas wr P)
 case atStart => exact ⟨0, [], none, 0, F, r, 0, 0, HD3, HROW0, HST3, ⟨HV0.out, Nat.le_refl _⟩, HK3, Keep.refl _ _⟩
 case round =>
  clear HD3 HROW0 HST3 HV0 HK3
  obtain ⟨k, ps, al, cl, f, us, at_, er, HDB, HRW, HST, HV, HK, HK2⟩ := hrel
  obtain ⟨pa, pre, hP, hpre, hpa⟩ := HST.out
  have hTr := HT3.out.keep HK2.out (by have := HN.out; omega)
  have hRr := HR3.out.keep HK2.out (by have := HN.out; omega)
  have p0 := hP.cell 0 rfl
  have p2 := hP.cell 2 rfl
  have y1 := hTr.cell 1 rfl
  have hmeas := HST.out.meas
  have hgw : D < wr.heap.size := HDB.out.lt
  have HTR := Lib.hid hTr
  have HRR := Lib.hid hRr
  have HFIN : Hid (∀ (wz : World) (rest : List Lx.PTok) (a2 e2 : Int), Keep (fun k => k = P) w wz → Dt.Row (fun k => D + 1 ≤ k) wz (.slice al k cl) (ps.map Dt.P.d) → Rd.St wz P tb C xs rest a2 e2 → Rd.Says RR (Rd.vecD (ps.map Dt.P.d)) rest a2 e2 → Rd.Out P tb C xs w RR (.returned (.agg #[.int .i64 8, .int .i64 0, .string ⟨#[]⟩, .slice none 0 0, .slice al k cl, .slice none 0 0])) (set6 wz R (.int .i64 8) (.int .i64 0) (.string ⟨#[]⟩) (.slice none 0 0) (.slice al k cl) (.slice none 0 0))) := fun wz rest a2 e2 h1 h2 h3 h4 =>
   Rd.Out.fin (x := Rd.vecD (ps.map Dt.P.d)) h1 (by have := HN.out; omega) (by have := HN.out; omega) (Dt.Rep.mono (fun b hb _ => by have := HN.out; omega) _ (Rd.rep_row 8 h2)) (Rd.own_nz HRW.out.1.row) h3 h4
  by_cases he : er = 0
  case neg =>
   have he1 : (er == 0) = false := by simpa using he
   obtain ⟨b, hb1, hb2⟩ : ∃ b : Nat, at_ = (b : Int) ∧ RR = .bad b er := HV.out.1.elim (fun h => absurd h.1 he) (fun h => h.2)
   have HE := Lib.hid (HFIN.out wr us at_ er HK.out (HRW.out.2 ▸ HRW.out.1.to_row) HST.out (.inr ⟨b, er, hb2, hb1, rfl, he⟩))
   have d0 := HDB.out.cell 0 rfl
   have d1 := HDB.out.cell 1 rfl
   have d2 := HDB.out.cell 2 rfl
   have d3 := HDB.out.cell 3 rfl
   have d4 := HDB.out.cell 4 rfl
   have d5 := HDB.out.cell 5 rfl
   have r0 := hRr.cell 0 rfl
   have r1 := hRr.cell 1 rfl
   have r2 := hRr.cell 2 rfl
   have r3 := hRr.cell 3 rfl
   have r4 := hRr.cell 4 rfl
   have r5 := hRr.cell 5 rfl
   have k0 := hRr.frz 0
   have k1 := hRr.frz 1
   have k2 := hRr.frz 2
   have k3 := hRr.frz 3
   have k4 := hRr.frz 4
   have k5 := hRr.frz 5
   clear hP hpre hpa p0 hmeas hTr hRr hb1 hb2 he HV
   go_wp2
   refine bodyPost_ret (v := .agg #[.int .i64 8, .int .i64 0, .string ⟨#[]⟩, .slice none 0 0, .slice al k cl, .slice none 0 0]) (by simp [results, Try.results43, go_sem, *]) rfl ?_
   exact HE.out
  subst he
  obtain ⟨-, rfl, hpv, hro, ⟨q, rfl⟩, hkn⟩ : (0 : Int) = 0 ∧ at_ = 0 ∧ Rd.pv f ta (ps.map Dt.P.d) us = RR ∧ RR ≠ .out ∧ (∃ q, f = q + 1) ∧ (ps.map Dt.P.d).length + us.length ≤ 4096 := HV.out.1.elim id (fun h => absurd rfl h.1)
  have hfF := HV.out.2
  cases us with
  | nil =>
   rw [Rd.pv] at hpv
   have hf := fail_any P tb C xs [] (ta : Int) 41 wr HST.out
   rw [List.length_nil] at p0
   have HPV := Lib.hid hpv
   clear hP hpre hpa hmeas hTr hRr hpv hro HV hkn
   go_wp2_with fail
   refine hf.mono ?_
   rintro e w4 ⟨rfl, hst4, hk4⟩
   unfold Rd.zeroD
   have hR4 := HRR.out.keep hk4 (by have := HN.out; omega)
   have HE := Lib.hid (Rd.Out.fin (r := RR) (x := .mk 0 0 ⟨#[]⟩ [] [] []) (HK.out.trans hk4) (R := R) (by have := HN.out; omega) (by have := HN.out; omega) (Rd.rep_zero _ _) (.inl rfl) hst4 (.inr ⟨ta, 41, HPV.out.symm, rfl, rfl, by decide⟩))
   have r0 := hR4.cell 0 rfl
   have r1 := hR4.cell 1 rfl
   have r2 := hR4.cell 2 rfl
   have r3 := hR4.cell 3 rfl
   have r4 := hR4.cell 4 rfl
   have r5 := hR4.cell 5 rfl
   have k0 := hR4.frz 0
   have k1 := hR4.frz 1
   have k2 := hR4.frz 2
   have k3 := hR4.frz 3
   have k4 := hR4.frz 4
   have k5 := hR4.frz 5
   clear hf hst4 hk4 hR4 p0 p2 y1
   go_wp2
   refine bodyPost_ret (v := .agg #[.int .i64 0, .int .i64 0, .string ⟨#[]⟩, .slice none 0 0, .slice none 0 0, .slice none 0 0]) (by simp [results, Try.results43, go_sem, *]) rfl ?_
   exact HE.out
  | cons x us =>
   obtain rfl := hpa (by simp)
   have hlen : xs.length = pre.length + (us.length + 1) := by rw [hpre]; simp
   have hpi : pre.length < xs.length := by omega
   have hsrc := HSRC.out.keep HK.out (fun e => HG.out.ne e.symm)
   obtain ⟨x0, -, -, -, -⟩ := hsrc.tok pre.length hpi
   have hxi : xs[pre.length] = x := by simp only [hpre]; simp
   rw [hxi] at x0
   have hulen : us.length ≤ 4096 := by have := HG.out.few; omega
   rw [show (x :: us).length = us.length + 1 from rfl] at p0
   obtain ⟨n, hn⟩ : ∃ n, us.length = n := ⟨_, rfl⟩
   obtain ⟨cc, hcc⟩ : ∃ cc, C - pre.length = cc := ⟨_, rfl⟩
   obtain ⟨qq, hqq⟩ : ∃ qq, pre.length * 5 = qq := ⟨_, rfl⟩
   rw [hn, hcc, hqq] at p0
   rw [hqq] at x0
   have hn0 : (((n : Int) + 1) == 0) = false := by simp; omega
   have hnp : (0 : Int) < (n : Int) + 1 := by omega
   obtain ⟨xk, hxk⟩ : ∃ xk, x.t.k = xk := ⟨_, rfl⟩
   rw [hxk] at x0
   have HLN : Hid (us.length = n) := hn
   rw [Rd.pv, hxk] at hpv
   by_cases h2 : xk = 2
   ·have h2' : (xk == 2) = true := by simpa using h2
    rw [if_pos h2] at hpv
    have hnx := next_yes P tb C xs x us 0 0 wr hsrc HST.out HG.out.cap HG.out.few HG.out.C2
    have HPV := Lib.hid hpv
    clear hP hpre hpa hmeas hTr hRr hpv hro HV hkn hlen hpi hxi hulen hn hcc hqq hxk h2 hsrc
    go_wp2_with fail
    refine hnx.mono ?_
    rintro e w4 ⟨rfl, hst4, hk4⟩
    have hR4 := HRR.out.keep hk4 (by have := HN.out; omega)
    have hD4 := HDB.out.keep hk4 (by have := HN.out; omega)
    have hrow4 := HRW.out.1.keep hk4 (fun j hj _ e => by have := HN.out; omega)
    have HE := Lib.hid (HFIN.out w4 us 0 0 (HK.out.trans hk4) hrow4.to_row hst4 (.inl ⟨HPV.out.symm, rfl, rfl⟩))
    have d0 := hD4.cell 0 rfl
    have d1 := hD4.cell 1 rfl
    have d2 := hD4.cell 2 rfl
    have d3 := hD4.cell 3 rfl
    have d4 := hD4.cell 4 rfl
    have d5 := hD4.cell 5 rfl
    have r0 := hR4.cell 0 rfl
    have r1 := hR4.cell 1 rfl
    have r2 := hR4.cell 2 rfl
    have r3 := hR4.cell 3 rfl
    have r4 := hR4.cell 4 rfl
    have r5 := hR4.cell 5 rfl
    have k0 := hR4.frz 0
    have k1 := hR4.frz 1
    have k2 := hR4.frz 2
    have k3 := hR4.frz 3
    have k4 := hR4.frz 4
    have k5 := hR4.frz 5
    clear hnx hst4 hk4 hR4 hD4 hrow4 p0 p2 y1 x0
    go_wp2
    refine bodyPost_ret (v := .agg #[.int .i64 8, .int .i64 0, .string ⟨#[]⟩, .slice none 0 0, .slice al k cl, .slice none 0 0]) (by simp [results, Try.results43, go_sem, *]) rfl ?_
    exact HE.out
   ·have h2' : (xk == 2) = false := by simpa using h2
    rw [if_neg h2] at hpv
    have hdo : Rd.pd q (x :: us) ≠ .out := fun e => by rw [e] at hpv; exact hro hpv.symm
    have hrl := (Rd.res_len q).1 (x :: us) us.length (by simp)
    have hcall := HD.out q (by omega) (x :: us) wr.drew (by simp) (hsrc.below ((Below.refl _ wr).drew)) (HST.out.below ((Below.refl _ wr).drew)) hdo
    have hnext : ∀ (y : Dt.D) (rest : List Lx.PTok) (a2 e2 : Int), Rd.Says (Rd.pd q (x :: us)) y rest a2 e2 → Rd.VInv ta RR q (ps.map Dt.P.d ++ [y]) rest a2 e2 ∧ (if e2 = 0 then rest.length + 1 else 0) < n + 2 := by
     intro y rest a2 e2 hs
     rcases hs with ⟨e, rfl, rfl⟩ | ⟨b, c, e, rfl, rfl, hc0⟩
     ·rw [e] at hpv hrl
      have hl : rest.length ≤ us.length := hrl
      refine ⟨.inl ⟨rfl, rfl, hpv, hro, ?_, by simp only [List.length_append, List.length_cons, List.length_nil] at hkn ⊢; omega⟩, by rw [if_pos rfl]; omega⟩
      cases q with
      | zero => simp only [Rd.pv] at hpv; exact absurd hpv.symm hro
      | succ q => exact ⟨q, rfl⟩
     ·rw [e] at hpv
      exact ⟨.inr ⟨hc0, b, rfl, hpv.symm⟩, by rw [if_neg hc0]; omega⟩
    obtain ⟨RES, hRES⟩ : ∃ RES, Rd.pd q (x :: us) = RES := ⟨_, rfl⟩
    rw [hRES] at hcall hnext
    have HCL := Lib.hid hcall
    have hkl : k ≤ 4096 := by have := HRW.out.2; simp only [List.length_map, List.length_cons] at hkn; omega
    have c4 := HDB.out.cell 4 rfl
    have HDALL : Hid (∀ W, Keep (fun j => j = P) wr W → W.cell? ⟨D, 4, none⟩ = some (.slice al k cl) ∧ D + 1 ≤ W.heap.size ∧ W.ownsRow (D + 1) 25 6 (.slice al k cl) k (Dt.flatP ps)) := fun W hW =>
     ⟨(HDB.out.keep hW (by have := HN.out; omega)).cell 4 rfl, by have := (HDB.out.keep hW (by have := HN.out; omega)).lt; omega, by
      have h := (HRW.out.1.keep hW (fun j hj _ e => by have := HN.out; omega)).row
      rw [HRW.out.2] at h
      exact h⟩
    have HPUSH : Hid (∀ (w2 wD w5 : World) (y : Dt.D) (b1 b2 b3 : Option Addr) (m1 m2 m3 p1 p2 p3 : Nat) (v' : Value) (rest : List Lx.PTok) (a2 e2 : Int), Keep (fun j => j = P) wr w2 → Dt.Rep (fun j => wr.heap.size ≤ j) w2 y (.slice b1 m1 p1) (.slice b2 m2 p2) (.slice b3 m3 p3) → Rd.St w2 P tb C xs rest a2 e2 → Rd.Says RES y rest a2 e2 → Below w2.heap.size w2 wD →
      w5.ownsRow (D + 1) 25 6 v' (k + 1) (Dt.flatP ps ++ [.int .i64 y.k, .int .i64 y.n, .string y.s, .slice b1 m1 p1, .slice b2 m2 p2, .slice b3 m3 p3]) → wD.grownBy w5 (Value.slice al k cl).ownBlock → (v'.ownBlock = (Value.slice al k cl).ownBlock ∨ v'.ownBlock = some wD.heap.size) →
      w5.cell? ⟨D, 4, none⟩ = some (.slice al k cl) ∧ w5.frozen? ⟨D, 4, none⟩ = false ∧ Hid (Hp (w5.setCell ⟨D, 4, none⟩ v') D #[.int .i64 8, .int .i64 0, .string ⟨#[]⟩, .slice none 0 0, v', .slice none 0 0] 25 ∧ (Dt.Rowing (w5.setCell ⟨D, 4, none⟩ v') (D + 1) v' (ps ++ [Dt.P.mk y (.slice b1 m1 p1) (.slice b2 m2 p2) (.slice b3 m3 p3)]) ∧ (ps ++ [Dt.P.mk y (.slice b1 m1 p1) (.slice b2 m2 p2) (.slice b3 m3 p3)]).length = k + 1) ∧ Rd.St (w5.setCell ⟨D, 4, none⟩ v') P tb C xs rest a2 e2 ∧ (Rd.VInv ta RR q ((ps ++ [Dt.P.mk y (.slice b1 m1 p1) (.slice b2 m2 p2) (.slice b3 m3 p3)]).map Dt.P.d) rest a2 e2 ∧ q ≤ F) ∧ Keep (fun j => j = P) w (w5.setCell ⟨D, 4, none⟩ v') ∧ Keep (fun j => j = P ∨ D ≤ j) w3 (w5.setCell ⟨D, 4, none⟩ v') ∧ Rd.meas (w5.setCell ⟨D, 4, none⟩ v') P < Rd.meas wr P)) := by
     intro w2 wD w5 y b1 b2 b3 m1 m2 m3 p1 p2 p3 v' rest a2 e2 hk2 hr2 hst2 hs2 hbD hown hgr hat
     have hN := HN.out
     have hlp := HRW.out.2
     have hown2 : w5.ownsRow (D + 1) 25 6 v' (ps.length + 1) (Dt.flatP ps ++ (Dt.P.mk y (.slice b1 m1 p1) (.slice b2 m2 p2) (.slice b3 m3 p3)).cells) := by rw [hlp]; exact hown
     obtain ⟨g1, g2⟩ := Rd.pushK HRW.out.1 (by have := HDB.out.lt; omega) hk2 (fun j hj e => by omega) hr2 hbD hown2 hgr hat
     have hvb : ∀ j, (Value.slice al k cl).ownBlock = some j → D + 1 ≤ j ∧ j < wr.heap.size := fun j e => Dt.own_lt HRW.out.1.row j e
     have hD5 := HDB.out.keep g2 (fun e => e.elim (fun e => by omega) (fun e => by have := hvb D e; omega))
     have hk6 : Keep (fun j => j = D) w5 (w5.setCell ⟨D, 4, none⟩ v') := set_keep _ _ _ _
     have hst5 : Rd.St (w5.setCell ⟨D, 4, none⟩ v') P tb C xs rest a2 e2 := by
      refine ((hst2.below hbD).keep (Dt.Cd_keep_grown hgr) (fun e => by have := hvb P e; omega)).keep hk6 (by omega)
     have hkw : Keep (fun j => j = P ∨ D ≤ j) wr (w5.setCell ⟨D, 4, none⟩ v') := (g2.le (fun j e => e.elim .inl (fun e => .inr (by have := hvb j e; omega)))).trans (hk6.le (fun j e => .inr (by omega)))
     obtain ⟨n1, n2⟩ := hnext y rest a2 e2 hs2
     refine ⟨hD5.cell 4 rfl, hD5.frz 4, hD5.set 4 _, ⟨g1.keep hk6 (fun j hj _ e => by omega), by rw [List.length_append, hlp]; rfl⟩, hst5, ⟨by rw [List.map_append]; exact n1, by omega⟩, ?_, HK2.out.trans hkw, ?_⟩
     ·exact (((HK.out.le (T := fun j => j = P ∨ D ≤ j) (fun j e => .inl e)).trans hkw)).mono (fun j hj e => by omega)
     ·rw [hst5.meas, HST.out.meas, if_pos rfl]
      simp only [List.length_cons]
      omega
    have hm1 : k + 1 ≤ maxLen := by unfold maxLen; omega
    have hm2 : (k + 1) * 104 ≤ 140737488355328 := by omega
    have HBD : Hid (Keep (fun j => j = P) wr wr.drew) := (Keep.refl _ wr).drew 1
    obtain ⟨-, HB0, -⟩ := HDALL.out wr (Keep.refl _ _)
    clear hP hpre hpa hmeas hTr hRr hpv hro HV hkn hlen hpi hxi hulen hn hcc hqq hxk h2 hsrc hdo hrl hcall hnext hRES HRW HST HK HK2 HDB HFIN HTR HRR hkl
    go_upto_region 7 with fail
    clear p0 p2 y1 x0
    go_region_law (first | (refine Ap.step rfl (.tmp 34) (.tmp 37) 23 (by kernel_rfl) (D + 1) 25 i0 (.agg #[.int .i64 0, .int .i64 0, .string ⟨#[]⟩, .slice none 0 0, .slice none 0 0, .slice none 0 0]) 6 104 Try.underlying23 HI1.out HZ0.out HZ1.out HZ2.out rfl (by decide) (.slice al k cl) k (Dt.flatP ps) (by kernel_rfl) HOWND.out (.slice (some ⟨w2.heap.size, 0, none⟩) 1 1) 1 [.int .i64 y.k, .int .i64 y.n, .string y.s, .slice b1 m1 p1, .slice b2 m2 p2, .slice b3 m3 p3] (by kernel_rfl) HSRD.out rfl (by simp [Value.oneCell']) hm1 hm2 HBS.out ?_; intro v' w5 hown hgrow hat; obtain ⟨a5, c5, rfl⟩ := Dt.row_form hown; obtain ⟨d1, f1, HFN⟩ := HPUSH.out w2 wD w5 y b1 b2 b3 m1 m2 m3 p1 p2 p3 _ rest a2 e2 HKW.out HR2W.out HSTW.out HSAY.out HBWD.out hown hgrow hat; clear hown hgrow hat) | (go_simp; refine HCL.out.mono ?_; rintro e w2 ⟨y, vm, vl, vt, rest, a2, e2, rfl, hr2, -, hst2, hk2, hsay⟩; obtain ⟨b1, m1, p1, b2, m2, p2, b3, m3, p3, rfl, rfl, rfl⟩ := hr2.forms; have HKW : Hid (Keep (fun j => j = P) wr w2) := HBD.out.trans hk2; have HR2W : Hid (Dt.Rep (fun k => wr.heap.size ≤ k) w2 y (.slice b1 m1 p1) (.slice b2 m2 p2) (.slice b3 m3 p3)) := hr2; have HSTW := Lib.hid hst2; have HSAY := Lib.hid hsay; obtain ⟨wD, hwD⟩ : ∃ wD, w2.alloc (.cells #[.int .i64 y.k, .int .i64 y.n, .string y.s, .slice b1 m1 p1, .slice b2 m2 p2, .slice b3 m3 p3] 25) = wD := ⟨_, rfl⟩; have HBWD : Hid (Below w2.heap.size w2 wD) := (new_below hwD).1; have HSRD : Hid (Ap.Src wD (.slice (some ⟨w2.heap.size, 0, none⟩) 1 1) 1 [.int .i64 y.k, .int .i64 y.n, .string y.s, .slice b1 m1 p1, .slice b2 m2 p2, .slice b3 m3 p3]) := Rd.srcNew hwD; obtain ⟨e1, -, -⟩ := HDALL.out w2 HKW.out; obtain ⟨e3, hbs, howD⟩ := HDALL.out wD (HKW.out.trans (keep_of_below HBWD.out)); have HBS := Lib.hid hbs; have HOWND := Lib.hid howD; clear hr2 hst2 hk2 hsay hbs howD; dsimp only))
    all_goals
     go_wp2
     go_roundw
     case rel =>
      obtain ⟨h1, h2, h3, h4, h5, h6, h7⟩ := HFN.out
      exact ⟨k + 1, ps ++ [Dt.P.mk y (.slice b1 m1 p1) (.slice b2 m2 p2) (.slice b3 m3 p3)], a5, c5, q, rest, a2, e2, h1, h2, h3, h4, h5, h6⟩
     case measure => exact HFN.out.2.2.2.2.2.2
end Go.Proofs.Ytcopdfihaheplaa
namespace Go.Proofs.Ytcopdfihaheplaa
open Go.RowKit
attribute [local go_sem] Oper.semAt_some
namespace Rd
open Dt Lx
theorem row_one {F : Nat → Prop} {w w1 : World} {y : D} {vm vl vt : Value} (h : w.alloc (.cells #[.int .i64 y.k, .int .i64 y.n, .string y.s, vm, vl, vt] 25) = w1) (hr : Rep F w y vm vl vt) (hF : F w.heap.size) : Row F w1 (.slice (some ⟨w.heap.size, 0, none⟩) 1 1) [y] := by
 have hp := Hp.new h
 refine ⟨_, _, rfl, Nat.le_refl _, fun _ => ⟨_, _, rfl, hF, hp.lt, ?_⟩⟩
 rw [Reps, Reps]
 exact ⟨⟨vm, vl, vt, ⟨hp.cell 0 rfl, hp.cell 1 rfl, hp.cell 2 rfl, hp.cell 3 rfl, hp.cell 4 rfl, hp.cell 5 rfl⟩, hr.below (new_below h).1⟩, trivial⟩
end Rd
set_option maxRecDepth 100000 in
set_option maxHeartbeats 16000000 in
theorem tail_any (P tb C : Nat) (xs : List Lx.PTok) (hG : Rd.G P tb C xs) (F : Nat) (hD : ∀ g, g < F → Rd.DatumIs P tb C xs g) (t : Lx.PTok) (r : List Lx.PTok) (w : World) (base : Nat) (ps : List Dt.P) (al : Option Addr) (k cl : Nat) (hSrc : Rd.Src w tb xs) (hSt : Rd.St w P tb C xs r 0 0)
  (hrow : Dt.Rowing w base (.slice al k cl) ps) (hk : ps.length = k) (hbase : base ≤ w.heap.size) (hPb : P < base) (hkn : k + r.length ≤ 4096) (hR : Rd.pt F t.at_ (ps.map Dt.P.d) r ≠ .out) :
  Calls Try.prog 68 #[.pointer (some ⟨P, 0, none⟩), Rd.tokV t, .agg #[.int .i64 6, .int .i64 0, .string ⟨#[]⟩, .slice none 0 0, .slice al k cl, .slice none 0 0]] w (Rd.OutB base P tb C xs w (Rd.pt F t.at_ (ps.map Dt.P.d) r)) := by
 unfold Rd.tokV
 obtain ⟨tk, htk⟩ : ∃ tk, t.t.k = tk := ⟨_, rfl⟩
 obtain ⟨tn, htn⟩ : ∃ tn, t.t.n = tn := ⟨_, rfl⟩
 obtain ⟨ts, hts⟩ : ∃ ts : ByteArray, ⟨t.t.s.toArray⟩ = ts := ⟨_, rfl⟩
 obtain ⟨ta, hta⟩ : ∃ ta : Nat, t.at_ = ta := ⟨_, rfl⟩
 obtain ⟨tz, hto⟩ : ∃ tz : Int, (t.to : Int) = tz := ⟨_, rfl⟩
 rw [hta] at hR ⊢
 rw [htk, htn, hts, hto]
 clear htk htn hts hta hto
 obtain ⟨RR, hRR⟩ : ∃ RR, Rd.pt F ta (ps.map Dt.P.d) r = RR := ⟨_, rfl⟩
 rw [hRR] at hR ⊢
 obtain ⟨q, rfl⟩ : ∃ q, F = q + 1 := by
  cases F with
  | zero => rw [Rd.pt] at hRR; exact absurd hRR.symm hR
  | succ q => exact ⟨q, rfl⟩
 obtain ⟨w1, hw1⟩ : ∃ w1, w.alloc (.cells #[.int .i64 tk, .int .i64 (ta : Int), .int .i64 tz, .int .i64 tn, .string ts] 47) = w1 := ⟨_, rfl⟩
 obtain ⟨w2, hw2⟩ : ∃ w2, w1.alloc (.cells #[.int .i64 6, .int .i64 0, .string ⟨#[]⟩, .slice none 0 0, .slice al k cl, .slice none 0 0] 25) = w2 := ⟨_, rfl⟩
 obtain ⟨w3, hw3⟩ : ∃ w3, w2.alloc (.cells #[.int .i64 0, .int .i64 0, .string ⟨#[]⟩, .slice none 0 0, .slice none 0 0, .slice none 0 0] 25) = w3 := ⟨_, rfl⟩
 obtain ⟨hb1, hs1⟩ := new_below hw1
 obtain ⟨hb2, hs2⟩ := new_below hw2
 obtain ⟨hb3, hs3⟩ := new_below hw3
 have hT3 := ((Hp.new hw1).below hb2).below hb3
 have hD3 := (Hp.new hw2).below hb3
 have hR3 := Hp.new hw3
 have hb13 := hb1.trans ((hb2.trans (hb3.mono hb2.size)).mono hb1.size)
 obtain ⟨T, hT⟩ : ∃ T, w.heap.size = T := ⟨_, rfl⟩
 obtain ⟨D, hDb⟩ : ∃ D, w1.heap.size = D := ⟨_, rfl⟩
 obtain ⟨R, hRb⟩ : ∃ R, w2.heap.size = R := ⟨_, rfl⟩
 rw [hT] at hT3 hs1
 rw [hDb] at hD3 hs1 hs2
 rw [hRb] at hR3 hs2 hs3
 have HN : Hid (P < base ∧ base ≤ T ∧ D = T + 1 ∧ R = T + 2 ∧ w3.heap.size = T + 3 ∧ w.heap.size = T) := ⟨hPb, hT ▸ hbase, hs1, by omega, by omega, hT⟩
 have hst3 := hSt.below hb13
 have hsrc3 := hSrc.below hb13
 have hrow3 := hrow.below hb13
 have hrl3 : Dt.Row (fun j => base ≤ j ∧ j < T) w3 (.slice al k cl) (ps.map Dt.P.d) := (Dt.Row.mono hrow.to_row (fun j h1 h2 => ⟨h1, by omega⟩)).below hb13
 have HRL3 := Lib.hid hrl3
 have HLT : Hid (∀ j, (Value.slice al k cl).ownBlock = some j → base ≤ j ∧ j < T) := fun j e => by have := Dt.own_lt hrow.row j e; exact ⟨this.1, by omega⟩
 have HRP3 : Hid (∀ p ∈ ps, Dt.Rep (fun j => base ≤ j ∧ j < T ∧ (Value.slice al k cl).ownBlock ≠ some j) w3 p.d p.vm p.vl p.vt) := fun p hp => Dt.Rep.below hb13 (Dt.Rep.mono (fun b hb hl => ⟨hb.1, by omega, hb.2⟩) p.d (hrow.rep p hp))
 have HT3 := Lib.hid hT3
 have HR3 := Lib.hid hR3
 have HD3 := Lib.hid hD3
 have HK3 : Hid (Keep (fun j => j = P ∨ base ≤ j) w w3) := keep_of_below hb13
 have HST3 := Lib.hid hst3
 have HSRC := Lib.hid hsrc3
 have HROW := Lib.hid hrow3
 have HG := Lib.hid hG
 have HD := Lib.hid hD
 have HKL := Lib.hid hk
 have HKN := Lib.hid hkn
 obtain ⟨i0, hi, hz0, hz1, hz2⟩ := info_parts Dt.infoD
 have HI1 := Lib.hid hi
 have HZ0 := Lib.hid hz0
 have HZ1 := Lib.hid hz1
 have HZ2 := Lib.hid hz2
 have HW3 := Lib.hid hw3
 obtain ⟨pa, pre, hP, hpre, hpa⟩ := hst3
 have p0 := hP.cell 0 rfl
 clear hb1 hb2 hb3 hs1 hs2 hs3 hb13 hSt hSrc hG hD hi hz0 hz1 hz2 hrow hk hbase hPb hkn hsrc3 hrow3 hrl3
 cases r with
 | nil =>
  rw [Rd.pt] at hRR
  have HRR := Lib.hid hRR
  have hf := fail_any P tb C xs [] (ta : Int) 41 w3 HST3.out
  have y1 := hT3.cell 1 rfl
  rw [List.length_nil] at p0
  clear hT3 hD3 hR3 hP hpre hpa hRR hR
  go_enter Try.func68, Try.ntmps68
  go_wp2_with fail
  refine hf.mono ?_
  rintro e w4 ⟨rfl, hst4, hk4⟩
  unfold Rd.zeroD
  have hR4 := HR3.out.keep hk4 (by have := HN.out; omega)
  have HE := Lib.hid (Rd.OutB.fin (b := base) (r := RR) (x := .mk 0 0 ⟨#[]⟩ [] [] []) (HK3.out.trans (hk4.le (fun j e => .inl e))) (R := R) (by have := HN.out; omega) (by have := HN.out; omega) (Rd.rep_zero _ _) (.inl rfl) hst4 (.inr ⟨ta, 41, HRR.out.symm, rfl, rfl, by decide⟩))
  have r0 := hR4.cell 0 rfl
  have r1 := hR4.cell 1 rfl
  have r2 := hR4.cell 2 rfl
  have r3 := hR4.cell 3 rfl
  have r4 := hR4.cell 4 rfl
  have r5 := hR4.cell 5 rfl
  have k0 := hR4.frz 0
  have k1 := hR4.frz 1
  have k2 := hR4.frz 2
  have k3 := hR4.frz 3
  have k4 := hR4.frz 4
  have k5 := hR4.frz 5
  clear hf hst4 hk4 hR4 p0 y1 hw1 hw2 hw3
  go_wp2
  refine bodyPost_ret (v := .agg #[.int .i64 0, .int .i64 0, .string ⟨#[]⟩, .slice none 0 0, .slice none 0 0, .slice none 0 0]) (by simp [results, Try.results68, go_sem, *]) rfl ?_
  exact HE.out
 | cons x us =>
  have hlen : xs.length = pre.length + (us.length + 1) := by rw [hpre]; simp
  rw [Rd.pt] at hRR
  have hdo : Rd.pd q (x :: us) ≠ .out := fun e => by rw [e] at hRR; exact hR hRR.symm
  have hrl := (Rd.res_len q).1 (x :: us) us.length (by simp)
  have hmany := (Rd.res_many q).1 (x :: us)
  have hcall := HD.out q (by omega) (x :: us) w3 (by simp) HSRC.out HST3.out hdo
  have hn0 : ((((x :: us).length : Nat) : Int) == 0) = false := by simp; omega
  rw [show (x :: us).length = us.length + 1 from rfl] at p0 hn0
  obtain ⟨n, hn⟩ : ∃ n, us.length = n := ⟨_, rfl⟩
  rw [hn] at p0 hn0
  have hn0' : (((n : Int) + 1) == 0) = false := by simp; omega
  have HUL : Hid (us.length = n ∧ n ≤ 4096) := ⟨hn, by have := HG.out.few; omega⟩
  clear hT3 hD3 hR3 hP hpre hpa hlen hn0 hn
  go_enter Try.func68, Try.ntmps68
  go_wp2_with fail
  refine hcall.mono ?_
  rintro e w4 ⟨y, vm, vl, vt, rest, a2, e2, rfl, hr4, hz4, hst4, hk4, hsays⟩
  obtain ⟨b1, m1, p1, b2, m2, p2, b3, m3, p3, rfl, rfl, rfl⟩ := hr4.forms
  clear hcall p0 hw1 hw2 hw3
  have hT4 := HT3.out.keep hk4 (by have := HN.out; omega)
  have hD4 := HD3.out.keep hk4 (by have := HN.out; omega)
  have hR4 := HR3.out.keep hk4 (by have := HN.out; omega)
  have hrow4 := HROW.out.keep hk4 (fun j hj _ e => by have := HN.out; omega)
  have hsrc4 := HSRC.out.keep hk4 (fun e => HG.out.ne e.symm)
  obtain ⟨w5, hw5⟩ : ∃ w5, w4.alloc (.cells #[.int .i64 y.k, .int .i64 y.n, .string y.s, .slice b1 m1 p1, .slice b2 m2 p2, .slice b3 m3 p3] 25) = w5 := ⟨_, rfl⟩
  obtain ⟨hb5, hs5⟩ := new_below hw5
  have hX5 := Hp.new hw5
  have hT5 := hT4.below hb5
  have hD5 := hD4.below hb5
  have hR5 := hR4.below hb5
  have hrow5 := hrow4.below hb5
  have hst5 := hst4.below hb5
  have hsrc5 := hsrc4.below hb5
  have hry5 : Dt.Rep (fun j => T + 3 ≤ j) w5 y (.slice b1 m1 p1) (.slice b2 m2 p2) (.slice b3 m3 p3) := Dt.Rep.mono (fun b hb _ => by have := HN.out; omega) y (hr4.below hb5)
  have HK5 : Hid (Keep (fun j => j = P ∨ base ≤ j) w w5) := (HK3.out.trans (hk4.le (fun j e => .inl e))).trans (keep_of_below hb5)
  obtain ⟨X, hX⟩ : ∃ X, w4.heap.size = X := ⟨_, rfl⟩
  rw [hX] at hX5 hs5
  have HP35 : Hid (Keep (fun j => j = P) w3 w5) := hk4.trans (keep_of_below hb5)
  have HNX : Hid (T + 3 ≤ X ∧ w5.heap.size = X + 1) := ⟨by have h1 := HN.out; have h2 := hk4.size; omega, hs5⟩
  have hrl5 := (HRL3.out.keep hk4 (fun j hj _ e => by have := HN.out; omega)).below hb5
  have HRL5 := Lib.hid hrl5
  have HX5 := Lib.hid hX5
  have HT5 := Lib.hid hT5
  have HD5 := Lib.hid hD5
  have HR5 := Lib.hid hR5
  have HROW5 := Lib.hid hrow5
  have HST5 := Lib.hid hst5
  have HSRC5 := Lib.hid hsrc5
  have HRY5 := Lib.hid hry5
  have HZ4 := Lib.hid hz4
  obtain ⟨pa5, pre5, hP5, hpre5, hpa5⟩ := hst5
  have p2' := hP5.cell 2 rfl
  have p0 := hP5.cell 0 rfl
  have y1 := hT5.cell 1 rfl
  clear hT4 hD4 hR4 hrow4 hsrc4 hst4 hb5 hs5 hk4 hr4 hz4
  rcases hsays with ⟨hpd, rfl, rfl⟩ | ⟨b, c, hpd, rfl, rfl, hc0⟩
  case inr =>
   rw [hpd] at hRR
   have he1 : (e2 != 0) = true := by simpa using hc0
   have HE := Lib.hid (Rd.OutB.fin (b := base) (r := RR) (x := Rd.listD (ps.map Dt.P.d)) HK5.out (R := R) (by have := HN.out; omega) (by have := HN.out; omega) (Rd.rep_row 6 (Dt.Row.mono HRL5.out (fun j hj _ => by have := HN.out; omega))) (Rd.own_nz hrow5.row) HST5.out (.inr ⟨b, e2, hRR.symm, rfl, rfl, hc0⟩))
   have d0 := hD5.cell 0 rfl
   have d1 := hD5.cell 1 rfl
   have d2 := hD5.cell 2 rfl
   have d3 := hD5.cell 3 rfl
   have d4 := hD5.cell 4 rfl
   have d5 := hD5.cell 5 rfl
   have r0 := hR5.cell 0 rfl
   have r1 := hR5.cell 1 rfl
   have r2 := hR5.cell 2 rfl
   have r3 := hR5.cell 3 rfl
   have r4 := hR5.cell 4 rfl
   have r5 := hR5.cell 5 rfl
   have k0 := hR5.frz 0
   have k1 := hR5.frz 1
   have k2 := hR5.frz 2
   have k3 := hR5.frz 3
   have k4 := hR5.frz 4
   have k5 := hR5.frz 5
   clear hT5 hD5 hR5 hrow5 hsrc5 hry5 hrl5 hX5 hP5 hpre5 hpa5 hRR hR hdo hrl hpd hc0 hmany
   go_wp2
   refine bodyPost_ret (v := .agg #[.int .i64 6, .int .i64 0, .string ⟨#[]⟩, .slice none 0 0, .slice al k cl, .slice none 0 0]) (by simp [results, Try.results68, go_sem, *]) rfl ?_
   exact HE.out
  case inl =>
   rw [hpd] at hRR hrl hmany
   have hml : y.l.length ≤ 4097 := by have h1 : y.l.length + rest.length ≤ us.length + 1 := hmany; have h2 := HUL.out; omega
   clear hmany
   have hrl2 : rest.length ≤ us.length := hrl
   have he1 : ((0 : Int) != 0) = false := rfl
   cases rest with
   | nil =>
    have hnx := next_no P tb C xs 0 0 w5 HST5.out
    have HRR := Lib.hid hRR
    clear hT5 hD5 hR5 hrow5 hsrc5 hry5 hrl5 hX5 hP5 hpre5 hpa5 hRR hR hdo hrl hrl2 hpd
    go_wp2_with fail
    refine hnx.mono ?_
    rintro e w6 ⟨rfl, hst6, hk6⟩
    unfold Rd.noTok
    clear hw5 p0 p2'
    go_upto_region 7 with fail
    obtain ⟨w7, hw7⟩ : ∃ w7, w6.alloc (.cells #[.int .i64 0, .int .i64 0, .int .i64 0, .int .i64 0, .string ⟨#[]⟩] 47) = w7 := ⟨_, rfl⟩
    rw [hw7]
    obtain ⟨hb7, hs7⟩ := new_below hw7
    have hf := fail_any P tb C xs [] (ta : Int) 41 w7 (hst6.below hb7)
    have hT7 := (HT5.out.keep hk6 (by have := HN.out; omega)).below hb7
    have hR7 := (HR5.out.keep hk6 (by have := HN.out; omega)).below hb7
    have y1 := hT7.cell 1 rfl
    have HR7 := Lib.hid hR7
    have HK7 : Hid (Keep (fun j => j = P ∨ base ≤ j) w w7) := (HK5.out.trans (hk6.le (fun j e => .inl e))).trans (keep_of_below hb7)
    clear hnx hst6 hk6 hb7 hs7 hT7 hR7 hw7
    go_wp2_with fail
    refine hf.mono ?_
    rintro e w8 ⟨rfl, hst8, hk8⟩
    unfold Rd.zeroD
    have hR8 := HR7.out.keep hk8 (by have := HN.out; omega)
    have HE := Lib.hid (Rd.OutB.fin (b := base) (r := RR) (x := .mk 0 0 ⟨#[]⟩ [] [] []) (HK7.out.trans (hk8.le (fun j e => .inl e))) (R := R) (by have := HN.out; omega) (by have := HN.out; omega) (Rd.rep_zero _ _) (.inl rfl) hst8 (.inr ⟨ta, 41, HRR.out.symm, rfl, rfl, by decide⟩))
    have r0 := hR8.cell 0 rfl
    have r1 := hR8.cell 1 rfl
    have r2 := hR8.cell 2 rfl
    have r3 := hR8.cell 3 rfl
    have r4 := hR8.cell 4 rfl
    have r5 := hR8.cell 5 rfl
    have k0 := hR8.frz 0
    have k1 := hR8.frz 1
    have k2 := hR8.frz 2
    have k3 := hR8.frz 3
    have k4 := hR8.frz 4
    have k5 := hR8.frz 5
    clear hf hst8 hk8 hR8 y1
    go_wp2
    refine bodyPost_ret (v := .agg #[.int .i64 0, .int .i64 0, .string ⟨#[]⟩, .slice none 0 0, .slice none 0 0, .slice none 0 0]) (by simp [results, Try.results68, go_sem, *]) rfl ?_
    exact HE.out
   | cons z rest =>
    have hnx := next_yes P tb C xs z rest 0 0 w5 HSRC5.out HST5.out HG.out.cap HG.out.few HG.out.C2
    have HRR := Lib.hid hRR
    have HRN : Hid (rest.length + 1 ≤ n) := by have := HUL.out.1; show _ ≤ _; simp only [List.length_cons] at hrl2; omega
    clear hT5 hD5 hR5 hrow5 hsrc5 hry5 hrl5 hX5 hP5 hpre5 hpa5 hRR hrl hrl2 hpd
    go_wp2_with fail
    refine hnx.mono ?_
    rintro e w6 ⟨rfl, hst6, hk6⟩
    unfold Rd.tokV
    obtain ⟨zk, hzk⟩ : ∃ zk, z.t.k = zk := ⟨_, rfl⟩
    obtain ⟨zn, hzn⟩ : ∃ zn, z.t.n = zn := ⟨_, rfl⟩
    obtain ⟨zs, hzs⟩ : ∃ zs : ByteArray, ⟨z.t.s.toArray⟩ = zs := ⟨_, rfl⟩
    obtain ⟨za, hza⟩ : ∃ za : Nat, z.at_ = za := ⟨_, rfl⟩
    obtain ⟨zz, hzz⟩ : ∃ zz : Int, (z.to : Int) = zz := ⟨_, rfl⟩
    rw [hzk, hzn, hzs, hza, hzz]
    have HZK := Lib.hid hzk
    have HZA := Lib.hid hza
    clear hzn hzs hza hzz hzk
    obtain ⟨w7, hw7⟩ : ∃ w7, w6.alloc (.cells #[.int .i64 zk, .int .i64 (za : Int), .int .i64 zz, .int .i64 zn, .string zs] 47) = w7 := ⟨_, rfl⟩
    obtain ⟨hb7, hs7⟩ := new_below hw7
    have hE7 := Hp.new hw7
    have hst7 := hst6.below hb7
    have hT7 := (HT5.out.keep hk6 (by have := HN.out; omega)).below hb7
    have hD7 := (HD5.out.keep hk6 (by have := HN.out; omega)).below hb7
    have hR7 := (HR5.out.keep hk6 (by have := HN.out; omega)).below hb7
    have hX7 := (HX5.out.keep hk6 (by have := HN.out; have := HNX.out; omega)).below hb7
    have hrow7 := (HROW5.out.keep hk6 (fun j hj _ e => by have := HN.out; omega)).below hb7
    have hry7 := (Dt.Rep.keep hk6 (fun j hj _ e => by have := HN.out; omega) y HRY5.out).below hb7
    have HR7 := Lib.hid hR7
    have HD7 := Lib.hid hD7
    have HX7 := Lib.hid hX7
    have HROW7 := Lib.hid hrow7
    have HRY7 := Lib.hid hry7
    have HST7 := Lib.hid hst7
    have HK7 : Hid (Keep (fun j => j = P ∨ base ≤ j) w w7) := (HK5.out.trans (hk6.le (fun j e => .inl e))).trans (keep_of_below hb7)
    have HP7 : Hid (Keep (fun j => j = P) w3 w7) := HP35.out.trans (hk6.trans (keep_of_below hb7))
    have HS7 : Hid (X + 1 ≤ w7.heap.size) := by have h1 := HNX.out.2; have h2 := hk6.size; show _ ≤ _; omega
    obtain ⟨E, hEe⟩ : ∃ E, w6.heap.size = E := ⟨_, rfl⟩
    rw [hEe] at hE7
    have z0 := hE7.cell 0 rfl
    have z1 := hE7.cell 1 rfl
    clear hnx hst6 hk6 hb7 hs7 hw5 p0 p2' hE7
    by_cases h2 : zk = 2
    case neg =>
     have h2' : (zk != 2) = true := by simpa using h2
     have hf := fail_any P tb C xs rest (za : Int) 40 w7 HST7.out
     have hRR2 : RR = .bad za 40 := by rw [← HRR.out]; simp only [HZK.out, HZA.out]; rw [if_neg h2]
     have HR2 := Lib.hid hRR2
     clear h2 hRR2 hst7 hT7 hD7 hR7 hX7 hrow7 hry7 hR hdo
     go_wp2_with fail
     refine hf.mono ?_
     rintro e w8 ⟨rfl, hst8, hk8⟩
     unfold Rd.zeroD
     have hR8 := HR7.out.keep hk8 (by have := HN.out; omega)
     have HE := Lib.hid (Rd.OutB.fin (b := base) (r := RR) (x := .mk 0 0 ⟨#[]⟩ [] [] []) (HK7.out.trans (hk8.le (fun j e => .inl e))) (R := R) (by have := HN.out; omega) (by have := HN.out; omega) (Rd.rep_zero _ _) (.inl rfl) hst8 (.inr ⟨za, 40, HR2.out, rfl, rfl, by decide⟩))
     have r0 := hR8.cell 0 rfl
     have r1 := hR8.cell 1 rfl
     have r2 := hR8.cell 2 rfl
     have r3 := hR8.cell 3 rfl
     have r4 := hR8.cell 4 rfl
     have r5 := hR8.cell 5 rfl
     have k0 := hR8.frz 0
     have k1 := hR8.frz 1
     have k2 := hR8.frz 2
     have k3 := hR8.frz 3
     have k4 := hR8.frz 4
     have k5 := hR8.frz 5
     clear hf hst8 hk8 hR8 hw7 z0 z1
     go_wp2
     refine bodyPost_ret (v := .agg #[.int .i64 0, .int .i64 0, .string ⟨#[]⟩, .slice none 0 0, .slice none 0 0, .slice none 0 0]) (by simp [results, Try.results68, go_sem, *]) rfl ?_
     exact HE.out
    case pos =>
     have h2' : (zk != 2) = false := by simpa using h2
     have hRR2 : RR = .ok (Rd.joinD (ps.map Dt.P.d) y) rest := by rw [← HRR.out]; simp only [HZK.out]; rw [if_pos h2]
     have HR2 := Lib.hid hRR2
     have x0 := hX7.cell 0 rfl
     have HXC : Hid (w7.cell? ⟨X, 0, none⟩ = some (.int .i64 y.k) ∧ w7.cell? ⟨X, 4, none⟩ = some (.slice b2 m2 p2) ∧ w7.cell? ⟨X, 5, none⟩ = some (.slice b3 m3 p3) ∧ w7.cell? ⟨D, 4, none⟩ = some (.slice al k cl)) := ⟨hX7.cell 0 rfl, hX7.cell 4 rfl, hX7.cell 5 rfl, hD7.cell 4 rfl⟩
     have HNE : Hid (¬ X = R ∧ ¬ D = R ∧ ¬ P = R ∧ R < w7.heap.size) := by have h1 := HN.out; have h3 := HNX.out; have h4 := HS7.out; exact ⟨by omega, by omega, by omega, by omega⟩
     have HRP7 : Hid (∀ p ∈ ps, Dt.Rep (fun j => base ≤ j ∧ j < T ∧ (Value.slice al k cl).ownBlock ≠ some j) w7 p.d p.vm p.vl p.vt) := fun p hp => Dt.Rep.keep HP7.out (fun j hj _ e => by have := HN.out; omega) p.d (HRP3.out p hp)
     have HRL7 : Hid (Dt.Row (fun j => base ≤ j ∧ j < T) w7 (.slice al k cl) (ps.map Dt.P.d)) := HRL3.out.keep HP7.out (fun j hj _ e => by have := HN.out; omega)
     have HNZ : Hid (Rd.Nz (.slice al k cl)) := Rd.own_nz hrow7.row
     by_cases hj : y.k = 6 ∨ y.k = 7
     case neg =>
      have j6 : (y.k == 6) = false := by simp; omega
      have j7 : (y.k == 7) = false := by simp; omega
      have HJ : Hid (Rd.joinD (ps.map Dt.P.d) y = .mk 7 0 ⟨#[]⟩ [] (ps.map Dt.P.d) [y]) := by show _ = _; unfold Rd.joinD; rw [if_neg hj]
      obtain ⟨w8, hw8⟩ : ∃ w8, w7.alloc (.cells #[.int .i64 y.k, .int .i64 y.n, .string y.s, .slice b1 m1 p1, .slice b2 m2 p2, .slice b3 m3 p3] 25) = w8 := ⟨_, rfl⟩
      obtain ⟨hb8, hs8⟩ := new_below hw8
      have hone := Rd.row_one (F := fun j => base ≤ j ∧ j ≠ R) hw8 (Dt.Rep.mono (fun j hj _ => by have := HN.out; omega) y hry7) (by have := HN.out; have := HNE.out; omega)
      have hrep8 : Dt.Rep (fun j => base ≤ j ∧ j ≠ R) w8 (.mk 7 0 ⟨#[]⟩ [] (ps.map Dt.P.d) [y]) (.slice none 0 0) (.slice al k cl) (.slice (some ⟨w7.heap.size, 0, none⟩) 1 1) :=
       (Dt.rep_iff _ _ _ _ _ _).2 ⟨⟨none, 0, rfl, Nat.le_refl _, fun h => absurd rfl h⟩, (Dt.Row.mono HRL7.out (fun j hj _ => by have := HN.out; omega)).below hb8, hone⟩
      have hR8 := hR7.below hb8
      have d4 := (hD7.cell 4 rfl)
      have x0' := hX7.cell 0 rfl
      have x1 := hX7.cell 1 rfl
      have x2 := hX7.cell 2 rfl
      have x3 := hX7.cell 3 rfl
      have x4 := hX7.cell 4 rfl
      have x5 := hX7.cell 5 rfl
      have HE := Lib.hid (Rd.OutB.fin (b := base) (r := RR) (x := .mk 7 0 ⟨#[]⟩ [] (ps.map Dt.P.d) [y]) (HK7.out.trans (keep_of_below hb8)) (R := R) (by have := HN.out; omega) (by have := HN.out; omega) hrep8 HNZ.out (HST7.out.below hb8) (.inl ⟨by rw [HR2.out, HJ.out], rfl, rfl⟩))
      have r0 := hR8.cell 0 rfl
      have r1 := hR8.cell 1 rfl
      have r2 := hR8.cell 2 rfl
      have r3 := hR8.cell 3 rfl
      have r4 := hR8.cell 4 rfl
      have r5 := hR8.cell 5 rfl
      have k0 := hR8.frz 0
      have k1 := hR8.frz 1
      have k2 := hR8.frz 2
      have k3 := hR8.frz 3
      have k4 := hR8.frz 4
      have k5 := hR8.frz 5
      clear hb8 hs8 hone hrep8 hR8 hRR2 hj h2 hst7 hT7 hD7 hR7 hX7 hrow7 hry7 hR hdo
      go_wp2
      refine bodyPost_ret (v := .agg #[.int .i64 7, .int .i64 0, .string ⟨#[]⟩, .slice none 0 0, .slice al k cl, .slice (some ⟨w7.heap.size, 0, none⟩) 1 1]) (by simp [results, Try.results68, go_sem, *]) rfl ?_
      exact HE.out
     case pos =>
      have HJ : Hid (Rd.joinD (ps.map Dt.P.d) y = .mk y.k 0 ⟨#[]⟩ [] (ps.map Dt.P.d ++ y.l) y.t) := by show _ = _; unfold Rd.joinD; rw [if_pos hj]
      obtain ⟨-, hrowl, hrowt⟩ := (Dt.rep_iff _ _ _ _ _ _).1 hry7
      have hm2l : m2 = y.l.length := by obtain ⟨a', c', e, -⟩ := hrowl; cases e; rfl
      obtain ⟨qs, hqd, hqs, hqr⟩ := Rd.row_parts hrowl HZ4.out
      have hql : qs.length = m2 := by rw [hm2l, ← hqd, List.length_map]
      have hN := HN.out
      have hNX := HNX.out
      have hNE := HNE.out
      have HOWN7 : Hid (w7.drew.ownsRow base 25 6 (.slice al k cl) k (Dt.flatP ps)) := by
       have h := hrow7.row
       rw [HKL.out] at h
       exact h
      have HSR : Hid (Ap.Src w7.drew (.slice b2 m2 p2) m2 (Dt.flatP qs)) := hqs
      have HLQ : Hid ((Dt.flatP qs).length = m2 * 6) := by
       show _ = _
       rw [← hql]
       exact Rd.flatP_len qs
      have HONE : Hid (∀ u ∈ Dt.flatP qs, u.oneCell' = true) := Rd.flatP_one qs (fun p hp => (hqr p hp).forms)
      have hm1 : k + m2 ≤ maxLen := by unfold maxLen; have := HKN.out; omega
      have hm3 : (k + m2) * 104 ≤ 140737488355328 := by have := HKN.out; omega
      have HBS : Hid (base ≤ w7.drew.heap.size) := by show base ≤ w7.heap.size; omega
      have HTS : Hid (w7.drew.cell? ⟨X, 0, none⟩ = some (.int .i64 y.k) ∧ w7.drew.cell? ⟨X, 4, none⟩ = some (.slice b2 m2 p2) ∧ w7.drew.cell? ⟨X, 5, none⟩ = some (.slice b3 m3 p3) ∧ w7.drew.cell? ⟨D, 4, none⟩ = some (.slice al k cl)) := HXC.out
      have HPOST : Hid (∀ (w8 : World) (a8 : Option Addr) (c8 : Nat), w8.ownsRow base 25 6 (.slice a8 (k + m2) c8) (k + m2) (Dt.flatP ps ++ Dt.flatP qs) → w7.drew.grownBy w8 (Value.slice al k cl).ownBlock → ((Value.slice a8 (k + m2) c8).ownBlock = (Value.slice al k cl).ownBlock ∨ (Value.slice a8 (k + m2) c8).ownBlock = some w7.drew.heap.size) →
        (w8.cell? ⟨X, 0, none⟩ = some (.int .i64 y.k) ∧ w8.cell? ⟨X, 4, none⟩ = some (.slice b2 m2 p2) ∧ w8.cell? ⟨X, 5, none⟩ = some (.slice b3 m3 p3) ∧ w8.cell? ⟨D, 4, none⟩ = some (.slice al k cl)) ∧ w8.there R 0 6 ∧ ((set6 w8 R (.int .i64 y.k) (.int .i64 0) (.string ⟨#[]⟩) (.slice none 0 0) (.slice a8 (k + m2) c8) (.slice b3 m3 p3)).cell? ⟨X, 0, none⟩ = some (.int .i64 y.k) ∧ (set6 w8 R (.int .i64 y.k) (.int .i64 0) (.string ⟨#[]⟩) (.slice none 0 0) (.slice a8 (k + m2) c8) (.slice b3 m3 p3)).cell? ⟨X, 4, none⟩ = some (.slice b2 m2 p2) ∧ (set6 w8 R (.int .i64 y.k) (.int .i64 0) (.string ⟨#[]⟩) (.slice none 0 0) (.slice a8 (k + m2) c8) (.slice b3 m3 p3)).cell? ⟨X, 5, none⟩ = some (.slice b3 m3 p3) ∧ (set6 w8 R (.int .i64 y.k) (.int .i64 0) (.string ⟨#[]⟩) (.slice none 0 0) (.slice a8 (k + m2) c8) (.slice b3 m3 p3)).cell? ⟨D, 4, none⟩ = some (.slice al k cl)) ∧ Hp (set6 w8 R (.int .i64 y.k) (.int .i64 0) (.string ⟨#[]⟩) (.slice none 0 0) (.slice a8 (k + m2) c8) (.slice b3 m3 p3)) R #[.int .i64 y.k, .int .i64 0, .string ⟨#[]⟩, .slice none 0 0, .slice a8 (k + m2) c8, .slice b3 m3 p3] 25 ∧ Rd.OutB base P tb C xs w RR (.returned (.agg #[.int .i64 y.k, .int .i64 0, .string ⟨#[]⟩, .slice none 0 0, .slice a8 (k + m2) c8, .slice b3 m3 p3])) (set6 w8 R (.int .i64 y.k) (.int .i64 0) (.string ⟨#[]⟩) (.slice none 0 0) (.slice a8 (k + m2) c8) (.slice b3 m3 p3))) := by
       intro w8 a8 c8 hown hgr hat
       have hk8 : Keep (fun j => (Value.slice al k cl).ownBlock = some j) w7 w8 := ((Keep.refl _ w7).drew 1).trans (Dt.Cd_keep_grown hgr)
       have hlt := HLT.out
       have hX8 := hX7.keep hk8 (fun e => by have := hlt X e; omega)
       have hD8 := hD7.keep hk8 (fun e => by have := hlt D e; omega)
       have hR8 := hR7.keep hk8 (fun e => by have := hlt R e; omega)
       have hst8 := HST7.out.keep hk8 (fun e => by have := hlt P e; omega)
       have hks := set6_keep w8 R (.int .i64 y.k) (.int .i64 0) (.string ⟨#[]⟩) (.slice none 0 0) (.slice a8 (k + m2) c8) (.slice b3 m3 p3)
       have hrow8 : Dt.Row (fun j => base ≤ j ∧ j ≠ R) w8 (.slice a8 (k + m2) c8) ((ps ++ qs).map Dt.P.d) := by
        refine Rd.row_of_own (base := base) (ls := ps ++ qs) (n := k + m2) ?_ (by rw [List.length_append, HKL.out, hql]) (fun j e => ?_) (fun p hp => ?_)
        ·have e : Dt.flatP (ps ++ qs) = Dt.flatP ps ++ Dt.flatP qs := by unfold Dt.flatP; rw [List.flatMap_append]
         rw [e]
         exact hown
        ·rcases hat with e' | e'
         ·have := hlt j (e'.symm.trans e); omega
         ·have h9 : w7.heap.size = j := Option.some.inj (e'.symm.trans e)
          omega
        ·rcases List.mem_append.1 hp with hp | hp
         ·exact Dt.Rep.mono (fun j hj _ => by omega) p.d (Dt.Rep.keep hk8 (fun j hj _ e => hj.2.2 e) p.d (HRP7.out p hp))
         ·exact Dt.Rep.mono (fun j hj _ => by omega) p.d (Dt.Rep.keep hk8 (fun j hj _ e => by have := hlt j e; omega) p.d (hqr p hp))
       rw [List.map_append, hqd] at hrow8
       have hrt8 : Dt.Row (fun j => base ≤ j ∧ j ≠ R) w8 (.slice b3 m3 p3) y.t := Dt.Row.mono (hrowt.keep hk8 (fun j hj _ e => by have := hlt j e; omega)) (fun j hj _ => by omega)
       have hrep : Dt.Rep (fun j => base ≤ j ∧ j ≠ R) w8 (.mk y.k 0 ⟨#[]⟩ [] (ps.map Dt.P.d ++ y.l) y.t) (.slice none 0 0) (.slice a8 (k + m2) c8) (.slice b3 m3 p3) :=
        (Dt.rep_iff _ _ _ _ _ _).2 ⟨⟨none, 0, rfl, Nat.le_refl _, fun h => absurd rfl h⟩, hrow8, hrt8⟩
       refine ⟨⟨hX8.cell 0 rfl, hX8.cell 4 rfl, hX8.cell 5 rfl, hD8.cell 4 rfl⟩, hR8.there (Nat.le_refl _), ⟨(hX8.keep hks hNE.1).cell 0 rfl, (hX8.keep hks hNE.1).cell 4 rfl, (hX8.keep hks hNE.1).cell 5 rfl, (hD8.keep hks hNE.2.1).cell 4 rfl⟩, hR8.set6 _ _ _ _ _ _, ?_⟩
       exact Rd.OutB.fin (b := base) (r := RR) (x := .mk y.k 0 ⟨#[]⟩ [] (ps.map Dt.P.d ++ y.l) y.t) (HK7.out.trans (hk8.le (fun j e => .inr (hlt j e).1))) (R := R) (by omega) (by omega) hrep (Rd.own_nz hown) hst8 (.inl ⟨by rw [HR2.out, HJ.out], rfl, rfl⟩)
      have HINF : Hid ((Try.prog.info? 25).map (·.size) = some 6) := by show _ = _; kernel_rfl
      have x0' := hX7.cell 0 rfl
      clear hrowl hrowt hm2l hqd hqs hqr hql hN hNX hNE hRR2 h2 hst7 hT7 hD7 hR7 hX7 hrow7 hry7 hR hdo
      rcases hj with hj | hj
      ·have j6 : (y.k == 6) = true := by simp [hj]
       clear hj
       go_upto_region 12 with fail
       refine wp_region_noPanic ?_
       refine wp_region_held_drew (S := fun W => W.cell? ⟨X, 0, none⟩ = some (.int .i64 y.k) ∧ W.cell? ⟨X, 4, none⟩ = some (.slice b2 m2 p2) ∧ W.cell? ⟨X, 5, none⟩ = some (.slice b3 m3 p3) ∧ W.cell? ⟨D, 4, none⟩ = some (.slice al k cl)) (by kernel_rfl) HTS.out (fun hHeld => ?_)
       refine wpAnyH_take (i := 0) (oi := ⟨_, _, _, _, _, _⟩) (v := ?_) rfl (by kernel_rfl) (by kernel_rfl) (by kernel_rfl) (fun _ _ _ h => h) (Or.inl ⟨by rfl, ?_⟩) (by assumption) ?_
       rotate_left
       ·intro w hSw
        clear hSw
        go_simp
        try with_reducible rfl
       simp only [Act.put, List.setIfInBounds_toArray, List.set_cons_zero, List.set_cons_succ]
       refine wpAnyH_take (i := 2) (oi := ⟨_, _, _, _, _, _⟩) (v := ?_) rfl (by kernel_rfl) (by kernel_rfl) (by kernel_rfl) (fun _ _ _ h => h) (Or.inl ⟨by rfl, ?_⟩) (by assumption) ?_
       rotate_left
       ·intro w hSw
        clear hSw
        go_simp
        try with_reducible rfl
       simp only [Act.put, List.setIfInBounds_toArray, List.set_cons_zero, List.set_cons_succ]
       refine wpAnyH_take (i := 4) (oi := ⟨_, _, _, _, _, _⟩) (v := ?_) rfl (by kernel_rfl) (by kernel_rfl) (by kernel_rfl) (fun _ _ _ h => h) (Or.inl ⟨by rfl, ?_⟩) (by assumption) ?_
       rotate_left
       ·intro w hSw
        clear hSw
        go_simp
        try with_reducible rfl
       simp only [Act.put, List.setIfInBounds_toArray, List.set_cons_zero, List.set_cons_succ]
       refine wpAnyH_take (i := 7) (oi := ⟨_, _, _, _, _, _⟩) (v := ?_) rfl (by kernel_rfl) (by kernel_rfl) (by kernel_rfl) (fun _ _ _ h => h) (Or.inl ⟨by rfl, ?_⟩) (by assumption) ?_
       rotate_left
       ·intro w hSw
        clear hSw
        go_simp
        try with_reducible rfl
       simp only [Act.put, List.setIfInBounds_toArray, List.set_cons_zero, List.set_cons_succ]
       refine wpAnyH_take (i := 1) (oi := ⟨_, _, _, _, _, _⟩) (v := ?_) rfl (by kernel_rfl) (by kernel_rfl) (by kernel_rfl) (fun _ _ _ h => h) (Or.inl ⟨by rfl, ?_⟩) (by assumption) ?_
       rotate_left
       ·intro w hSw
        obtain ⟨s0, s1, s2, s3⟩ := hSw
        go_simp
        try with_reducible rfl
       simp only [Act.put, List.setIfInBounds_toArray, List.set_cons_zero, List.set_cons_succ]
       refine wpAnyH_take (i := 3) (oi := ⟨_, _, _, _, _, _⟩) (v := ?_) rfl (by kernel_rfl) (by kernel_rfl) (by kernel_rfl) (fun _ _ _ h => h) (Or.inl ⟨by rfl, ?_⟩) (by assumption) ?_
       rotate_left
       ·intro w hSw
        obtain ⟨s0, s1, s2, s3⟩ := hSw
        go_simp
        try with_reducible rfl
       simp only [Act.put, List.setIfInBounds_toArray, List.set_cons_zero, List.set_cons_succ]
       refine wpAnyH_take (i := 5) (oi := ⟨_, _, _, _, _, _⟩) (v := ?_) rfl (by kernel_rfl) (by kernel_rfl) (by kernel_rfl) (fun _ _ _ h => h) (Or.inl ⟨by rfl, ?_⟩) (by assumption) ?_
       rotate_left
       ·intro w hSw
        obtain ⟨s0, s1, s2, s3⟩ := hSw
        go_simp
        try with_reducible rfl
       simp only [Act.put, List.setIfInBounds_toArray, List.set_cons_zero, List.set_cons_succ]
       refine wpAnyH_take (i := 8) (oi := ⟨_, _, _, _, _, _⟩) (v := ?_) rfl (by kernel_rfl) (by kernel_rfl) (by kernel_rfl) (fun _ _ _ h => h) (Or.inl ⟨by rfl, ?_⟩) (by assumption) ?_
       rotate_left
       ·intro w hSw
        obtain ⟨s0, s1, s2, s3⟩ := hSw
        go_simp
        try with_reducible rfl
       simp only [Act.put, List.setIfInBounds_toArray, List.set_cons_zero, List.set_cons_succ]
       refine wpAnyH_ready (rs := [6]) (by kernel_rfl) (by simp) ?_
       refine AllReadyH.cons (o := ⟨_, _, _, _, _, _⟩) rfl (fun K hK => ?_) AllReadyH.nil
       refine Ap.wp (.tmp 60) (.tmp 62) 23 rfl base 25 i0 (.agg #[.int .i64 0, .int .i64 0, .string ⟨#[]⟩, .slice none 0 0, .slice none 0 0, .slice none 0 0]) 6 104 Try.underlying23 HI1.out HZ0.out HZ1.out HZ2.out rfl (by decide) (.slice al k cl) k (Dt.flatP ps) rfl HOWN7.out (.slice b2 m2 p2) m2 (Dt.flatP qs) rfl HSR.out HLQ.out HONE.out hm1 hm3 HBS.out ?_
       intro v8 w8 hown hgrow hat
       obtain ⟨a8, c8, rfl⟩ := Dt.row_form hown
       obtain ⟨g1, g2, g3, g4, g5⟩ := HPOST.out w8 a8 c8 hown hgrow hat
       obtain ⟨w9, hw9⟩ : ∃ w9, set6 w8 R (.int .i64 y.k) (.int .i64 0) (.string ⟨#[]⟩) (.slice none 0 0) (.slice a8 (k + m2) c8) (.slice b3 m3 p3) = w9 := ⟨_, rfl⟩
       rw [hw9] at g3 g4 g5
       have HTH := Lib.hid g2
       have HE := Lib.hid g5
       have HG3 := Lib.hid g3
       have HW9 := Lib.hid hw9
       have e0 := g4.cell 0 rfl
       have e1 := g4.cell 1 rfl
       have e2 := g4.cell 2 rfl
       have e3 := g4.cell 3 rfl
       have e4 := g4.cell 4 rfl
       have e5 := g4.cell 5 rfl
       clear hown hgrow hat g2 g3 g4 g5 hw9
       refine hK.out _ _ ?_ (fun hHeld => ?_)
       ·exact g1
       clear hK K
       try simp only [Act.put, List.setIfInBounds_toArray, List.set_cons_zero, List.set_cons_succ]
       refine wpAnyH_take (i := 9) (oi := ⟨_, _, _, _, _, _⟩) (v := ?_) rfl (by kernel_rfl) (by kernel_rfl) (by kernel_rfl) (fun _ _ _ h => h) (Or.inl ⟨by rfl, ?_⟩) (by assumption) ?_
       rotate_left
       ·intro w hSw
        clear hSw
        go_simp
        try with_reducible rfl
       simp only [Act.put, List.setIfInBounds_toArray, List.set_cons_zero, List.set_cons_succ]
       refine wpAnyH_ready (rs := [10]) (by kernel_rfl) (by simp) ?_
       refine AllReadyH.cons (o := ⟨_, _, _, _, _, _⟩) rfl (fun K hK => ?_) AllReadyH.nil
       refine wp_store_mid _ _ _ rfl R 0 #[.int .i64 y.k, .int .i64 0, .string ⟨#[]⟩, .slice none 0 0, .slice a8 (k + m2) c8, .slice b3 m3 p3] rfl rfl HTH.out HINF.out (by simp [Value.oneCell']) ?_
       rw [setCells6, HW9.out]
       refine hK.out _ _ ?_ (fun hHeld => ?_)
       ·exact HG3.out
       clear hK K
       try simp only [Act.put]
       refine wpAnyH_done (by kernel_rfl) ?_ _
       refine NoPanic.normal ?_
       go_wp2
       refine bodyPost_ret (v := .agg #[.int .i64 y.k, .int .i64 0, .string ⟨#[]⟩, .slice none 0 0, .slice a8 (k + m2) c8, .slice b3 m3 p3]) (by simp [results, Try.results68, go_sem, *]) rfl ?_
       exact HE.out
      ·have j6 : (y.k == 6) = false := by simp [hj]
       have j7 : (y.k == 7) = true := by simp [hj]
       clear hj
       go_upto_region 12 with fail
       refine wp_region_noPanic ?_
       refine wp_region_held_drew (S := fun W => W.cell? ⟨X, 0, none⟩ = some (.int .i64 y.k) ∧ W.cell? ⟨X, 4, none⟩ = some (.slice b2 m2 p2) ∧ W.cell? ⟨X, 5, none⟩ = some (.slice b3 m3 p3) ∧ W.cell? ⟨D, 4, none⟩ = some (.slice al k cl)) (by kernel_rfl) HTS.out (fun hHeld => ?_)
       refine wpAnyH_take (i := 0) (oi := ⟨_, _, _, _, _, _⟩) (v := ?_) rfl (by kernel_rfl) (by kernel_rfl) (by kernel_rfl) (fun _ _ _ h => h) (Or.inl ⟨by rfl, ?_⟩) (by assumption) ?_
       rotate_left
       ·intro w hSw
        clear hSw
        go_simp
        try with_reducible rfl
       simp only [Act.put, List.setIfInBounds_toArray, List.set_cons_zero, List.set_cons_succ]
       refine wpAnyH_take (i := 2) (oi := ⟨_, _, _, _, _, _⟩) (v := ?_) rfl (by kernel_rfl) (by kernel_rfl) (by kernel_rfl) (fun _ _ _ h => h) (Or.inl ⟨by rfl, ?_⟩) (by assumption) ?_
       rotate_left
       ·intro w hSw
        clear hSw
        go_simp
        try with_reducible rfl
       simp only [Act.put, List.setIfInBounds_toArray, List.set_cons_zero, List.set_cons_succ]
       refine wpAnyH_take (i := 4) (oi := ⟨_, _, _, _, _, _⟩) (v := ?_) rfl (by kernel_rfl) (by kernel_rfl) (by kernel_rfl) (fun _ _ _ h => h) (Or.inl ⟨by rfl, ?_⟩) (by assumption) ?_
       rotate_left
       ·intro w hSw
        clear hSw
        go_simp
        try with_reducible rfl
       simp only [Act.put, List.setIfInBounds_toArray, List.set_cons_zero, List.set_cons_succ]
       refine wpAnyH_take (i := 7) (oi := ⟨_, _, _, _, _, _⟩) (v := ?_) rfl (by kernel_rfl) (by kernel_rfl) (by kernel_rfl) (fun _ _ _ h => h) (Or.inl ⟨by rfl, ?_⟩) (by assumption) ?_
       rotate_left
       ·intro w hSw
        clear hSw
        go_simp
        try with_reducible rfl
       simp only [Act.put, List.setIfInBounds_toArray, List.set_cons_zero, List.set_cons_succ]
       refine wpAnyH_take (i := 1) (oi := ⟨_, _, _, _, _, _⟩) (v := ?_) rfl (by kernel_rfl) (by kernel_rfl) (by kernel_rfl) (fun _ _ _ h => h) (Or.inl ⟨by rfl, ?_⟩) (by assumption) ?_
       rotate_left
       ·intro w hSw
        obtain ⟨s0, s1, s2, s3⟩ := hSw
        go_simp
        try with_reducible rfl
       simp only [Act.put, List.setIfInBounds_toArray, List.set_cons_zero, List.set_cons_succ]
       refine wpAnyH_take (i := 3) (oi := ⟨_, _, _, _, _, _⟩) (v := ?_) rfl (by kernel_rfl) (by kernel_rfl) (by kernel_rfl) (fun _ _ _ h => h) (Or.inl ⟨by rfl, ?_⟩) (by assumption) ?_
       rotate_left
       ·intro w hSw
        obtain ⟨s0, s1, s2, s3⟩ := hSw
        go_simp
        try with_reducible rfl
       simp only [Act.put, List.setIfInBounds_toArray, List.set_cons_zero, List.set_cons_succ]
       refine wpAnyH_take (i := 5) (oi := ⟨_, _, _, _, _, _⟩) (v := ?_) rfl (by kernel_rfl) (by kernel_rfl) (by kernel_rfl) (fun _ _ _ h => h) (Or.inl ⟨by rfl, ?_⟩) (by assumption) ?_
       rotate_left
       ·intro w hSw
        obtain ⟨s0, s1, s2, s3⟩ := hSw
        go_simp
        try with_reducible rfl
       simp only [Act.put, List.setIfInBounds_toArray, List.set_cons_zero, List.set_cons_succ]
       refine wpAnyH_take (i := 8) (oi := ⟨_, _, _, _, _, _⟩) (v := ?_) rfl (by kernel_rfl) (by kernel_rfl) (by kernel_rfl) (fun _ _ _ h => h) (Or.inl ⟨by rfl, ?_⟩) (by assumption) ?_
       rotate_left
       ·intro w hSw
        obtain ⟨s0, s1, s2, s3⟩ := hSw
        go_simp
        try with_reducible rfl
       simp only [Act.put, List.setIfInBounds_toArray, List.set_cons_zero, List.set_cons_succ]
       refine wpAnyH_ready (rs := [6]) (by kernel_rfl) (by simp) ?_
       refine AllReadyH.cons (o := ⟨_, _, _, _, _, _⟩) rfl (fun K hK => ?_) AllReadyH.nil
       refine Ap.wp (.tmp 60) (.tmp 62) 23 rfl base 25 i0 (.agg #[.int .i64 0, .int .i64 0, .string ⟨#[]⟩, .slice none 0 0, .slice none 0 0, .slice none 0 0]) 6 104 Try.underlying23 HI1.out HZ0.out HZ1.out HZ2.out rfl (by decide) (.slice al k cl) k (Dt.flatP ps) rfl HOWN7.out (.slice b2 m2 p2) m2 (Dt.flatP qs) rfl HSR.out HLQ.out HONE.out hm1 hm3 HBS.out ?_
       intro v8 w8 hown hgrow hat
       obtain ⟨a8, c8, rfl⟩ := Dt.row_form hown
       obtain ⟨g1, g2, g3, g4, g5⟩ := HPOST.out w8 a8 c8 hown hgrow hat
       obtain ⟨w9, hw9⟩ : ∃ w9, set6 w8 R (.int .i64 y.k) (.int .i64 0) (.string ⟨#[]⟩) (.slice none 0 0) (.slice a8 (k + m2) c8) (.slice b3 m3 p3) = w9 := ⟨_, rfl⟩
       rw [hw9] at g3 g4 g5
       have HTH := Lib.hid g2
       have HE := Lib.hid g5
       have HG3 := Lib.hid g3
       have HW9 := Lib.hid hw9
       have e0 := g4.cell 0 rfl
       have e1 := g4.cell 1 rfl
       have e2 := g4.cell 2 rfl
       have e3 := g4.cell 3 rfl
       have e4 := g4.cell 4 rfl
       have e5 := g4.cell 5 rfl
       clear hown hgrow hat g2 g3 g4 g5 hw9
       refine hK.out _ _ ?_ (fun hHeld => ?_)
       ·exact g1
       clear hK K
       try simp only [Act.put, List.setIfInBounds_toArray, List.set_cons_zero, List.set_cons_succ]
       refine wpAnyH_take (i := 9) (oi := ⟨_, _, _, _, _, _⟩) (v := ?_) rfl (by kernel_rfl) (by kernel_rfl) (by kernel_rfl) (fun _ _ _ h => h) (Or.inl ⟨by rfl, ?_⟩) (by assumption) ?_
       rotate_left
       ·intro w hSw
        clear hSw
        go_simp
        try with_reducible rfl
       simp only [Act.put, List.setIfInBounds_toArray, List.set_cons_zero, List.set_cons_succ]
       refine wpAnyH_ready (rs := [10]) (by kernel_rfl) (by simp) ?_
       refine AllReadyH.cons (o := ⟨_, _, _, _, _, _⟩) rfl (fun K hK => ?_) AllReadyH.nil
       refine wp_store_mid _ _ _ rfl R 0 #[.int .i64 y.k, .int .i64 0, .string ⟨#[]⟩, .slice none 0 0, .slice a8 (k + m2) c8, .slice b3 m3 p3] rfl rfl HTH.out HINF.out (by simp [Value.oneCell']) ?_
       rw [setCells6, HW9.out]
       refine hK.out _ _ ?_ (fun hHeld => ?_)
       ·exact HG3.out
       clear hK K
       try simp only [Act.put]
       refine wpAnyH_done (by kernel_rfl) ?_ _
       refine NoPanic.normal ?_
       go_wp2
       refine bodyPost_ret (v := .agg #[.int .i64 y.k, .int .i64 0, .string ⟨#[]⟩, .slice none 0 0, .slice a8 (k + m2) c8, .slice b3 m3 p3]) (by simp [results, Try.results68, go_sem, *]) rfl ?_
       exact HE.out
end Go.Proofs.Ytcopdfihaheplaa
