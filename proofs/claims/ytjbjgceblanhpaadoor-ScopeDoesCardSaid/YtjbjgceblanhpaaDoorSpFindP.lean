/-
  scope.Table.Find: what its walk leans on.
-/
import Derived.Test.YtjbjgceblanhpaaDoorSpUp
namespace Go.Proofs.YtjbjgceblanhpaaDoor
open Go.RowKit Go.Shelf
namespace Sp
open Dt
/-- the marks that the range loops have left -/
def mk' (r : Nat) : Deferred := { target := .collected r, args := #[] }
/-- they are there, open, apart, from b on -/
def Marks (b : Nat) (rs : List Nat) (w : World) : Prop := rs.Nodup ∧ ∀ r ∈ rs, b ≤ r ∧ w.heap[r]? = some (.deferred (some []))
theorem Marks.keep {S : Nat → Prop} {b : Nat} {rs : List Nat} {w w' : World} (h : Marks b rs w) (hk : Keep S w w') (hS : ∀ r, b ≤ r → ¬ S r) : Marks b rs w' :=
  ⟨h.1, fun r hr => ⟨(h.2 r hr).1, (hk.block r (Array.getElem?_eq_some_iff.1 (h.2 r hr).2).1 (hS r (h.2 r hr).1)).trans (h.2 r hr).2⟩⟩
theorem Marks.below {b : Nat} {rs : List Nat} {w w' : World} (h : Marks b rs w) (hb : Below w.heap.size w w') : Marks b rs w' := h.keep (S := fun _ => False) ((Keep.refl _ w).below hb) (fun _ _ h => h)
theorem putObj_keep (w : World) (b : Nat) (o : Obj) : Keep (fun k => k = b) w (w.putObj b o) :=
  ⟨rfl, rfl, rfl, by simp [World.putObj], fun k hk hn => by
    show (w.heap.setIfInBounds b o)[k]? = _
    rw [Array.getElem?_setIfInBounds_ne (by omega)]⟩
theorem leaves_marks {F : Fence} {n : Nat} {P : Program} {fn : Func} {tmps : Array Value} {R : Ending → World → Prop} {b : Nat} : ∀ (rs : List Nat) (w : World), Marks b rs w → (∀ w', Keep (fun k => k ∈ rs) w w' → ∃ v, (results fn tmps).run P w' = .ok v w' ∧ R (.returned v) w') → LeavesInM F n P fn tmps R (rs.map mk') .returning w
  | [], w, _, h => h w (Keep.refl _ _)
  | r :: rs, w, hm, h => by
    have hr := hm.2 r (List.mem_cons_self ..)
    obtain ⟨hn1, hn2⟩ := List.nodup_cons.1 hm.1
    refine ⟨by simp, .inl ⟨r, _, rfl, run_takeDeferred hr.2, leaves_marks rs _ ⟨hn2, fun q hq => ⟨(hm.2 q (List.mem_cons_of_mem _ hq)).1, ?_⟩⟩ (fun w' hk => h w' ?_)⟩⟩
    · have hlt := (Array.getElem?_eq_some_iff.1 (hm.2 q (List.mem_cons_of_mem _ hq)).2).1
      exact ((putObj_keep w r (.deferred none)).block q hlt (fun e => hn1 (by rw [← e]; exact hq))).trans (hm.2 q (List.mem_cons_of_mem _ hq)).2
    · exact ((putObj_keep w r (.deferred none)).mono (T := fun k => k ∈ r :: rs) (fun k _ e => by rw [e]; exact List.mem_cons_self ..)).trans (hk.mono (fun k _ e => List.mem_cons_of_mem _ e))
/-- what keeps all but some blocks abides the loop's own book-keeping -/
theorem ownFrom_keep {β : Type} {S : Nat → Prop} {w : World} {B : Nat} (hB : w.heap.size ≤ B) : OwnFrom (β := β) B (fun _ W => Keep S w W) := fun _ W W' row h hg hr =>
  ⟨hg.os.trans h.os, hg.tape.trans h.tape, hg.output.trans h.output, Nat.le_trans h.size hg.size, fun k hk hn => (hg.block k (Nat.lt_of_lt_of_le hk h.size) (fun e => by have := (hr k e.symm).1; omega)).trans (h.block k hk hn)⟩
theorem IRow.take {F : Nat → Prop} {w : World} {a : Option Addr} {c : Nat} {m : List Int} (h : IRow F w (.slice a m.length c) m) (k : Nat) (hk : k ≤ m.length) : IRow F w (.slice a (m.take k).length c) (m.take k) := by
  obtain ⟨a', c', e, h1, h2⟩ := h
  cases e
  refine ⟨a, c, rfl, by rw [List.length_take]; omega, fun hne => ?_⟩
  obtain ⟨b, o, h3, h4, h5, h6⟩ := h2 (by intro e; rw [e] at hne; simp at hne)
  refine ⟨b, o, h3, h4, h5, fun j hj => ?_⟩
  rw [List.getElem_take]
  exact h6 j (by rw [List.length_take] at hj; omega)
/-- the first k marks of a name -/
def cut (x : D) (k : Nat) : D := .mk x.k x.n x.s (x.m.take k) x.l x.t
theorem rep_cut {F : Nat → Prop} {w : World} {x : D} {a : Option Addr} {c : Nat} {vl vt : Value} (h : Rep F w x (.slice a x.m.length c) vl vt) (k : Nat) (hk : k ≤ x.m.length) : Rep F w (cut x k) (.slice a k c) vl vt := by
  obtain ⟨h1, h2, h3⟩ := (rep_iff _ _ _ _ _ _).1 h
  refine (rep_iff _ _ _ _ _ _).2 ⟨?_, h2, h3⟩
  have := IRow.take h1 k hk
  rw [show (x.m.take k).length = k by rw [List.length_take]; omega] at this
  have e : IRow F w (.slice a (x.m.take k).length c) (x.m.take k) := by rw [show (x.m.take k).length = k by rw [List.length_take]; omega]; exact this
  show IRow F w (.slice a k c) (x.m.take k)
  exact this
/-- is it bound by one of these scopes, none ahead of it -/
def fnd (l : List Bd) (s : ByteArray) (m : List Int) (pre : List Nat) : Option Nat := pre.find? (binds l s m)
theorem fnd_no {l : List Bd} {s : ByteArray} {m : List Int} {pre : List Nat} {i : Nat} (h : fnd l s m pre = none) (hi : binds l s m i = false) : fnd l s m (pre ++ [i]) = none := by
  unfold fnd at *
  rw [List.find?_append, h]
  simp [hi]
theorem fnd_yes {l : List Bd} {s : ByteArray} {m : List Int} {pre : List Nat} {i : Nat} (h : fnd l s m pre = none) (hi : binds l s m i = true) : fnd l s m (pre ++ [i]) = some i := by
  unfold fnd at *
  rw [List.find?_append, h]
  simp [hi]
theorem fnd_pre {l : List Bd} {s : ByteArray} {m : List Int} {pre ys : List Nat} {i : Nat} (hp : pre <+: ys) (h : fnd l s m pre = some i) : fnd l s m ys = some i := by
  obtain ⟨r, rfl⟩ := hp
  unfold fnd at *
  rw [List.find?_append, h]
  rfl
/-- a binding's key says whether it is that name -/
theorem binds_key {t : Tbl} (_ho : t.Ok) {s : ByteArray} {m : List Int} {i : Nat} {b : Bd} (hb : t.l[i]? = some b) : binds t.l s m i = (decide (b.id.s = s) && decide (keyS b.id.m = keyS m)) := by
  unfold binds
  rw [hb]
  simp only
  congr 1
  by_cases e : b.id.m = m
  · rw [decide_eq_true e, decide_eq_true (by rw [e])]
  · rw [decide_eq_false e, decide_eq_false (fun h => e (keyS_inj h))]
/-- a scope's name and what it says, as they lie -/
theorem Tab.name {w : World} {base T mb : Nat} {vl : Value} {xs : List B} {t : Tbl} (h : Tab w base T vl mb xs t) (y : Nat) (hy : y < t.l.length) : ∃ g c b, vl = .slice (some ⟨g, 0, none⟩) t.l.length c ∧ g < w.heap.size ∧ t.l[y]? = some b ∧ w.cell? ⟨g, y * 10 + 7, none⟩ = some (.string b.id.s) ∧ w.cell? ⟨g, y * 10 + 8, none⟩ = some (.string (keyS b.id.m)) ∧ w.cell? ⟨g, y * 10 + 9, none⟩ = some (.int .i64 b.what) := by
  obtain ⟨g, c, e1, e2, e3, e4, e5, e6⟩ := h.at
  have hyl : y < xs.length := by rw [h.len]; exact hy
  have h2 : t.l[y]? = some xs[y].b := by rw [← h.xb, List.getElem?_map, List.getElem?_eq_getElem hyl]; rfl
  exact ⟨g, c, xs[y].b, e1, e3, h2, e6 y hyl 7 (by omega), e6 y hyl 8 (by omega), e6 y hyl 9 (by omega)⟩
end Sp
end Go.Proofs.YtjbjgceblanhpaaDoor
