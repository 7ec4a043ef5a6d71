/-
  Names that are told: what a round keeps; what a loop's own book-keeping leaves.
-/
import Derived.RangeFuncBox
import Derived.Test.YtjbjgceblanhpaaDoorRgV
import Derived.Test.YtjbjgceblanhpaaDoorSpMade
namespace Go.Proofs.YtjbjgceblanhpaaDoor
open Go.RowKit Go.Shelf
namespace Dt
/-- a block of cells -/
def Cel (w : World) (k : Nat) : Prop := ∃ c t f, w.heap[k]? = some (.cells c t f)
theorem cel_of {w : World} {b o : Nat} {v : Value} (h : w.cell? ⟨b, o, none⟩ = some v) : Cel w b := by
  unfold World.cell? at h
  split at h
  · rename_i c t f e; exact ⟨c, t, f, e⟩
  · cases h
theorem IRow.cel {F : Nat → Prop} {w : World} {v : Value} {m : List Int} (h : IRow F w v m) : IRow (fun k => F k ∧ Cel w k) w v m := by
  obtain ⟨a, c, h1, h2, h3⟩ := h
  refine ⟨a, c, h1, h2, fun hn => ?_⟩
  obtain ⟨b, o, h4, h5, h6, h7⟩ := h3 hn
  exact ⟨b, o, h4, ⟨h5, cel_of (h7 0 (List.length_pos_iff.2 hn))⟩, h6, h7⟩
mutual
theorem Rep.cel {F : Nat → Prop} {w : World} : ∀ (d : D) {vm vl vt : Value}, Rep F w d vm vl vt → Rep (fun k => F k ∧ Cel w k) w d vm vl vt
  | .mk k n s m l t, vm, vl, vt, h => by
    rw [Rep] at h ⊢
    obtain ⟨h1, ⟨a, c, e1, e2, e3⟩, ⟨a', c', f1, f2, f3⟩⟩ := h
    refine ⟨h1.cel, ⟨a, c, e1, e2, fun hn => ?_⟩, ⟨a', c', f1, f2, fun hn => ?_⟩⟩
    · obtain ⟨b, o, g1, g2, g3, g4⟩ := e3 hn
      obtain ⟨vm', vl', vt', hs, _⟩ := g4.at 0 (List.length_pos_iff.2 hn)
      exact ⟨b, o, g1, ⟨g2, cel_of hs.c0⟩, g3, Reps.cel l g4⟩
    · obtain ⟨b, o, g1, g2, g3, g4⟩ := f3 hn
      obtain ⟨vm', vl', vt', hs, _⟩ := g4.at 0 (List.length_pos_iff.2 hn)
      exact ⟨b, o, g1, ⟨g2, cel_of hs.c0⟩, g3, Reps.cel t g4⟩
theorem Reps.cel {F : Nat → Prop} {w : World} : ∀ (l : List D) {b o : Nat}, Reps F w l b o → Reps (fun k => F k ∧ Cel w k) w l b o
  | [], _, _, _ => by rw [Reps]; trivial
  | d :: r, b, o, h => by
    rw [Reps] at h ⊢
    obtain ⟨⟨vm, vl, vt, h1, h2⟩, h3⟩ := h
    exact ⟨⟨vm, vl, vt, h1, Rep.cel d h2⟩, Reps.cel r h3⟩
end
/-- a block that is no cells may turn -/
theorem Rep.grown {F : Nat → Prop} {w w' : World} {row : Option Nat} {d : D} {vm vl vt : Value} (h : Rep F w d vm vl vt) (hg : w.grownBy w' row) (hr : ∀ r, row = some r → ∃ o : Obj, w.heap[r]? = some o ∧ o.isCells = false) : Rep F w' d vm vl vt := by
  have hK : Keep (fun k => row = some k) w w' := ⟨hg.os, hg.tape, hg.output, hg.size, fun k hk hn => hg.block k hk (fun e => hn e.symm)⟩
  refine Rep.mono (fun b hb _ => hb.1) d (Rep.keep hK (fun b hb _ e => ?_) d (Rep.cel d h))
  obtain ⟨o, h1, h2⟩ := hr b e
  obtain ⟨_, c, t, f, h3⟩ := hb
  rw [h1] at h3
  cases h3
  cases h2
end Dt
namespace Sp
open Dt
/-- the block of the row that the box B holds -/
def rowOf (W : World) (B : Nat) : Option Nat := (W.cell? ⟨B, 0, none⟩).bind Value.ownBlock
theorem rowOf_of {W W' : World} {B : Nat} (h : W'.heap[B]? = W.heap[B]?) : rowOf W' B = rowOf W B := by
  unfold rowOf
  rw [World.cell?_of_block (w := W) (w' := W') (a := ⟨B, 0, none⟩) h]
theorem rowOf_box {W : World} {B : Nat} {t : TypeId} {v : Value} (h : Boxed W B t v) : rowOf W B = v.ownBlock := by unfold rowOf; rw [h.cell]; rfl
/-- what a round of 'told' keeps -/
structure KpB (n0 B : Nat) (W W' : World) : Prop where
  below : Below n0 W W'
  same : ∀ (k : Nat) (c : Array Value) (t : TypeId) (fz : Nat × Nat), W.heap[k]? = some (.cells c t fz) → k ≠ B → rowOf W B ≠ some k → W'.heap[k]? = W.heap[k]?
  row : ∀ k, rowOf W' B = some k → rowOf W B = some k ∨ (W.heap.size ≤ k ∧ k < W'.heap.size)
theorem KpB.trans {n0 B : Nat} {X Y Z : World} (h : KpB n0 B X Y) (k : KpB n0 B Y Z) : KpB n0 B X Z := by
  refine ⟨h.below.trans k.below, fun i c t fz hi hB hr => ?_, fun i hi => ?_⟩
  · have h1 := h.same i c t fz hi hB hr
    have hlt := (Array.getElem?_eq_some_iff.1 hi).1
    refine (k.same i c t fz (h1.trans hi) hB (fun hc => ?_)).trans h1
    rcases h.row i hc with h2 | h2
    · exact hr h2
    · omega
  · have hs := k.below.size
    rcases k.row i hi with h1 | h1
    · rcases h.row i h1 with h2 | h2
      · exact .inl h2
      · exact .inr ⟨h2.1, by omega⟩
    · exact .inr ⟨Nat.le_trans h.below.size h1.1, h1.2⟩
/-- whatever lay in a world's heap, but for what its box tells, lies as it lay -/
theorem KpB.of_below {n0 B : Nat} {W W' : World} (h : Below W.heap.size W W') (hn : n0 ≤ W.heap.size) (hB : B < W.heap.size) : KpB n0 B W W' :=
  ⟨h.mono hn, fun k c t fz hk _ _ => h.block k (Array.getElem?_eq_some_iff.1 hk).1, fun k hk => .inl (by rw [← rowOf_of (h.block B hB)]; exact hk)⟩
theorem KpB.putObj {n0 B : Nat} (W : World) (l : Nat) (o o' : Obj) (hl : n0 ≤ l) (hB : B < l) (h : W.heap[l]? = some o) (ho : o.isCells = false) : KpB n0 B W (W.putObj l o') := by
  have hg := grownBy_putObj' W l o'
  have hlt := (Array.getElem?_eq_some_iff.1 h).1
  refine ⟨⟨hg.os, hg.tape, hg.output, hg.size, fun k hk => ?_⟩, fun k c t fz hk _ _ => ?_, fun k hk => .inl ?_⟩
  · by_cases hks : k < W.heap.size
    · exact hg.block k hks (fun e => by cases e; omega)
    · have h1 := hg.size
      have h2 : (W.putObj l o').heap.size = W.heap.size := by simp [World.putObj]
      rw [Array.getElem?_eq_none (by omega), Array.getElem?_eq_none (by omega)]
  · exact hg.block k (Array.getElem?_eq_some_iff.1 hk).1 (fun e => by cases e; rw [h] at hk; cases hk; cases ho)
  · rw [← rowOf_of (hg.block B (by omega) (fun e => by cases e; omega))]; exact hk
/-- and the loops' own records -/
structure KpO (n0 B n1 : Nat) (W W' : World) : Prop where
  kp : KpB n0 B W W'
  others : ∀ (k : Nat) (o : Obj), n1 ≤ k → W.heap[k]? = some o → o.isCells = false → W'.heap[k]? = some o
theorem KpO.trans {n0 B n1 : Nat} {X Y Z : World} (h : KpO n0 B n1 X Y) (k : KpO n0 B n1 Y Z) : KpO n0 B n1 X Z :=
  ⟨h.kp.trans k.kp, fun i o hi h1 h2 => k.others i o hi (h.others i o hi h1 h2) h2⟩
theorem KpO.of_below {n0 B n1 : Nat} {W W' : World} (h : Below W.heap.size W W') (hn : n0 ≤ W.heap.size) (hB : B < W.heap.size) : KpO n0 B n1 W W' :=
  ⟨.of_below h hn hB, fun k o _ h1 _ => (h.block k (Array.getElem?_eq_some_iff.1 h1).1).trans h1⟩
theorem KpO.putObj {n0 B n1 : Nat} (W : World) (l : Nat) (o o' : Obj) (hl : n0 ≤ l) (hB : B < l) (hn : l < n1) (h : W.heap[l]? = some o) (ho : o.isCells = false) : KpO n0 B n1 W (W.putObj l o') :=
  ⟨.putObj W l o o' hl hB h ho, fun k p hk h1 _ => ((grownBy_putObj' W l o').block k (Array.getElem?_eq_some_iff.1 h1).1 (fun e => by cases e; omega)).trans h1⟩
/-- a box is kept -/
theorem boxed_kp {n0 B : Nat} {W W' : World} {k : Nat} {t : TypeId} {v : Value} (h : Boxed W k t v) (hk : KpB n0 B W W') (hB : k ≠ B) (hr : rowOf W B ≠ some k) : Boxed W' k t v := (hk.same k _ _ _ h hB hr).trans h
theorem boxed_below {W W' : World} {k : Nat} {t : TypeId} {v : Value} (h : Boxed W k t v) (hb : Below W.heap.size W W') : Boxed W' k t v := (hb.block k h.lt).trans h
/-- what the iterator leans on between its rounds -/
structure NInv (n0 B By Us Ut : Nat) (vy : Value) (s : Nat) (T : Nat) (w X : World) : Prop where
  bel : Below n0 w X
  by' : Boxed X By 75 vy
  us : Boxed X Us 3 (.int .i64 s)
  ut : Boxed X Ut 32 (.pointer (some ⟨T, 0, none⟩))
  nB : By ≠ B ∧ Us ≠ B ∧ Ut ≠ B
  nr : rowOf X B ≠ some By ∧ rowOf X B ≠ some Us ∧ rowOf X B ≠ some Ut
  lt : ∀ k, rowOf X B = some k → k < X.heap.size
  hB : B < X.heap.size
theorem NInv.kp {n0 B By Us Ut s T : Nat} {vy : Value} {w X X' : World} (h : NInv n0 B By Us Ut vy s T w X) (hk : KpB n0 B X X') : NInv n0 B By Us Ut vy s T w X' := by
  have hs := hk.below.size
  have g : ∀ j, j < X.heap.size → rowOf X B ≠ some j → rowOf X' B ≠ some j := fun j hj hn e => by
    rcases hk.row j e with h1 | h1
    · exact hn h1
    · omega
  refine ⟨h.bel.trans hk.below, boxed_kp h.by' hk h.nB.1 h.nr.1, boxed_kp h.us hk h.nB.2.1 h.nr.2.1, boxed_kp h.ut hk h.nB.2.2 h.nr.2.2, h.nB, ⟨g _ h.by'.lt h.nr.1, g _ h.us.lt h.nr.2.1, g _ h.ut.lt h.nr.2.2⟩, fun k e => ?_, by have := h.hB; omega⟩
  rcases hk.row k e with h1 | h1
  · have := h.lt k h1; omega
  · exact h1.2
theorem NInv.below {n0 B By Us Ut s T : Nat} {vy : Value} {w X X' : World} (h : NInv n0 B By Us Ut vy s T w X) (hn : n0 ≤ w.heap.size) (hb : Below X.heap.size X X') : NInv n0 B By Us Ut vy s T w X' := by
  have e := rowOf_of (B := B) (hb.block B h.hB)
  have hs := hb.size
  exact ⟨h.bel.trans (hb.mono (Nat.le_trans hn h.bel.size)), boxed_below h.by' hb, boxed_below h.us hb, boxed_below h.ut hb, h.nB, by rw [e]; exact h.nr, fun k hk => by rw [e] at hk; have := h.lt k hk; omega, by have := h.hB; omega⟩
end Sp
end Go.Proofs.YtjbjgceblanhpaaDoor
