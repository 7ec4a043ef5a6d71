/-
  A row of marks with one more, in a region that draws its order: what is so at each point.
-/
import Derived.Test.YtjbjgceblanhpaaDoorSpToldN
import Derived.Test.YtjbjgceblanhpaaDoorPut
import Derived.Deep.MidRow
namespace Go.Proofs.YtjbjgceblanhpaaDoor
open Go.RowKit
namespace Ap
/-- what is appended may be a nil slice of whatever capacity -/
def Src2 (w : World) (src : Value) (m : Nat) (news : List Value) : Prop := Src w src m news ∨ ∃ c, src = .slice none 0 c ∧ m = 0 ∧ news = []
section
variable {P : Program} {w : World}
theorem step2 {ops : Array Oper} {o : Oper} {a : Act} {K : Act → World → Prop} {Q : Exit → Act → World → Prop} {E : Prop} (hgd : o.guard = none) (s x : Operand) (t : TypeId)
    (ho : o.op = .call { callee := .builtin .append, args := #[s, x], argTypes := #[t, t] })
    (base : Nat) (e : TypeId) (i : TypeInfo) (z : Value) (size bytes : Nat) (ht : P.underlying t = some (.slice e)) (hi : P.info? e = some i) (hz : i.zero = some z)
    (hsize : i.size = size) (hby : i.bytes = bytes) (hzs : z.cells.size = size) (hsz : 0 < size)
    (v : Value) (n : Nat) (xs : List Value) (hs : a.eval s = v) (hown : w.ownsRow base e size v n xs)
    (src : Value) (m : Nat) (news : List Value) (hx : a.eval x = src) (hsrc : Src2 w src m news) (hl : news.length = m * size) (h1 : ∀ u ∈ news, u.oneCell' = true)
    (h63 : n + m ≤ maxLen) (hbytes : (n + m) * bytes ≤ 140737488355328) (hbase : base ≤ w.heap.size)
    (h : ∀ v' w', w'.ownsRow base e size v' (n + m) (xs ++ news) → w.grownBy w' v.ownBlock → (v'.ownBlock = v.ownBlock ∨ v'.ownBlock = some w.heap.size) → K (a.put o.dst v') w') :
    if Region.wanted o (yielded ops a.tmps) = true then Oper.wp P o a w K Q else E := by
  rcases hsrc with hsrc | ⟨c, rfl, rfl, rfl⟩
  · exact step hgd s x t ho base e i z size bytes ht hi hz hsize hby hzs hsz v n xs hs hown src m news hx hsrc hl h1 h63 hbytes hbase h
  · rw [if_pos (by simp [Region.wanted, hgd])]
    have hr := Pt.run_append_none (P := P) (w := w) base t o.type e i size c ht hi v n xs hown
    unfold Oper.wp execOp
    simp only [ho, resolve, invoke, builtin, Sem.run_bind, Sem.run_pure, Result.andThen_ok, List.map_toArray, List.map_cons, List.map_nil, hs, hx, hr]
    exact h v w (by simpa using hown) ⟨rfl, rfl, rfl, Nat.le_refl _, fun _ _ _ => rfl⟩ (.inl rfl)
end
end Ap
namespace Sp
open Dt
abbrev z6 : Array Value := #[.int .i64 0, .int .i64 0, .string ⟨#[]⟩, .slice none 0 0, .slice none 0 0, .slice none 0 0]
/-- the row begun, the new mark's block, the new datum's block -/
structure Mk (w : World) (ms : List Int) (m : Int) (v4 : Option Value) (b6 b9 : Option Nat) (W : World) : Prop where
  bel : Below w.heap.size w W
  r4 : ∀ v, v4 = some v → W.ownsRow w.heap.size 3 1 v ms.length (ms.map (Value.int .i64))
  c6 : ∀ b, b6 = some b → W.heap[b]? = some (.cells #[.int .i64 m] 3 (0, 0)) ∧ w.heap.size ≤ b
  c9 : ∀ b, b9 = some b → W.heap[b]? = some (.cells z6 26 (0, 0)) ∧ w.heap.size ≤ b
  n46 : ∀ v b, v4 = some v → b6 = some b → v.ownBlock ≠ some b
theorem Mk.start (w : World) (ms : List Int) (m : Int) : Mk w ms m none none none w.drew := ⟨(Below.refl _ _).drew, fun _ h => (by cases h), fun _ h => (by cases h), fun _ h => (by cases h), fun _ _ h => (by cases h)⟩
theorem Mk.s4 {w W wa : World} {ms : List Int} {m : Int} {b6 b9 : Option Nat} {va : Value} (h : Mk w ms m none b6 b9 W) (hown : wa.ownsRow w.heap.size 3 1 va ms.length (ms.map (Value.int .i64))) (hg : W.grownBy wa none) (hat : va.ownBlock = none ∨ va.ownBlock = some W.heap.size) : Mk w ms m (some va) b6 b9 wa := by
  have hb : Below W.heap.size W wa := ⟨hg.os, hg.tape, hg.output, hg.size, fun k hk => hg.block k hk (by simp)⟩
  refine ⟨h.bel.trans (hb.mono h.bel.size), fun v e => (by cases e; exact hown), fun b e => ?_, fun b e => ?_, fun v b e1 e2 => ?_⟩
  · obtain ⟨h1, h2⟩ := h.c6 b e
    exact ⟨(hb.block b (Array.getElem?_eq_some_iff.1 h1).1).trans h1, h2⟩
  · obtain ⟨h1, h2⟩ := h.c9 b e
    exact ⟨(hb.block b (Array.getElem?_eq_some_iff.1 h1).1).trans h1, h2⟩
  · cases e1
    obtain ⟨h1, h2⟩ := h.c6 b e2
    have hlt := (Array.getElem?_eq_some_iff.1 h1).1
    rcases hat with h3 | h3 <;> rw [h3]
    · simp
    · intro e; cases e; omega
theorem Mk.s6 {w W : World} {ms : List Int} {m : Int} {v4 : Option Value} {b9 : Option Nat} (h : Mk w ms m v4 none b9 W) : Mk w ms m v4 (some W.heap.size) b9 (W.alloc (.cells #[.int .i64 m] 3)) := by
  refine ⟨h.bel.alloc h.bel.size _, fun v e => (h.r4 v e).alloc _, fun b e => (by cases e; exact ⟨World.alloc_heap_new W _, h.bel.size⟩), fun b e => ?_, fun v b e1 e2 e3 => ?_⟩
  · obtain ⟨h1, h2⟩ := h.c9 b e
    exact ⟨(Below.heap_alloc _ _ _ (Array.getElem?_eq_some_iff.1 h1).1).trans h1, h2⟩
  · cases e2
    have := (h.r4 v e1).lt _ e3
    omega
theorem Mk.s9 {w W : World} {ms : List Int} {m : Int} {v4 : Option Value} {b6 : Option Nat} (h : Mk w ms m v4 b6 none W) : Mk w ms m v4 b6 (some W.heap.size) (W.alloc (.cells z6 26)) := by
  refine ⟨h.bel.alloc h.bel.size _, fun v e => (h.r4 v e).alloc _, fun b e => ?_, fun b e => (by cases e; exact ⟨World.alloc_heap_new W _, h.bel.size⟩), h.n46⟩
  obtain ⟨h1, h2⟩ := h.c6 b e
  exact ⟨(Below.heap_alloc _ _ _ (Array.getElem?_eq_some_iff.1 h1).1).trans h1, h2⟩
theorem Mk.src {w W : World} {ms : List Int} {m : Int} {v4 : Option Value} {b : Nat} {b9 : Option Nat} (h : Mk w ms m v4 (some b) b9 W) : Ap.Src2 W (.slice (some ⟨b, 0, none⟩) 1 1) 1 [.int .i64 m] :=
  .inl (.inr ⟨_, _, rfl, World.news_of_block (cs := #[.int .i64 m]) (t := 3) (fr := (0, 0)) (h.c6 b rfl).1⟩)
/-- the row is whole -/
structure Mw (w : World) (ms : List Int) (v : Value) (b9 : Option Nat) (W : World) : Prop where
  bel : Below w.heap.size w W
  row : W.ownsRow w.heap.size 3 1 v ms.length (ms.map (Value.int .i64))
  c9 : ∀ b, b9 = some b → W.heap[b]? = some (.cells z6 26 (0, 0)) ∧ w.heap.size ≤ b
theorem not_row {W : World} {base n k : Nat} {v : Value} {xs : List Value} {cs : Array Value} (h : W.ownsRow base 3 1 v n xs) (hk : W.heap[k]? = some (.cells cs 26 (0, 0))) : v.ownBlock ≠ some k := by
  intro e
  rcases h.2 with ⟨rfl, _⟩ | ⟨g, cap, cur, rfl, _, hgh, _⟩
  · cases e
  · cases e
    rw [hk] at hgh
    simp at hgh
theorem Mk.s7 {w W w1 : World} {ms : List Int} {m : Int} {v v' : Value} {b6 b9 : Option Nat} (h : Mk w ms m (some v) b6 b9 W) (hown : w1.ownsRow w.heap.size 3 1 v' (ms.length + 1) (ms.map (Value.int .i64) ++ [.int .i64 m])) (hg : W.grownBy w1 v.ownBlock) : Mw w (ms ++ [m]) v' b9 w1 := by
  have hr := h.r4 v rfl
  refine ⟨h.bel.grown hg h.bel.size (fun k e => (hr.lt k e).1), by rw [List.length_append, List.map_append]; exact hown, fun b e => ?_⟩
  obtain ⟨h1, h2⟩ := h.c9 b e
  exact ⟨(hg.block b (Array.getElem?_eq_some_iff.1 h1).1 (fun e => not_row hr h1 e.symm)).trans h1, h2⟩
theorem Mw.below {w W W' : World} {ms : List Int} {v : Value} {b9 : Option Nat} (h : Mw w ms v b9 W) (hb : Below W.heap.size W W') : Mw w ms v b9 W' :=
  ⟨h.bel.trans (hb.mono h.bel.size), own_below h.row hb, fun b e => ⟨(hb.block b (Array.getElem?_eq_some_iff.1 (h.c9 b e).1).1).trans (h.c9 b e).1, (h.c9 b e).2⟩⟩
theorem Mw.s9 {w W : World} {ms : List Int} {v : Value} (h : Mw w ms v none W) : Mw w ms v (some W.heap.size) (W.alloc (.cells z6 26)) :=
  ⟨h.bel.alloc h.bel.size _, h.row.alloc _, fun b e => (by cases e; exact ⟨World.alloc_heap_new W _, h.bel.size⟩)⟩
/-- the cells that the store goes into -/
theorem Mw.cells {w W : World} {ms : List Int} {v : Value} {b : Nat} (h : Mw w ms v (some b) W) : (∀ j, W.frozen? ⟨b, j, none⟩ = false) ∧ W.cell? ⟨b, 0, none⟩ = some (.int .i64 0) ∧ W.cell? ⟨b, 1, none⟩ = some (.int .i64 0) ∧ W.cell? ⟨b, 2, none⟩ = some (.string ⟨#[]⟩) ∧ W.cell? ⟨b, 3, none⟩ = some (.slice none 0 0) ∧ W.cell? ⟨b, 4, none⟩ = some (.slice none 0 0) ∧ W.cell? ⟨b, 5, none⟩ = some (.slice none 0 0) := by
  obtain ⟨h1, -⟩ := h.c9 b rfl
  refine ⟨fun j => by simp [World.frozen?, h1], ?_, ?_, ?_, ?_, ?_, ?_⟩ <;> (unfold World.cell?; rw [h1]; rfl)
theorem info6 : (Tryd.prog.info? 26).map (·.size) = some 6 := by kernel_rfl
theorem Mw.there {w W : World} {ms : List Int} {v : Value} {b : Nat} (h : Mw w ms v (some b) W) : W.there b 0 6 := by
  obtain ⟨f, k0, k1, k2, k3, k4, k5⟩ := h.cells
  intro j hj
  rw [Nat.zero_add]
  refine ⟨?_, f j⟩
  match j, hj with
  | 0, _ => rw [k0]; rfl
  | 1, _ => rw [k1]; rfl
  | 2, _ => rw [k2]; rfl
  | 3, _ => rw [k3]; rfl
  | 4, _ => rw [k4]; rfl
  | 5, _ => rw [k5]; rfl
/-- a new name with marks, in a box -/
def NewAt (w W : World) (b : Nat) (d : D) (v : Value) : Prop := Box W b d v (.slice none 0 0) (.slice none 0 0) ∧ IRow (fun k => w.heap.size ≤ k) W v d.m ∧ Below w.heap.size w W
theorem Mw.stored {w W : World} {ms : List Int} {a : Option Addr} {c : Nat} {b : Nat} (h : Mw w ms (.slice a ms.length c) (some b) W) (s : ByteArray) : NewAt w (six6 W b (.mk 5 0 s ms [] []) (.slice a ms.length c) (.slice none 0 0) (.slice none 0 0)) b (.mk 5 0 s ms [] []) (.slice a ms.length c) := by
  obtain ⟨h1, h2⟩ := h.c9 b rfl
  have hk := six6_keep W b (.mk 5 0 s ms [] []) (.slice a ms.length c) (.slice none 0 0) (.slice none 0 0)
  have hnr := not_row h.row h1
  refine ⟨?_, ?_, h.bel.trans (hk.to_below (fun k e => by omega) h.bel.size)⟩
  · obtain ⟨-, k0, k1, k2, k3, k4, k5⟩ := h.cells
    unfold six6
    refine ⟨?_, ?_, ?_, ?_, ?_, ?_⟩
    · rw [cell_set_ne _ b 5 0 _ (by decide), cell_set_ne _ b 4 0 _ (by decide), cell_set_ne _ b 3 0 _ (by decide), cell_set_ne _ b 2 0 _ (by decide), cell_set_ne _ b 1 0 _ (by decide)]
      exact cell_set_eq _ b 0 _ _ (by exact k0)
    · rw [cell_set_ne _ b 5 1 _ (by decide), cell_set_ne _ b 4 1 _ (by decide), cell_set_ne _ b 3 1 _ (by decide), cell_set_ne _ b 2 1 _ (by decide)]
      exact cell_set_eq _ b 1 _ _ (by rw [cell_set_ne _ b 0 1 _ (by decide)]; exact k1)
    · rw [cell_set_ne _ b 5 2 _ (by decide), cell_set_ne _ b 4 2 _ (by decide), cell_set_ne _ b 3 2 _ (by decide)]
      exact cell_set_eq _ b 2 _ _ (by rw [cell_set_ne _ b 1 2 _ (by decide), cell_set_ne _ b 0 2 _ (by decide)]; exact k2)
    · rw [cell_set_ne _ b 5 3 _ (by decide), cell_set_ne _ b 4 3 _ (by decide)]
      exact cell_set_eq _ b 3 _ _ (by rw [cell_set_ne _ b 2 3 _ (by decide), cell_set_ne _ b 1 3 _ (by decide), cell_set_ne _ b 0 3 _ (by decide)]; exact k3)
    · rw [cell_set_ne _ b 5 4 _ (by decide)]
      exact cell_set_eq _ b 4 _ _ (by rw [cell_set_ne _ b 3 4 _ (by decide), cell_set_ne _ b 2 4 _ (by decide), cell_set_ne _ b 1 4 _ (by decide), cell_set_ne _ b 0 4 _ (by decide)]; exact k4)
    · exact cell_set_eq _ b 5 _ _ (by rw [cell_set_ne _ b 4 5 _ (by decide), cell_set_ne _ b 3 5 _ (by decide), cell_set_ne _ b 2 5 _ (by decide), cell_set_ne _ b 1 5 _ (by decide), cell_set_ne _ b 0 5 _ (by decide)]; exact k5)
  · have hi : IRow (fun k => k ≠ b ∧ w.heap.size ≤ k) W (.slice a ms.length c) ms := by
      have h9 := IRow.of_own (m := ms) h.row
      obtain ⟨a', c', e1, e2, e3⟩ := h9
      cases e1
      refine ⟨a, c, rfl, e2, fun hn => ?_⟩
      obtain ⟨g, o, e4, e5, e6, e7⟩ := e3 hn
      subst e4
      exact ⟨g, o, rfl, ⟨fun e => hnr (by rw [← e]; rfl), e5⟩, e6, e7⟩
    exact (hi.keep hk (fun k hk _ e => hk.1 e)).mono (fun k hk _ => hk.2)
end Sp
end Go.Proofs.YtjbjgceblanhpaaDoor
