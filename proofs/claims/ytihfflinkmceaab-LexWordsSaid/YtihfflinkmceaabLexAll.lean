/-
  lex.All: the words, one after another.
-/
import Derived.RangeFuncNested
import Derived.RangeFuncBound
import Derived.RangeFuncCalls
import Derived.RangeFuncLeaves
import Derived.Shelf.Abstract
import Derived.Shelf.RegionOpen
import Derived.WalkKit
import Derived.OwnWalkIn
import Derived.TacticsInMore
import Derived.LoopNIn
import Derived.LoopIn
import Derived.Maps.OwnIn
import Derived.Maps.AppendAt
import Derived.Test.YtihfflinkmceaabLexSame
namespace Go.Proofs.Ytihfflinkmceaab
open Go.RowKit Go.Sort Go.Shelf
attribute [local go_sem] Oper.semAt_some
namespace Lx
/-- the block of the row that the box B holds -/
def rowOf (W : World) (B : Nat) : Option Nat := (W.cell? ⟨B, 0, none⟩).bind Value.ownBlock
/-- what a round of 'told' keeps -/
structure KpT (B : Nat) (W W' : World) : Prop where
  size : W.heap.size ≤ W'.heap.size
  same : ∀ (k : Nat) (c : Array Value) (t : TypeId) (fz : Nat × Nat), W.heap[k]? = some (.cells c t fz) → k ≠ B → rowOf W B ≠ some k → W'.heap[k]? = W.heap[k]?
  row : ∀ k, rowOf W' B = some k → rowOf W B = some k ∨ W.heap.size ≤ k
theorem KpT.trans {B : Nat} {X Y Z : World} (h : KpT B X Y) (k : KpT B Y Z) : KpT B X Z := by
  refine ⟨Nat.le_trans h.size k.size, fun i c t fz hi hB hr => ?_, fun i hi => ?_⟩
  · have h1 := h.same i c t fz hi hB hr
    have hlt := (Array.getElem?_eq_some_iff.1 hi).1
    refine (k.same i c t fz (h1.trans hi) hB (fun hc => ?_)).trans h1
    rcases h.row i hc with h2 | h2
    · exact hr h2
    · omega
  · rcases k.row i hi with h1 | h1
    · exact h.row i h1
    · exact .inr (Nat.le_trans h.size h1)
theorem KpT.putObj {B : Nat} (W : World) (l : Nat) (o o' : Obj) (hB : B < l) (h : W.heap[l]? = some o) (ho : o.isCells = false) : KpT B W (W.putObj l o') := by
  refine ⟨(grownBy_putObj' W l o').size, fun k c t fz hk _ _ => (grownBy_putObj' W l o').block k (Array.getElem?_eq_some_iff.1 hk).1 (fun e => ?_), fun k hk => ?_⟩
  · cases e
    rw [h] at hk
    cases hk
    cases ho
  · refine .inl ?_
    have hll := (Array.getElem?_eq_some_iff.1 h).1
    rw [← hk]
    unfold rowOf
    rw [World.cell?_of_block (w := W) (w' := W.putObj l o') (a := ⟨B, 0, none⟩) ((grownBy_putObj' W l o').block B (by omega) (fun e => by cases e; omega))]
theorem KpT.alloc {B : Nat} (W : World) (o : Obj) (hB : B < W.heap.size) : KpT B W (W.alloc o) := by
  have hg := World.grownBy_alloc W o none
  refine ⟨hg.size, fun k c t fz hk _ _ => hg.block k (Array.getElem?_eq_some_iff.1 hk).1 (by simp), fun k hk => .inl ?_⟩
  rw [← hk]
  unfold rowOf
  rw [World.cell?_of_block (w := W) (w' := W.alloc o) (a := ⟨B, 0, none⟩) (hg.block B hB (by simp))]
theorem take_snoc {α : Type} (xs : List α) (k : Nat) (h : k < xs.length) : xs.take (k + 1) = xs.take k ++ [xs[k]] := by
  rw [List.take_add_one, List.getElem?_eq_getElem h]; rfl
theorem app_nil (acc : List PTok) (r : List PTok × Nat × Int) (h : (app acc r).2.2 ≠ 0) : (app acc r).1 = [] := by
  unfold app at *
  split
  · rename_i h0; rw [if_pos h0] at h; exact absurd rfl h
  · rfl
theorem lex_nil (t : List UInt8) (h : (lex t).2.2 ≠ 0) : (lex t).1 = [] := by
  unfold lex at *
  split
  · rfl
  · rename_i h1
    rw [if_neg h1] at h
    split
    · rfl
    · rename_i h2
      rw [if_neg h2] at h
      rw [← words_norm] at h ⊢
      exact app_nil _ _ h
theorem WordsPost.row {s : List UInt8} {w w' : World} {e : Ending} (h : WordsPost (lex s) w e w') : ∃ v a b, e = .returned (.tuple #[v, a, b]) ∧ w'.ownsRow w.heap.size 35 5 v (lex s).1.length (flatT (lex s).1) ∧ Below w.heap.size w w' := by
  obtain ⟨hb, ⟨_, v, he, ho⟩ | ⟨hc, he⟩⟩ := h
  · exact ⟨v, _, _, he, ho, hb⟩
  · refine ⟨_, _, _, he, ?_, hb⟩
    rw [lex_nil s hc]
    exact World.ownsRow_nil _ _ _ _
theorem grown_of_below {w w' : World} (h : Below w.heap.size w w') : w.grownBy w' none := ⟨h.os, h.tape, h.output, h.size, fun k hk _ => h.block k hk⟩
/-- the words that the iterator's own row holds -/
def Holds (W : World) (B g : Nat) (xs : List PTok) : Prop := (∃ cur fz, W.heap[g]? = some (.cells cur 35 fz) ∧ cur.toList.take (xs.length * 5) = flatT xs) ∧ g ≠ B ∧ rowOf W B ≠ some g
theorem Holds.next {W W' : World} {B g : Nat} {xs : List PTok} (h : Holds W B g xs) (k : KpT B W W') : Holds W' B g xs := by
  obtain ⟨⟨cur, fz, h1, h2⟩, h3, h4⟩ := h
  refine ⟨⟨cur, fz, (k.same g _ _ _ h1 h3 h4).trans h1, h2⟩, h3, fun hc => ?_⟩
  have := (Array.getElem?_eq_some_iff.1 h1).1
  rcases k.row g hc with h5 | h5
  · exact h4 h5
  · omega
theorem Holds.cells {W : World} {B g : Nat} {xs : List PTok} (h : Holds W B g xs) : ∀ j u, (flatT xs)[j]? = some u → W.cell? ⟨g, j, none⟩ = some u := by
  obtain ⟨⟨cur, fz, h1, h2⟩, _, _⟩ := h
  intro j u hu
  rw [← h2] at hu
  unfold World.cell?
  rw [h1]
  rw [List.getElem?_take] at hu
  split at hu
  · simpa using hu
  · cases hu
set_option maxRecDepth 100000 in
theorem lenTok (base : Option Addr) (n c : Nat) (w : World) : (Builtin.len_ #[23] 3 #[.slice base n c]).run Try.prog w = .ok (goInt n) w := run_len_slice (P := Try.prog) (w := w) 23 3 base n c rfl
end Lx
attribute [local go_sem] Lx.lenTok
set_option maxRecDepth 100000 in
set_option maxHeartbeats 4000000 in
/-- the closure of lex.All, for every body that keeps what it finds -/
theorem All1_in (n : Nat) (hn : 2 ≤ n) (l Bs B : Nat) (s : ByteArray) (hs : s.size ≤ 9223372036854775807) (J Jx : List Lx.PTok → World → Prop) (xs : List Lx.PTok) (hxs : xs = (Lx.lex s.data.toList).1) (W : World)
    (hJ : AbidesFrom W.heap.size J)
    (hY : ∀ pre x W1, J pre W1 → pre.length < xs.length → YieldAt Fence.wide (n - 1) Try.prog l #[.agg #[.int .i64 x.t.k, .int .i64 (x.at_ : Int), .int .i64 (x.to : Int), .int .i64 x.t.n, .string ⟨x.t.s.toArray⟩]] W1 fun e W' =>
      (e = .returned (.bool true) ∧ J (pre ++ [x]) W' ∧ Lx.KpT B W1 W') ∨ (e = .returned (.bool false) ∧ Jx (pre ++ [x]) W'))
    (hBs : W.cell? ⟨Bs, 0, none⟩ = some (.string s)) (hB : W.cell? ⟨B, 0, none⟩ = some (.slice none 0 0)) (hBl : B < W.heap.size) (h0 : J [] W) (hlen : xs.length ≤ 4096) :
    CallsIn Fence.wide n Try.prog 24 #[.func (.yield l) #[] #[], .pointer (some ⟨Bs, 0, none⟩)] W fun e W' => (∃ v, e = .returned v) ∧
      ((∃ ys, ys = xs ∧ J ys W') ∨ (∃ pre, pre <+: xs ∧ Jx pre W')) := by
  refine callsIn_of_wp Try.func24 rfl trivial ?_ rfl
  simp only [Try.ntmps24, List.size_toArray, List.length_cons, List.length_nil, Nat.reduceAdd, Nat.reduceSub, Array.replicate_succ, Array.replicate_zero, List.push_toArray, List.append_toArray, List.nil_append, List.cons_append]
  have hn1 : 1 ≤ n := by omega
  have h3 : Lx.rowOf W B = none := by unfold Lx.rowOf; rw [hB]; rfl
  gi_wp2_with (refine ⟨trivial, ?_⟩; gi_at_call 7; refine (callsIn_wide.2 (Words_any s W hs)).mono ?_; intro e w2 hp; obtain ⟨v, a, b, rfl, hown, hbel⟩ := Lx.WordsPost.row hp)
  have hJ2 := hJ [] W w2 none h0 (Lx.grown_of_below hbel) (by simp)
  have hsz2 := hbel.size
  have hr2 : Lx.rowOf w2 B = none := by rw [← h3]; unfold Lx.rowOf; rw [hbel.cell (p := ⟨B, 0, none⟩) hBl]
  rw [← hxs] at hown
  clear hbel hp hxs
  rcases hown.2 with ⟨rfl, hz⟩ | ⟨g, cap, cur, rfl, hbg, hgh, hc1, hc2, hc3, hc4⟩
  · have hx0 : xs = [] := List.eq_nil_of_length_eq_zero hz
    subst hx0
    gi_wp2
    simp only [Lx.lenTok]
    gi_wp2
    gi_loopw [16] (fun i wr => i = .int .i64 0 ∧ J [] wr) (fun _ _ => 0)
    case atStart => exact ⟨rfl, hJ2⟩
    case round =>
      obtain ⟨rfl, hJs⟩ := hrel
      gi_wp2
      go_end0
      exact ⟨⟨_, rfl⟩, .inl ⟨_, rfl, hJs⟩⟩
  · have hH : Lx.Holds w2 B g xs := ⟨⟨cur, _, hgh, hc4⟩, by omega, by rw [hr2]; simp⟩
    have hHH := Lib.hid hH
    clear hH hc1 hc2 hc3 hc4 hgh hown
    gi_wp2
    simp only [Lx.lenTok]
    gi_wp2
    gi_loopw [16] (fun i wr => ∃ k : Nat, k ≤ xs.length ∧ i = .int .i64 k ∧ J (xs.take k) wr ∧ Hid (Lx.Holds wr B g xs) ∧ B < wr.heap.size ∧ W.heap.size ≤ wr.heap.size) (fun i _ => xs.length - (intOf i).toNat)
    case atStart => exact ⟨0, by omega, rfl, hJ2, hHH, by omega, hsz2⟩
    case round =>
      obtain ⟨k, hk, rfl, hJs, HO, hBw, hWw⟩ := hrel
      by_cases hlt : k < xs.length
      · have hlti : (k : Int) < (xs.length : Int) := by omega
        obtain ⟨a0, a1, a2, a3, a4⟩ := Lx.Row.five HO.out.cells k hlt
        obtain ⟨p, hp⟩ : ∃ p, xs[k] = p := ⟨_, rfl⟩
        rw [hp] at a0 a1 a2 a3 a4
        obtain ⟨wb, hwb⟩ : ∃ wb, wr.alloc (.cells #[.int .i64 p.t.k, .int .i64 (p.at_ : Int), .int .i64 (p.to : Int), .int .i64 p.t.n, .string ⟨p.t.s.toArray⟩] 35) = wb := ⟨_, rfl⟩
        have hJb : J (xs.take k) wb := by rw [← hwb]; exact hJ _ _ _ none hJs (World.grownBy_alloc wr _ none) (by simp)
        have hHb := Lib.hid (HO.out.next (by rw [← hwb]; exact Lx.KpT.alloc wr _ hBw : Lx.KpT B wr wb))
        have htk := Lx.TkAt.alloc wr p.t.k (p.at_ : Int) (p.to : Int) p.t.n ⟨p.t.s.toArray⟩ 35
        rw [hwb] at htk
        have hsb : wr.heap.size + 1 = wb.heap.size := by rw [← hwb]; simp
        obtain ⟨fn, tmps, assign, body, hy, hR⟩ := hY _ p wb hJb (by rw [List.length_take]; omega)
        have b0 := htk.c0
        have b1 := htk.c1
        have b2 := htk.c2
        have b3 := htk.c3
        have b4 := htk.c4
        have HTK := Lib.hid htk
        clear htk
        gi_wp2
        refine hR.mono ?_
        rintro e W3 (⟨rfl, hJ3, hk3⟩ | ⟨rfl, hJx3⟩)
        · have hs3 := hk3.size
          gi_wp2
          go_roundw
          case rel => exact ⟨k + 1, by omega, by simp, by rw [Lx.take_snoc _ _ hlt, hp]; exact hJ3, Lib.hid (hHb.out.next hk3), by omega, by omega⟩
          case measure => simp [intOf]; omega
        · gi_wp2
          refine bodyPost_ret (results_none rfl _ _ _) rfl ?_
          exact ⟨⟨_, rfl⟩, .inr ⟨_, ⟨xs.drop (k + 1), by rw [← hp, ← Lx.take_snoc _ _ hlt, List.take_append_drop]⟩, hJx3⟩⟩
      · obtain rfl : k = xs.length := by omega
        gi_wp2
        go_end0
        exact ⟨⟨_, rfl⟩, .inl ⟨_, List.take_length, hJs⟩⟩
/-- lex.All(s) hands back a value that goes through the words -/
theorem All_stops (n : Nat) (hn : 2 ≤ n) (Bs B : Nat) (s : ByteArray) (hs : s.size ≤ 9223372036854775807) (xs : List Lx.PTok) (hxs : xs = (Lx.lex s.data.toList).1) (hlen : xs.length ≤ 4096) (w : World)
    (hBs : w.cell? ⟨Bs, 0, none⟩ = some (.string s)) (hBsl : Bs < w.heap.size) (hB : w.cell? ⟨B, 0, none⟩ = some (.slice none 0 0)) (hBl : B < w.heap.size) :
    SeqStopsK Fence.wide n Try.prog 24 #[.pointer (some ⟨Bs, 0, none⟩)] (fun x : Lx.PTok => #[.agg #[.int .i64 x.t.k, .int .i64 (x.at_ : Int), .int .i64 (x.to : Int), .int .i64 x.t.n, .string ⟨x.t.s.toArray⟩]]) (Lx.KpT B) (fun ys => ys = xs) (fun pre => pre <+: xs) xs.length w := fun l J Jx W hW hJ _ hY h0 =>
  All1_in n hn l Bs B s hs J Jx xs hxs W hJ hY ((hW.cell (p := ⟨Bs, 0, none⟩) hBsl).trans hBs) ((hW.cell (p := ⟨B, 0, none⟩) hBl).trans hB) (Nat.lt_of_lt_of_le hBl hW.size) h0 hlen
set_option maxRecDepth 100000 in
theorem All_any (s : ByteArray) (w : World) : Calls Try.prog 11 #[.string s] w fun e w' => e = .returned (.func (.func 24) #[] #[.pointer (some ⟨w.heap.size, 0, none⟩)]) ∧ w' = w.alloc (.cells #[.string s] 9) := by
  go_enter Try.func11, Try.ntmps11
  go_wp2
  go_ret
  exact ⟨rfl, rfl⟩
end Go.Proofs.Ytihfflinkmceaab
