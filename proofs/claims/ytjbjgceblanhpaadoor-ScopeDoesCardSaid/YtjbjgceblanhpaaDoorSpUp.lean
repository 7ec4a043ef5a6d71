/-
  scope.Table.up: a scope and those that it stands within.
-/
import Derived.RangeFuncNested
import Derived.RangeFuncBound
import Derived.RangeFuncCalls
import Derived.RangeFuncLeaves
import Derived.Shelf.Abstract
import Derived.Shelf.RegionOpen
import Derived.WalkKit
import Derived.OwnWalkIn
import Derived.TacticsInMore
import Derived.LoopNIn
import Derived.LoopIn
import Derived.Maps.OwnIn
import Derived.Maps.AppendAt
import Derived.Test.YtjbjgceblanhpaaDoorSpNew
namespace Go.Proofs.YtjbjgceblanhpaaDoor
open Go.RowKit Go.Shelf
attribute [local go_sem] Oper.semAt_some
namespace Sp
open Dt
theorem up_fuel {l : List Bd} (ho : ∀ i b, l[i]? = some b → 0 < i → b.inn < i) : ∀ (s n m : Nat), s ≤ n → s ≤ m → up l n s = up l m s := by
  intro s
  induction s using Nat.strongRecOn with
  | _ s ih =>
    intro n m hn hm
    cases n with
    | zero =>
      obtain rfl : s = 0 := by omega
      cases m with
      | zero => rfl
      | succ m => rw [up, up, if_pos rfl]
    | succ n =>
      cases m with
      | zero =>
        obtain rfl : s = 0 := by omega
        rw [up, up, if_pos rfl]
      | succ m =>
        rw [up, up]
        by_cases h0 : s = 0
        · rw [if_pos h0, if_pos h0]
        · rw [if_neg h0, if_neg h0]
          cases hb : l[s]? with
          | none => rfl
          | some b =>
            have := ho s b hb (by omega)
            simp only
            rw [ih b.inn this n m (by omega) (by omega)]
theorem ups_zero (l : List Bd) : ups l 0 = [] := rfl
theorem ups_step {t : Tbl} (h : t.Ok) {q : Nat} (h0 : q ≠ 0) {b : Bd} (hb : t.l[q]? = some b) : ups t.l q = q :: ups t.l b.inn := by
  have hlt := (h.inn q b hb (by omega)).1
  unfold ups
  cases q with
  | zero => exact absurd rfl h0
  | succ q =>
    rw [up, if_neg h0, hb]
    simp only
    rw [up_fuel (fun i b hb hi => (h.inn i b hb hi).1) b.inn q b.inn (by omega) (Nat.le_refl _)]
theorem ups_len {t : Tbl} (h : t.Ok) : ∀ (q : Nat), q < t.l.length → (ups t.l q).length ≤ q := by
  intro q
  induction q using Nat.strongRecOn with
  | _ q ih =>
    intro hq
    by_cases h0 : q = 0
    · subst h0; rw [ups_zero]; exact Nat.le_refl _
    · have hb := List.getElem?_eq_getElem hq
      have hlt := (h.inn q _ hb (by omega)).1
      rw [ups_step h h0 hb, List.length_cons]
      have := ih _ hlt (by omega)
      omega
theorem ups_lt {t : Tbl} (h : t.Ok) : ∀ (q : Nat), q < t.l.length → ∀ i ∈ ups t.l q, 0 < i ∧ i ≤ q := by
  intro q
  induction q using Nat.strongRecOn with
  | _ q ih =>
    intro hq i hi
    by_cases h0 : q = 0
    · subst h0; rw [ups_zero] at hi; cases hi
    · have hb := List.getElem?_eq_getElem hq
      have hlt := (h.inn q _ hb (by omega)).1
      rw [ups_step h h0 hb] at hi
      rcases List.mem_cons.1 hi with rfl | hi
      · omega
      · have := ih _ hlt (by omega) i hi
        omega
/-- a scope that is there -/
abbrev Sc (t : Tbl) := { i : Nat // i < t.l.length }
end Sp
set_option maxRecDepth 100000 in
set_option maxHeartbeats 8000000 in
theorem spUp1_in (n : Nat) (hn : 2 ≤ n) (l Bs Bt : Nat) (n0 : Nat) (w : World) (hn0 : n0 = w.heap.size) {base T mb : Nat} {vl : Value} {xs : List Sp.B} {t : Sp.Tbl} (hT : Sp.Tab w base T vl mb xs t) (s N : Nat) (hs : s < t.l.length) (hN : s ≤ N)
    (hBs : w.cell? ⟨Bs, 0, none⟩ = some (.int .i64 s)) (hBt : w.cell? ⟨Bt, 0, none⟩ = some (.pointer (some ⟨T, 0, none⟩)))
    (J Jx : List (Sp.Sc t) → World → Prop) (W : World) (hW : Below n0 w W) (_hJ : AbidesFrom W.heap.size J)
    (hY : ∀ (pre : List (Sp.Sc t)) (x : Sp.Sc t) W1, J pre W1 → pre.length < N → YieldAt Fence.wide (n - 1) Tryd.prog l #[.int .i64 (x.1 : Int)] W1 fun e W' =>
      (e = .returned (.bool true) ∧ J (pre ++ [x]) W' ∧ Below n0 W1 W') ∨ (e = .returned (.bool false) ∧ Jx (pre ++ [x]) W'))
    (h0 : J [] W) :
    CallsIn Fence.wide n Tryd.prog 44 #[.func (.yield l) #[] #[], .pointer (some ⟨Bs, 0, none⟩), .pointer (some ⟨Bt, 0, none⟩)] W fun e W' => (∃ v, e = .returned v) ∧
      ((∃ ys : List (Sp.Sc t), ys.map Subtype.val = Sp.ups t.l s ∧ J ys W') ∨ (∃ pre : List (Sp.Sc t), pre.map Subtype.val <+: Sp.ups t.l s ∧ Jx pre W')) := by
  refine callsIn_of_wp Tryd.func44 rfl trivial ?_ rfl
  simp only [Tryd.ntmps44, List.size_toArray, List.length_cons, List.length_nil, Nat.reduceAdd, Nat.reduceSub, Array.replicate_succ, Array.replicate_zero, List.push_toArray, List.append_toArray, List.nil_append, List.cons_append]
  have hn1 : 1 ≤ n := by omega
  subst hn0
  have b0 := (hW.cell (p := ⟨Bs, 0, none⟩) (block_lt_of_cell hBs)).trans hBs
  have HT := Lib.hid hT
  have HBT := Lib.hid hBt
  have HW := Lib.hid hW
  have HL := Lib.hid (Sp.ups_len hT.ok s hs)
  clear hT hBt hBs hW
  gi_wp2
  clear b0
  gi_loopw [4] (fun v wr => ∃ (pre : List (Sp.Sc t)) (q : Nat), v = .int .i64 q ∧ q < t.l.length ∧ Hid (pre.map Subtype.val ++ Sp.ups t.l q = Sp.ups t.l s) ∧ J pre wr ∧ Hid (Below w.heap.size w wr)) (fun v _ => (intOf v).toNat)
  case atStart => exact ⟨[], s, rfl, hs, rfl, h0, HW⟩
  case round =>
    obtain ⟨pre, q, rfl, hq, HP, hJs, HB⟩ := hrel
    by_cases hz : q = 0
    · subst hz
      have HE : Hid (pre.map Subtype.val = Sp.ups t.l s) := by show _ = _; rw [← HP.out, Sp.ups_zero, List.append_nil]
      gi_wp2
      go_end0
      exact ⟨⟨_, rfl⟩, .inl ⟨pre, HE.out, hJs⟩⟩
    · have hqi : ((q : Int) != 0) = true := by simpa using hz
      have hb := List.getElem?_eq_getElem hq
      obtain ⟨b, hbb⟩ : ∃ b, b = t.l[q] := ⟨_, rfl⟩
      rw [← hbb] at hb
      have hlt := (HT.out.ok.inn q b hb (by omega)).1
      have HQ : Hid ((pre ++ [(⟨q, hq⟩ : Sp.Sc t)]).map Subtype.val ++ Sp.ups t.l b.inn = Sp.ups t.l s) := by show _ = _; rw [List.map_append, List.append_assoc, ← HP.out, Sp.ups_step HT.out.ok hz hb]; rfl
      have hpl : pre.length < N := by
        have := congrArg List.length HP.out
        rw [Sp.ups_step HT.out.ok hz hb] at this
        simp at this
        have := HL.out
        omega
      obtain ⟨fn, tmps, assign, body, hy, hR⟩ := hY pre ⟨q, hq⟩ wr hJs hpl
      have HBQ : Hid (∃ c, c = t.l[q]) := ⟨_, rfl⟩
      have HX : Hid (∀ W3, Below w.heap.size w W3 → ∃ g c, vl = .slice (some ⟨g, 0, none⟩) t.l.length c ∧ W3.cell? ⟨g, q * 10, none⟩ = some (.int .i64 b.inn) ∧ W3.cell? ⟨T, 0, none⟩ = some vl ∧ W3.cell? ⟨Bt, 0, none⟩ = some (.pointer (some ⟨T, 0, none⟩))) := by
        intro W3 h3
        obtain ⟨g, c, e1, e2, e3, e4, e5, e6⟩ := HT.out.at
        have hql : q < xs.length := by rw [HT.out.len]; exact hq
        have hc := e6 q hql 0 (by omega)
        have hxb : xs[q].b = b := by
          have h1 := HT.out.xb
          have h2 : (xs.map Sp.B.b)[q]? = some xs[q].b := by rw [List.getElem?_map, List.getElem?_eq_getElem hql]; rfl
          rw [h1, hb] at h2
          exact (Option.some.inj h2).symm
        refine ⟨g, c, e1, (h3.cell (p := ⟨g, q * 10, none⟩) e3).trans ?_, (h3.cell (p := ⟨T, 0, none⟩) HT.out.lt).trans HT.out.c0, (h3.cell (p := ⟨Bt, 0, none⟩) (block_lt_of_cell HBT.out)).trans HBT.out⟩
        rw [Nat.add_zero] at hc
        rw [hc, ← hxb]
        rfl
      clear hb hbb HP
      gi_wp2
      refine hR.mono ?_
      rintro e W3 (⟨rfl, hJ3, hk3⟩ | ⟨rfl, hJx3⟩)
      · obtain ⟨g, c, hvl, q1, q2, q3⟩ := HX.out W3 (HB.out.trans hk3)
        subst hvl
        have HB3 := Lib.hid (HB.out.trans hk3)
        have hq0 : (0 : Int) ≤ (q : Int) := by omega
        clear HX hk3
        gi_wp2
        go_roundw
        case rel => exact ⟨pre ++ [(⟨q, hq⟩ : Sp.Sc t)], b.inn, by simp, by omega, HQ, hJ3, HB3⟩
        case measure => simp [intOf]; omega
      · gi_wp2
        refine bodyPost_ret (results_none rfl _ _ _) rfl ?_
        exact ⟨⟨_, rfl⟩, .inr ⟨pre ++ [(⟨q, hq⟩ : Sp.Sc t)], ⟨Sp.ups t.l b.inn, HQ.out⟩, hJx3⟩⟩
/-- t.up(scope) hands back a value that goes through the scopes -/
theorem spUp_stops (n : Nat) (hn : 2 ≤ n) (Bs Bt : Nat) (w : World) {base T mb : Nat} {vl : Value} {xs : List Sp.B} {t : Sp.Tbl} (hT : Sp.Tab w base T vl mb xs t) (s : Nat) (hs : s < t.l.length)
    (hBs : w.cell? ⟨Bs, 0, none⟩ = some (.int .i64 s)) (hBt : w.cell? ⟨Bt, 0, none⟩ = some (.pointer (some ⟨T, 0, none⟩))) :
    SeqStopsK Fence.wide n Tryd.prog 44 #[.pointer (some ⟨Bs, 0, none⟩), .pointer (some ⟨Bt, 0, none⟩)] (fun x : Sp.Sc t => #[.int .i64 (x.1 : Int)]) (Below w.heap.size) (fun ys => ys.map Subtype.val = Sp.ups t.l s) (fun pre => pre.map Subtype.val <+: Sp.ups t.l s) s w := fun l J Jx W hW hJ _ hY h0 =>
  spUp1_in n hn l Bs Bt w.heap.size w rfl hT s s hs (Nat.le_refl _) hBs hBt J Jx W hW hJ hY h0
set_option maxRecDepth 100000 in
theorem spUp_any (p : Option Addr) (s : Int) (w : World) : Calls Tryd.prog 29 #[.pointer p, .int .i64 s] w fun e w' => e = .returned (.func (.func 44) #[] #[.pointer (some ⟨w.heap.size + 1, 0, none⟩), .pointer (some ⟨w.heap.size, 0, none⟩)]) ∧ w' = (w.alloc (.cells #[.pointer p] 32)).alloc (.cells #[.int .i64 s] 3) := by
  go_enter Tryd.func29, Tryd.ntmps29
  go_wp2
  go_ret
  exact ⟨rfl, rfl⟩
end Go.Proofs.YtjbjgceblanhpaaDoor
