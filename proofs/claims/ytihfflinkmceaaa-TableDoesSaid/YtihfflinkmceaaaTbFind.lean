/-
  prim.All, prim.Find.
-/
import Derived.RangeFuncNested
import Derived.RangeFuncBound
import Derived.RangeFuncCalls
import Derived.RangeFuncLeaves
import Derived.Shelf.Abstract
import Derived.Shelf.RegionOpen
import Derived.WalkKit
import Derived.OwnWalkIn
import Derived.TacticsInMore
import Derived.LoopNIn
import Derived.LoopIn
import Derived.Maps.OwnIn
import Derived.Maps.AppendAt
import Derived.Test.YtihfflinkmceaaaTbFindR
namespace Go.Proofs.Ytihfflinkmceaaa
open Go.RowKit Go.Shelf
attribute [local go_sem] Oper.semAt_some
namespace Tb
/-- the rows below k that have a name -/
def upto (k : Nat) : List (Nat × List UInt8) := ((List.range k).filter fun n => !(rowT n).1.isEmpty).map fun n => (n, (rowT n).1)
theorem upto_yes (k : Nat) (h : (rowT k).1.isEmpty = false) : upto (k + 1) = upto k ++ [(k, (rowT k).1)] := by
  unfold upto; rw [List.range_succ, List.filter_append, List.map_append]; simp [h]
theorem upto_no (k : Nat) (h : (rowT k).1.isEmpty = true) : upto (k + 1) = upto k := by
  unfold upto; rw [List.range_succ, List.filter_append, List.map_append]; simp [h]
theorem upto_len (k : Nat) (h : k < 85) : (upto k).length < 85 := by
  unfold upto
  rw [List.length_map]
  have := List.length_filter_le (fun n => !(rowT n).1.isEmpty) (List.range k)
  rw [List.length_range] at this
  omega
theorem upto_all : upto 85 = prims.map fun p => (p.1, p.2.1) := by decide +kernel
theorem upto_pre (k m : Nat) : upto k <+: upto (k + m) := by
  induction m with
  | zero => exact List.prefix_refl _
  | succ m ih =>
    refine ih.trans ?_
    rw [show k + (m + 1) = k + m + 1 by omega]
    cases h : (rowT (k + m)).1.isEmpty
    · rw [upto_yes _ h]; exact ⟨_, rfl⟩
    · rw [upto_no _ h]; exact List.prefix_refl _
theorem flatR_ext : ∀ (l : List (List UInt8 × Int × Int)) (k : Nat) (h : k < l.length), (flatR l).extract (k * 3) (k * 3 + 3) = [.string ⟨l[k].1.toArray⟩, .int .i64 l[k].2.1, .int .i64 l[k].2.2]
  | [], k, h => absurd h (by simp)
  | p :: r, 0, _ => by simp [flatR, List.extract]
  | p :: r, k + 1, h => by
    have := flatR_ext r k (by simpa using h)
    rw [show (k + 1) * 3 = k * 3 + 3 by omega]
    rw [List.getElem_cons_succ, ← this]
    simp [flatR, List.extract]
theorem rows_ext (k : Nat) (hk : k < 85) : (flatR rowsT).toArray.extract (k * 3) (k * 3 + 3) = #[.string ⟨(rowT k).1.toArray⟩, .int .i64 (rowT k).2.1, .int .i64 (rowT k).2.2] := by
  have h := flatR_ext rowsT k (by simpa [rowsT] using hk)
  have e : rowsT[k]'(by simpa [rowsT] using hk) = rowT k := by simp [rowsT]
  rw [e] at h
  apply Array.ext'
  rw [Array.toList_extract]
  exact h
theorem index_table (k : Nat) (hk : k < 85) (w : World) : (Instr.index 95 (.agg (flatR rowsT).toArray) (.int .i64 k)).run Try.prog w = .ok (.agg #[.string ⟨(rowT k).1.toArray⟩, .int .i64 (rowT k).2.1, .int .i64 (rowT k).2.2]) w := by
  have hk' : (k : Int) < 85 := by omega
  have hsz : ∀ w, (sizeOf 94).run Try.prog w = .ok 3 w := fun w => by kernel_rfl
  have hag : ∀ w, (isAgg 94).run Try.prog w = .ok true w := fun w => by kernel_rfl
  simp [Instr.index, asIntOf, run_underlying Try.underlying95, hsz]
  rw [if_pos hk]
  simp only [part, Sem.run_bind, hag, Result.andThen_ok, if_true, hsz, Sem.run_pure]
  rw [rows_ext k hk]
def fnd (s : List UInt8) (l : List (Nat × List UInt8)) : Option Nat := (l.find? fun p => p.2 == s).map (·.1)
theorem prim_fnd (s : List UInt8) : prim s = fnd s (upto 85) := by
  unfold prim fnd
  rw [upto_all, List.find?_map, Option.map_map]
  rfl
theorem fnd_yes (s : List UInt8) (pre : List (Nat × List UInt8)) (x : Nat × List UInt8) (h : fnd s pre = none) (hx : (x.2 == s) = true) : fnd s (pre ++ [x]) = some x.1 := by
  have h0 : pre.find? (fun p => p.2 == s) = none := by simpa [fnd] using h
  unfold fnd
  rw [List.find?_append, h0]
  simp [List.find?, hx]
theorem fnd_no (s : List UInt8) (pre : List (Nat × List UInt8)) (x : Nat × List UInt8) (h : fnd s pre = none) (hx : (x.2 == s) = false) : fnd s (pre ++ [x]) = none := by
  have h0 : pre.find? (fun p => p.2 == s) = none := by simpa [fnd] using h
  unfold fnd
  rw [List.find?_append, h0]
  simp [List.find?, hx]
theorem fnd_pre (s : List UInt8) {pre l : List (Nat × List UInt8)} (h : pre <+: l) {n : Nat} (hp : fnd s pre = some n) : fnd s l = some n := by
  obtain ⟨r, rfl⟩ := h
  unfold fnd at *
  rw [List.find?_append]
  cases h0 : pre.find? (fun p => p.2 == s) with
  | none => rw [h0] at hp; cases hp
  | some y => rw [h0] at hp; exact hp
end Tb
set_option maxRecDepth 100000 in
set_option maxHeartbeats 4000000 in
theorem PAll1_in (n : Nat) (hn : 2 ≤ n) (l : Nat) (J Jx : List (Nat × List UInt8) → World → Prop) (W : World)
    (hJ : AbidesFrom W.heap.size J)
    (hY : ∀ pre x W1, J pre W1 → pre.length < 85 → YieldAt Fence.wide (n - 1) Try.prog l #[.int .i64 (x.1 : Int), .string ⟨x.2.toArray⟩] W1 fun e W' =>
      (e = .returned (.bool true) ∧ J (pre ++ [x]) W' ∧ True) ∨ (e = .returned (.bool false) ∧ Jx (pre ++ [x]) W'))
    (h0 : J [] W) :
    CallsIn Fence.wide n Try.prog 47 #[.func (.yield l) #[] #[]] W fun e W' => (∃ v, e = .returned v) ∧
      ((∃ ys, ys = Tb.upto 85 ∧ J ys W') ∨ (∃ pre, pre <+: Tb.upto 85 ∧ Jx pre W')) := by
  refine callsIn_of_wp Try.func47 rfl trivial ?_ rfl
  simp only [Try.ntmps47, List.size_toArray, List.length_cons, List.length_nil, Nat.reduceAdd, Nat.reduceSub, Array.replicate_succ, Array.replicate_zero, List.push_toArray, List.append_toArray, List.nil_append, List.cons_append]
  have hn1 : 1 ≤ n := by omega
  gi_wp2_with (refine ⟨trivial, ?_⟩; gi_at_call 48; refine (callsIn_wide.2 (table_any W)).mono ?_; rintro e w2 ⟨rfl, hbel⟩)
  have hJ2 := hJ [] W w2 none h0 ⟨hbel.os, hbel.tape, hbel.output, hbel.size, fun k hk _ => hbel.block k hk⟩ (by simp)
  obtain ⟨tv, htv⟩ : ∃ tv, tv = Value.agg (Tb.flatR Tb.rowsT).toArray := ⟨_, rfl⟩
  rw [← htv]
  have HT := Lib.hid htv
  clear htv
  gi_loopw [5] (fun v wr => ∃ k : Nat, k ≤ 85 ∧ v = .int .i64 k ∧ J (Tb.upto k) wr) (fun v _ => 85 - (intOf v).toNat)
  case atStart => exact ⟨0, by omega, rfl, hJ2⟩
  case round =>
    obtain ⟨k, hk, rfl, hJs⟩ := hrel
    by_cases hlt : k < 85
    · have hlti : (k : Int) < 85 := by omega
      have hix := Tb.index_table k hlt wr
      rw [← HT.out] at hix
      obtain ⟨r, hr⟩ : ∃ r, r = Tb.rowT k := ⟨_, rfl⟩
      have hup := Tb.upto_yes k
      have hun := Tb.upto_no k
      rw [← hr] at hix hup hun
      have Hup := Lib.hid hup
      have Hun := Lib.hid hun
      clear hup hun hr
      cases he : r.1.isEmpty
      · obtain ⟨wb, hwb⟩ : ∃ wb, wr.alloc (.cells #[.string ⟨r.1.toArray⟩, .int .i64 r.2.1, .int .i64 r.2.2] 94) = wb := ⟨_, rfl⟩
        have hJb : J (Tb.upto k) wb := by rw [← hwb]; exact hJ _ _ _ none hJs (World.grownBy_alloc wr _ none) (by simp)
        have b0 : wb.cell? ⟨wr.heap.size, 0, none⟩ = some (.string ⟨r.1.toArray⟩) := by rw [← hwb]; unfold World.cell?; rw [World.alloc_heap_new]; rfl
        have hsb : wr.heap.size ≤ wb.heap.size := by rw [← hwb]; simp
        obtain ⟨fn, tmps, assign, body, hy, hR⟩ := hY _ (k, r.1) wb hJb (Tb.upto_len k hlt)
        dsimp only at hy
        gi_wp2
        refine hR.mono ?_
        rintro e W3 (⟨rfl, hJ3, _⟩ | ⟨rfl, hJx3⟩)
        · gi_wp2
          go_roundw
          case rel => exact ⟨k + 1, by omega, by simp, by rw [Hup.out he]; exact hJ3⟩
          case measure => simp [intOf]; omega
        · gi_wp2
          refine bodyPost_ret (results_none rfl _ _ _) rfl ?_
          exact ⟨⟨_, rfl⟩, .inr ⟨_, by rw [← Hup.out he]; have := Tb.upto_pre (k + 1) (85 - (k + 1)); rwa [show k + 1 + (85 - (k + 1)) = 85 by omega] at this, hJx3⟩⟩
      · have hem : r.1 = [] := by simpa using he
        have hJb : J (Tb.upto (k + 1)) (wr.alloc (.cells #[.string ⟨#[]⟩, .int .i64 r.2.1, .int .i64 r.2.2] 94)) := by rw [Hun.out he]; exact hJ _ _ _ none hJs (World.grownBy_alloc wr _ none) (by simp)
        gi_wp2
        refine ⟨fun _ h => (by cases h), ?_⟩
        gi_wp2
        go_roundw
        case rel => exact ⟨k + 1, by omega, by simp, hJb⟩
        case measure => simp [intOf]; omega
    · obtain rfl : k = 85 := by omega
      gi_wp2
      go_end0
      exact ⟨⟨_, rfl⟩, .inl ⟨_, rfl, hJs⟩⟩
theorem PAll_stops (n : Nat) (hn : 2 ≤ n) (w : World) :
    SeqStopsK Fence.wide n Try.prog 47 #[] (fun x : Nat × List UInt8 => #[.int .i64 (x.1 : Int), .string ⟨x.2.toArray⟩]) (fun _ _ => True) (fun ys => ys = Tb.upto 85) (fun pre => pre <+: Tb.upto 85) 85 w := fun l J Jx W _ hJ _ hY h0 =>
  PAll1_in n hn l J Jx W hJ hY h0
set_option maxRecDepth 100000 in
theorem PAll_any (w : World) : Calls Try.prog 39 #[] w fun e w' => e = .returned (.func (.func 47) #[] #[]) ∧ w = w' := by
  go_enter Try.func39, Try.ntmps39
  go_wp2
  go_ret
  exact ⟨rfl, rfl⟩
set_option maxRecDepth 100000 in
set_option maxHeartbeats 8000000 in
theorem Find_any (s : ByteArray) (w : World) : Calls Try.prog 27 #[.string s] w fun e w' => e = .returned (.tuple #[.int .i64 ((Tb.prim s.data.toList).getD 0 : Nat), .bool (Tb.prim s.data.toList).isSome]) ∧ Below w.heap.size w w' := by
  refine (callsIn_wide (n := 9)).1 ?_
  refine callsIn_of_wp_marks Try.func27 rfl trivial ?_ rfl
  simp only [Try.ntmps27, List.size_toArray, List.length_cons, List.length_nil, Nat.reduceAdd, Nat.reduceSub, Array.replicate_succ, Array.replicate_zero, List.push_toArray, List.append_toArray, List.nil_append, List.cons_append]
  gi_wp2_with (refine ⟨trivial, ?_⟩; gi_at_call 39; refine (callsIn_wide.2 (PAll_any _)).mono ?_; rintro e w2 ⟨rfl, rfl⟩)
  have b0 := Boxed.new w 9 (.string s)
  have b1 := Boxed.new (w.alloc (.cells #[.string s] 9)) 3 (.int .i64 0)
  have b2 := Boxed.new ((w.alloc (.cells #[.string s] 9)).alloc (.cells #[.int .i64 0] 3)) 4 (.bool false)
  simp only [World.size_alloc] at b1 b2
  have hB0 : Below w.heap.size w (((w.alloc (.cells #[.string s] 9)).alloc (.cells #[.int .i64 0] 3)).alloc (.cells #[.bool false] 4)) := (((Below.refl _ w).alloc (Nat.le_refl _) _).alloc (by simp) _).alloc (by simp; omega) _
  have b0' := (b0.alloc (.cells #[.int .i64 0] 3)).alloc (.cells #[.bool false] 4)
  have b1' := b1.alloc (.cells #[.bool false] 4)
  have hsz : (((w.alloc (.cells #[.string s] 9)).alloc (.cells #[.int .i64 0] 3)).alloc (.cells #[.bool false] 4)).heap.size = w.heap.size + 3 := by simp
  obtain ⟨W0, hW0⟩ : ∃ W0, ((w.alloc (.cells #[.string s] 9)).alloc (.cells #[.int .i64 0] 3)).alloc (.cells #[.bool false] 4) = W0 := ⟨_, rfl⟩
  rw [hW0] at b0' b1' b2 hB0 hsz ⊢
  clear hW0 b0 b1
  have HP := Lib.hid (Tb.prim_fnd s.data.toList)
  refine wpIn_rangeFunc_ownF (n := 9) rfl (by omega) (gf := 47) (lb := #[]) rfl trivial (enters_of Try.func47 (by kernel_rfl) rfl)
    (PAll_stops 8 (by omega) W0) (fun _ _ => trivial) (fun _ _ _ _ _ _ _ _ => trivial) (Below.refl _ _) (fun _ => rfl)
    (fun pre W => ((Tb.fnd s.data.toList pre = none ∧ Boxed W w.heap.size 9 (.string s)) ∧ (Boxed W (w.heap.size + 1) 3 (.int .i64 0) ∧ Boxed W (w.heap.size + 1 + 1) 4 (.bool false))) ∧ Below w.heap.size w W)
    (fun c pre W => ((c = .ret ∧ (Tb.fnd s.data.toList pre).isSome = true) ∧ (Boxed W (w.heap.size + 1) 3 (.int .i64 ((Tb.fnd s.data.toList pre).getD 0 : Nat)) ∧ Boxed W (w.heap.size + 1 + 1) 4 (.bool true))) ∧ Below w.heap.size w W)
    (OwnFrom.and (OwnFrom.and (OwnFrom.and (ownFrom_pure _ _) (Own.from (boxed_own w.heap.size 9 (fun _ => Value.string s)) _)) (OwnFrom.and (Own.from (boxed_own (w.heap.size + 1) 3 (fun _ => Value.int .i64 0)) _) (Own.from (boxed_own (w.heap.size + 1 + 1) 4 (fun _ => Value.bool false)) _))) (ownFrom_below (Nat.le_refl _) (by omega)))
    (fun c => OwnFrom.and (OwnFrom.and (ownFrom_pure _ _) (OwnFrom.and (Own.from (boxed_own (w.heap.size + 1) 3 (fun pre => Value.int .i64 ((Tb.fnd s.data.toList pre).getD 0 : Nat))) _) (Own.from (boxed_own (w.heap.size + 1 + 1) 4 (fun _ => Value.bool true)) _))) (ownFrom_below (Nat.le_refl _) (by omega)))
    ⟨⟨⟨rfl, b0'⟩, b1', b2⟩, hB0⟩
    (fun x => { tmps := #[.string s, .pointer (some ⟨w.heap.size, 0, none⟩), .pointer (some ⟨w.heap.size + 1, 0, none⟩), .pointer (some ⟨w.heap.size + 1 + 1, 0, none⟩), .int .i64 (x.1 : Int), .string ⟨x.2.toArray⟩, .func (.func 47) #[] #[], .int .i64 (x.1 : Int), .string ⟨x.2.toArray⟩, undef, undef, undef, undef], defers := [] }) ?assign ?body ?done ?stop
  case assign =>
    intro l x W K hK
    gi_wp2
    exact hK
  case body =>
    rintro l pre x W ⟨⟨⟨hn, c0⟩, c1, c2⟩, hB⟩ hlt
    have k0 := c0.cell
    have k1 := c1.cell
    have k2 := c2.cell
    have f1 := c1.frozen
    have f2 := c2.frozen
    cases ht : (x.2 == s.toList)
    · have hnn : Tb.fnd s.data.toList (pre ++ [x]) = none := Tb.fnd_no _ _ _ hn (by rw [← ByteArray.toList_eq]; exact ht)
      gi_wp2
      exact ⟨KeepsOthers.refl _, trivial, ⟨⟨hnn, c0⟩, c1, c2⟩, hB⟩
    · have hnn : Tb.fnd s.data.toList (pre ++ [x]) = some x.1 := Tb.fnd_yes _ _ _ hn (by rw [← ByteArray.toList_eq]; exact ht)
      gi_wp2
      refine ⟨(KeepsOthers.setCell _ _ _).trans (KeepsOthers.setCell _ _ _), ⟨⟨rfl, by rw [hnn]; rfl⟩, ?_, ?_⟩, (hB.setCell (p := ⟨w.heap.size + 1, 0, none⟩) (by simp) _).setCell (p := ⟨w.heap.size + 1 + 1, 0, none⟩) (by simp; omega) _⟩
      · rw [hnn]
        exact (c1.set _).other (by omega) _
      · exact (c2.other (by omega) _).set _
  case done =>
    rintro D ys W hD rfl ⟨⟨⟨hn, c0⟩, c1, c2⟩, hB⟩ hK
    have k1 := c1.cell
    have k2 := c2.cell
    have f1 := c1.frozen
    have f2 := c2.frozen
    have HN : Hid (Tb.prim s.data.toList = none) := by show _ = _; rw [HP.out]; exact hn
    gi_wp2
    have d1 := (c1.set (.int .i64 0)).other (B' := w.heap.size + 1 + 1) (by omega) (.bool false)
    have d2 := (c2.other (B' := w.heap.size + 1) (by omega) (.int .i64 0)).set (.bool false)
    have hB2 := (hB.setCell (p := ⟨w.heap.size + 1, 0, none⟩) (by simp) (.int .i64 0)).setCell (p := ⟨w.heap.size + 1 + 1, 0, none⟩) (by simp; omega) (.bool false)
    have hK' := ((KeepsOthers.setCell W ⟨w.heap.size + 1, 0, none⟩ (.int .i64 0)).trans (KeepsOthers.setCell _ ⟨w.heap.size + 1 + 1, 0, none⟩ (.bool false))).same D _ hK rfl
    refine ⟨by simp, .inl ⟨_, _, rfl, run_takeDeferred hK', ?_⟩⟩
    have e1 := cell_kept d1.cell (grownBy_putObj' _ D (.deferred none)) (fun r e => by cases e; exact ⟨_, hK', rfl⟩)
    have e2 := cell_kept d2.cell (grownBy_putObj' _ D (.deferred none)) (fun r e => by cases e; exact ⟨_, hK', rfl⟩)
    refine ⟨.tuple #[.int .i64 0, .bool false], ?_, by rw [HN.out]; rfl, hB2.trans (belowK_b (w := w) (Nat.le_refl _) _ D _ _ (by omega) hK' rfl rfl)⟩
    simp [results, Try.results27, go_sem, e1, e2]
  case stop =>
    rintro D c pre W hD hpre ⟨⟨⟨rfl, hs⟩, c1, c2⟩, hB⟩ hK
    have k1 := c1.cell
    have k2 := c2.cell
    obtain ⟨m, hm⟩ := Option.isSome_iff_exists.1 hs
    have HN : Hid (Tb.prim s.data.toList = some m) := by show _ = _; rw [HP.out]; exact Tb.fnd_pre _ hpre hm
    rw [hm] at c1 k1
    gi_wp2
    refine ⟨by simp, .inl ⟨_, _, rfl, run_takeDeferred hK, ?_⟩⟩
    have e1 := cell_kept k1 (grownBy_putObj' _ D (.deferred none)) (fun r e => by cases e; exact ⟨_, hK, rfl⟩)
    have e2 := cell_kept k2 (grownBy_putObj' _ D (.deferred none)) (fun r e => by cases e; exact ⟨_, hK, rfl⟩)
    refine ⟨.tuple #[.int .i64 (m : Int), .bool true], ?_, by rw [HN.out]; rfl, hB.trans (belowK_b (w := w) (Nat.le_refl _) W D _ _ (by omega) hK rfl rfl)⟩
    simp at e1
    simp [results, Try.results27, go_sem, e1, e2]
end Go.Proofs.Ytihfflinkmceaaa
