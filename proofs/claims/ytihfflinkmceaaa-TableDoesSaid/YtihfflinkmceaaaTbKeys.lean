/-
  maps.Keys, slices.AppendSeq: the names of a shard.
-/
import Derived.Test.YtihfflinkmceaaaTbTold
import Derived.Sort.KeysCollected
import Derived.Sort.MapsRangeIn
import Derived.RangeFuncFrom
import Derived.RangeFuncKeeps
namespace Go.Proofs.Ytihfflinkmceaaa
open Go.RowKit Go.Maps Go.Sort Go.Shelf
attribute [local go_sem] Oper.semAt_some
set_option maxRecDepth 100000 in
theorem Keys_any (b : Nat) (w : World) : Calls Try.prog 31 #[.map (some b)] w fun e w' => e = .returned (.func (.func 40) #[] #[.pointer (some ⟨w.heap.size, 0, none⟩)]) ∧ w' = w.alloc (.cells #[.map (some b)] 30) := by
  go_enter Try.func31, Try.ntmps31
  go_wp2
  go_ret
  exact ⟨rfl, rfl⟩
set_option maxRecDepth 100000 in
set_option maxHeartbeats 2000000 in
/-- the keys of a map, one after another -/
theorem Keys1_in (n : Nat) (hn : 1 ≤ n) (l Bm b nn : Nat) (D0 : DataW Unit) (J Jx : List (List UInt8) → World → Prop)
    (hY : ∀ pre x W, J pre W → pre.length < Maps.size D0 → YieldAt Fence.wide (n - 1) Try.prog l #[encStr x] W fun e W' =>
      (e = .returned (.bool true) ∧ J (pre ++ [x]) W' ∧ KeepsWalks W W') ∨ (e = .returned (.bool false) ∧ Jx (pre ++ [x]) W'))
    (W : World) (hJ : AbidesFrom W.heap.size J) (hm : W.cell? ⟨Bm, 0, none⟩ = some (.map (some b))) (hown : W.ownsMap Try.prog 9 Tb.rd b nn D0) (h0 : J [] W) :
    CallsIn Fence.wide n Try.prog 40 #[.func (.yield l) #[] #[], .pointer (some ⟨Bm, 0, none⟩)] W fun e W' => (∃ v, e = .returned v) ∧
      ((∃ ss : List (List UInt8), (ss.Nodup ∧ ss.length ≤ Maps.size D0 ∧ ∀ x, x ∈ ss ↔ has D0 (.string x) = true) ∧ J ss W') ∨ (∃ pre : List (List UInt8), True ∧ Jx pre W')) := by
  have u23 := run_underlying (P := Try.prog) Try.underlying30
  have u26 := run_underlying (P := Try.prog) Try.underlying9
  refine callsIn_of_wp Try.func40 rfl trivial ?_ rfl
  simp only [Try.ntmps40, List.size_toArray, List.length_cons, List.length_nil, Nat.reduceAdd, Nat.reduceSub, Array.replicate_succ, Array.replicate_zero, List.push_toArray, List.append_toArray, List.nil_append, List.cons_append]
  gi_wp2_with (first
    | (gi_at_range; refine wpListIn_range_own _ rfl _ 30 rfl 9 37 Tb.strK Try.underlying30 Tb.rd b nn _ rfl hown ?_; intro w0 hrg0 hg0 hs0)
    | gi_in)
  go_frame
  gi_loopw [3] (fun _ wr => ∃ (left : Lit → Bool) (cnt : Nat) (ss : List (List UInt8)), wr.ranges Try.prog 9 Tb.rd b W.heap.size nn D0 left cnt ∧ ss.length + cnt ≤ Maps.size D0 ∧ Collected D0 left ss ∧ J ss wr)
    (fun _ wr => wr.rangeLeft b W.heap.size)
  case atStart =>
    exact ⟨_, _, [], hrg0, by simp, Collected.start D0, hJ [] W w0 none h0 hg0 (fun r e => by cases e)⟩
  case round =>
    obtain ⟨left, cnt, ss, hrg, hcs, hC, hJs⟩ := hrel
    gi_wp2_with (first
      | (gi_at_next; refine wpListIn_next_ranges _ rfl _ rfl 9 Tb.strK Tb.rd encStr id (fun key kl hk => by obtain ⟨x, hx, _⟩ := Maps.keyOf_str Try.underlying9 hk; exact ⟨x, hx⟩) (fun v _ _ => ⟨v, rfl⟩) b W.heap.size nn _ _ _ rfl hrg ?_ ?_)
      | gi_in)
    · intro hc0 hl0
      gi_wp2
      go_end0
      exact ⟨⟨_, rfl⟩, .inl ⟨ss, ⟨hC.1, by omega, fun x => by rw [hC.2 x, hl0]; simp⟩, hJs⟩⟩
    · intro x c kl yd yp w2 cnt2 hkey hlk hv hat hrg2 hlt hg2 hs2 hen
      obtain ⟨x', ex, rfl, _⟩ := Maps.keyOf_str Try.underlying9 hkey
      obtain rfl : x = x' := encStr_inj ex
      have hJ2 : J ss w2 := hJ ss wr w2 (some W.heap.size) hJs hg2 (fun r e => by cases e; exact ⟨Nat.le_refl _, hrg.iter_walk⟩)
      obtain ⟨fn, tmps, assign, body, hy, hR⟩ := hY ss x w2 hJ2 (by omega)
      clear hs2
      gi_wp2
      refine hR.mono ?_
      have hC2 := hC.step hlk hat
      rintro e W3 (⟨rfl, hJ3, hk3⟩ | ⟨rfl, hJx3⟩)
      · gi_wp2
        have hrg3 := hrg2.of_walks hk3
        go_roundw
        case rel => exact ⟨_, cnt2, ss ++ [x], hrg3, by simp; omega, hC2, hJ3⟩
        case measure => rw [hrg3.left_eq, hrg.left_eq]; exact hlt
      · gi_wp2
        refine bodyPost_ret (results_none rfl _ _ _) rfl ?_
        exact ⟨⟨_, rfl⟩, .inr ⟨ss ++ [x], trivial, hJx3⟩⟩
theorem Keys1_stops (n : Nat) (hn : 1 ≤ n) (Bm b nn : Nat) (D0 : DataW Unit) (w : World) (hBm : Bm < w.heap.size) (hm : w.cell? ⟨Bm, 0, none⟩ = some (.map (some b))) (hown : w.ownsMap Try.prog 9 Tb.rd b nn D0) :
    SeqStopsK Fence.wide n Try.prog 40 #[.pointer (some ⟨Bm, 0, none⟩)] (fun x : List UInt8 => #[encStr x]) KeepsWalks (fun ss => ss.Nodup ∧ ss.length ≤ Maps.size D0 ∧ ∀ x, x ∈ ss ↔ has D0 (.string x) = true) (fun _ => True) (Maps.size D0) w := fun l J Jx W hW hJ _ hY h0 => by
  have hown' : W.ownsMap Try.prog 9 Tb.rd b nn D0 := by
    have hbl := hown.lt
    obtain ⟨es, clock, hb, Ft, hs, hD⟩ := hown
    exact ⟨es, clock, (hW.block b hbl).trans hb, Ft, hs, hD⟩
  exact Keys1_in n hn l Bm b nn D0 J Jx hY W hJ ((hW.cell (p := ⟨Bm, 0, none⟩) hBm).trans hm) hown' h0
namespace Tb
set_option maxRecDepth 100000 in
theorem infoS : (Try.prog.info? 9).map (fun i => (i.zero, i.size, i.bytes)) = some (some (.string ⟨#[]⟩), 1, 16) := by kernel_rfl
end Tb
set_option maxRecDepth 100000 in
set_option maxHeartbeats 8000000 in
theorem AppendSeq_any (n0 : Nat) (v : Value) (old : List (List UInt8)) (Bm b nn : Nat) (D0 : DataW Unit) (w : World) (hn0 : n0 ≤ w.heap.size) (hrow : w.ownsRow n0 9 1 v old.length (old.map encStr)) (hBm : Bm < w.heap.size)
    (hm : w.cell? ⟨Bm, 0, none⟩ = some (.map (some b))) (hown : w.ownsMap Try.prog 9 Tb.rd b nn D0) (hsz : old.length + Maps.size D0 ≤ 1048576) :
    Calls Try.prog 30 #[v, .func (.func 40) #[] #[.pointer (some ⟨Bm, 0, none⟩)]] w fun e w' =>
      ∃ v' ks, e = .returned v' ∧ (ks.Nodup ∧ ks.length ≤ Maps.size D0 ∧ ∀ x, x ∈ ks ↔ has D0 (.string x) = true) ∧ w'.ownsRow n0 9 1 v' (old ++ ks).length ((old ++ ks).map encStr) ∧ Below n0 w w' := by
  obtain ⟨i0, hi, hz0, hz1, hz2⟩ := info_parts Tb.infoS
  obtain ⟨a, c, rfl⟩ := Tb.row_form hrow
  refine (callsIn_wide (n := 9)).1 ?_
  refine callsIn_of_wp_marks Try.func30 rfl trivial ?_ rfl
  simp only [Try.ntmps30, List.size_toArray, List.length_cons, List.length_nil, Nat.reduceAdd, Nat.reduceSub, Array.replicate_succ, Array.replicate_zero, List.push_toArray, List.append_toArray, List.nil_append, List.cons_append]
  gi_wp2
  have bL := Boxed.new w 76 (.slice a old.length c)
  have hbw : Below w.heap.size w (w.alloc (.cells #[.slice a old.length c] 76)) := (Below.refl _ w).alloc (Nat.le_refl _) _
  have hB0 : Below n0 w (w.alloc (.cells #[.slice a old.length c] 76)) := (Below.refl _ w).alloc hn0 _
  have hrow0 := hrow.alloc (.cells #[.slice a old.length c] 76)
  have hsz0 : (w.alloc (.cells #[.slice a old.length c] 76)).heap.size = w.heap.size + 1 := by simp
  have hm0 := (hbw.cell (p := ⟨Bm, 0, none⟩) hBm).trans hm
  have hown0 := hown.alloc (.cells #[.slice a old.length c] 76)
  obtain ⟨W0, hW0⟩ : ∃ W0, w.alloc (.cells #[.slice a old.length c] 76) = W0 := ⟨_, rfl⟩
  rw [hW0] at bL hB0 hrow0 hsz0 hm0 hown0 ⊢
  clear hW0 hbw
  refine wpIn_rangeFunc_ownF (n := 9) rfl (by omega) (gf := 40) (lb := #[.pointer (some ⟨Bm, 0, none⟩)]) rfl trivial (enters_of Try.func40 (by kernel_rfl) rfl)
    (Keys1_stops 8 (by omega) Bm b nn D0 W0 (by omega) hm0 hown0) walksK_t walksK_b (Below.refl _ _) (fun _ => rfl)
    (fun pre W => (∃ v, Boxed W w.heap.size 76 v ∧ W.ownsRow n0 9 1 v (old ++ pre).length ((old ++ pre).map encStr) ∧ True) ∧ Below n0 w W)
    (fun _ _ _ => False)
    (OwnFrom.and (Own.from (holdsRow_own n0 w.heap.size 76 9 1 (fun (pre : List (List UInt8)) => (old ++ pre).length) (fun (pre : List (List UInt8)) => (old ++ pre).map encStr) (fun _ _ => True)) _) (ownFrom_below hn0 (by omega)))
    (fun _ => fun _ _ _ _ h _ _ => h)
    ⟨⟨_, bL, by simpa using hrow0, trivial⟩, hB0⟩
    (fun x => { tmps := #[.slice a old.length c, .func (.func 40) #[] #[.pointer (some ⟨Bm, 0, none⟩)], .pointer (some ⟨w.heap.size, 0, none⟩), undef, .slice none 0 0, encStr x, .func (.func 40) #[] #[.pointer (some ⟨Bm, 0, none⟩)], encStr x, undef, undef, undef, undef, undef], defers := [] }) ?assign ?body ?done ?stop
  case assign =>
    intro l x W K hK
    gi_wp2
    exact hK
  case body =>
    rintro l pre x W ⟨⟨v, hv, hr, _⟩, hB⟩ hlt
    have cL := hv.cell
    have fL := hv.frozen
    have hBs1 := hB.size
    obtain ⟨a1, c1, rfl⟩ := Tb.row_form hr
    have hll : (old ++ pre).length = old.length + pre.length := List.length_append
    obtain ⟨q, hq⟩ : ∃ q, q = (old ++ pre).length := ⟨_, rfl⟩
    rw [← hq] at hv hr cL hll
    have hQ := Lib.hid hq
    have hqb : q + 1 ≤ 1048576 := by omega
    clear hq hll hlt hsz
    gi_wp2_with (gi_at_builtin; refine wpListIn_append_own_at _ rfl _ _ 76 rfl n0 9 i0 (.string ⟨#[]⟩) 1 16 Try.underlying76 hi hz0 hz1 hz2 rfl (by decide) _ _ _ rfl (hr.alloc _) ⟨W.heap.size, 0, none⟩ 1 1 [encStr x] rfl rfl (cell_one_new _ _ _) (fun x hx => by simp at hx; subst hx; rfl) (by unfold maxLen; omega) (by omega) (by simp; omega) ?_; intro v' w1 hown' hgrow hnil hat; obtain ⟨g', cap', rfl⟩ := ownsRow_succ hown'; obtain ⟨hv1, hv2, hr2, hk2, hb2⟩ := hv.appended (by decide) hr (by omega) hn0 hown' hgrow; have hc1 := hv1.cell; have hf1 := hv1.frozen)
    refine ⟨hk2, hk2.walks, ⟨_, hv2, ?_, trivial⟩, hB.trans hb2⟩
    rw [← List.append_assoc, List.length_append, List.map_append, ← hQ.out]
    exact hr2
  case done =>
    rintro D ys W hD hS ⟨⟨v, hv, hr, _⟩, hB⟩ hK
    have cL := hv.cell
    gi_wp2
    refine ⟨by simp, .inl ⟨_, _, rfl, run_takeDeferred hK, ?_⟩⟩
    exact ⟨_, results_tmp rfl _ _ _, v, ys, rfl, hS, ownsRow_putObj hr _ hK rfl, hB.trans (belowK_b (w := w) hn0 W D _ _ (by omega) hK rfl rfl)⟩
  case stop =>
    rintro D c pre W hD hp h hK
    exact h.elim
end Go.Proofs.Ytihfflinkmceaaa
