/-
  told: the globals that are told, at most so many, over whatever the iterator gives.
-/
import Derived.Test.YtihfflinkmceaaaTbLawA
import Derived.RangeFuncNested
import Derived.RangeFuncBound
import Derived.RangeFuncCalls
import Derived.RangeFuncLeaves
import Derived.RangeFuncBox
import Derived.Shelf.Abstract
import Derived.Shelf.RegionOpen
import Derived.WalkKit
import Derived.OwnWalkIn
import Derived.TacticsInMore
import Derived.LoopNIn
import Derived.LoopIn
import Derived.Maps.OwnIn
import Derived.Maps.AppendAt
import Derived.Lib.SmallJoins
namespace Go.Proofs.Ytihfflinkmceaaa
open Go.RowKit Go.Sort Go.Shelf
attribute [local go_sem] Oper.semAt_some
namespace Tb
/-- the block of the row that the box B holds -/
def rowOf (W : World) (B : Nat) : Option Nat := (W.cell? ⟨B, 0, none⟩).bind Value.ownBlock
/-- what a round of 'told' keeps -/
structure KpM (B : Nat) (W W' : World) : Prop where
  size : W.heap.size ≤ W'.heap.size
  same : ∀ (k : Nat) (c : Array Value) (t : TypeId) (fz : Nat × Nat), W.heap[k]? = some (.cells c t fz) → k ≠ B → rowOf W B ≠ some k → W'.heap[k]? = W.heap[k]?
  row : ∀ k, rowOf W' B = some k → rowOf W B = some k ∨ W.heap.size ≤ k
  maps : ∀ (k : Nat) (es : Array MapEntry) (clock : Nat), W.heap[k]? = some (.map es clock) → W'.heap[k]? = W.heap[k]?
theorem KpM.trans {B : Nat} {X Y Z : World} (h : KpM B X Y) (k : KpM B Y Z) : KpM B X Z := by
  refine ⟨Nat.le_trans h.size k.size, fun i c t fz hi hB hr => ?_, fun i hi => ?_, fun i es cl hi => ?_⟩
  · have h1 := h.same i c t fz hi hB hr
    have hlt := (Array.getElem?_eq_some_iff.1 hi).1
    refine (k.same i c t fz (h1.trans hi) hB (fun hc => ?_)).trans h1
    rcases h.row i hc with h2 | h2
    · exact hr h2
    · omega
  · rcases k.row i hi with h1 | h1
    · exact h.row i h1
    · exact .inr (Nat.le_trans h.size h1)
  · have h1 := h.maps i es cl hi
    exact (k.maps i es cl (h1.trans hi)).trans h1
theorem KpM.putObj {B : Nat} (W : World) (l : Nat) (o o' : Obj) (hB : B < l) (h : W.heap[l]? = some o) (ho : o.isCells = false) (hw : o.isWalk = false) : KpM B W (W.putObj l o') := by
  refine ⟨(grownBy_putObj' W l o').size, fun k c t fz hk _ _ => (grownBy_putObj' W l o').block k (Array.getElem?_eq_some_iff.1 hk).1 (fun e => ?_), fun k hk => ?_, fun k es cl hk => (grownBy_putObj' W l o').block k (Array.getElem?_eq_some_iff.1 hk).1 (fun e => ?_)⟩
  · cases e
    rw [h] at hk
    cases hk
    cases ho
  · refine .inl ?_
    have hll := (Array.getElem?_eq_some_iff.1 h).1
    rw [← hk]
    unfold rowOf
    rw [World.cell?_of_block (w := W) (w' := W.putObj l o') (a := ⟨B, 0, none⟩) ((grownBy_putObj' W l o').block B (by omega) (fun e => by cases e; omega))]
  · cases e
    rw [h] at hk
    cases hk
    cases hw
theorem KpM.alloc {B : Nat} (W : World) (o : Obj) (hB : B < W.heap.size) : KpM B W (W.alloc o) := by
  have hg := World.grownBy_alloc W o none
  refine ⟨hg.size, fun k c t fz hk _ _ => hg.block k (Array.getElem?_eq_some_iff.1 hk).1 (by simp), fun k hk => .inl ?_, fun k es cl hk => hg.block k (Array.getElem?_eq_some_iff.1 hk).1 (by simp)⟩
  rw [← hk]
  unfold rowOf
  rw [World.cell?_of_block (w := W) (w' := W.alloc o) (a := ⟨B, 0, none⟩) (hg.block B hB (by simp))]
theorem KpM.append {W w1 : World} {B : Nat} {t t2 : TypeId} {v v' : Value} {tmp : Obj} (hv : Boxed W B t v) (hv2 : Boxed (w1.setCell ⟨B, 0, none⟩ v') B t2 v') (hgrow : (W.alloc tmp).grownBy w1 v.ownBlock) (hrow : ∀ k es cl, v.ownBlock = some k → W.heap[k]? ≠ some (.map es cl))
    (hat : v'.ownBlock = v.ownBlock ∨ v'.ownBlock = some (W.alloc tmp).heap.size) : KpM B W (w1.setCell ⟨B, 0, none⟩ v') := by
  have e1 : rowOf W B = v.ownBlock := by unfold rowOf; rw [hv.cell]; rfl
  have e2 : rowOf (w1.setCell ⟨B, 0, none⟩ v') B = v'.ownBlock := by unfold rowOf; rw [hv2.cell]; rfl
  have hz : (W.alloc tmp).heap.size = W.heap.size + 1 := by simp
  have hs1 := hgrow.size
  have hg2 := grownBy_setCell' w1 B v'
  refine ⟨by have := hg2.size; omega, fun k c ty fz hk hB hr => ?_, fun k hk => ?_, fun k es cl hk => ?_⟩
  · have hlt := (Array.getElem?_eq_some_iff.1 hk).1
    rw [hg2.block k (by omega) (fun e => hB (by cases e; rfl)), hgrow.block k (by omega) (fun e => hr (by rw [e1, ← e])), (World.grownBy_alloc W tmp none).block k hlt (by simp)]
  · rw [e2] at hk
    rw [e1]
    rcases hat with h | h
    · exact .inl (by rw [← h]; exact hk)
    · rw [hk] at h
      cases h
      exact .inr (by omega)
  · have hlt := (Array.getElem?_eq_some_iff.1 hk).1
    have hkB : k ≠ B := fun e => by subst e; rw [show W.heap[k]? = _ from hv] at hk; cases hk
    rw [hg2.block k (by omega) (fun e => hkB (by cases e; rfl)), hgrow.block k (by omega) (fun e => hrow k es cl e.symm hk), (World.grownBy_alloc W tmp none).block k hlt (by simp)]
theorem row_no_map {w : World} {b size n : Nat} {T : TypeId} {v : Value} {xs : List Value} (h : w.ownsRow b T size v n xs) : ∀ k es cl, v.ownBlock = some k → w.heap[k]? ≠ some (.map es cl) := by
  intro k es cl hk hc
  rcases h.2 with ⟨rfl, _⟩ | ⟨g, cap, cur, rfl, _, hgh, _⟩
  · cases hk
  · cases hk
    rw [hgh] at hc
    cases hc
theorem row_form {w : World} {b size n : Nat} {T : TypeId} {pv : Value} {xs : List Value} (ho : w.ownsRow b T size pv n xs) : ∃ a c, pv = .slice a n c := by
  rcases Joins.ownsRow_forms ho with ⟨rfl, hz⟩ | ⟨g, cap, rfl, _⟩
  · exact ⟨none, 0, by rw [hz]⟩
  · exact ⟨_, _, rfl⟩
theorem prefix_take {α : Type} {pre xs : List α} {m : Nat} (h : pre <+: xs) (hm : m ≤ pre.length) : pre.take m = xs.take m := by
  obtain ⟨r, rfl⟩ := h
  rw [List.take_append_of_le_length hm]
set_option maxRecDepth 100000 in
theorem infoG : (Try.prog.info? 49).map (fun i => (i.zero, i.size, i.bytes)) = some (some (.agg #[.string ⟨#[]⟩, .int .i64 0, .int .i64 0]), 3, 32) := by kernel_rfl
def cells3 (p : Nm × V) : List Value := [.string ⟨p.1.toArray⟩, .int .i64 p.2.1, .int .i64 p.2.2]
def flatG (l : List (Nm × V)) : List Value := l.flatMap cells3
theorem flat_app (l : List (Nm × V)) (q : Nm × V) : flatG (l ++ [q]) = flatG l ++ cells3 q := by unfold flatG; simp
def encG (x : Nm × V) : Array Value := #[.string ⟨x.1.toArray⟩, .agg #[.int .i64 x.2.1, .int .i64 x.2.2]]
theorem cells3_new (w : World) (x y z : Value) (t : TypeId) : ∀ j u, [x, y, z][j]? = some u → (w.alloc (.cells #[x, y, z] t)).cell? ((⟨w.heap.size, 0, none⟩ : Addr).add j) = some u := by
  have h := World.alloc_heap_new w (.cells #[x, y, z] t)
  intro j u hu
  have hc : ∀ i, (w.alloc (.cells #[x, y, z] t)).cell? ⟨w.heap.size, i, none⟩ = #[x, y, z][i]? := fun i => by unfold World.cell?; rw [h]; rfl
  match j, hu with
  | 0, hu => exact (hc 0).trans (by simpa using hu)
  | 1, hu => exact (hc 1).trans (by simpa using hu)
  | 2, hu => exact (hc 2).trans (by simpa using hu)
  | j + 3, hu => simp at hu
theorem eqlIn_seq (d : Nat) (f : Fn) (ts lb : Array Value) (w : World) : (Op.equalIn (d + 1) 52 (.func f ts lb) .nilFunc).run Try.prog w = .ok false w := by
  simp [Op.equalIn, run_underlying Try.underlying52]
theorem eql_seq (f : Fn) (ts lb : Array Value) (w : World) : (binOp .eql 52 (.func f ts lb) .nilFunc).run Try.prog w = .ok (.bool false) w := by
  have h := eqlIn_seq 9999 f ts lb w
  have h2 : (Op.equal 52 (.func f ts lb) .nilFunc).run Try.prog w = .ok false w := h
  show ((do pure (.bool (← Op.equal 52 (.func f ts lb) .nilFunc)) : Sem Value)).run _ _ = _
  rw [Sem.run_bind, h2]
  rfl
end Tb
set_option maxRecDepth 100000 in
set_option maxHeartbeats 8000000 in
theorem told_gen (Bs : Nat) (xs : List (Tb.Nm × Tb.V)) (m : Nat) (hm : m ≤ 1048576) (w : World) (hlen : xs.length ≤ 4096)
    (hst : ∀ W0 B, Below w.heap.size w W0 → W0.cell? ⟨B, 0, none⟩ = some (.slice none 0 0) → B < W0.heap.size → w.heap.size ≤ B →
      SeqStopsK Fence.wide 8 Try.prog 29 #[.pointer (some ⟨Bs, 0, none⟩)] Tb.encG (Tb.KpM B) (fun ys => ys = xs) (fun pre => pre <+: xs) xs.length W0) :
    Calls Try.prog 18 #[.func (.func 29) #[] #[.pointer (some ⟨Bs, 0, none⟩)], .int .i64 (m : Int)] w fun e W' => ∃ v, e = .returned v ∧ W'.ownsRow w.heap.size 49 3 v (xs.take m).length (Tb.flatG (xs.take m)) ∧ Below w.heap.size w W' := by
  obtain ⟨i0, hi, hz0, hz1, hz2⟩ := info_parts Tb.infoG
  refine (callsIn_wide (n := 9)).1 ?_
  refine callsIn_of_wp_marks Try.func18 rfl trivial ?_ rfl
  simp only [Try.ntmps18, List.size_toArray, List.length_cons, List.length_nil, Nat.reduceAdd, Nat.reduceSub, Array.replicate_succ, Array.replicate_zero, List.push_toArray, List.append_toArray, List.nil_append, List.cons_append]
  gi_wp2
  simp only [Tb.eql_seq]
  gi_wp2
  have bM := Boxed.new w 3 (.int .i64 (m : Int))
  have bL := Boxed.new (w.alloc (.cells #[.int .i64 (m : Int)] 3)) 47 (.slice none 0 0)
  rw [World.size_alloc] at bL
  have hB0 : Below w.heap.size w ((w.alloc (.cells #[.int .i64 (m : Int)] 3)).alloc (.cells #[.slice none 0 0] 47)) := ((Below.refl _ w).alloc (Nat.le_refl _) _).alloc (by simp) _
  have hsz : ((w.alloc (.cells #[.int .i64 (m : Int)] 3)).alloc (.cells #[.slice none 0 0] 47)).heap.size = w.heap.size + 2 := by simp
  have bM1 := bM.alloc (.cells #[.slice none 0 0] 47)
  obtain ⟨W0, hW0⟩ : ∃ W0, (w.alloc (.cells #[.int .i64 (m : Int)] 3)).alloc (.cells #[.slice none 0 0] 47) = W0 := ⟨_, rfl⟩
  rw [hW0] at bM1 bL hB0 hsz ⊢
  clear hW0 bM
  refine wpIn_rangeFunc_ownH (n := 9) rfl (by omega) (gf := 29) (lb := #[.pointer (some ⟨Bs, 0, none⟩)]) rfl trivial (enters_of Try.func29 (by kernel_rfl) rfl)
    (hst W0 (w.heap.size + 1) hB0 bL.cell (by omega) (by omega)) (fun h k => h.trans k) (fun W l o o' hl h ho hw => Tb.KpM.putObj W l o o' (by omega) h ho hw) (Below.refl _ _) (fun _ => rfl)
    (fun pre W => ((∃ v, Boxed W (w.heap.size + 1) 47 v ∧ W.ownsRow w.heap.size 49 3 v pre.length (Tb.flatG pre) ∧ pre.length ≤ m) ∧ Boxed W w.heap.size 3 (.int .i64 (m : Int))) ∧ Below w.heap.size w W)
    (fun c pre W => (∃ v, Boxed W (w.heap.size + 1) 47 v ∧ W.ownsRow w.heap.size 49 3 v (pre.take m).length (Tb.flatG (pre.take m)) ∧ (c = .exit 0 ∧ m ≤ pre.length)) ∧ Below w.heap.size w W)
    (OwnFrom.and (OwnFrom.and (Own.from (holdsRow_own w.heap.size (w.heap.size + 1) 47 49 3 (fun (pre : List (Tb.Nm × Tb.V)) => pre.length) Tb.flatG (fun (pre : List (Tb.Nm × Tb.V)) _ => pre.length ≤ m)) _) (Own.from (boxed_own w.heap.size 3 (fun (_ : List (Tb.Nm × Tb.V)) => Value.int .i64 (m : Int))) _)) (ownFrom_below (Nat.le_refl _) (by omega)))
    (fun c => OwnFrom.and (Own.from (holdsRow_own w.heap.size (w.heap.size + 1) 47 49 3 (fun (pre : List (Tb.Nm × Tb.V)) => (pre.take m).length) (fun (pre : List (Tb.Nm × Tb.V)) => Tb.flatG (pre.take m)) (fun (pre : List (Tb.Nm × Tb.V)) _ => c = .exit 0 ∧ m ≤ pre.length)) _) (ownFrom_below (Nat.le_refl _) (by omega)))
    ⟨⟨⟨_, bL, World.ownsRow_nil _ _ _ _, by simp⟩, bM1⟩, hB0⟩
    (fun x a' W => ∃ Bx, w.heap.size + 1 < Bx ∧ W.heap[Bx]? = some (.cells #[.int .i64 x.2.1, .int .i64 x.2.2] 37 (0, 0)) ∧ a' = { tmps := #[.func (.func 29) #[] #[.pointer (some ⟨Bs, 0, none⟩)], .int .i64 (m : Int), undef, .pointer (some ⟨w.heap.size, 0, none⟩), .slice none 0 0, .pointer (some ⟨w.heap.size + 1, 0, none⟩), .string ⟨x.1.toArray⟩, .pointer (some ⟨Bx, 0, none⟩), .func (.func 29) #[] #[.pointer (some ⟨Bs, 0, none⟩)], .bool false, .func (.func 29) #[] #[.pointer (some ⟨Bs, 0, none⟩)], .string ⟨x.1.toArray⟩, .agg #[.int .i64 x.2.1, .int .i64 x.2.2], undef, undef, undef, undef, undef, undef, undef, undef, undef, undef, undef], defers := [] })
    (fun x a' _ X Y row hs hg hr => by
      obtain ⟨Bx, h1, h2, h3⟩ := hs
      refine ⟨Bx, h1, (hg.block Bx (Array.getElem?_eq_some_iff.1 h2).1 (fun e => ?_)).trans h2, h3⟩
      obtain ⟨o, ho, hc⟩ := (hr Bx e.symm).2
      rw [h2] at ho; cases ho; cases hc)
    ?assign ?body ?done ?stop
  case assign =>
    rintro l pre x W K ⟨⟨⟨v, hv, hrow, hpm⟩, hM⟩, hB⟩ hK
    unfold Tb.encG
    gi_wp2
    exact hK _ _ ((KeepsOthers.alloc _ _).from _) (Tb.KpM.alloc W _ hv.lt) ⟨⟨⟨v, hv.alloc _, hrow.alloc _, hpm⟩, hM.alloc _⟩, hB.alloc hB.size _⟩ ⟨W.heap.size, hv.lt, World.alloc_heap_new W _, rfl⟩
  case body =>
    rintro l pre x a' W hl ⟨r, hr⟩ ⟨⟨⟨v, hv, hrow, hpm⟩, hM⟩, hB⟩ ⟨Bx, hBx, hX, rfl⟩ hlt
    have cL := hv.cell
    have fL := hv.frozen
    have cM := hM.cell
    have x0 : W.cell? ⟨Bx, 0, none⟩ = some (.int .i64 x.2.1) := by simp [World.cell?, hX]
    have x1 : W.cell? ⟨Bx, 1, none⟩ = some (.int .i64 x.2.2) := by simp [World.cell?, hX]
    have hBs1 := hB.size
    obtain ⟨a, c, rfl⟩ := Tb.row_form hrow
    by_cases hge : m ≤ pre.length
    · have hgei : (m : Int) ≤ (pre.length : Int) := by omega
      gi_wp2
      have he : (pre ++ [x]).take m = pre := by rw [List.take_append_of_le_length hge, List.take_of_length_le hpm]
      exact ⟨KeepsFrom.refl _ _, ⟨_, hv, by rw [he]; exact hrow, rfl, by simp; omega⟩, hB⟩
    · have hgei : ¬ (m : Int) ≤ (pre.length : Int) := by omega
      have hthree := Tb.cells3_new W (.string ⟨x.1.toArray⟩) (.int .i64 x.2.1) (.int .i64 x.2.2) 49
      have hnm := Tb.row_no_map hrow
      gi_wp2_with (gi_at_builtin; refine wpListIn_append_own_at _ rfl _ _ 47 rfl w.heap.size 49 i0 (.agg #[.string ⟨#[]⟩, .int .i64 0, .int .i64 0]) 3 32 Try.underlying47 hi hz0 hz1 hz2 rfl (by decide) _ _ _ rfl (hrow.alloc _) ⟨W.heap.size, 0, none⟩ 1 1 [.string ⟨x.1.toArray⟩, .int .i64 x.2.1, .int .i64 x.2.2] rfl rfl hthree (fun x hx => by simp at hx; rcases hx with rfl | rfl | rfl <;> rfl) (by unfold maxLen; omega) (by omega) (by simp; omega) ?_; intro v' w1 hown' hgrow hnil hat; obtain ⟨g', cap', rfl⟩ := ownsRow_succ hown'; obtain ⟨hv1, hv2, hr2, hk2, hb2⟩ := hv.appended (by decide) hrow hBs1 (by omega) hown' hgrow; have hkp := Tb.KpM.append hv hv2 hgrow hnm hat; have hc1 := hv1.cell; have hf1 := hv1.frozen; have hM2 := (hM.alloc (.cells #[.string ⟨x.1.toArray⟩, .int .i64 x.2.1, .int .i64 x.2.2] 49)).kept hgrow (hM.not_row (by decide) hrow); have hM3 := hM2.other (B' := w.heap.size + 1) (by omega) (.slice (some ⟨g', 0, none⟩) (pre.length + 1) cap'))
      exact ⟨hk2.from _, hkp, ⟨⟨⟨_, hv2, by rw [List.length_append, Tb.flat_app]; exact hr2, by simp; omega⟩, hM3⟩, hB.trans hb2⟩⟩
  case done =>
    rintro D ys W hD rfl ⟨⟨⟨v, hv, hrow, hpm⟩, hM⟩, hB⟩ hK
    have cL := hv.cell
    gi_wp2
    refine ⟨by simp, .inl ⟨_, _, rfl, run_takeDeferred hK, ?_⟩⟩
    exact ⟨_, results_tmp rfl _ _ _, v, rfl, by rw [List.take_of_length_le hpm]; exact ownsRow_putObj hrow _ hK rfl, hB.trans (belowK_b (w := w) (Nat.le_refl _) W D _ _ (by omega) hK rfl rfl)⟩
  case stop =>
    rintro D c pre W hD hp ⟨⟨v, hv, hrow, rfl, hmp⟩, hB⟩ hK
    have cL := hv.cell
    gi_wp2
    refine ⟨by simp, .inl ⟨_, _, rfl, run_takeDeferred hK, ?_⟩⟩
    exact ⟨_, results_tmp rfl _ _ _, v, rfl, by rw [← Tb.prefix_take hp hmp]; exact ownsRow_putObj hrow _ hK rfl, hB.trans (belowK_b (w := w) (Nat.le_refl _) W D _ _ (by omega) hK rfl rfl)⟩
end Go.Proofs.Ytihfflinkmceaaa
