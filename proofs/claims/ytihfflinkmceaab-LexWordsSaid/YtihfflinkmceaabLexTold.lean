/-
  told: the words that are told, at most so many.
-/
import Derived.Test.YtihfflinkmceaabLexAll
import Derived.Test.YtihfflinkmceaabLexRefI
namespace Go.Proofs.Ytihfflinkmceaab
open Go.RowKit Go.Sort Go.Shelf
attribute [local go_sem] Oper.semAt_some
namespace Lx
theorem KpT.append {W w1 : World} {B : Nat} {t t2 : TypeId} {v v' : Value} {tmp : Obj} (hv : Boxed W B t v) (hv2 : Boxed (w1.setCell ⟨B, 0, none⟩ v') B t2 v') (hgrow : (W.alloc tmp).grownBy w1 v.ownBlock)
    (hat : v'.ownBlock = v.ownBlock ∨ v'.ownBlock = some (W.alloc tmp).heap.size) : KpT B W (w1.setCell ⟨B, 0, none⟩ v') := by
  have e1 : rowOf W B = v.ownBlock := by unfold rowOf; rw [hv.cell]; rfl
  have e2 : rowOf (w1.setCell ⟨B, 0, none⟩ v') B = v'.ownBlock := by unfold rowOf; rw [hv2.cell]; rfl
  have hz : (W.alloc tmp).heap.size = W.heap.size + 1 := by simp
  have hs1 := hgrow.size
  have hg2 := grownBy_setCell' w1 B v'
  refine ⟨by have := hg2.size; omega, fun k c ty fz hk hB hr => ?_, fun k hk => ?_⟩
  · have hlt := (Array.getElem?_eq_some_iff.1 hk).1
    rw [hg2.block k (by omega) (fun e => hB (by cases e; rfl)), hgrow.block k (by omega) (fun e => hr (by rw [e1, ← e])), (World.grownBy_alloc W tmp none).block k hlt (by simp)]
  · rw [e2] at hk
    rw [e1]
    rcases hat with h | h
    · exact .inl (by rw [← h]; exact hk)
    · rw [hk] at h
      cases h
      exact .inr (by omega)
theorem eqlIn_seq (d : Nat) (f : Fn) (ts lb : Array Value) (w : World) : (Op.equalIn (d + 1) 30 (.func f ts lb) .nilFunc).run Try.prog w = .ok false w := by
  simp [Op.equalIn, run_underlying Try.underlying30]
theorem eql_seq (f : Fn) (ts lb : Array Value) (w : World) : (binOp .eql 30 (.func f ts lb) .nilFunc).run Try.prog w = .ok (.bool false) w := by
  have h := eqlIn_seq 9999 f ts lb w
  have h2 : (Op.equal 30 (.func f ts lb) .nilFunc).run Try.prog w = .ok false w := h
  show ((do pure (.bool (← Op.equal 30 (.func f ts lb) .nilFunc)) : Sem Value)).run _ _ = _
  rw [Sem.run_bind, h2]
  rfl
theorem prefix_take {α : Type} {pre xs : List α} {m : Nat} (h : pre <+: xs) (hm : m ≤ pre.length) : pre.take m = xs.take m := by
  obtain ⟨r, rfl⟩ := h
  rw [List.take_append_of_le_length hm]
end Lx
set_option maxRecDepth 100000 in
set_option maxHeartbeats 8000000 in
theorem told_any (s : ByteArray) (hs : s.size ≤ 9223372036854775807) (m : Nat) (hm : m ≤ 1048576) (Bs : Nat) (w : World) (hBs : w.cell? ⟨Bs, 0, none⟩ = some (.string s)) (hBsl : Bs < w.heap.size) (xs : List Lx.PTok) (hxs : xs = (Lx.lex s.data.toList).1) (hlen : xs.length ≤ 4096) :
    Calls Try.prog 10 #[.func (.func 24) #[] #[.pointer (some ⟨Bs, 0, none⟩)], .int .i64 (m : Int)] w fun e W' => ∃ v, e = .returned v ∧ W'.ownsRow w.heap.size 35 5 v (xs.take m).length (Lx.flatT (xs.take m)) ∧ Below w.heap.size w W' := by
  obtain ⟨i0, hi, hz0, hz1, hz2⟩ := info_parts Lx.infoTok
  refine (callsIn_wide (n := 9)).1 ?_
  refine callsIn_of_wp_marks Try.func10 rfl trivial ?_ rfl
  simp only [Try.ntmps10, List.size_toArray, List.length_cons, List.length_nil, Nat.reduceAdd, Nat.reduceSub, Array.replicate_succ, Array.replicate_zero, List.push_toArray, List.append_toArray, List.nil_append, List.cons_append]
  gi_wp2
  simp only [Lx.eql_seq]
  gi_wp2
  have bM := Boxed.new w 3 (.int .i64 (m : Int))
  have bL := Boxed.new (w.alloc (.cells #[.int .i64 (m : Int)] 3)) 23 (.slice none 0 0)
  rw [World.size_alloc] at bL
  have hB0 : Below w.heap.size w ((w.alloc (.cells #[.int .i64 (m : Int)] 3)).alloc (.cells #[.slice none 0 0] 23)) := ((Below.refl _ w).alloc (Nat.le_refl _) _).alloc (by simp) _
  have hsz : ((w.alloc (.cells #[.int .i64 (m : Int)] 3)).alloc (.cells #[.slice none 0 0] 23)).heap.size = w.heap.size + 2 := by simp
  have hbs := (hB0.cell (p := ⟨Bs, 0, none⟩) hBsl).trans hBs
  have bM1 := bM.alloc (.cells #[.slice none 0 0] 23)
  obtain ⟨W0, hW0⟩ : ∃ W0, (w.alloc (.cells #[.int .i64 (m : Int)] 3)).alloc (.cells #[.slice none 0 0] 23) = W0 := ⟨_, rfl⟩
  rw [hW0] at bM1 bL hB0 hsz hbs ⊢
  clear hW0 bM
  refine wpIn_rangeFunc_ownH (n := 9) rfl (by omega) (gf := 24) (lb := #[.pointer (some ⟨Bs, 0, none⟩)]) rfl trivial (enters_of Try.func24 (by kernel_rfl) rfl)
    (All_stops 8 (by omega) Bs (w.heap.size + 1) s hs xs hxs hlen W0 hbs (by omega) bL.cell (by omega)) (fun h k => h.trans k) (fun W l o o' hl h ho _ => Lx.KpT.putObj W l o o' (by omega) h ho) (Below.refl _ _) (fun _ => rfl)
    (fun pre W => ((∃ v, Boxed W (w.heap.size + 1) 23 v ∧ W.ownsRow w.heap.size 35 5 v pre.length (Lx.flatT pre) ∧ pre.length ≤ m) ∧ Boxed W w.heap.size 3 (.int .i64 (m : Int))) ∧ Below w.heap.size w W)
    (fun c pre W => (∃ v, Boxed W (w.heap.size + 1) 23 v ∧ W.ownsRow w.heap.size 35 5 v (pre.take m).length (Lx.flatT (pre.take m)) ∧ (c = .exit 0 ∧ m ≤ pre.length)) ∧ Below w.heap.size w W)
    (OwnFrom.and (OwnFrom.and (Own.from (holdsRow_own w.heap.size (w.heap.size + 1) 23 35 5 (fun (pre : List Lx.PTok) => pre.length) Lx.flatT (fun (pre : List Lx.PTok) _ => pre.length ≤ m)) _) (Own.from (boxed_own w.heap.size 3 (fun (_ : List Lx.PTok) => Value.int .i64 (m : Int))) _)) (ownFrom_below (Nat.le_refl _) (by omega)))
    (fun c => OwnFrom.and (Own.from (holdsRow_own w.heap.size (w.heap.size + 1) 23 35 5 (fun (pre : List Lx.PTok) => (pre.take m).length) (fun (pre : List Lx.PTok) => Lx.flatT (pre.take m)) (fun (pre : List Lx.PTok) _ => c = .exit 0 ∧ m ≤ pre.length)) _) (ownFrom_below (Nat.le_refl _) (by omega)))
    ⟨⟨⟨_, bL, World.ownsRow_nil _ _ _ _, by simp⟩, bM1⟩, hB0⟩
    (fun x a' W => ∃ Bx, w.heap.size + 1 < Bx ∧ W.heap[Bx]? = some (.cells #[.int .i64 x.t.k, .int .i64 (x.at_ : Int), .int .i64 (x.to : Int), .int .i64 x.t.n, .string ⟨x.t.s.toArray⟩] 35 (0, 0)) ∧ a' = { tmps := #[.func (.func 24) #[] #[.pointer (some ⟨Bs, 0, none⟩)], .int .i64 (m : Int), undef, .pointer (some ⟨w.heap.size, 0, none⟩), .slice none 0 0, .pointer (some ⟨w.heap.size + 1, 0, none⟩), .pointer (some ⟨Bx, 0, none⟩), .func (.func 24) #[] #[.pointer (some ⟨Bs, 0, none⟩)], .bool false, .func (.func 24) #[] #[.pointer (some ⟨Bs, 0, none⟩)], .agg #[.int .i64 x.t.k, .int .i64 (x.at_ : Int), .int .i64 (x.to : Int), .int .i64 x.t.n, .string ⟨x.t.s.toArray⟩], undef, undef, undef, undef, undef, undef, undef, undef, undef], defers := [] })
    (fun x a' _ X Y row hs hg hr => by
      obtain ⟨Bx, h1, h2, h3⟩ := hs
      refine ⟨Bx, h1, (hg.block Bx (Array.getElem?_eq_some_iff.1 h2).1 (fun e => ?_)).trans h2, h3⟩
      obtain ⟨o, ho, hc⟩ := (hr Bx e.symm).2
      rw [h2] at ho; cases ho; cases hc)
    ?assign ?body ?done ?stop
  case assign =>
    rintro l pre x W K ⟨⟨⟨v, hv, hrow, hpm⟩, hM⟩, hB⟩ hK
    gi_wp2
    exact hK _ _ ((KeepsOthers.alloc _ _).from _) (Lx.KpT.alloc W _ hv.lt) ⟨⟨⟨v, hv.alloc _, hrow.alloc _, hpm⟩, hM.alloc _⟩, hB.alloc hB.size _⟩ ⟨W.heap.size, hv.lt, World.alloc_heap_new W _, rfl⟩
  case body =>
    rintro l pre x a' W hl ⟨r, hr⟩ ⟨⟨⟨v, hv, hrow, hpm⟩, hM⟩, hB⟩ ⟨Bx, hBx, hX, rfl⟩ hlt
    have cL := hv.cell
    have fL := hv.frozen
    have cM := hM.cell
    have x0 : W.cell? ⟨Bx, 0, none⟩ = some (.int .i64 x.t.k) := by simp [World.cell?, hX]
    have x1 : W.cell? ⟨Bx, 1, none⟩ = some (.int .i64 (x.at_ : Int)) := by simp [World.cell?, hX]
    have x2 : W.cell? ⟨Bx, 2, none⟩ = some (.int .i64 (x.to : Int)) := by simp [World.cell?, hX]
    have x3 : W.cell? ⟨Bx, 3, none⟩ = some (.int .i64 x.t.n) := by simp [World.cell?, hX]
    have x4 : W.cell? ⟨Bx, 4, none⟩ = some (.string ⟨x.t.s.toArray⟩) := by simp [World.cell?, hX]
    have hBs1 := hB.size
    obtain ⟨a, c, rfl⟩ := Lx.row_form hrow
    by_cases hge : m ≤ pre.length
    · have hgei : (m : Int) ≤ (pre.length : Int) := by omega
      gi_wp2
      have he : (pre ++ [x]).take m = pre := by rw [List.take_append_of_le_length hge, List.take_of_length_le hpm]
      exact ⟨KeepsFrom.refl _ _, ⟨_, hv, by rw [he]; exact hrow, rfl, by simp; omega⟩, hB⟩
    · have hgei : ¬ (m : Int) ≤ (pre.length : Int) := by omega
      have hfive := Lx.five_new W x.t.k (x.at_ : Int) (x.to : Int) x.t.n ⟨x.t.s.toArray⟩ 35
      gi_wp2_with (gi_at_builtin; refine wpListIn_append_own_at _ rfl _ _ 23 rfl w.heap.size 35 i0 (.agg #[.int .i64 0, .int .i64 0, .int .i64 0, .int .i64 0, .string ⟨#[]⟩]) 5 48 Try.underlying23 hi hz0 hz1 hz2 rfl (by decide) _ _ _ rfl (hrow.alloc _) ⟨W.heap.size, 0, none⟩ 1 1 [.int .i64 x.t.k, .int .i64 (x.at_ : Int), .int .i64 (x.to : Int), .int .i64 x.t.n, .string ⟨x.t.s.toArray⟩] rfl rfl hfive (fun x hx => by simp at hx; rcases hx with rfl | rfl | rfl | rfl | rfl <;> rfl) (by unfold maxLen; omega) (by omega) (by simp; omega) ?_; intro v' w1 hown' hgrow hnil hat; obtain ⟨g', cap', rfl⟩ := ownsRow_succ hown'; obtain ⟨hv1, hv2, hr2, hk2, hb2⟩ := hv.appended (by decide) hrow hBs1 (by omega) hown' hgrow; have hkp := Lx.KpT.append hv hv2 hgrow hat; have hc1 := hv1.cell; have hf1 := hv1.frozen; have hM2 := (hM.alloc (.cells #[.int .i64 x.t.k, .int .i64 (x.at_ : Int), .int .i64 (x.to : Int), .int .i64 x.t.n, .string ⟨x.t.s.toArray⟩] 35)).kept hgrow (hM.not_row (by decide) hrow); have hM3 := hM2.other (B' := w.heap.size + 1) (by omega) (.slice (some ⟨g', 0, none⟩) (pre.length + 1) cap'))
      exact ⟨hk2.from _, hkp, ⟨⟨⟨_, hv2, by rw [List.length_append, Lx.flat_app]; exact hr2, by simp; omega⟩, hM3⟩, hB.trans hb2⟩⟩
  case done =>
    rintro D ys W hD rfl ⟨⟨⟨v, hv, hrow, hpm⟩, hM⟩, hB⟩ hK
    have cL := hv.cell
    gi_wp2
    refine ⟨by simp, .inl ⟨_, _, rfl, run_takeDeferred hK, ?_⟩⟩
    exact ⟨_, results_tmp rfl _ _ _, v, rfl, by rw [List.take_of_length_le hpm]; exact ownsRow_putObj hrow _ hK rfl, hB.trans (belowK_b (w := w) (Nat.le_refl _) W D _ _ (by omega) hK rfl rfl)⟩
  case stop =>
    rintro D c pre W hD hp ⟨⟨v, hv, hrow, rfl, hmp⟩, hB⟩ hK
    have cL := hv.cell
    gi_wp2
    refine ⟨by simp, .inl ⟨_, _, rfl, run_takeDeferred hK, ?_⟩⟩
    exact ⟨_, results_tmp rfl _ _ _, v, rfl, by rw [← Lx.prefix_take hp hmp]; exact ownsRow_putObj hrow _ hK rfl, hB.trans (belowK_b (w := w) (Nat.le_refl _) W D _ _ (by omega) hK rfl rfl)⟩
end Go.Proofs.Ytihfflinkmceaab
