/-
  shuttlelaw05: told and Clone of a table that no call made.
-/
import Derived.Test.YtjbjgceblanhpaaDoorSpSame
namespace Go.Proofs.YtjbjgceblanhpaaDoor
open Go.RowKit Go.Shelf
attribute [local go_sem] Oper.semAt_some
set_option maxRecDepth 100000 in
theorem spNames_any (p : Option Addr) (s : Int) (w : World) : Calls Tryd.prog 19 #[.pointer p, .int .i64 s] w fun e w' => e = .returned (.func (.func 33) #[] #[.pointer (some ⟨w.heap.size, 0, none⟩), .pointer (some ⟨w.heap.size + 1, 0, none⟩)]) ∧ w' = (w.alloc (.cells #[.pointer p] 32)).alloc (.cells #[.int .i64 s] 3) := by
  go_enter Tryd.func19, Tryd.ntmps19
  go_wp2
  go_ret
  exact ⟨rfl, rfl⟩
set_option maxRecDepth 100000 in
theorem spClone_no (p : Value) (w : World) (h : Sp.NoTab w p) :
    Calls Tryd.prog 25 #[p] w fun e w' => e = .returned (.pointer none) ∧ w = w' := by
  have hn := spNone_no p w h
  clear h
  go_enter Tryd.func25, Tryd.ntmps25
  go_wp2_with (go_at_call 34; refine hn.mono ?_; clear hn; rintro e w1 ⟨rfl, rfl⟩)
  go_ret
  exact ⟨rfl, rfl⟩
set_option maxRecDepth 100000 in
set_option maxHeartbeats 8000000 in
theorem spNames1_no (n : Nat) (hn : 2 ≤ n) (p : Option Addr) (s : Int) (Bt Bs : Nat) (w : World) (h : Sp.NoTab w (.pointer p)) (hBt : w.cell? ⟨Bt, 0, none⟩ = some (.pointer p)) (hBs : w.cell? ⟨Bs, 0, none⟩ = some (.int .i64 s)) :
    SeqStopsK Fence.wide n Tryd.prog 33 #[.pointer (some ⟨Bt, 0, none⟩), .pointer (some ⟨Bs, 0, none⟩)] (fun x : Empty => (x.elim : Array Value)) (Below w.heap.size) (fun _ => True) (fun _ => False) 0 w := by
  intro l J Jx W hW hJ _ hY h0
  have b0 := (hW.cell (p := ⟨Bt, 0, none⟩) (block_lt_of_cell hBt)).trans hBt
  have b1 := (hW.cell (p := ⟨Bs, 0, none⟩) (block_lt_of_cell hBs)).trans hBs
  obtain ⟨W1, hW1⟩ : ∃ W1, W.alloc (.cells #[.func (.yield l) #[] #[]] 75) = W1 := ⟨_, rfl⟩
  have hb1 : Below W.heap.size W W1 := by rw [← hW1]; exact (Below.refl _ _).alloc (Nat.le_refl _) _
  have hmay := spMay_no (.pointer p) s W1 ((h.below hW).below hb1)
  have b0 := (hb1.cell (p := ⟨Bt, 0, none⟩) (block_lt_of_cell b0)).trans b0
  have b1 := (hb1.cell (p := ⟨Bs, 0, none⟩) (block_lt_of_cell b1)).trans b1
  have hJ1 : J [] W1 := by rw [← hW1]; exact hJ _ _ _ none h0 (World.grownBy_alloc W _ none) (by simp)
  clear hY h
  refine callsIn_of_wp Tryd.func33 rfl trivial ?_ rfl
  simp only [Tryd.ntmps33, List.size_toArray, List.length_cons, List.length_nil, Nat.reduceAdd, Nat.reduceSub, Array.replicate_succ, Array.replicate_zero, List.push_toArray, List.append_toArray, List.nil_append, List.cons_append]
  have hn1 : 1 ≤ n := by omega
  gi_wp2_with (refine ⟨trivial, ?_⟩; gi_at_call 26; refine (callsIn_wide.2 hmay).mono ?_; clear hmay; rintro e w2 ⟨rfl, rfl⟩)
  refine bodyPost_ret (results_none rfl _ _ _) rfl ?_
  exact ⟨⟨_, rfl⟩, .inl ⟨[], trivial, hJ1⟩⟩
namespace Sp
theorem eqlIn_seq (d f : Nat) (lb : Array Value) (w : World) : (Op.equalIn (d + 1) 54 (.func (.func f) #[] lb) .nilFunc).run Tryd.prog w = .ok false w := by
  simp [Op.equalIn, run_underlying Tryd.underlying54]
theorem eql_seq (f : Nat) (lb : Array Value) (w : World) : (binOp .eql 54 (.func (.func f) #[] lb) .nilFunc).run Tryd.prog w = .ok (.bool false) w := by
  have h := eqlIn_seq 9999 f lb w
  have h2 : (Op.equal 54 (.func (.func f) #[] lb) .nilFunc).run Tryd.prog w = .ok false w := h
  show ((do pure (.bool (← Op.equal 54 (.func (.func f) #[] lb) .nilFunc)) : Sem Value)).run _ _ = _
  rw [Sem.run_bind, h2]
  rfl
end Sp
set_option maxRecDepth 100000 in
set_option maxHeartbeats 8000000 in
theorem spTold_no (m : Nat) (p : Option Addr) (s : Int) (Bt Bs : Nat) (w : World) (h : Sp.NoTab w (.pointer p)) (hBt : w.cell? ⟨Bt, 0, none⟩ = some (.pointer p)) (hBs : w.cell? ⟨Bs, 0, none⟩ = some (.int .i64 s)) :
    Calls Tryd.prog 18 #[.func (.func 33) #[] #[.pointer (some ⟨Bt, 0, none⟩), .pointer (some ⟨Bs, 0, none⟩)], .int .i64 (m : Int)] w fun e W' => e = .returned (.slice none 0 0) ∧ Below w.heap.size w W' := by
  refine (callsIn_wide (n := 9)).1 ?_
  refine callsIn_of_wp_marks Tryd.func18 rfl trivial ?_ rfl
  simp only [Tryd.ntmps18, List.size_toArray, List.length_cons, List.length_nil, Nat.reduceAdd, Nat.reduceSub, Array.replicate_succ, Array.replicate_zero, List.push_toArray, List.append_toArray, List.nil_append, List.cons_append]
  gi_wp2
  simp only [Sp.eql_seq]
  gi_wp2
  have bL := Boxed.new (w.alloc (.cells #[.int .i64 (m : Int)] 3)) 51 (.slice none 0 0)
  rw [World.size_alloc] at bL
  have hB0 : Below w.heap.size w ((w.alloc (.cells #[.int .i64 (m : Int)] 3)).alloc (.cells #[.slice none 0 0] 51)) := ((Below.refl _ w).alloc (Nat.le_refl _) _).alloc (by simp) _
  have hsz : ((w.alloc (.cells #[.int .i64 (m : Int)] 3)).alloc (.cells #[.slice none 0 0] 51)).heap.size = w.heap.size + 2 := by simp
  obtain ⟨W0, hW0⟩ : ∃ W0, (w.alloc (.cells #[.int .i64 (m : Int)] 3)).alloc (.cells #[.slice none 0 0] 51) = W0 := ⟨_, rfl⟩
  rw [hW0] at bL hB0 hsz ⊢
  clear hW0
  refine wpIn_rangeFunc_ownF (n := 9) (α := Empty) (encs := fun x => x.elim) rfl (by omega) (gf := 33) (lb := #[.pointer (some ⟨Bt, 0, none⟩), .pointer (some ⟨Bs, 0, none⟩)]) rfl trivial (enters_of Tryd.func33 (by kernel_rfl) rfl)
    (spNames1_no 8 (by omega) p s Bt Bs W0 (h.below hB0) ((hB0.cell (p := ⟨Bt, 0, none⟩) (block_lt_of_cell hBt)).trans hBt) ((hB0.cell (p := ⟨Bs, 0, none⟩) (block_lt_of_cell hBs)).trans hBs)) (fun h k => h.trans k) (belowK_b (Nat.le_refl _)) (Below.refl _ _) (fun x => x.elim)
    (fun _ W => Boxed W (w.heap.size + 1) 51 (.slice none 0 0) ∧ Below w.heap.size w W)
    (fun _ _ _ => False)
    (OwnFrom.and (Own.from (boxed_own (w.heap.size + 1) 51 (fun _ => Value.slice none 0 0)) _) (ownFrom_below (Nat.le_refl _) (by omega)))
    (fun _ _ _ _ _ h _ _ => h)
    ⟨bL, hB0⟩
    (fun x => x.elim) ?assign ?body ?done ?stop
  case assign => exact fun _ x => x.elim
  case body => exact fun _ _ x => x.elim
  case done =>
    rintro D ys W hD - ⟨hL, hB⟩ hK
    have cL := hL.cell
    gi_wp2
    refine ⟨by simp, .inl ⟨_, _, rfl, run_takeDeferred hK, ?_⟩⟩
    exact ⟨_, results_tmp rfl _ _ _, rfl, hB.trans (belowK_b (w := w) (Nat.le_refl _) W D _ _ (by omega) hK rfl rfl)⟩
  case stop => exact fun _ _ _ _ _ h => h.elim
set_option maxRecDepth 100000 in
set_option maxHeartbeats 8000000 in
theorem spSame_no (p : Option Addr) (a b : Int) (x y : Dt.D) (vm vL vt um uL ut : Value) (w : World) (h : Sp.NoTab w (.pointer p)) (hf : ∃ a1 n1 q1 a2 n2 q2 a3 n3 q3, vm = .slice a1 n1 q1 ∧ vL = .slice a2 n2 q2 ∧ vt = .slice a3 n3 q3) (hf2 : ∃ a1 n1 q1 a2 n2 q2 a3 n3 q3, um = .slice a1 n1 q1 ∧ uL = .slice a2 n2 q2 ∧ ut = .slice a3 n3 q3) :
    Calls Tryd.prog 15 #[.pointer p, .int .i64 a, .agg #[.int .i64 x.k, .int .i64 x.n, .string x.s, vm, vL, vt], .int .i64 b, .agg #[.int .i64 y.k, .int .i64 y.n, .string y.s, um, uL, ut]] w fun e w' => e = .returned (.tuple #[.bool false, .int .i64 2]) ∧ Below w.heap.size w w' := by
  obtain ⟨a1, n1, q1, a2, n2, q2, a3, n3, q3, rfl, rfl, rfl⟩ := hf
  obtain ⟨c1, o1, r1, c2, o2, r2, c3, o3, r3, rfl, rfl, rfl⟩ := hf2
  obtain ⟨w2, hw2, hb2, hs2, hx2, hy2⟩ := Dt.boxes2 w x y (.slice a1 n1 q1) (.slice a2 n2 q2) (.slice a3 n3 q3) (.slice c1 o1 r1) (.slice c2 o2 r2) (.slice c3 o3 r3)
  have hf1 := spFind_no p a x (.slice a1 n1 q1) (.slice a2 n2 q2) (.slice a3 n3 q3) w2 (h.below hb2)
  have HB2 := Lib.hid hb2
  obtain ⟨b0, b1, b2, b3, b4, b5⟩ := hx2
  clear h hy2 hb2
  go_enter Tryd.func15, Tryd.ntmps15
  go_wp2_with (go_at_call 11; refine hf1.mono ?_; clear hf1; rintro e w3 ⟨rfl, hb3⟩; have HB3 := Lib.hid (HB2.out.trans (hb3.mono HB2.out.size)); clear hb3)
  refine bodyPost_ret (v := .tuple #[.bool false, .int .i64 2]) (by simp [results, Tryd.results15, go_sem]) rfl ?_
  exact ⟨rfl, HB3.out.trans (((Below.refl _ w3).alloc (Nat.le_refl _) _).mono HB3.out.size)⟩
end Go.Proofs.YtjbjgceblanhpaaDoor
