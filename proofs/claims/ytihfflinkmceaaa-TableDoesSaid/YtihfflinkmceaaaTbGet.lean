/-
  table.Table: may, of, Get, Len.
-/
import Derived.Test.YtihfflinkmceaaaTbTable
import Derived.Lib.QuietBelow
namespace Go.Proofs.Ytihfflinkmceaaa
open Go.RowKit Go.Maps Go.WideMaps Go.Sort
namespace Tb
/-- what Get answers: a value, a fault, an errno -/
def get (L : List (Nm × V)) (s : Nm) : V × Int × Int :=
  if Lx.symbol s then match look L s with
    | some v => (v, 0, 0)
    | none => match prim s with
      | some p => ((6, (p : Int)), 0, 0)
      | none => ((0, 0), 3, 0)
  else ((0, 0), 0, 180)
/-- a fresh value's two cells -/
structure Two (W : World) (b : Nat) : Prop where
  c0 : W.cell? ⟨b, 0, none⟩ = some (.int .i64 0)
  c1 : W.cell? ⟨b, 1, none⟩ = some (.int .i64 0)
  f0 : W.frozen? ⟨b, 0, none⟩ = false
  f1 : W.frozen? ⟨b, 1, none⟩ = false
  lt : b < W.heap.size
theorem Two.below {W W' : World} {b : Nat} (h : Two W b) (hb : Below W.heap.size W W') : Two W' b :=
  ⟨(hb.cell (p := ⟨b, 0, none⟩) h.lt).trans h.c0, (hb.cell (p := ⟨b, 1, none⟩) h.lt).trans h.c1, (hb.frozen (p := ⟨b, 0, none⟩) h.lt).trans h.f0, (hb.frozen (p := ⟨b, 1, none⟩) h.lt).trans h.f1, Nat.lt_of_lt_of_le h.lt hb.size⟩
theorem Two.set {W : World} {b : Nat} (h : Two W b) (x y : Value) : ((W.setCell ⟨b, 0, none⟩ x).setCell ⟨b, 1, none⟩ y).cell? ⟨b, 0, none⟩ = some x ∧ ((W.setCell ⟨b, 0, none⟩ x).setCell ⟨b, 1, none⟩ y).cell? ⟨b, 1, none⟩ = some y := by
  have n1 : (⟨b, 1, none⟩ : Addr) ≠ ⟨b, 0, none⟩ := by intro e; cases e
  have n0 : (⟨b, 0, none⟩ : Addr) ≠ ⟨b, 1, none⟩ := by intro e; cases e
  exact ⟨(World.cell?_setCell_other _ _ _ _ n1).trans (World.cell?_setCell_same' _ _ _ (by rw [h.c0]; rfl)), World.cell?_setCell_same' _ _ _ (by rw [World.cell?_setCell_other _ _ _ _ n0, h.c1]; rfl)⟩
theorem Two.bel {w W : World} {b : Nat} (hb : Below w.heap.size w W) (h : w.heap.size ≤ b) (x y : Value) : Below w.heap.size w ((W.setCell ⟨b, 0, none⟩ x).setCell ⟨b, 1, none⟩ y) :=
  (hb.setCell (p := ⟨b, 0, none⟩) h _).setCell (p := ⟨b, 1, none⟩) h _
theorem pair_new (w : World) (x y : Value) : (w.alloc (.cells #[x, y] 37)).cell? ⟨w.heap.size, 0, none⟩ = some x ∧ (w.alloc (.cells #[x, y] 37)).cell? ⟨w.heap.size, 1, none⟩ = some y := by
  have h := World.alloc_heap_new w (.cells #[x, y] 37)
  exact ⟨by unfold World.cell?; rw [h]; rfl, by unfold World.cell?; rw [h]; rfl⟩
theorem Two.new (w : World) : Two (w.alloc (.cells #[.int .i64 0, .int .i64 0] 37)) w.heap.size := by
  have h := World.alloc_heap_new w (.cells #[.int .i64 0, .int .i64 0] 37)
  exact ⟨by unfold World.cell?; rw [h]; rfl, by unfold World.cell?; rw [h]; rfl, by unfold World.frozen?; rw [h]; rfl, by unfold World.frozen?; rw [h]; rfl, by simp⟩
end Tb
set_option maxRecDepth 100000 in
theorem may_any {tb n lo hi : Nat} {B : Nat → Nat} {L : List (Tb.Nm × Tb.V)} (s : ByteArray) (w : World) (h : Tb.Tab w tb n lo hi B L) (hs : s.size ≤ 1000) :
    Calls Try.prog 25 #[.pointer (some ⟨tb, 0, none⟩), .string s] w fun e w' => e = .returned (.int .i64 (if Lx.symbol s.data.toList then 0 else 180)) ∧ w = w' := by
  have h1 := h.n1
  have h0 := h.c0
  clear h
  cases hy : Lx.symbol s.data.toList
  all_goals
    go_enter Try.func25, Try.ntmps25
    go_wp2_with fail
    refine (none_yes tb n w h0 h1).mono ?_
    rintro e w2 ⟨rfl, rfl⟩
    go_wp2_with fail
    refine (Symbol_any s w (by omega)).mono ?_
    rintro e w2 ⟨rfl, rfl⟩
    rw [hy]
    go_wp2
    go_ret
    exact ⟨rfl, rfl⟩
set_option maxRecDepth 100000 in
set_option maxHeartbeats 1000000 in
theorem of_any {tb n lo hi : Nat} {B : Nat → Nat} {L : List (Tb.Nm × Tb.V)} (s : ByteArray) (w : World) (h : Tb.Tab w tb n lo hi B L) (hs : s.size ≤ 1000) :
    Calls Try.prog 26 #[.pointer (some ⟨tb, 0, none⟩), .string s] w fun e w' => e = .returned (.map (some (B (Tb.shard n s.data.toList)))) ∧ Below w.heap.size w w' := by
  have hlt := Tb.shard_lt h.n1 s.data.toList
  have h16 := h.n16
  have hl : tb < w.heap.size := Nat.lt_of_lt_of_le h.lt.2 h.hh
  have hc := h.cl _ hlt
  have cV : ∀ d os, Calls Try.prog 10 #[.pointer (some ⟨tb, 0, none⟩), .string s] (grow (redrawn w d) os) fun e w'' => e = .returned (.int .i64 (Tb.shard n s.data.toList : Nat)) ∧ ∃ p : Regrown, w'' = grow (redrawn w p.d) p.os := fun d os =>
    Calls.regrown_of (Shard_any tb n s _ (cell_regrown h.c0 d os) h.n1 h.n16 (Nat.lt_of_lt_of_le hl (below_regrown w d os).size) hs)
  obtain ⟨i, hi'⟩ : ∃ i, i = Tb.shard n s.data.toList := ⟨_, rfl⟩
  rw [← hi'] at hlt hc cV ⊢
  have hi16 : (i : Int) < 16 := by omega
  have kc : ∀ d os, (grow (redrawn w d) os).cell? ⟨tb, 1 + i, none⟩ = some (.map (some (B i))) := fun d os => cell_regrown hc d os
  clear h hi'
  go_enter Try.func26, Try.ntmps26
  go_wp2
  refine wp_region_quiet_below (by kernel_rfl) (by kernel_rfl) ?_
  repeat (go_big_quiet_step (exact cV _ _))
  refine wpQuiet_nil ?_
  intro _ hw'
  obtain ⟨⟨dq, osq⟩, hw''⟩ := hw'
  subst hw''
  have hbq := below_regrown w dq osq
  go_wp2
  go_ret
  exact ⟨rfl, hbq⟩
set_option maxRecDepth 100000 in
set_option maxHeartbeats 1000000 in
theorem Len_any {tb n lo hi : Nat} {B : Nat → Nat} {L : List (Tb.Nm × Tb.V)} (w : World) (h : Tb.Tab w tb n lo hi B L) :
    Calls Try.prog 15 #[.pointer (some ⟨tb, 0, none⟩)] w fun e w' => e = .returned (.int .i64 (L.length : Int)) ∧ w = w' := by
  have h1 := h.n1
  have h0 := h.c0
  have hm := h.cm
  clear h
  go_enter Try.func15, Try.ntmps15
  go_wp2_with fail
  refine (none_yes tb n w h0 h1).mono ?_
  rintro e w2 ⟨rfl, rfl⟩
  go_wp2
  go_ret
  exact ⟨rfl, rfl⟩
set_option maxRecDepth 100000 in
set_option maxHeartbeats 2000000 in
theorem Get_any {tb n lo hi : Nat} {B : Nat → Nat} {L : List (Tb.Nm × Tb.V)} (s : ByteArray) (w : World) (h : Tb.Tab w tb n lo hi B L) (hs : s.size ≤ 1000) :
    Calls Try.prog 14 #[.pointer (some ⟨tb, 0, none⟩), .string s] w fun e w' =>
      e = .returned (.tuple #[.agg #[.int .i64 (Tb.get L s.data.toList).1.1, .int .i64 (Tb.get L s.data.toList).1.2], .int .i64 (Tb.get L s.data.toList).2.1, .int .i64 (Tb.get L s.data.toList).2.2]) ∧ Below w.heap.size w w' := by
  obtain ⟨r, hr⟩ : ∃ r, r = Tb.get L s.data.toList := ⟨_, rfl⟩
  rw [← hr]
  unfold Tb.get at hr
  obtain ⟨wa, hwa⟩ : ∃ wa, w.alloc (.cells #[.int .i64 0, .int .i64 0] 37) = wa := ⟨_, rfl⟩
  have hba : Below w.heap.size w wa := by rw [← hwa]; exact (Below.refl _ w).alloc (Nat.le_refl _) _
  have hta := h.below hba
  have hsa : wa.heap.size = w.heap.size + 1 := by rw [← hwa]; simp
  have hT := Tb.Two.new w
  rw [hwa] at hT
  clear h
  cases hy : Lx.symbol s.data.toList
  · rw [hy] at hr
    have hr' : r = ((0, 0), 0, 180) := hr
    clear hr
    subst hr'
    have hm := may_any s wa hta hs
    rw [hy] at hm
    have c0 := hT.c0
    have c1 := hT.c1
    have f0 := hT.f0
    have f1 := hT.f1
    go_enter Try.func14, Try.ntmps14
    go_wp2_with fail
    refine hm.mono ?_
    rintro e w2 ⟨rfl, rfl⟩
    clear hm hta
    go_wp2
    obtain ⟨k0, k1⟩ := hT.set (.int .i64 0) (.int .i64 0)
    have kb := Tb.Two.bel hba (Nat.le_refl _) (.int .i64 0) (.int .i64 0)
    exact bodyPost_ret (v := .tuple #[.agg #[.int .i64 0, .int .i64 0], .int .i64 0, .int .i64 180]) (by simp [results, Try.results14, go_sem, k0, k1]) rfl ⟨rfl, kb⟩
  · rw [hy] at hr
    have hr' : r = match Tb.look L s.data.toList with
      | some v => (v, 0, 0)
      | none => match Tb.prim s.data.toList with
        | some p => ((6, (p : Int)), 0, 0)
        | none => ((0, 0), 3, 0) := hr
    clear hr
    have hm := may_any s wa hta hs
    rw [hy] at hm
    have hof := of_any s wa hta hs
    have hlt := Tb.shard_lt hta.n1 s.data.toList
    have hmp := hta.mp _ hlt
    obtain ⟨i, hi'⟩ : ∃ i, i = Tb.shard n s.data.toList := ⟨_, rfl⟩
    rw [← hi'] at hof hlt hmp
    cases hlk : Tb.look L s.data.toList with
    | some v =>
      rw [hlk] at hr'
      have hr2 : r = (v, 0, 0) := hr'
      clear hr'
      subst hr2
      go_enter Try.func14, Try.ntmps14
      go_wp2_with fail
      refine hm.mono ?_
      rintro e w2 ⟨rfl, rfl⟩
      clear hm
      go_wp2_with fail
      refine hof.mono ?_
      rintro e w2 ⟨rfl, hb2⟩
      clear hof
      have hta2 := hta.below hb2
      obtain ⟨k, _, hmp2⟩ := hta2.mp i hlt
      have hget := hmp2.get (s := s) (by unfold maxLen; omega)
      rw [if_pos hi'.symm, hlk] at hget
      have hget2 : (Instr.lookup 30 (.map (some (B i))) (.string s) true).run Try.prog w2 = .ok (.tuple #[.agg #[.int .i64 v.1, .int .i64 v.2], .bool true]) w2 := hget
      have hT2 := hT.below hb2
      have hba2 := hba.trans ⟨hb2.os, hb2.tape, hb2.output, hb2.size, fun k hk => hb2.block k (by omega)⟩
      have q := Tb.pair_new w2 (.int .i64 v.1) (.int .i64 v.2)
      have hb3 : Below w2.heap.size w2 (w2.alloc (.cells #[.int .i64 v.1, .int .i64 v.2] 37)) := (Below.refl _ w2).alloc (Nat.le_refl _) _
      obtain ⟨w3, hw3⟩ : ∃ w3, w2.alloc (.cells #[.int .i64 v.1, .int .i64 v.2] 37) = w3 := ⟨_, rfl⟩
      rw [hw3] at q hb3
      obtain ⟨q0, q1⟩ := q
      have hT3 := hT2.below hb3
      have hba3 := hba2.trans ⟨hb3.os, hb3.tape, hb3.output, hb3.size, fun k hk => hb3.block k (by have := hba2.size; omega)⟩
      have c0 := hT3.c0
      have c1 := hT3.c1
      have f0 := hT3.f0
      have f1 := hT3.f1
      clear hget hmp2 hta2 hmp hta hi' hlk hT hba hb2 hT2 hba2 hb3
      go_wp2
      obtain ⟨k0, k1⟩ := hT3.set (.int .i64 v.1) (.int .i64 v.2)
      have kb := Tb.Two.bel hba3 (Nat.le_refl _) (.int .i64 v.1) (.int .i64 v.2)
      exact bodyPost_ret (v := .tuple #[.agg #[.int .i64 v.1, .int .i64 v.2], .int .i64 0, .int .i64 0]) (by simp [results, Try.results14, go_sem, k0, k1]) rfl ⟨rfl, kb⟩
    | none =>
      rw [hlk] at hr'
      have hr1 : r = match Tb.prim s.data.toList with
        | some p => ((6, (p : Int)), 0, 0)
        | none => ((0, 0), 3, 0) := hr'
      clear hr'
      have hfd := fun w => Find_any s w
      cases hpr : Tb.prim s.data.toList with
      | some p =>
        rw [hpr] at hr1 hfd
        have hr2 : r = ((6, (p : Int)), 0, 0) := hr1
        clear hr1
        subst hr2
        go_enter Try.func14, Try.ntmps14
        go_wp2_with fail
        refine hm.mono ?_
        rintro e w2 ⟨rfl, rfl⟩
        clear hm
        go_wp2_with fail
        refine hof.mono ?_
        rintro e w2 ⟨rfl, hb2⟩
        clear hof
        have hta2 := hta.below hb2
        obtain ⟨k, _, hmp2⟩ := hta2.mp i hlt
        have hget := hmp2.get (s := s) (by unfold maxLen; omega)
        rw [if_pos hi'.symm, hlk] at hget
        have hget2 : (Instr.lookup 30 (.map (some (B i))) (.string s) true).run Try.prog w2 = .ok (.tuple #[.agg #[.int .i64 0, .int .i64 0], .bool false]) w2 := hget
        have hT2 := hT.below hb2
        have hba2 := hba.trans ⟨hb2.os, hb2.tape, hb2.output, hb2.size, fun k hk => hb2.block k (by omega)⟩
        have hb3 : Below w2.heap.size w2 (w2.alloc (.cells #[.int .i64 0, .int .i64 0] 37)) := (Below.refl _ w2).alloc (Nat.le_refl _) _
        have hT3 := hT2.below hb3
        have hba3 := hba2.trans ⟨hb3.os, hb3.tape, hb3.output, hb3.size, fun k hk => hb3.block k (by have := hba2.size; omega)⟩
        clear hget hmp2 hta2 hmp hta hi' hlk hT hba hb2 hT2 hba2 hb3
        go_wp2_with fail
        refine (hfd (w2.alloc (.cells #[.int .i64 0, .int .i64 0] 37))).mono ?_
        rintro e w4 ⟨rfl, hb4⟩
        clear hfd hpr
        have hT4 := hT3.below hb4
        have hba4 := hba3.trans ⟨hb4.os, hb4.tape, hb4.output, hb4.size, fun k hk => hb4.block k (by have := hba3.size; omega)⟩
        have c0 := hT4.c0
        have c1 := hT4.c1
        have f0 := hT4.f0
        have f1 := hT4.f1
        clear hT3 hba3 hb4
        go_wp2
        obtain ⟨k0, k1⟩ := hT4.set (.int .i64 6) (.int .i64 (p : Int))
        have kb := Tb.Two.bel hba4 (Nat.le_refl _) (.int .i64 6) (.int .i64 (p : Int))
        exact bodyPost_ret (v := .tuple #[.agg #[.int .i64 6, .int .i64 (p : Int)], .int .i64 0, .int .i64 0]) (by simp [results, Try.results14, go_sem, k0, k1]) rfl ⟨rfl, kb⟩
      | none =>
        rw [hpr] at hr1 hfd
        have hr2 : r = ((0, 0), 3, 0) := hr1
        clear hr1
        subst hr2
        go_enter Try.func14, Try.ntmps14
        go_wp2_with fail
        refine hm.mono ?_
        rintro e w2 ⟨rfl, rfl⟩
        clear hm
        go_wp2_with fail
        refine hof.mono ?_
        rintro e w2 ⟨rfl, hb2⟩
        clear hof
        have hta2 := hta.below hb2
        obtain ⟨k, _, hmp2⟩ := hta2.mp i hlt
        have hget := hmp2.get (s := s) (by unfold maxLen; omega)
        rw [if_pos hi'.symm, hlk] at hget
        have hget2 : (Instr.lookup 30 (.map (some (B i))) (.string s) true).run Try.prog w2 = .ok (.tuple #[.agg #[.int .i64 0, .int .i64 0], .bool false]) w2 := hget
        have hT2 := hT.below hb2
        have hba2 := hba.trans ⟨hb2.os, hb2.tape, hb2.output, hb2.size, fun k hk => hb2.block k (by omega)⟩
        have hb3 : Below w2.heap.size w2 (w2.alloc (.cells #[.int .i64 0, .int .i64 0] 37)) := (Below.refl _ w2).alloc (Nat.le_refl _) _
        have hT3 := hT2.below hb3
        have hba3 := hba2.trans ⟨hb3.os, hb3.tape, hb3.output, hb3.size, fun k hk => hb3.block k (by have := hba2.size; omega)⟩
        clear hget hmp2 hta2 hmp hta hi' hlk hT hba hb2 hT2 hba2 hb3
        go_wp2_with fail
        refine (hfd (w2.alloc (.cells #[.int .i64 0, .int .i64 0] 37))).mono ?_
        rintro e w4 ⟨rfl, hb4⟩
        clear hfd hpr
        have hT4 := hT3.below hb4
        have hba4 := hba3.trans ⟨hb4.os, hb4.tape, hb4.output, hb4.size, fun k hk => hb4.block k (by have := hba3.size; omega)⟩
        have c0 := hT4.c0
        have c1 := hT4.c1
        have f0 := hT4.f0
        have f1 := hT4.f1
        clear hT3 hba3 hb4
        go_wp2
        obtain ⟨k0, k1⟩ := hT4.set (.int .i64 0) (.int .i64 0)
        have kb := Tb.Two.bel hba4 (Nat.le_refl _) (.int .i64 0) (.int .i64 0)
        exact bodyPost_ret (v := .tuple #[.agg #[.int .i64 0, .int .i64 0], .int .i64 3, .int .i64 0]) (by simp [results, Try.results14, go_sem, k0, k1]) rfl ⟨rfl, kb⟩
end Go.Proofs.Ytihfflinkmceaaa
