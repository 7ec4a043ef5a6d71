/-
  shuttleref18.Table: Get, Define, Assign.
-/
import Derived.Test.YtihfflinkmceaaaTbRef
import Derived.Deep.RegionHeld3
namespace Go.Proofs.Ytihfflinkmceaaa
open Go.RowKit Go.Maps Go.WideMaps Go.Sort
set_option maxRecDepth 100000 in
set_option maxHeartbeats 2000000 in
theorem RGet_any {b n : Nat} {v : Value} {L : List (Tb.Nm × Tb.V)} (s : ByteArray) (w : World) (h : Tb.RTab w b n v L) (hs : s.size ≤ 1000) :
    Calls Try.prog 36 #[.pointer (some ⟨b, 0, none⟩), .string s] w fun e w' =>
      e = .returned (.tuple #[.agg #[.int .i64 (Tb.get L s.data.toList).1.1, .int .i64 (Tb.get L s.data.toList).1.2], .int .i64 (Tb.get L s.data.toList).2.1, .int .i64 (Tb.get L s.data.toList).2.2]) ∧ Below w.heap.size w w' := by
  obtain ⟨r, hr⟩ : ∃ r, r = Tb.get L s.data.toList := ⟨_, rfl⟩
  rw [← hr]
  unfold Tb.get at hr
  obtain ⟨wa, hwa⟩ : ∃ wa, w.alloc (.cells #[.int .i64 0, .int .i64 0] 37) = wa := ⟨_, rfl⟩
  have hba : Below w.heap.size w wa := by rw [← hwa]; exact (Below.refl _ w).alloc (Nat.le_refl _) _
  have hta := h.below hba
  have hsa : w.heap.size < wa.heap.size := by rw [← hwa]; simp
  have hT := Tb.Two.new w
  rw [hwa] at hT
  clear h
  have hm := SymbolR_any s wa (by omega)
  cases hy : Lx.symbol s.data.toList
  · rw [hy] at hr hm
    have hr' : r = ((0, 0), 0, 180) := hr
    clear hr
    subst hr'
    have c0 := hT.c0
    have c1 := hT.c1
    have f0 := hT.f0
    have f1 := hT.f1
    go_enter Try.func36, Try.ntmps36
    go_wp2_with fail
    refine hm.mono ?_
    rintro e w2 ⟨rfl, rfl⟩
    clear hm hta
    go_wp2
    obtain ⟨k0, k1⟩ := hT.set (.int .i64 0) (.int .i64 0)
    have kb := Tb.Two.bel hba (Nat.le_refl _) (.int .i64 0) (.int .i64 0)
    exact bodyPost_ret (v := .tuple #[.agg #[.int .i64 0, .int .i64 0], .int .i64 0, .int .i64 180]) (by simp [results, Try.results36, go_sem, k0, k1]) rfl ⟨rfl, kb⟩
  rw [hy] at hr hm
  have hr' : r = match Tb.look L s.data.toList with
    | some v => (v, 0, 0)
    | none => match Tb.prim s.data.toList with
      | some p => ((6, (p : Int)), 0, 0)
      | none => ((0, 0), 3, 0) := hr
  clear hr
  have hat := at_any s wa hta
  obtain ⟨hl1, hl2⟩ := Tb.look_pos hta.rise s.data.toList
  obtain ⟨p, hp⟩ : ∃ p, p = Tb.pos L s.data.toList := ⟨_, rfl⟩
  rw [← hp] at hat
  cases hi : Tb.isAt L s.data.toList
  · rw [hi] at hat hl1
    have hlk : Tb.look L s.data.toList = none := by
      cases hh : Tb.look L s.data.toList with
      | none => rfl
      | some x => rw [hh] at hl1; cases hl1
    rw [hlk] at hr'
    have hr1 : r = match Tb.prim s.data.toList with
      | some p => ((6, (p : Int)), 0, 0)
      | none => ((0, 0), 3, 0) := hr'
    clear hr' hl1 hl2 hlk hi hp
    have hfd := fun w => FindR_any s w
    obtain ⟨x, hx⟩ : ∃ x : Option Nat, x = Tb.prim s.data.toList := ⟨_, rfl⟩
    rw [← hx] at hr1 hfd
    clear hx
    cases x with
    | some p =>
      have hr2 : r = ((6, (p : Int)), 0, 0) := hr1
      clear hr1
      subst hr2
      go_enter Try.func36, Try.ntmps36
      go_wp2_with fail
      refine hm.mono ?_
      rintro e w2 ⟨rfl, rfl⟩
      clear hm
      go_wp2_with fail
      clear hwa
      refine hat.mono ?_
      rintro e w2 ⟨rfl, q, rfl⟩
      clear hat hta
      have hb2 : Below wa.heap.size wa (wa.drewN q) := (Keep.refl (fun _ => False) wa).drew q |>.to_below (fun _ h => h.elim) (Nat.le_refl _)
      have hT2 := hT.below hb2
      have hba2 := hba.trans ⟨hb2.os, hb2.tape, hb2.output, hb2.size, fun k hk => hb2.block k (by omega)⟩
      clear hb2 hT hba
      go_wp2_with fail
      refine (hfd (wa.drewN q)).mono ?_
      rintro e w4 ⟨rfl, hb4⟩
      clear hfd
      have hT4 := hT2.below hb4
      have hba4 := hba2.trans ⟨hb4.os, hb4.tape, hb4.output, hb4.size, fun k hk => hb4.block k (by have := hba2.size; omega)⟩
      have c0 := hT4.c0
      have c1 := hT4.c1
      have f0 := hT4.f0
      have f1 := hT4.f1
      clear hT2 hba2 hb4
      go_wp2
      obtain ⟨k0, k1⟩ := hT4.set (.int .i64 6) (.int .i64 (p : Int))
      have kb := Tb.Two.bel hba4 (Nat.le_refl _) (.int .i64 6) (.int .i64 (p : Int))
      exact bodyPost_ret (v := .tuple #[.agg #[.int .i64 6, .int .i64 (p : Int)], .int .i64 0, .int .i64 0]) (by simp [results, Try.results36, go_sem, k0, k1]) rfl ⟨rfl, kb⟩
    | none =>
      have hr2 : r = ((0, 0), 3, 0) := hr1
      clear hr1
      subst hr2
      go_enter Try.func36, Try.ntmps36
      go_wp2_with fail
      refine hm.mono ?_
      rintro e w2 ⟨rfl, rfl⟩
      clear hm
      go_wp2_with fail
      clear hwa
      refine hat.mono ?_
      rintro e w2 ⟨rfl, q, rfl⟩
      clear hat hta
      have hb2 : Below wa.heap.size wa (wa.drewN q) := (Keep.refl (fun _ => False) wa).drew q |>.to_below (fun _ h => h.elim) (Nat.le_refl _)
      have hT2 := hT.below hb2
      have hba2 := hba.trans ⟨hb2.os, hb2.tape, hb2.output, hb2.size, fun k hk => hb2.block k (by omega)⟩
      clear hb2 hT hba
      go_wp2_with fail
      refine (hfd (wa.drewN q)).mono ?_
      rintro e w4 ⟨rfl, hb4⟩
      clear hfd
      have hT4 := hT2.below hb4
      have hba4 := hba2.trans ⟨hb4.os, hb4.tape, hb4.output, hb4.size, fun k hk => hb4.block k (by have := hba2.size; omega)⟩
      have c0 := hT4.c0
      have c1 := hT4.c1
      have f0 := hT4.f0
      have f1 := hT4.f1
      clear hT2 hba2 hb4
      go_wp2
      obtain ⟨k0, k1⟩ := hT4.set (.int .i64 0) (.int .i64 0)
      have kb := Tb.Two.bel hba4 (Nat.le_refl _) (.int .i64 0) (.int .i64 0)
      exact bodyPost_ret (v := .tuple #[.agg #[.int .i64 0, .int .i64 0], .int .i64 3, .int .i64 0]) (by simp [results, Try.results36, go_sem, k0, k1]) rfl ⟨rfl, kb⟩
  · rw [hi] at hat
    have hpl : p < L.length := by
      rw [hp]
      unfold Tb.isAt at hi
      split at hi
      · assumption
      · cases hi
    have hlk := hl2 (by omega) hi
    rw [hlk] at hr'
    obtain ⟨x, hx⟩ : ∃ x, L[p] = x := ⟨_, rfl⟩
    have hr2 : r = (x.2, 0, 0) := by rw [← hx]; subst hp; exact hr'
    clear hr' hl1 hl2 hlk hi hp
    subst hr2
    have c1r := hta.c1
    rcases hta.grow with ⟨_, h0⟩ | ⟨g, cap, rfl, hgl, hca⟩
    · rw [h0] at hpl; simp at hpl
    obtain ⟨_, a1, a2⟩ := Tb.GRow.three hca p hpl
    rw [hx] at a1 a2
    have hpli : (p : Int) < (L.length : Int) := by omega
    have c0 := hT.c0
    have c1 := hT.c1
    have f0 := hT.f0
    have f1 := hT.f1
    clear hca hx
    go_enter Try.func36, Try.ntmps36
    go_wp2_with fail
    refine hm.mono ?_
    rintro e w2 ⟨rfl, rfl⟩
    clear hm
    go_wp2_with fail
    clear hwa
    refine hat.mono ?_
    rintro e w2 ⟨rfl, q, rfl⟩
    clear hat hta
    have hb2 : Below wa.heap.size wa (wa.drewN q) := (Keep.refl (fun _ => False) wa).drew q |>.to_below (fun _ h => h.elim) (Nat.le_refl _)
    have hT2 := hT.below hb2
    have hba2 := hba.trans ⟨hb2.os, hb2.tape, hb2.output, hb2.size, fun k hk => hb2.block k (by omega)⟩
    clear hb2 hT hba
    go_wp2
    obtain ⟨k0, k1⟩ := hT2.set (.int .i64 x.2.1) (.int .i64 x.2.2)
    have kb := Tb.Two.bel hba2 (Nat.le_refl _) (.int .i64 x.2.1) (.int .i64 x.2.2)
    exact bodyPost_ret (v := .tuple #[.agg #[.int .i64 x.2.1, .int .i64 x.2.2], .int .i64 0, .int .i64 0]) (by simp [results, Try.results36, go_sem, k0, k1]) rfl ⟨rfl, kb⟩
end Go.Proofs.Ytihfflinkmceaaa
