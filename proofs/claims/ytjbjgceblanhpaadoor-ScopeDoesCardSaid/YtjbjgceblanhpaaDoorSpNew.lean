/-
  scope.New, Sizes, Mark.
-/
import Derived.Test.YtjbjgceblanhpaaDoorSpBase
import Derived.Laws.OwnMore
namespace Go.Proofs.YtjbjgceblanhpaaDoor
open Go.RowKit
attribute [local go_sem] Oper.semAt_some
namespace Sp
open Dt
/-- the outermost scope, as it lies -/
def B0 : B := ⟨bd0, .slice none 0 0, .slice none 0 0, .slice none 0 0⟩
theorem infoB : (Tryd.prog.info? 86).map (fun i => (i.zero, i.size, i.bytes)) = some (some (.agg #[.int .i64 0, .int .i64 0, .int .i64 0, .string ⟨#[]⟩, .slice none 0 0, .slice none 0 0, .slice none 0 0, .string ⟨#[]⟩, .string ⟨#[]⟩, .int .i64 0]), 10, 152) := by kernel_rfl
theorem turned_keep {w w' : World} {b : Nat} (h : w.mapTurned w' b) : Keep (fun k => k = b) w w' := by
  obtain ⟨es, clock, es', clock', h1, rfl⟩ := h
  refine ⟨rfl, rfl, rfl, by simp [Go.ChangeMaps.setBlock], fun k hk hn => ?_⟩
  show (w.heap.setIfInBounds b _)[k]? = _
  rw [Array.getElem?_setIfInBounds_ne (by omega)]
end Sp
set_option maxRecDepth 100000 in
theorem spNew_any (w : World) :
    Calls Tryd.prog 21 #[] w fun e w' => ∃ T vl mb, e = .returned (.pointer (some ⟨T, 0, none⟩)) ∧ Sp.Tab w' w.heap.size T vl mb [Sp.B0] Sp.Tbl.new ∧ Below w.heap.size w w' := by
  obtain ⟨i0, hi, hz0, hz1, hz2⟩ := info_parts Sp.infoB
  obtain ⟨w1, hmk, hown, hg⟩ := run_makeSlice_full w w.heap.size 70 86 i0 _ 10 Tryd.underlying70 hi hz0 hz1 .i64 .i64 1 (by omega) (by rw [hz2]; omega) (by unfold maxLen; omega) (Nat.le_refl _)
  have hb1 : Below w.heap.size w w1 := ⟨hg.os, hg.tape, hg.output, hg.size, fun k hk => hg.block k hk (by intro e; cases e)⟩
  have HO := Lib.hid hown
  have HB := Lib.hid hb1
  have HG := Lib.hid hg
  clear hown hb1 hg
  have hmk' : (Instr.makeSlice 70 (.int .i64 1) (.int .i64 1)).run Tryd.prog w = .ok (.slice (some ⟨w.heap.size, 0, none⟩) 1 1) w1 := hmk
  clear hmk
  have hmm := @run_makeMap Tryd.prog
  go_enter Tryd.func21, Tryd.ntmps21
  go_wp2
  go_ret
  have h1 := HO.out
  have hb := HB.out
  have hs1 := HG.out.size
  have hb2 : Below w1.heap.size w1 (w1.alloc (.map #[] 0)) := (Below.refl _ _).alloc (Nat.le_refl _) _
  have hb3 : Below (w1.alloc (.map #[] 0)).heap.size (w1.alloc (.map #[] 0)) ((w1.alloc (.map #[] 0)).alloc (.cells #[.slice (some ⟨w.heap.size, 0, none⟩) 1 1, .map (some w1.heap.size)] 73)) := (Below.refl _ _).alloc (Nat.le_refl _) _
  have hb23 := hb2.trans (hb3.mono hb2.size)
  have d := Dt.two_new (w1.alloc (.map #[] 0)) (.slice (some ⟨w.heap.size, 0, none⟩) 1 1) (.map (some w1.heap.size)) 73
  have f := Dt.frz_new (w1.alloc (.map #[] 0)) #[.slice (some ⟨w.heap.size, 0, none⟩) 1 1, .map (some w1.heap.size)] 73
  rw [World.size_alloc] at d f
  have hlt : w.heap.size < w1.heap.size := (Pt.own_block h1).2
  refine ⟨w1.heap.size + 1, .slice (some ⟨w.heap.size, 0, none⟩) 1 1, w1.heap.size, rfl, ⟨d.1, d.2, f, ?_, rfl, ?_, ?_, ?_, ?_, ?_, ?_, Sp.Tbl.Ok.new⟩, hb.trans (hb23.mono hs1)⟩
  · have e : (madeCells (Value.agg #[.int .i64 0, .int .i64 0, .int .i64 0, .string ⟨#[]⟩, .slice none 0 0, .slice none 0 0, .slice none 0 0, .string ⟨#[]⟩, .string ⟨#[]⟩, .int .i64 0]).cells (1 * 10)).toList = Sp.flatB [Sp.B0] := by kernel_rfl
    rw [e] at h1
    exact Dt.own_below h1 hb23
  · have hm := Sp.IMp.made w1
    show Sp.IMp _ _ 0 (Sp.markAt [])
    rw [Sp.markAt_nil]
    exact hm.heap (hb3.block _ (by rw [World.size_alloc]; omega))
  · omega
  · omega
  · omega
  · intro e; have e2 : some w.heap.size = some (w1.heap.size + 1) := e; have := Option.some.inj e2; omega
  · intro e; have e2 : some w.heap.size = some w1.heap.size := e; have := Option.some.inj e2; omega
set_option maxRecDepth 100000 in
theorem spSizes_any {base T mb : Nat} {vl : Value} {xs : List Sp.B} {t : Sp.Tbl} (w : World) (h : Sp.Tab w base T vl mb xs t) :
    Calls Tryd.prog 20 #[.pointer (some ⟨T, 0, none⟩)] w fun e w' => e = .returned (.tuple #[.int .i64 t.l.length, .int .i64 t.m.length]) ∧ Below w.heap.size w w' := by
  have hn := spNone_yes w h
  obtain ⟨g, c, rfl, _⟩ := h.at
  have c0 := h.c0
  have c1 := h.c1
  have hlen : ∀ n, (Builtin.len_ #[71] 3 #[.map (some mb)]).run Tryd.prog (w.drewN n) = .ok (.int .i64 t.m.length) (w.drewN n) := fun n => (h.mp.heap (w' := w.drewN n) rfl).len
  clear h
  go_enter Tryd.func20, Tryd.ntmps20
  go_wp2_with (go_at_call 34; refine hn.mono ?_; clear hn; rintro e w1 ⟨rfl, rfl⟩)
  go_quiet (fail)
  go_wp2
  refine bodyPost_ret (v := .tuple #[.int .i64 t.l.length, .int .i64 t.m.length]) (by simp [results, Tryd.results20, go_sem]) rfl ?_
  exact ⟨rfl, Dt.bdrew (Below.refl _ _) _⟩
set_option maxRecDepth 100000 in
theorem spSizes_no (p : Value) (w : World) (h : Sp.NoTab w p) :
    Calls Tryd.prog 20 #[p] w fun e w' => e = .returned (.tuple #[.int .i64 0, .int .i64 0]) ∧ w = w' := by
  have hn := spNone_no p w h
  clear h
  go_enter Tryd.func20, Tryd.ntmps20
  go_wp2_with (go_at_call 34; refine hn.mono ?_; clear hn; rintro e w1 ⟨rfl, rfl⟩)
  refine bodyPost_ret (v := .tuple #[.int .i64 0, .int .i64 0]) (by simp [results, Tryd.results20, go_sem]) rfl ?_
  exact ⟨rfl, rfl⟩
set_option maxRecDepth 100000 in
theorem spMark_no (p : Value) (sc : Int) (w : World) (h : Sp.NoTab w p) :
    Calls Tryd.prog 16 #[p, .int .i64 sc] w fun e w' => e = .returned (.tuple #[.int .i64 0, .int .i64 2]) ∧ w = w' := by
  have hn := spMay_no p sc w h
  clear h
  go_enter Tryd.func16, Tryd.ntmps16
  go_wp2_with (go_at_call 26; refine hn.mono ?_; clear hn; rintro e w1 ⟨rfl, rfl⟩)
  refine bodyPost_ret (v := .tuple #[.int .i64 0, .int .i64 2]) (by simp [results, Tryd.results16, go_sem]) rfl ?_
  exact ⟨rfl, rfl⟩
set_option maxRecDepth 100000 in
theorem spExtend_no (p : Value) (sc : Int) (x : Dt.D) (vm vl vt : Value) (what : Int) (w : World) (h : Sp.NoTab w p) :
    Calls Tryd.prog 12 #[p, .int .i64 sc, .agg #[.int .i64 x.k, .int .i64 x.n, .string x.s, vm, vl, vt], .int .i64 what] w fun e w' => e = .returned (.tuple #[.int .i64 0, .int .i64 2]) ∧ Below w.heap.size w w' := by
  have hb : Below w.heap.size w (w.alloc (.cells #[.int .i64 x.k, .int .i64 x.n, .string x.s, vm, vl, vt] 26)) := (Below.refl _ _).alloc (Nat.le_refl _) _
  have hn := spMay_no p sc _ (h.below hb)
  have HB := Lib.hid hb
  clear h hb
  go_enter Tryd.func12, Tryd.ntmps12
  go_wp2_with (go_at_call 26; refine hn.mono ?_; clear hn; rintro e w1 ⟨rfl, rfl⟩)
  refine bodyPost_ret (v := .tuple #[.int .i64 0, .int .i64 2]) (by simp [results, Tryd.results12, go_sem]) rfl ?_
  exact ⟨rfl, HB.out⟩
set_option maxRecDepth 100000 in
set_option maxHeartbeats 4000000 in
theorem spMark_any {base T mb : Nat} {vl : Value} {xs : List Sp.B} {t : Sp.Tbl} (sc : Int) (w : World) (h : Sp.Tab w base T vl mb xs t) :
    Calls Tryd.prog 16 #[.pointer (some ⟨T, 0, none⟩), .int .i64 sc] w fun e w' => e = .returned (.tuple #[.int .i64 (Sp.mark t sc).2.1, .int .i64 (Sp.mark t sc).2.2]) ∧ Sp.Tab w' base T vl mb xs (Sp.mark t sc).1 ∧ Keep (fun k => k = mb) w w' := by
  have hn := spMay_any sc w h
  obtain ⟨g, c, rfl, _⟩ := h.at
  have c1 := h.c1
  have hlen := h.mp.len
  have H := Lib.hid h
  obtain ⟨R, hR⟩ : ∃ R, R = Sp.mark t sc := ⟨_, rfl⟩
  rw [← hR]
  by_cases h0 : sc < 0 ∨ (t.l.length : Int) ≤ sc
  · have HE : Hid (Sp.mayE t sc = 50) := by show _ = _; unfold Sp.mayE; rw [if_pos h0]
    have HR : Hid (R = (t, 0, 50)) := by show _ = _; rw [hR]; unfold Sp.mark; rw [if_pos h0]
    rw [HE.out] at hn
    clear h hR h0
    go_enter Tryd.func16, Tryd.ntmps16
    go_wp2_with (go_at_call 26; refine hn.mono ?_; clear hn; rintro e w1 ⟨rfl, rfl⟩)
    refine bodyPost_ret (v := .tuple #[.int .i64 0, .int .i64 50]) (by simp [results, Tryd.results16, go_sem]) rfl ?_
    rw [HR.out]
    exact ⟨rfl, H.out, Keep.refl _ _⟩
  have HE : Hid (Sp.mayE t sc = 0) := by show _ = _; unfold Sp.mayE; rw [if_neg h0]
  rw [HE.out] at hn
  by_cases h1 : 16384 ≤ t.m.length
  · have HR : Hid (R = (t, 0, 7)) := by show _ = _; rw [hR]; unfold Sp.mark; rw [if_neg h0, if_pos h1]
    have h1' : decide ((16384 : Int) ≤ (t.m.length : Int)) = true := decide_eq_true (by omega)
    clear h hR h0
    go_enter Tryd.func16, Tryd.ntmps16
    go_wp2_with (go_at_call 26; refine hn.mono ?_; clear hn; rintro e w1 ⟨rfl, rfl⟩)
    refine bodyPost_ret (v := .tuple #[.int .i64 0, .int .i64 7]) (by simp [results, Tryd.results16, go_sem]) rfl ?_
    rw [HR.out]
    exact ⟨rfl, H.out, Keep.refl _ _⟩
  · have HR : Hid (R = ((⟨t.l, t.m ++ [sc.toNat]⟩ : Sp.Tbl), (t.m.length : Int) + 1, 0)) := by show _ = _; rw [hR]; unfold Sp.mark; rw [if_neg h0, if_neg h1]
    have h1' : decide ((16384 : Int) ≤ (t.m.length : Int)) = false := decide_eq_false (by omega)
    have hml : t.m.length + 1 ≤ 16384 := by omega
    have hok : (Sp.Tbl.mk t.l (t.m ++ [sc.toNat])).Ok := by
      have := h.ok.mark sc
      rw [← hR, HR.out] at this
      exact this
    have HOK := Lib.hid hok
    obtain ⟨w', hset, hmp, htu⟩ := h.mp.set (by unfold maxLen; omega) (s := (t.m.length : Int) + 1) (by omega) (by omega) sc
    have HSC : Hid (((sc.toNat : Nat) : Int) = sc) := by show _ = _; omega
    have HK : Hid (Sp.Tab w' base T (.slice (some ⟨g, 0, none⟩) t.l.length c) mb xs ⟨t.l, t.m ++ [sc.toNat]⟩ ∧ Keep (fun k => k = mb) w w') := by
      have hk : Keep (fun k => k = mb) w w' := Sp.turned_keep htu
      have hm : (Sp.markAt t.m ((t.m.length : Int) + 1)).isSome = false := by rw [Sp.markAt_some]; exact decide_eq_false (by omega)
      rw [hm, ← HSC.out, Sp.markAt_snoc] at hmp
      have hb : g ≠ mb := fun e => h.nm (by rw [e]; rfl)
      refine ⟨⟨(hk.cell 0 h.lt (Ne.symm h.nT)).trans h.c0, (hk.cell 1 h.lt (Ne.symm h.nT)).trans h.c1, fun j => (hk.frozen j h.lt (Ne.symm h.nT)).trans (h.fz j), Dt.own_keep h.row hk (fun k hk e => hb (by cases hk; exact e)), h.xb, ?_, h.bT, h.bm, h.nT, h.nr, h.nm, HOK.out⟩, hk⟩
      have e : (t.m ++ [sc.toNat]).length = t.m.length + 1 := by simp
      show Sp.IMp w' mb (t.m ++ [sc.toNat]).length _
      rw [e]
      exact hmp
    clear h hR h0 hmp htu hok
    go_enter Tryd.func16, Tryd.ntmps16
    go_wp2_with (go_at_call 26; refine hn.mono ?_; clear hn; rintro e w1 ⟨rfl, rfl⟩)
    refine bodyPost_ret (v := .tuple #[.int .i64 (t.m.length + 1), .int .i64 0]) (by simp [results, Tryd.results16, go_sem]) rfl ?_
    rw [HR.out]
    exact ⟨rfl, HK.out.1, HK.out.2⟩
end Go.Proofs.YtjbjgceblanhpaaDoor
