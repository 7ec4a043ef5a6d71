/-
  scope.Table.Extend.
-/
import Derived.Test.YtjbjgceblanhpaaDoorSpNew
import Derived.Deep.Draws
import Derived.Deep.RegionHeld3
import Derived.Deep.DeepCutAuto
namespace Go.Proofs.YtjbjgceblanhpaaDoor
open Go.RowKit
attribute [local go_sem] Oper.semAt_some
namespace Sp
open Dt
/-- where a call of Extend leads -/
def ExtPost (base T mb : Nat) (vl : Value) (xs : List B) (t' : Tbl) (w w' : World) : Prop := ∃ vl' xs', Tab w' base T vl' mb xs' t' ∧ Keep (Mut T vl mb) w w' ∧ RV w vl vl' ∧ (xs' = xs ∨ ∃ b, xs' = xs ++ [b] ∧ Rep (fun k => w.heap.size ≤ k ∧ vl'.ownBlock ≠ some k) w' b.b.id b.vm b.vl b.vt)
theorem ExtPost.same {base T mb : Nat} {vl : Value} {xs : List B} {t : Tbl} {w w' : World} (h : Tab w base T vl mb xs t) (hb : Below w.heap.size w w') : ExtPost base T mb vl xs t w w' :=
  ⟨vl, xs, h.below hb, (Keep.refl _ w).below hb, fun _ h => .inl h, .inl rfl⟩
theorem base_le {base : Nat} {w5 wA : World} (h : base ≤ w5.heap.size) (hb : Below w5.heap.size w5 wA) : base ≤ wA.heap.size := Nat.le_trans h hb.size
theorem grown_kp {w5 wA w8 : World} {T : Nat} {row : Option Nat} (hA : Below w5.heap.size w5 wA) (hg : wA.grownBy w8 row) : Keep (fun k => k = T ∨ row = some k) w5 w8 :=
  ⟨hg.os.trans hA.os, hg.tape.trans hA.tape, hg.output.trans hA.output, Nat.le_trans hA.size hg.size, fun k hk hn => (hg.block k (by have := hA.size; omega) (fun e => hn (.inr e.symm))).trans (hA.block k hk)⟩
/-- a scope is put -/
theorem Tab.push {w w5 w7 wA w8 : World} {base T mb g c g' cap : Nat} {xs : List B} {t : Tbl} (h : Tab w5 base T (.slice (some ⟨g, 0, none⟩) t.l.length c) mb xs t) (h5 : Below w.heap.size w w5) (hw : ∀ k, Mut T (.slice (some ⟨g, 0, none⟩) t.l.length c) mb k → k < w.heap.size) (_hbw : base ≤ w.heap.size) {b : B} (hb7 : Below w5.heap.size w5 w7) (hr : Rep (fun k => w5.heap.size ≤ k) w7 b.b.id b.vm b.vl b.vt) (hA : Below w7.heap.size w7 wA)
    (hown : w8.ownsRow base 86 10 (.slice (some ⟨g', 0, none⟩) (t.l.length + 1) cap) (t.l.length + 1) (flatB xs ++ b.cells)) (hg : wA.grownBy w8 (Value.slice (some ⟨g, 0, none⟩) t.l.length c).ownBlock) (hat : (Value.slice (some ⟨g', 0, none⟩) (t.l.length + 1) cap).ownBlock = (Value.slice (some ⟨g, 0, none⟩) t.l.length c).ownBlock ∨ (Value.slice (some ⟨g', 0, none⟩) (t.l.length + 1) cap).ownBlock = some wA.heap.size)
    (hok : (Tbl.mk (t.l ++ [b.b]) t.m).Ok) :
    w8.cell? ⟨T, 0, none⟩ = some (.slice (some ⟨g, 0, none⟩) t.l.length c) ∧ w8.frozen? ⟨T, 0, none⟩ = false ∧ ExtPost base T mb (.slice (some ⟨g, 0, none⟩) t.l.length c) xs ⟨t.l ++ [b.b], t.m⟩ w (w8.setCell ⟨T, 0, none⟩ (.slice (some ⟨g', 0, none⟩) (t.l.length + 1) cap)) := by
  have hs5 := h5.size
  have hs7 := hb7.size
  have hsA := hA.size
  have hs8 := hg.size
  have hk8 : Keep (fun k => k = g) w5 w8 := ⟨hg.os.trans (hA.os.trans hb7.os), hg.tape.trans (hA.tape.trans hb7.tape), hg.output.trans (hA.output.trans hb7.output), by omega, fun k hk hn => (hg.block k (by omega) (fun e => hn (by have e' : some g = some k := e.symm; exact (Option.some.inj e').symm))).trans ((hA.block k (by omega)).trans (hb7.block k hk))⟩
  have hk8w : Keep (fun k => k = g) w w8 := ((Keep.refl _ w).below h5).trans hk8
  have hgT : T ≠ g := fun e => h.nr (by rw [e]; rfl)
  have hgm : mb ≠ g := fun e => h.nm (by rw [e]; rfl)
  have hlT := hw T (.inl rfl)
  have hlg := hw g (.inr (.inl rfl))
  have hlm := hw mb (.inr (.inr rfl))
  have hat' : g' = g ∨ g' = wA.heap.size := hat.imp (fun e => by have e' : some g' = some g := e; exact Option.some.inj e') (fun e => by have e' : some g' = some wA.heap.size := e; exact Option.some.inj e')
  have hgT' : g' ≠ T := by omega
  have hgm' : g' ≠ mb := by omega
  have c0 := (hk8.cell 0 h.lt hgT).trans h.c0
  have f0 := (hk8.frozen 0 h.lt hgT).trans (h.fz 0)
  have hkT := keep1 w8 T 0 (.slice (some ⟨g', 0, none⟩) (t.l.length + 1) cap)
  have hkw : Keep (Mut T (.slice (some ⟨g, 0, none⟩) t.l.length c) mb) w (w8.setCell ⟨T, 0, none⟩ (.slice (some ⟨g', 0, none⟩) (t.l.length + 1) cap)) := (hk8w.mono (T := Mut T (.slice (some ⟨g, 0, none⟩) t.l.length c) mb) (fun k _ e => .inr (.inl (by rw [e]; rfl)))).trans (hkT.mono (fun k _ e => .inl e))
  have hlen : xs.length = t.l.length := h.len
  have hl1 : (xs ++ [b]).length = t.l.length + 1 := by rw [List.length_append, hlen]; rfl
  refine ⟨c0, f0, .slice (some ⟨g', 0, none⟩) (t.l.length + 1) cap, xs ++ [b], ⟨cell_set_eq _ _ _ _ _ c0, ?_, fun j => (frz_set _ _ _ _ _ _).trans ((hk8.frozen j h.lt hgT).trans (h.fz j)), ?_, ?_, ?_, h.bT, h.bm, h.nT, ?_, ?_, hok⟩, hkw, ?_, .inr ⟨b, rfl, ?_⟩⟩
  · rw [cell_set_ne _ _ _ _ _ (by omega)]
    exact (hk8.cell 1 h.lt hgT).trans h.c1
  · rw [hl1, flatB_app]
    exact own_keep hown hkT (fun k hk e => by cases hk; exact hgT' e)
  · rw [List.map_append, h.xb]; rfl
  · have hm := h.mp.heap ((hk8.block mb h.mp.lt hgm))
    exact hm.heap (hkT.block mb (by omega) h.nT)
  · intro e; have e' : some g' = some T := e; exact hgT' (Option.some.inj e')
  · intro e; have e' : some g' = some mb := e; exact hgm' (Option.some.inj e')
  · intro k hk
    have e' : some g' = some k := hk
    have e2 := Option.some.inj e'
    rcases hat' with e | e
    · left; rw [← e2, e]; rfl
    · right; omega
  · have hr8 : Rep (fun k => w5.heap.size ≤ k ∧ k < wA.heap.size) w8 b.b.id b.vm b.vl b.vt := by
      have hr' : Rep (fun k => w5.heap.size ≤ k ∧ k < wA.heap.size) wA b.b.id b.vm b.vl b.vt := (Rep.mono (fun k hk hl => ⟨hk, by omega⟩) _ hr).below hA
      have hkg : Keep (fun k => k = g) wA w8 := ⟨hg.os, hg.tape, hg.output, hg.size, fun k hk hn => hg.block k hk (fun e => hn (by have e' : some g = some k := e.symm; exact (Option.some.inj e').symm))⟩
      exact Rep.keep hkg (fun k hk _ e => by omega) _ hr'
    refine Rep.mono (fun k hk _ => ⟨by omega, fun e => ?_⟩) _ (Rep.keep hkT (fun k hk _ e => by omega) _ hr8)
    have e' : some g' = some k := e
    have := Option.some.inj e'
    omega
end Sp
set_option maxRecDepth 100000 in
set_option maxHeartbeats 8000000 in
theorem spExtend_any {F : Nat → Prop} {base T mb : Nat} {vl : Value} {xs : List Sp.B} {t : Sp.Tbl} (sc : Int) (x : Dt.D) (vm vL vt : Value) (n : Int) (w : World) (h : Sp.Tab w base T vl mb xs t) (hbw : base ≤ w.heap.size) (hW : Dt.Wf x) (hR : Dt.Rep F w x vm vL vt) (hT : Sp.T10 w) :
    Calls Tryd.prog 12 #[.pointer (some ⟨T, 0, none⟩), .int .i64 sc, .agg #[.int .i64 x.k, .int .i64 x.n, .string x.s, vm, vL, vt], .int .i64 n] w fun e w' => e = .returned (.tuple #[.int .i64 (Sp.extend t sc x n).2.1, .int .i64 (Sp.extend t sc x n).2.2]) ∧ Sp.ExtPost base T mb vl xs (Sp.extend t sc x n).1 w w' := by
  obtain ⟨a1, n1, q1, a2, n2, q2, a3, n3, q3, rfl, rfl, rfl⟩ := hR.forms
  obtain ⟨w1, hw1⟩ : ∃ w1, w.alloc (.cells #[.int .i64 x.k, .int .i64 x.n, .string x.s, .slice a1 n1 q1, .slice a2 n2 q2, .slice a3 n3 q3] 26) = w1 := ⟨_, rfl⟩
  have hb1 : Below w.heap.size w w1 := by rw [← hw1]; exact (Below.refl _ _).alloc (Nat.le_refl _) _
  have hbx := Dt.six_new w x.k x.n x.s (.slice a1 n1 q1) (.slice a2 n2 q2) (.slice a3 n3 q3) 26
  rw [hw1] at hbx
  have hBox : Dt.Box w1 w.heap.size x (.slice a1 n1 q1) (.slice a2 n2 q2) (.slice a3 n3 q3) := ⟨hbx 0 (by omega), hbx 1 (by omega), hbx 2 (by omega), hbx 3 (by omega), hbx 4 (by omega), hbx 5 (by omega)⟩
  have hs1 : w1.heap.size = w.heap.size + 1 := by rw [← hw1]; simp
  obtain ⟨R, hRR⟩ : ∃ R, R = Sp.extend t sc x n := ⟨_, rfl⟩
  rw [← hRR]
  have HR := Lib.hid hRR
  have HT := Lib.hid h
  have HW := Lib.hid hW
  have HREP := Lib.hid hR
  have HT10 := Lib.hid hT
  have HB1 := Lib.hid hb1
  have HBOX := Lib.hid hBox
  have HS1 := Lib.hid hs1
  have HBW := Lib.hid hbw
  have hmay := spMay_any sc w1 (h.below hb1)
  clear h hW hR hT hRR hbx hs1 hbw
  by_cases h0 : sc < 0 ∨ (t.l.length : Int) ≤ sc
  · have HE : Hid (Sp.mayE t sc = 50) := by show _ = _; unfold Sp.mayE; rw [if_pos h0]
    have HV : Hid (R = (t, 0, 50)) := by show _ = _; rw [HR.out]; unfold Sp.extend; rw [if_pos h0]
    rw [HE.out] at hmay
    clear h0 hBox hb1
    go_enter Tryd.func12, Tryd.ntmps12
    go_wp2_with (go_at_call 26; refine hmay.mono ?_; clear hmay; rintro e w2 ⟨rfl, rfl⟩)
    refine bodyPost_ret (v := .tuple #[.int .i64 0, .int .i64 50]) (by simp [results, Tryd.results12, go_sem]) rfl ?_
    rw [HV.out]
    exact ⟨rfl, Sp.ExtPost.same HT.out HB1.out⟩
  have HE : Hid (Sp.mayE t sc = 0) := by show _ = _; unfold Sp.mayE; rw [if_neg h0]
  rw [HE.out] at hmay
  have HN0 := Lib.hid h0
  have hsym := spSymbol_any x _ _ _ w1 HW.out (HREP.out.below hb1)
  obtain ⟨b0, b1, b2, b3, b4, b5⟩ := hBox
  clear h0 hb1
  by_cases hy : Sp.isSym x = true
  case neg =>
    have hy' : Sp.isSym x = false := by simpa using hy
    have HV : Hid (R = (t, 0, 5)) := by show _ = _; rw [HR.out]; unfold Sp.extend; rw [if_neg HN0.out, if_pos hy']
    rw [hy'] at hsym
    clear hy hy'
    go_enter Tryd.func12, Tryd.ntmps12
    go_wp2_with (first | (go_at_call 26; refine hmay.mono ?_; clear hmay; rintro e w2 ⟨rfl, rfl⟩) | (go_at_call 27; refine hsym.mono ?_; clear hsym; rintro e w2 ⟨rfl, hb2⟩; have HB2 := Lib.hid (HB1.out.trans (hb2.mono HB1.out.size)); clear hb2))
    refine bodyPost_ret (v := .tuple #[.int .i64 0, .int .i64 5]) (by simp [results, Tryd.results12, go_sem]) rfl ?_
    rw [HV.out]
    exact ⟨rfl, Sp.ExtPost.same HT.out HB2.out⟩
  rw [hy] at hsym
  have HY := Lib.hid hy
  clear hy
  have hl0 := HT.out.ok.small.1
  obtain ⟨g, c, rfl, hbg, -, -, -, -⟩ := HT.out.at
  by_cases hf : 16384 ≤ t.l.length
  · have HV : Hid (R = (t, 0, 7)) := by show _ = _; rw [HR.out]; unfold Sp.extend; rw [if_neg HN0.out, if_neg (by rw [HY.out]; simp), if_pos hf]
    have hf' : decide ((16384 : Int) ≤ (t.l.length : Int)) = true := decide_eq_true (by omega)
    have t0 := HT.out.c0
    have HLT : Hid (T < w.heap.size) := HT.out.lt
    clear hf
    go_enter Tryd.func12, Tryd.ntmps12
    go_wp2_with (first | (go_at_call 26; refine hmay.mono ?_; clear hmay; rintro e w2 ⟨rfl, rfl⟩) | (go_at_call 27; refine hsym.mono ?_; clear hsym; rintro e w2 ⟨rfl, hb2⟩; have HB2 := Lib.hid (HB1.out.trans (hb2.mono HB1.out.size)); have t2 := (HB2.out.cell (p := ⟨T, 0, none⟩) HLT.out).trans t0; clear hb2))
    refine bodyPost_ret (v := .tuple #[.int .i64 0, .int .i64 7]) (by simp [results, Tryd.results12, go_sem]) rfl ?_
    rw [HV.out]
    exact ⟨rfl, Sp.ExtPost.same HT.out HB2.out⟩
  have hf' : decide ((16384 : Int) ≤ (t.l.length : Int)) = false := decide_eq_false (by omega)
  obtain ⟨s0, hs0⟩ : ∃ s0, s0 = sc.toNat := ⟨_, rfl⟩
  have hs0i : (s0 : Int) = sc := by have := HN0.out; omega
  have HV : Hid (R = (⟨t.l ++ [⟨s0, x, n⟩], t.m⟩, (t.l.length : Int), 0)) := by show _ = _; rw [HR.out, hs0]; unfold Sp.extend; rw [if_neg HN0.out, if_neg (by rw [HY.out]; simp), if_neg hf]
  have hok : (Sp.Tbl.mk (t.l ++ [⟨s0, x, n⟩]) t.m).Ok := by
    have := HT.out.ok.extend sc x n
    rw [← HR.out, HV.out] at this
    exact this
  have HOK := Lib.hid hok
  rw [← hs0i] at hmay ⊢
  have t0 := HT.out.c0
  have HLT : Hid (T < w.heap.size) := HT.out.lt
  have HCX : Hid (Dt.clone x = x) := by show _ = _; unfold Dt.clone; rw [if_pos (Sp.sym_parts HY.out).2.2.2.2.2.2.2]
  have HXX : Hid (x.m.length ≤ 16 ∧ ∀ y ∈ x.m, 1 ≤ y ∧ y ≤ 1048576) := ⟨(Sp.sym_parts HY.out).2.2.2.2.1, (Sp.sym_parts HY.out).2.2.2.2.2.1⟩
  obtain ⟨i0, hi, hz0, hz1, hz2⟩ := info_parts Sp.infoB
  have hmx : t.l.length + 1 ≤ maxLen := by unfold maxLen; omega
  have hby : (t.l.length + 1) * 152 ≤ 140737488355328 := by omega
  clear hf hs0 hs0i hok
  go_enter Tryd.func12, Tryd.ntmps12
  go_upto_region 9 with (first | (go_at_call 26; refine hmay.mono ?_; clear hmay; rintro e w2 ⟨rfl, rfl⟩) | (go_at_call 27; refine hsym.mono ?_; clear hsym; rintro e w5 ⟨rfl, hb2⟩; have HB2 := Lib.hid (HB1.out.trans (hb2.mono HB1.out.size)); have t2 := (HB2.out.cell (p := ⟨T, 0, none⟩) HLT.out).trans t0; have b0 := (hb2.cell (p := ⟨w.heap.size, 0, none⟩) (block_lt_of_cell b0)).trans b0; have b1 := (hb2.cell (p := ⟨w.heap.size, 1, none⟩) (block_lt_of_cell b1)).trans b1; have b2 := (hb2.cell (p := ⟨w.heap.size, 2, none⟩) (block_lt_of_cell b2)).trans b2; have b3 := (hb2.cell (p := ⟨w.heap.size, 3, none⟩) (block_lt_of_cell b3)).trans b3; have b4 := (hb2.cell (p := ⟨w.heap.size, 4, none⟩) (block_lt_of_cell b4)).trans b4; have b5 := (hb2.cell (p := ⟨w.heap.size, 5, none⟩) (block_lt_of_cell b5)).trans b5; clear hb2))
  have HTW := Lib.hid (HT.out.below HB2.out)
  have HB5 : Hid (Below w5.heap.size w5 w5.drew) := (Below.refl _ w5).drew
  have hs5 := HB2.out.size
  have HBS : Hid (base ≤ w5.heap.size) := Nat.le_trans HBW.out hs5
  have HCL := Lib.hid (fun u (hu : Below w5.heap.size w5 u) => dClone_any x _ _ _ u HW.out ((HREP.out.below HB2.out).below hu))
  have HKE := Lib.hid (fun u (hu : Below w5.heap.size w5 u) => key_any x _ _ _ u ((HREP.out.below HB2.out).below hu) HXX.out.1 HXX.out.2 ((HT10.out.on HB2.out).on hu))
  have HT0 := Lib.hid (fun u (hu : Below w5.heap.size w5 u) => (hu.cell (p := ⟨T, 0, none⟩) (block_lt_of_cell t2)).trans t2)
  have HB0 : Hid (Dt.Box w5 w.heap.size x (.slice a1 n1 q1) (.slice a2 n2 q2) (.slice a3 n3 q3)) := ⟨b0, b1, b2, b3, b4, b5⟩
  have HBX : Hid (∀ u, Below w5.heap.size w5 u → Dt.Box u w.heap.size x (.slice a1 n1 q1) (.slice a2 n2 q2) (.slice a3 n3 q3)) := fun u hu => Dt.Box.below HB0.out hu
  have HBX2 : Hid (∀ u, Keep (fun k => k = T ∨ (Value.slice (some ⟨g, 0, none⟩) t.l.length c).ownBlock = some k) w5 u → Dt.Box u w.heap.size x (.slice a1 n1 q1) (.slice a2 n2 q2) (.slice a3 n3 q3)) := fun u hu => Dt.Box.keep HB0.out hu (fun e => by
    rcases e with e | e
    · have := HLT.out; omega
    · have e' : some g = some w.heap.size := e
      have := (Dt.own_lt HT.out.row _ e).2
      omega)
  have HOW := Lib.hid (fun u (hu : Below w5.heap.size w5 u) => (show u.ownsRow base 86 10 (.slice (some ⟨g, 0, none⟩) t.l.length c) t.l.length (Sp.flatB xs) by
    have := Dt.own_below HTW.out.row hu
    rw [HTW.out.len] at this
    exact this))
  have HPU : Hid (∀ w7 b1 m1 p1 b2 m2 p2 b3 m3 p3 g' cap w8, Below w5.heap.size w5 w7 → Dt.Rep (fun k => w5.heap.size ≤ k) w7 x (.slice b1 m1 p1) (.slice b2 m2 p2) (.slice b3 m3 p3) → w8.ownsRow base 86 10 (.slice (some ⟨g', 0, none⟩) (t.l.length + 1) cap) (t.l.length + 1) (Sp.flatB xs ++ [.int .i64 (s0 : Int), .int .i64 x.k, .int .i64 x.n, .string x.s, .slice b1 m1 p1, .slice b2 m2 p2, .slice b3 m3 p3, .string x.s, .string (Sp.keyS x.m), .int .i64 n]) → (w7.alloc (.cells #[.int .i64 (s0 : Int), .int .i64 x.k, .int .i64 x.n, .string x.s, .slice b1 m1 p1, .slice b2 m2 p2, .slice b3 m3 p3, .string x.s, .string (Sp.keyS x.m), .int .i64 n] 86)).grownBy w8 (Value.slice (some ⟨g, 0, none⟩) t.l.length c).ownBlock →
      ((Value.slice (some ⟨g', 0, none⟩) (t.l.length + 1) cap).ownBlock = (Value.slice (some ⟨g, 0, none⟩) t.l.length c).ownBlock ∨ (Value.slice (some ⟨g', 0, none⟩) (t.l.length + 1) cap).ownBlock = some (w7.alloc (.cells #[.int .i64 (s0 : Int), .int .i64 x.k, .int .i64 x.n, .string x.s, .slice b1 m1 p1, .slice b2 m2 p2, .slice b3 m3 p3, .string x.s, .string (Sp.keyS x.m), .int .i64 n] 86)).heap.size) →
      w8.cell? ⟨T, 0, none⟩ = some (.slice (some ⟨g, 0, none⟩) t.l.length c) ∧ w8.frozen? ⟨T, 0, none⟩ = false ∧ Sp.ExtPost base T mb (.slice (some ⟨g, 0, none⟩) t.l.length c) xs ⟨t.l ++ [⟨s0, x, n⟩], t.m⟩ w (w8.setCell ⟨T, 0, none⟩ (.slice (some ⟨g', 0, none⟩) (t.l.length + 1) cap))) :=
    fun w7 b1 m1 p1 b2 m2 p2 b3 m3 p3 g' cap w8 h1 h2 h3 h4 h5 => Sp.Tab.push HTW.out HB2.out (fun k hk => by
      rcases hk with e | e | e
      · rw [e]; exact HT.out.lt
      · exact (Dt.own_lt HT.out.row k e).2
      · rw [e]; exact HT.out.mp.lt) HBW.out (b := ⟨⟨s0, x, n⟩, .slice b1 m1 p1, .slice b2 m2 p2, .slice b3 m3 p3⟩) h1 h2 ((Below.refl _ w7).alloc (Nat.le_refl _) _) h3 h4 h5 HOK.out
  clear b0 b1 b2 b3 b4 b5 t0 hs5
  go_cut [] (fun wx => Sp.ExtPost base T mb (.slice (some ⟨g, 0, none⟩) t.l.length c) xs ⟨t.l ++ [⟨s0, x, n⟩], t.m⟩ w wx)
  case first =>
    refine wp_region_noPanic ?_
    refine wp_region_held_drew (S := fun w' => Dt.Box w' w.heap.size x (.slice a1 n1 q1) (.slice a2 n2 q2) (.slice a3 n3 q3)) (by kernel_rfl) (HBX.out _ HB5.out) (fun hHeld => ?_)
    refine wpAnyH_take (i := 0) (oi := ⟨_, _, _, _, _, _⟩) (v := ?_) rfl (by kernel_rfl) (by kernel_rfl) (by kernel_rfl) (fun _ _ _ h => h) (Or.inl ⟨by rfl, ?_⟩) (by assumption) ?_
    rotate_left
    · intro w hSw
      try dsimp only at hSw
      go_simp
      try with_reducible rfl
    simp only [Act.put, List.setIfInBounds_toArray, List.set_cons_zero, List.set_cons_succ]
    refine wpAnyH_take (i := 1) (oi := ⟨_, _, _, _, _, _⟩) (v := ?_) rfl (by kernel_rfl) (by kernel_rfl) (by kernel_rfl) (fun _ _ _ h => h) (Or.inl ⟨by rfl, ?_⟩) (by assumption) ?_
    rotate_left
    · intro w hSw
      try dsimp only at hSw
      go_simp
      try with_reducible rfl
    simp only [Act.put, List.setIfInBounds_toArray, List.set_cons_zero, List.set_cons_succ]
    refine wpAnyH_take (i := 2) (oi := ⟨_, _, _, _, _, _⟩) (v := ?_) rfl (by kernel_rfl) (by kernel_rfl) (by kernel_rfl) (fun _ _ _ h => h) (Or.inl ⟨by rfl, ?_⟩) (by assumption) ?_
    rotate_left
    · intro w hSw
      try dsimp only at hSw
      go_simp
      try with_reducible rfl
    simp only [Act.put, List.setIfInBounds_toArray, List.set_cons_zero, List.set_cons_succ]
    refine wpAnyH_take (i := 3) (oi := ⟨_, _, _, _, _, _⟩) (v := ?_) rfl (by kernel_rfl) (by kernel_rfl) (by kernel_rfl) (fun _ _ _ h => h) (Or.inl ⟨by rfl, ?_⟩) (by assumption) ?_
    rotate_left
    · intro w hSw
      try dsimp only at hSw
      go_simp
      try with_reducible rfl
    simp only [Act.put, List.setIfInBounds_toArray, List.set_cons_zero, List.set_cons_succ]
    refine wpAnyH_take (i := 5) (oi := ⟨_, _, _, _, _, _⟩) (v := ?_) rfl (by kernel_rfl) (by kernel_rfl) (by kernel_rfl) (fun _ _ _ h => h) (Or.inl ⟨by rfl, ?_⟩) (by assumption) ?_
    rotate_left
    · intro w hSw
      try dsimp only at hSw
      go_simp
      try with_reducible rfl
    simp only [Act.put, List.setIfInBounds_toArray, List.set_cons_zero, List.set_cons_succ]
    refine wpAnyH_take (i := 6) (oi := ⟨_, _, _, _, _, _⟩) (v := ?_) rfl (by kernel_rfl) (by kernel_rfl) (by kernel_rfl) (fun _ _ _ h => h) (Or.inl ⟨by rfl, ?_⟩) (by assumption) ?_
    rotate_left
    · intro w hSw
      obtain ⟨g0, g1, g2, g3, g4, g5⟩ := hSw
      go_simp
      try with_reducible rfl
    simp only [Act.put, List.setIfInBounds_toArray, List.set_cons_zero, List.set_cons_succ]
    refine wpAnyH_take (i := 8) (oi := ⟨_, _, _, _, _, _⟩) (v := ?_) rfl (by kernel_rfl) (by kernel_rfl) (by kernel_rfl) (fun _ _ _ h => h) (Or.inl ⟨by rfl, ?_⟩) (by assumption) ?_
    rotate_left
    · intro w hSw
      obtain ⟨g0, g1, g2, g3, g4, g5⟩ := hSw
      go_simp
      try with_reducible rfl
    simp only [Act.put, List.setIfInBounds_toArray, List.set_cons_zero, List.set_cons_succ]
    refine wpAnyH_take (i := 10) (oi := ⟨_, _, _, _, _, _⟩) (v := ?_) rfl (by kernel_rfl) (by kernel_rfl) (by kernel_rfl) (fun _ _ _ h => h) (Or.inl ⟨by rfl, ?_⟩) (by assumption) ?_
    rotate_left
    · intro w hSw
      try dsimp only at hSw
      go_simp
      try with_reducible rfl
    simp only [Act.put, List.setIfInBounds_toArray, List.set_cons_zero, List.set_cons_succ]
    refine wpAnyH_ready (rs := [4, 7]) (by kernel_rfl) (by simp) ?_
    refine AllReadyH.cons (o := ⟨_, _, _, _, _, _⟩) rfl (fun K hK => ?_) ?_
    · go_simp
      refine hK.out _ _ ?_ (fun hHeld => ?_)
      · exact HBX.out _ HB5.out
      clear hK K
      try simp only [Act.put, List.setIfInBounds_toArray, List.set_cons_zero, List.set_cons_succ]
      refine wpAnyH_ready (rs := [7]) (by kernel_rfl) (by simp) ?_
      refine AllReadyH.cons (o := ⟨_, _, _, _, _, _⟩) rfl (fun K hK => ?_) AllReadyH.nil
      go_simp
      refine (HCL.out _ HB5.out).mono ?_
      rintro e w6 ⟨⟨um, ul, ut, rfl, hr6⟩, hb6⟩
      obtain ⟨b1, m1, p1, b2, m2, p2, b3, m3, p3, rfl, rfl, rfl⟩ := hr6.forms
      rw [HCX.out] at hr6 ⊢
      have HB6 : Hid (Below w5.heap.size w5 w6) := HB5.out.trans (hb6.mono HB5.out.size)
      have t6 := HT0.out _ HB6.out
      have HR6 : Hid (Dt.Rep (fun k => w5.heap.size ≤ k) w6 x (.slice b1 m1 p1) (.slice b2 m2 p2) (.slice b3 m3 p3)) := Dt.Rep.mono (fun _ h _ => Nat.le_trans HB5.out.size h) x hr6
      clear hr6 hb6
      dsimp only
      refine hK.out _ _ ?_ (fun hHeld => ?_)
      · exact HBX.out _ HB6.out
      clear hK K
      try simp only [Act.put, List.setIfInBounds_toArray, List.set_cons_zero, List.set_cons_succ]
      refine wpAnyH_ready (rs := [9]) (by kernel_rfl) (by simp) ?_
      refine AllReadyH.cons (o := ⟨_, _, _, _, _, _⟩) rfl (fun K hK => ?_) AllReadyH.nil
      go_simp
      refine (HKE.out _ HB6.out).mono ?_
      rintro e w7 ⟨rfl, hb7⟩
      have HB7 : Hid (Below w5.heap.size w5 w7) := HB6.out.trans (hb7.mono HB6.out.size)
      have t7 := HT0.out _ HB7.out
      have HR7 : Hid (Dt.Rep (fun k => w5.heap.size ≤ k) w7 x (.slice b1 m1 p1) (.slice b2 m2 p2) (.slice b3 m3 p3)) := HR6.out.below hb7
      clear hb7
      dsimp only
      refine hK.out _ _ ?_ (fun hHeld => ?_)
      · exact HBX.out _ HB7.out
      clear hK K
      try simp only [Act.put, List.setIfInBounds_toArray, List.set_cons_zero, List.set_cons_succ]
      refine wpAnyH_take (i := 11) (oi := ⟨_, _, _, _, _, _⟩) (v := ?_) rfl (by kernel_rfl) (by kernel_rfl) (by kernel_rfl) (fun _ _ _ h => h) (Or.inl ⟨by rfl, ?_⟩) (by assumption) ?_
      rotate_left
      · intro w hSw
        try dsimp only at hSw
        go_simp
        try with_reducible rfl
      simp only [Act.put, List.setIfInBounds_toArray, List.set_cons_zero, List.set_cons_succ]
      refine wpAnyH_ready (rs := [12]) (by kernel_rfl) (by simp) ?_
      refine AllReadyH.cons (o := ⟨_, _, _, _, _, _⟩) rfl (fun K hK => ?_) AllReadyH.nil
      go_simp
      have HBA : Hid (Below w5.heap.size w5 (w7.alloc (.cells #[.int .i64 (s0 : Int), .int .i64 x.k, .int .i64 x.n, .string x.s, .slice b1 m1 p1, .slice b2 m2 p2, .slice b3 m3 p3, .string x.s, .string (Sp.keyS x.m), .int .i64 n] 86))) := HB7.out.trans (((Below.refl _ w7).alloc (Nat.le_refl _) _).mono HB7.out.size)
      have t8 := HT0.out _ HBA.out
      refine hK.out _ _ ?_ (fun hHeld => ?_)
      · exact HBX.out _ HBA.out
      clear hK K
      try simp only [Act.put, List.setIfInBounds_toArray, List.set_cons_zero, List.set_cons_succ]
      refine wpAnyH_ready (rs := [13]) (by kernel_rfl) (by simp) ?_
      refine AllReadyH.cons (o := ⟨_, _, _, _, _, _⟩) rfl (fun K hK => ?_) AllReadyH.nil
      refine step_append_lies _ (by rfl) _ _ 70 (by rfl) base 86 i0 (.agg #[.int .i64 0, .int .i64 0, .int .i64 0, .string ⟨#[]⟩, .slice none 0 0, .slice none 0 0, .slice none 0 0, .string ⟨#[]⟩, .string ⟨#[]⟩, .int .i64 0]) 10 152 Tryd.underlying70 hi hz0 hz1 hz2 rfl (by decide) (.slice (some ⟨g, 0, none⟩) t.l.length c) t.l.length (Sp.flatB xs) (by rfl) ((HOW.out _ HB7.out).alloc _) ⟨w7.heap.size, 0, none⟩ 1 1 [.int .i64 (s0 : Int), .int .i64 x.k, .int .i64 x.n, .string x.s, .slice b1 m1 p1, .slice b2 m2 p2, .slice b3 m3 p3, .string x.s, .string (Sp.keyS x.m), .int .i64 n] (by rfl) rfl (World.news_of_block (w := w7.alloc _) (B := w7.heap.size) (cs := #[.int .i64 (s0 : Int), .int .i64 x.k, .int .i64 x.n, .string x.s, .slice b1 m1 p1, .slice b2 m2 p2, .slice b3 m3 p3, .string x.s, .string (Sp.keyS x.m), .int .i64 n]) (t := 86) (fr := (0, 0)) (heap_alloc_new w7 _)) (by simp [Value.oneCell']) (by omega) hmx hby (Sp.base_le HBS.out HBA.out) _ rfl ?_
      intro g' cap w8 hown hgrow hat hlt
      obtain ⟨z0, zf, hst⟩ := HPU.out w7 b1 m1 p1 b2 m2 p2 b3 m3 p3 g' cap w8 HB7.out HR7.out hown hgrow (hat.imp (fun e => by rw [e]; rfl) (fun e => by rw [e]; rfl))
      refine hK.out _ _ ?_ (fun hHeld => ?_)
      · exact HBX2.out _ (Sp.grown_kp HBA.out hgrow)
      clear hK K
      try simp only [Act.put, List.setIfInBounds_toArray, List.set_cons_zero, List.set_cons_succ]
      refine wpAnyH_take (i := 14) (oi := ⟨_, _, _, _, _, _⟩) (v := ?_) rfl (by kernel_rfl) (by kernel_rfl) (by kernel_rfl) (fun _ _ _ h => h) (Or.inl ⟨by rfl, ?_⟩) (by assumption) ?_
      rotate_left
      · intro w hSw
        try dsimp only at hSw
        go_simp
        try with_reducible rfl
      simp only [Act.put, List.setIfInBounds_toArray, List.set_cons_zero, List.set_cons_succ]
      refine wpAnyH_take (i := 15) (oi := ⟨_, _, _, _, _, _⟩) (v := ?_) rfl (by kernel_rfl) (by kernel_rfl) (by kernel_rfl) (fun _ _ _ h => h) (Or.inl ⟨by rfl, ?_⟩) (by assumption) ?_
      rotate_left
      · intro w hSw
        try dsimp only at hSw
        go_simp
        try with_reducible rfl
      simp only [Act.put, List.setIfInBounds_toArray, List.set_cons_zero, List.set_cons_succ]
      refine wpAnyH_ready (rs := [16]) (by kernel_rfl) (by simp) ?_
      refine AllReadyH.cons (o := ⟨_, _, _, _, _, _⟩) rfl (fun K hK => ?_) AllReadyH.nil
      go_simp
      refine hK.out _ _ ?_ (fun hHeld => ?_)
      · exact HBX2.out _ ((Sp.grown_kp HBA.out hgrow).setCell (.inl rfl) _ _)
      clear hK K
      try simp only [Act.put, List.setIfInBounds_toArray, List.set_cons_zero, List.set_cons_succ]
      refine wpAnyH_done (by kernel_rfl) ?_ _
      refine NoPanic.normal ?_
      go_wp2_with fail
      go_meet
      exact hst
    refine AllReadyH.cons (o := ⟨_, _, _, _, _, _⟩) rfl (fun K hK => ?_) AllReadyH.nil
    go_simp
    refine (HCL.out _ HB5.out).mono ?_
    rintro e w6 ⟨⟨um, ul, ut, rfl, hr6⟩, hb6⟩
    obtain ⟨b1, m1, p1, b2, m2, p2, b3, m3, p3, rfl, rfl, rfl⟩ := hr6.forms
    rw [HCX.out] at hr6 ⊢
    have HB6 : Hid (Below w5.heap.size w5 w6) := HB5.out.trans (hb6.mono HB5.out.size)
    have t6 := HT0.out _ HB6.out
    have HR6 : Hid (Dt.Rep (fun k => w5.heap.size ≤ k) w6 x (.slice b1 m1 p1) (.slice b2 m2 p2) (.slice b3 m3 p3)) := Dt.Rep.mono (fun _ h _ => Nat.le_trans HB5.out.size h) x hr6
    clear hr6 hb6
    dsimp only
    refine hK.out _ _ ?_ (fun hHeld => ?_)
    · exact HBX.out _ HB6.out
    clear hK K
    try simp only [Act.put, List.setIfInBounds_toArray, List.set_cons_zero, List.set_cons_succ]
    refine wpAnyH_ready (rs := [4, 9]) (by kernel_rfl) (by simp) ?_
    refine AllReadyH.cons (o := ⟨_, _, _, _, _, _⟩) rfl (fun K hK => ?_) ?_
    · go_simp
      refine hK.out _ _ ?_ (fun hHeld => ?_)
      · exact HBX.out _ HB6.out
      clear hK K
      try simp only [Act.put, List.setIfInBounds_toArray, List.set_cons_zero, List.set_cons_succ]
      refine wpAnyH_ready (rs := [9]) (by kernel_rfl) (by simp) ?_
      refine AllReadyH.cons (o := ⟨_, _, _, _, _, _⟩) rfl (fun K hK => ?_) AllReadyH.nil
      go_simp
      refine (HKE.out _ HB6.out).mono ?_
      rintro e w7 ⟨rfl, hb7⟩
      have HB7 : Hid (Below w5.heap.size w5 w7) := HB6.out.trans (hb7.mono HB6.out.size)
      have t7 := HT0.out _ HB7.out
      have HR7 : Hid (Dt.Rep (fun k => w5.heap.size ≤ k) w7 x (.slice b1 m1 p1) (.slice b2 m2 p2) (.slice b3 m3 p3)) := HR6.out.below hb7
      clear hb7
      dsimp only
      refine hK.out _ _ ?_ (fun hHeld => ?_)
      · exact HBX.out _ HB7.out
      clear hK K
      try simp only [Act.put, List.setIfInBounds_toArray, List.set_cons_zero, List.set_cons_succ]
      refine wpAnyH_take (i := 11) (oi := ⟨_, _, _, _, _, _⟩) (v := ?_) rfl (by kernel_rfl) (by kernel_rfl) (by kernel_rfl) (fun _ _ _ h => h) (Or.inl ⟨by rfl, ?_⟩) (by assumption) ?_
      rotate_left
      · intro w hSw
        try dsimp only at hSw
        go_simp
        try with_reducible rfl
      simp only [Act.put, List.setIfInBounds_toArray, List.set_cons_zero, List.set_cons_succ]
      refine wpAnyH_ready (rs := [12]) (by kernel_rfl) (by simp) ?_
      refine AllReadyH.cons (o := ⟨_, _, _, _, _, _⟩) rfl (fun K hK => ?_) AllReadyH.nil
      go_simp
      have HBA : Hid (Below w5.heap.size w5 (w7.alloc (.cells #[.int .i64 (s0 : Int), .int .i64 x.k, .int .i64 x.n, .string x.s, .slice b1 m1 p1, .slice b2 m2 p2, .slice b3 m3 p3, .string x.s, .string (Sp.keyS x.m), .int .i64 n] 86))) := HB7.out.trans (((Below.refl _ w7).alloc (Nat.le_refl _) _).mono HB7.out.size)
      have t8 := HT0.out _ HBA.out
      refine hK.out _ _ ?_ (fun hHeld => ?_)
      · exact HBX.out _ HBA.out
      clear hK K
      try simp only [Act.put, List.setIfInBounds_toArray, List.set_cons_zero, List.set_cons_succ]
      refine wpAnyH_ready (rs := [13]) (by kernel_rfl) (by simp) ?_
      refine AllReadyH.cons (o := ⟨_, _, _, _, _, _⟩) rfl (fun K hK => ?_) AllReadyH.nil
      refine step_append_lies _ (by rfl) _ _ 70 (by rfl) base 86 i0 (.agg #[.int .i64 0, .int .i64 0, .int .i64 0, .string ⟨#[]⟩, .slice none 0 0, .slice none 0 0, .slice none 0 0, .string ⟨#[]⟩, .string ⟨#[]⟩, .int .i64 0]) 10 152 Tryd.underlying70 hi hz0 hz1 hz2 rfl (by decide) (.slice (some ⟨g, 0, none⟩) t.l.length c) t.l.length (Sp.flatB xs) (by rfl) ((HOW.out _ HB7.out).alloc _) ⟨w7.heap.size, 0, none⟩ 1 1 [.int .i64 (s0 : Int), .int .i64 x.k, .int .i64 x.n, .string x.s, .slice b1 m1 p1, .slice b2 m2 p2, .slice b3 m3 p3, .string x.s, .string (Sp.keyS x.m), .int .i64 n] (by rfl) rfl (World.news_of_block (w := w7.alloc _) (B := w7.heap.size) (cs := #[.int .i64 (s0 : Int), .int .i64 x.k, .int .i64 x.n, .string x.s, .slice b1 m1 p1, .slice b2 m2 p2, .slice b3 m3 p3, .string x.s, .string (Sp.keyS x.m), .int .i64 n]) (t := 86) (fr := (0, 0)) (heap_alloc_new w7 _)) (by simp [Value.oneCell']) (by omega) hmx hby (Sp.base_le HBS.out HBA.out) _ rfl ?_
      intro g' cap w8 hown hgrow hat hlt
      obtain ⟨z0, zf, hst⟩ := HPU.out w7 b1 m1 p1 b2 m2 p2 b3 m3 p3 g' cap w8 HB7.out HR7.out hown hgrow (hat.imp (fun e => by rw [e]; rfl) (fun e => by rw [e]; rfl))
      refine hK.out _ _ ?_ (fun hHeld => ?_)
      · exact HBX2.out _ (Sp.grown_kp HBA.out hgrow)
      clear hK K
      try simp only [Act.put, List.setIfInBounds_toArray, List.set_cons_zero, List.set_cons_succ]
      refine wpAnyH_take (i := 14) (oi := ⟨_, _, _, _, _, _⟩) (v := ?_) rfl (by kernel_rfl) (by kernel_rfl) (by kernel_rfl) (fun _ _ _ h => h) (Or.inl ⟨by rfl, ?_⟩) (by assumption) ?_
      rotate_left
      · intro w hSw
        try dsimp only at hSw
        go_simp
        try with_reducible rfl
      simp only [Act.put, List.setIfInBounds_toArray, List.set_cons_zero, List.set_cons_succ]
      refine wpAnyH_take (i := 15) (oi := ⟨_, _, _, _, _, _⟩) (v := ?_) rfl (by kernel_rfl) (by kernel_rfl) (by kernel_rfl) (fun _ _ _ h => h) (Or.inl ⟨by rfl, ?_⟩) (by assumption) ?_
      rotate_left
      · intro w hSw
        try dsimp only at hSw
        go_simp
        try with_reducible rfl
      simp only [Act.put, List.setIfInBounds_toArray, List.set_cons_zero, List.set_cons_succ]
      refine wpAnyH_ready (rs := [16]) (by kernel_rfl) (by simp) ?_
      refine AllReadyH.cons (o := ⟨_, _, _, _, _, _⟩) rfl (fun K hK => ?_) AllReadyH.nil
      go_simp
      refine hK.out _ _ ?_ (fun hHeld => ?_)
      · exact HBX2.out _ ((Sp.grown_kp HBA.out hgrow).setCell (.inl rfl) _ _)
      clear hK K
      try simp only [Act.put, List.setIfInBounds_toArray, List.set_cons_zero, List.set_cons_succ]
      refine wpAnyH_done (by kernel_rfl) ?_ _
      refine NoPanic.normal ?_
      go_wp2_with fail
      go_meet
      exact hst
    refine AllReadyH.cons (o := ⟨_, _, _, _, _, _⟩) rfl (fun K hK => ?_) AllReadyH.nil
    go_simp
    refine (HKE.out _ HB6.out).mono ?_
    rintro e w7 ⟨rfl, hb7⟩
    have HB7 : Hid (Below w5.heap.size w5 w7) := HB6.out.trans (hb7.mono HB6.out.size)
    have t7 := HT0.out _ HB7.out
    have HR7 : Hid (Dt.Rep (fun k => w5.heap.size ≤ k) w7 x (.slice b1 m1 p1) (.slice b2 m2 p2) (.slice b3 m3 p3)) := HR6.out.below hb7
    clear hb7
    dsimp only
    refine hK.out _ _ ?_ (fun hHeld => ?_)
    · exact HBX.out _ HB7.out
    clear hK K
    try simp only [Act.put, List.setIfInBounds_toArray, List.set_cons_zero, List.set_cons_succ]
    refine wpAnyH_take (i := 11) (oi := ⟨_, _, _, _, _, _⟩) (v := ?_) rfl (by kernel_rfl) (by kernel_rfl) (by kernel_rfl) (fun _ _ _ h => h) (Or.inl ⟨by rfl, ?_⟩) (by assumption) ?_
    rotate_left
    · intro w hSw
      try dsimp only at hSw
      go_simp
      try with_reducible rfl
    simp only [Act.put, List.setIfInBounds_toArray, List.set_cons_zero, List.set_cons_succ]
    refine wpAnyH_ready (rs := [4, 12]) (by kernel_rfl) (by simp) ?_
    refine AllReadyH.cons (o := ⟨_, _, _, _, _, _⟩) rfl (fun K hK => ?_) ?_
    · go_simp
      refine hK.out _ _ ?_ (fun hHeld => ?_)
      · exact HBX.out _ HB7.out
      clear hK K
      try simp only [Act.put, List.setIfInBounds_toArray, List.set_cons_zero, List.set_cons_succ]
      refine wpAnyH_ready (rs := [12]) (by kernel_rfl) (by simp) ?_
      refine AllReadyH.cons (o := ⟨_, _, _, _, _, _⟩) rfl (fun K hK => ?_) AllReadyH.nil
      go_simp
      have HBA : Hid (Below w5.heap.size w5 (w7.alloc (.cells #[.int .i64 (s0 : Int), .int .i64 x.k, .int .i64 x.n, .string x.s, .slice b1 m1 p1, .slice b2 m2 p2, .slice b3 m3 p3, .string x.s, .string (Sp.keyS x.m), .int .i64 n] 86))) := HB7.out.trans (((Below.refl _ w7).alloc (Nat.le_refl _) _).mono HB7.out.size)
      have t8 := HT0.out _ HBA.out
      refine hK.out _ _ ?_ (fun hHeld => ?_)
      · exact HBX.out _ HBA.out
      clear hK K
      try simp only [Act.put, List.setIfInBounds_toArray, List.set_cons_zero, List.set_cons_succ]
      refine wpAnyH_ready (rs := [13]) (by kernel_rfl) (by simp) ?_
      refine AllReadyH.cons (o := ⟨_, _, _, _, _, _⟩) rfl (fun K hK => ?_) AllReadyH.nil
      refine step_append_lies _ (by rfl) _ _ 70 (by rfl) base 86 i0 (.agg #[.int .i64 0, .int .i64 0, .int .i64 0, .string ⟨#[]⟩, .slice none 0 0, .slice none 0 0, .slice none 0 0, .string ⟨#[]⟩, .string ⟨#[]⟩, .int .i64 0]) 10 152 Tryd.underlying70 hi hz0 hz1 hz2 rfl (by decide) (.slice (some ⟨g, 0, none⟩) t.l.length c) t.l.length (Sp.flatB xs) (by rfl) ((HOW.out _ HB7.out).alloc _) ⟨w7.heap.size, 0, none⟩ 1 1 [.int .i64 (s0 : Int), .int .i64 x.k, .int .i64 x.n, .string x.s, .slice b1 m1 p1, .slice b2 m2 p2, .slice b3 m3 p3, .string x.s, .string (Sp.keyS x.m), .int .i64 n] (by rfl) rfl (World.news_of_block (w := w7.alloc _) (B := w7.heap.size) (cs := #[.int .i64 (s0 : Int), .int .i64 x.k, .int .i64 x.n, .string x.s, .slice b1 m1 p1, .slice b2 m2 p2, .slice b3 m3 p3, .string x.s, .string (Sp.keyS x.m), .int .i64 n]) (t := 86) (fr := (0, 0)) (heap_alloc_new w7 _)) (by simp [Value.oneCell']) (by omega) hmx hby (Sp.base_le HBS.out HBA.out) _ rfl ?_
      intro g' cap w8 hown hgrow hat hlt
      obtain ⟨z0, zf, hst⟩ := HPU.out w7 b1 m1 p1 b2 m2 p2 b3 m3 p3 g' cap w8 HB7.out HR7.out hown hgrow (hat.imp (fun e => by rw [e]; rfl) (fun e => by rw [e]; rfl))
      refine hK.out _ _ ?_ (fun hHeld => ?_)
      · exact HBX2.out _ (Sp.grown_kp HBA.out hgrow)
      clear hK K
      try simp only [Act.put, List.setIfInBounds_toArray, List.set_cons_zero, List.set_cons_succ]
      refine wpAnyH_take (i := 14) (oi := ⟨_, _, _, _, _, _⟩) (v := ?_) rfl (by kernel_rfl) (by kernel_rfl) (by kernel_rfl) (fun _ _ _ h => h) (Or.inl ⟨by rfl, ?_⟩) (by assumption) ?_
      rotate_left
      · intro w hSw
        try dsimp only at hSw
        go_simp
        try with_reducible rfl
      simp only [Act.put, List.setIfInBounds_toArray, List.set_cons_zero, List.set_cons_succ]
      refine wpAnyH_take (i := 15) (oi := ⟨_, _, _, _, _, _⟩) (v := ?_) rfl (by kernel_rfl) (by kernel_rfl) (by kernel_rfl) (fun _ _ _ h => h) (Or.inl ⟨by rfl, ?_⟩) (by assumption) ?_
      rotate_left
      · intro w hSw
        try dsimp only at hSw
        go_simp
        try with_reducible rfl
      simp only [Act.put, List.setIfInBounds_toArray, List.set_cons_zero, List.set_cons_succ]
      refine wpAnyH_ready (rs := [16]) (by kernel_rfl) (by simp) ?_
      refine AllReadyH.cons (o := ⟨_, _, _, _, _, _⟩) rfl (fun K hK => ?_) AllReadyH.nil
      go_simp
      refine hK.out _ _ ?_ (fun hHeld => ?_)
      · exact HBX2.out _ ((Sp.grown_kp HBA.out hgrow).setCell (.inl rfl) _ _)
      clear hK K
      try simp only [Act.put, List.setIfInBounds_toArray, List.set_cons_zero, List.set_cons_succ]
      refine wpAnyH_done (by kernel_rfl) ?_ _
      refine NoPanic.normal ?_
      go_wp2_with fail
      go_meet
      exact hst
    refine AllReadyH.cons (o := ⟨_, _, _, _, _, _⟩) rfl (fun K hK => ?_) AllReadyH.nil
    go_simp
    have HBA : Hid (Below w5.heap.size w5 (w7.alloc (.cells #[.int .i64 (s0 : Int), .int .i64 x.k, .int .i64 x.n, .string x.s, .slice b1 m1 p1, .slice b2 m2 p2, .slice b3 m3 p3, .string x.s, .string (Sp.keyS x.m), .int .i64 n] 86))) := HB7.out.trans (((Below.refl _ w7).alloc (Nat.le_refl _) _).mono HB7.out.size)
    have t8 := HT0.out _ HBA.out
    refine hK.out _ _ ?_ (fun hHeld => ?_)
    · exact HBX.out _ HBA.out
    clear hK K
    try simp only [Act.put, List.setIfInBounds_toArray, List.set_cons_zero, List.set_cons_succ]
    refine wpAnyH_ready (rs := [4]) (by kernel_rfl) (by simp) ?_
    refine AllReadyH.cons (o := ⟨_, _, _, _, _, _⟩) rfl (fun K hK => ?_) AllReadyH.nil
    go_simp
    refine hK.out _ _ ?_ (fun hHeld => ?_)
    · exact HBX.out _ HBA.out
    clear hK K
    try simp only [Act.put, List.setIfInBounds_toArray, List.set_cons_zero, List.set_cons_succ]
    refine wpAnyH_ready (rs := [13]) (by kernel_rfl) (by simp) ?_
    refine AllReadyH.cons (o := ⟨_, _, _, _, _, _⟩) rfl (fun K hK => ?_) AllReadyH.nil
    refine step_append_lies _ (by rfl) _ _ 70 (by rfl) base 86 i0 (.agg #[.int .i64 0, .int .i64 0, .int .i64 0, .string ⟨#[]⟩, .slice none 0 0, .slice none 0 0, .slice none 0 0, .string ⟨#[]⟩, .string ⟨#[]⟩, .int .i64 0]) 10 152 Tryd.underlying70 hi hz0 hz1 hz2 rfl (by decide) (.slice (some ⟨g, 0, none⟩) t.l.length c) t.l.length (Sp.flatB xs) (by rfl) ((HOW.out _ HB7.out).alloc _) ⟨w7.heap.size, 0, none⟩ 1 1 [.int .i64 (s0 : Int), .int .i64 x.k, .int .i64 x.n, .string x.s, .slice b1 m1 p1, .slice b2 m2 p2, .slice b3 m3 p3, .string x.s, .string (Sp.keyS x.m), .int .i64 n] (by rfl) rfl (World.news_of_block (w := w7.alloc _) (B := w7.heap.size) (cs := #[.int .i64 (s0 : Int), .int .i64 x.k, .int .i64 x.n, .string x.s, .slice b1 m1 p1, .slice b2 m2 p2, .slice b3 m3 p3, .string x.s, .string (Sp.keyS x.m), .int .i64 n]) (t := 86) (fr := (0, 0)) (heap_alloc_new w7 _)) (by simp [Value.oneCell']) (by omega) hmx hby (Sp.base_le HBS.out HBA.out) _ rfl ?_
    intro g' cap w8 hown hgrow hat hlt
    obtain ⟨z0, zf, hst⟩ := HPU.out w7 b1 m1 p1 b2 m2 p2 b3 m3 p3 g' cap w8 HB7.out HR7.out hown hgrow (hat.imp (fun e => by rw [e]; rfl) (fun e => by rw [e]; rfl))
    refine hK.out _ _ ?_ (fun hHeld => ?_)
    · exact HBX2.out _ (Sp.grown_kp HBA.out hgrow)
    clear hK K
    try simp only [Act.put, List.setIfInBounds_toArray, List.set_cons_zero, List.set_cons_succ]
    refine wpAnyH_take (i := 14) (oi := ⟨_, _, _, _, _, _⟩) (v := ?_) rfl (by kernel_rfl) (by kernel_rfl) (by kernel_rfl) (fun _ _ _ h => h) (Or.inl ⟨by rfl, ?_⟩) (by assumption) ?_
    rotate_left
    · intro w hSw
      try dsimp only at hSw
      go_simp
      try with_reducible rfl
    simp only [Act.put, List.setIfInBounds_toArray, List.set_cons_zero, List.set_cons_succ]
    refine wpAnyH_take (i := 15) (oi := ⟨_, _, _, _, _, _⟩) (v := ?_) rfl (by kernel_rfl) (by kernel_rfl) (by kernel_rfl) (fun _ _ _ h => h) (Or.inl ⟨by rfl, ?_⟩) (by assumption) ?_
    rotate_left
    · intro w hSw
      try dsimp only at hSw
      go_simp
      try with_reducible rfl
    simp only [Act.put, List.setIfInBounds_toArray, List.set_cons_zero, List.set_cons_succ]
    refine wpAnyH_ready (rs := [16]) (by kernel_rfl) (by simp) ?_
    refine AllReadyH.cons (o := ⟨_, _, _, _, _, _⟩) rfl (fun K hK => ?_) AllReadyH.nil
    go_simp
    refine hK.out _ _ ?_ (fun hHeld => ?_)
    · exact HBX2.out _ ((Sp.grown_kp HBA.out hgrow).setCell (.inl rfl) _ _)
    clear hK K
    try simp only [Act.put, List.setIfInBounds_toArray, List.set_cons_zero, List.set_cons_succ]
    refine wpAnyH_done (by kernel_rfl) ?_ _
    refine NoPanic.normal ?_
    go_wp2_with fail
    go_meet
    exact hst
  case rest =>
    have HC := Lib.hid hcut
    clear hcut
    go_wp2
    refine bodyPost_ret (v := .tuple #[.int .i64 (t.l.length : Int), .int .i64 0]) (by simp [results, Tryd.results12, go_sem]) rfl ?_
    rw [HV.out]
    exact ⟨rfl, HC.out⟩
end Go.Proofs.YtjbjgceblanhpaaDoor
