/-
  shuttlelaw05.made: a table behind acts.
-/
import Derived.Test.YtjbjgceblanhpaaDoorSpSmall
namespace Go.Proofs.YtjbjgceblanhpaaDoor
open Go.RowKit
attribute [local go_sem] Oper.semAt_some
namespace Sp
open Dt
/-- one act -/
def step (t : Tbl) (x : O) : Tbl := if x.d = 0 then (extend t x.s x.id x.n).1 else if x.d = 1 then (mark t x.s).1 else t
def madeT (l : List O) : Tbl := l.foldl step Tbl.new
theorem madeT_snoc (l : List O) (x : O) : madeT (l ++ [x]) = step (madeT l) x := by unfold madeT; rw [List.foldl_append]; rfl
/-- where the names of a table's scopes lie -/
def Fr (base T : Nat) (vl : Value) (mb k : Nat) : Prop := base ≤ k ∧ ¬ Mut T vl mb k
/-- a table, and its names -/
structure TI (w : World) (base T : Nat) (vl : Value) (mb : Nat) (xs : List B) (t : Tbl) : Prop where
  tab : Tab w base T vl mb xs t
  ids : Ids (Fr base T vl mb) w xs
theorem TI.below {w w' : World} {base T mb : Nat} {vl : Value} {xs : List B} {t : Tbl} (h : TI w base T vl mb xs t) (hb : Below w.heap.size w w') : TI w' base T vl mb xs t :=
  ⟨h.tab.below hb, h.ids.keep (S := fun _ => False) ((Keep.refl _ w).below hb) (fun _ _ _ h => h)⟩
theorem TI.ext {w w' : World} {base T mb : Nat} {vl : Value} {xs : List B} {t t' : Tbl} (h : TI w base T vl mb xs t) (hbw : base ≤ w.heap.size) (hp : ExtPost base T mb vl xs t' w w') : ∃ vl' xs', TI w' base T vl' mb xs' t' ∧ Keep (Mut T vl mb) w w' := by
  obtain ⟨vl', xs', h1, h2, h3, h4⟩ := hp
  refine ⟨vl', xs', ⟨h1, ?_⟩, h2⟩
  have hi : Ids (fun k => Fr base T vl mb k ∧ k < w.heap.size) w xs := h.ids.mono (fun k hk hl => ⟨hk, hl⟩)
  have hi' : Ids (Fr base T vl' mb) w' xs := (hi.keep h2 (fun k hk _ => hk.1.2)).mono (fun k hk _ => ⟨hk.1.1, fun e => by
    rcases e with e | e | e
    · exact hk.1.2 (.inl e)
    · rcases h3 k e with e' | e'
      · exact hk.1.2 (.inr (.inl e'))
      · have := hk.2; omega
    · exact hk.1.2 (.inr (.inr e))⟩)
  rcases h4 with rfl | ⟨b, rfl, hb⟩
  · exact hi'
  · intro x hx
    rcases List.mem_append.1 hx with hx | hx
    · exact hi' x hx
    · rw [List.mem_singleton.1 hx]
      refine Rep.mono (fun k hk _ => ⟨by omega, fun e => ?_⟩) _ hb
      rcases e with e | e | e
      · have := h.tab.lt; omega
      · exact hk.2 e
      · have := h.tab.mp.lt; omega
theorem TI.mark {w w' : World} {base T mb : Nat} {vl : Value} {xs : List B} {t t' : Tbl} (h : TI w base T vl mb xs t) (h1 : Tab w' base T vl mb xs t') (h2 : Keep (fun k => k = mb) w w') : TI w' base T vl mb xs t' :=
  ⟨h1, h.ids.keep h2 (fun _k hk _ e => hk.2 (.inr (.inr e)))⟩
theorem TI.new {w : World} {base T mb : Nat} {vl : Value} (h : Tab w base T vl mb [B0] Tbl.new) : TI w base T vl mb [B0] Tbl.new :=
  ⟨h, fun x hx => by rw [List.mem_singleton.1 hx]; exact rep_zero _ _⟩
end Sp
set_option maxRecDepth 100000 in
set_option maxHeartbeats 8000000 in
theorem spMade_any {F : Nat → Prop} (a : Option Addr) (c : Nat) (l : List Sp.O) (w : World) (h : Sp.ORow F w (.slice a l.length c) l) (hl : l.length ≤ 60) (hT : Sp.T10 w) :
    Calls Tryd.prog 10 #[.slice a l.length c] w fun e w' => ∃ T vl mb xs, e = .returned (.pointer (some ⟨T, 0, none⟩)) ∧ Sp.TI w' w.heap.size T vl mb xs (Sp.madeT l) ∧ Below w.heap.size w w' := by
  obtain ⟨a', c', e0, -, hcell⟩ := h
  obtain ⟨rfl, -, rfl⟩ := Sp.slice_inj e0
  have HC := Lib.hid hcell
  have HT := Lib.hid hT
  clear hcell e0 hT
  go_enter Tryd.func10, Tryd.ntmps10
  go_wp2_with (go_at_call 21; refine (spNew_any w).mono ?_; rintro e w1 ⟨T, vl0, mb, rfl, ht0, hb1⟩; have HTI := Lib.hid (Sp.TI.new ht0); have HB1 := Lib.hid hb1; clear ht0 hb1)
  go_loopw [11] (fun v wr => ∃ (j : Nat) (vl : Value) (xs : List Sp.B), v = .int .i64 j ∧ j ≤ l.length ∧ Hid (Sp.TI wr w.heap.size T vl mb xs (Sp.madeT (l.take j))) ∧ Hid (Below w.heap.size w wr)) (fun v _ => l.length - (intOf v).toNat)
  case atStart => exact ⟨0, vl0, _, rfl, Nat.zero_le _, HTI, HB1⟩
  case round =>
    obtain ⟨j, vl, xs, rfl, hj, HI, HBW⟩ := hrel
    by_cases hlt : j < l.length
    · have hlti : (j : Int) < (l.length : Int) := by omega
      have hj0 : (0 : Int) ≤ (j : Int) := by omega
      have hj60 : (j : Int) < 60 := by omega
      obtain ⟨b, o, rfl, -, hbl, hat⟩ := HC.out (by intro e; rw [e] at hlt; simp at hlt)
      obtain ⟨⟨c0, c1, c2, c15⟩, ⟨vm, vl1, vt, hs, hr⟩, ⟨um, ul, ut, hs2, hr2⟩, hw1, hw2⟩ := hat j hlt
      obtain ⟨x, hx⟩ : ∃ x, x = l[j] := ⟨_, rfl⟩
      rw [← hx] at c0 c1 c2 c15 hs hr hs2 hr2 hw1 hw2
      have HR := Lib.hid hr
      obtain ⟨⟨a1, q1, rfl, -⟩, ⟨a2, q2, rfl, -⟩, ⟨a3, q3, rfl, -⟩⟩ := (Dt.rep_iff _ _ _ _ _ _).1 hr
      obtain ⟨⟨b1, r1, rfl, -⟩, ⟨b2, r2, rfl, -⟩, ⟨b3, r3, rfl, -⟩⟩ := (Dt.rep_iff _ _ _ _ _ _).1 hr2
      have hc : ∀ i v, w.cell? ⟨b, i, none⟩ = some v → wr.cell? ⟨b, i, none⟩ = some v := fun i v h => (HBW.out.cell (p := ⟨b, i, none⟩) hbl).trans h
      have c0 := hc _ _ c0
      have c1 := hc _ _ c1
      have c2 := hc _ _ c2
      have c15 := hc _ _ c15
      have k0 : wr.cell? ⟨b, o + j * 16 + 3, none⟩ = some _ := hc _ _ hs.c0
      have k1 : wr.cell? ⟨b, o + j * 16 + 4, none⟩ = some _ := hc _ _ hs.c1
      have k2 : wr.cell? ⟨b, o + j * 16 + 5, none⟩ = some _ := hc _ _ hs.c2
      have k3 : wr.cell? ⟨b, o + j * 16 + 6, none⟩ = some _ := hc _ _ hs.c3
      have k4 : wr.cell? ⟨b, o + j * 16 + 7, none⟩ = some _ := hc _ _ hs.c4
      have k5 : wr.cell? ⟨b, o + j * 16 + 8, none⟩ = some _ := hc _ _ hs.c5
      have m0 : wr.cell? ⟨b, o + j * 16 + 9, none⟩ = some _ := hc _ _ hs2.c0
      have m1 : wr.cell? ⟨b, o + j * 16 + 10, none⟩ = some _ := hc _ _ hs2.c1
      have m2 : wr.cell? ⟨b, o + j * 16 + 11, none⟩ = some _ := hc _ _ hs2.c2
      have m3 : wr.cell? ⟨b, o + j * 16 + 12, none⟩ = some _ := hc _ _ hs2.c3
      have m4 : wr.cell? ⟨b, o + j * 16 + 13, none⟩ = some _ := hc _ _ hs2.c4
      have m5 : wr.cell? ⟨b, o + j * 16 + 14, none⟩ = some _ := hc _ _ hs2.c5
      obtain ⟨wB, hwB⟩ : ∃ wB, wr.alloc (.cells #[.int .i64 x.d, .int .i64 x.s, .int .i64 x.t, .int .i64 x.id.k, .int .i64 x.id.n, .string x.id.s, .slice a1 x.id.m.length q1, .slice a2 x.id.l.length q2, .slice a3 x.id.t.length q3, .int .i64 x.nd.k, .int .i64 x.nd.n, .string x.nd.s, .slice b1 x.nd.m.length r1, .slice b2 x.nd.l.length r2, .slice b3 x.nd.t.length r3, .int .i64 x.n] 30) = wB := ⟨_, rfl⟩
      have HNB := Lib.hid (Sp.below_new (Below.refl _ wr) hwB (Nat.le_refl _))
      have HBB := Lib.hid (HBW.out.trans (HNB.out.1.mono HBW.out.size))
      have HIB := Lib.hid (HI.out.below HNB.out.1)
      have nb : ∀ i v, #[.int .i64 x.d, .int .i64 x.s, .int .i64 x.t, .int .i64 x.id.k, .int .i64 x.id.n, .string x.id.s, .slice a1 x.id.m.length q1, .slice a2 x.id.l.length q2, .slice a3 x.id.t.length q3, .int .i64 x.nd.k, .int .i64 x.nd.n, .string x.nd.s, .slice b1 x.nd.m.length r1, .slice b2 x.nd.l.length r2, .slice b3 x.nd.t.length r3, .int .i64 x.n][i]? = some v → wB.cell? ⟨wr.heap.size, i, none⟩ = some v := fun i v h => by unfold World.cell?; rw [HNB.out.2.2.1]; exact h
      have l0 := nb 0 _ rfl
      have l1 := nb 1 _ rfl
      have l3 := nb 3 _ rfl
      have l4 := nb 4 _ rfl
      have l5 := nb 5 _ rfl
      have l6 := nb 6 _ rfl
      have l7 := nb 7 _ rfl
      have l8 := nb 8 _ rfl
      have l15 := nb 15 _ rfl
      have HX := Lib.hid hx
      have HST : Hid (Sp.madeT (l.take (j + 1)) = Sp.step (Sp.madeT (l.take j)) x) := by show _ = _; rw [List.take_succ_eq_append_getElem hlt, Sp.madeT_snoc, hx]
      have HRB := Lib.hid (HR.out.below HBB.out)
      have HW1 := Lib.hid hw1
      clear hs hr hs2 hr2 hat hc nb hx hw1 hw2 HR
      obtain ⟨t, ht⟩ : ∃ t, t = Sp.madeT (l.take j) := ⟨_, rfl⟩
      rw [← ht] at HIB HST
      have hex := spExtend_any x.s x.id _ _ _ x.n wB HIB.out.tab HBB.out.size HW1.out HRB.out (HT.out.on HBB.out)
      have hmk := spMark_any x.s wB HIB.out.tab
      clear ht HI
      by_cases h0 : x.d = 0
      · have h0' : (x.d == 0) = true := by simpa using h0
        have HS : Hid (Sp.madeT (l.take (j + 1)) = (Sp.extend t x.s x.id x.n).1) := by show _ = _; rw [HST.out]; unfold Sp.step; rw [if_pos h0]
        obtain ⟨⟨t', e1, e2⟩, hre⟩ : ∃ r, r = Sp.extend t x.s x.id x.n := ⟨_, rfl⟩
        rw [← hre] at hex HS
        clear h0 hmk hre
        go_wp2_with (go_at_call 12; refine hex.mono ?_; clear hex; rintro e w5 ⟨rfl, hpo⟩; obtain ⟨vl5, xs5, hti5, hk5⟩ := HIB.out.ext HBB.out.size hpo; have HT5 := Lib.hid hti5; have HB5 := Lib.hid (Sp.below_mut HBB.out hk5 HIB.out.tab); clear hpo hti5 hk5)
        go_roundw
        case rel => exact ⟨j + 1, vl5, xs5, by simp, by omega, by rw [HS.out]; exact HT5, HB5⟩
        case measure => simp [intOf]; omega
      · have h0' : (x.d == 0) = false := by simpa using h0
        by_cases h1 : x.d = 1
        · have h1' : (x.d == 1) = true := by simpa using h1
          have HS : Hid (Sp.madeT (l.take (j + 1)) = (Sp.mark t x.s).1) := by show _ = _; rw [HST.out]; unfold Sp.step; rw [if_neg h0, if_pos h1]
          obtain ⟨⟨t', e1, e2⟩, hre⟩ : ∃ r, r = Sp.mark t x.s := ⟨_, rfl⟩
          rw [← hre] at hmk HS
          clear h0 h1 hex hre
          go_wp2_with (go_at_call 16; refine hmk.mono ?_; clear hmk; rintro e w5 ⟨rfl, ht5, hk5⟩; have HT5 := Lib.hid (HIB.out.mark ht5 hk5); have HB5 := Lib.hid (HBB.out.trans (hk5.to_below (fun k e => by have := HIB.out.tab.bm; omega) HBB.out.size)); clear ht5 hk5)
          go_roundw
          case rel => exact ⟨j + 1, vl, xs, by simp, by omega, by rw [HS.out]; exact HT5, HB5⟩
          case measure => simp [intOf]; omega
        · have h1' : (x.d == 1) = false := by simpa using h1
          have HS : Hid (Sp.madeT (l.take (j + 1)) = t) := by show _ = _; rw [HST.out]; unfold Sp.step; rw [if_neg h0, if_neg h1]
          clear h0 h1 hex hmk
          go_wp2
          go_roundw
          case rel => exact ⟨j + 1, vl, xs, by simp, by omega, by rw [HS.out]; exact HIB, HBB⟩
          case measure => simp [intOf]; omega
    · obtain rfl : j = l.length := by omega
      have hge : (l.length : Int) ≤ (l.length : Int) := by omega
      go_wp2
      go_ret
      exact ⟨T, vl, mb, xs, rfl, by have := HI.out; rw [List.take_length] at this; exact this, HBW.out⟩
end Go.Proofs.YtjbjgceblanhpaaDoor
