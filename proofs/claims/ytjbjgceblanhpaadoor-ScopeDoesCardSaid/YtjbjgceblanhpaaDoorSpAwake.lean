/-
  shuttlelaw05: sym, awake.
-/
import Derived.Test.YtjbjgceblanhpaaDoorSpSame
import Derived.Test.YtjbjgceblanhpaaDoorSpExt
namespace Go.Proofs.YtjbjgceblanhpaaDoor
open Go.RowKit
attribute [local go_sem] Oper.semAt_some
namespace Sp
open Dt
def sx : ByteArray := ⟨#[120]⟩
def dx : D := .mk 5 0 sx [] [] []
def dx1 : D := .mk 5 0 sx [1] [] []
def t1 : Tbl := ⟨[bd0], [0]⟩
def t2 : Tbl := ⟨[bd0, ⟨0, dx, 7⟩], [0]⟩
def t3 : Tbl := ⟨[bd0, ⟨0, dx, 7⟩, ⟨1, dx1, 8⟩], [0]⟩
theorem aw1 : mark Tbl.new 0 = (t1, 1, 0) := by rfl
theorem symx : isSym dx = true := sym_mk (by kernel_rfl) (by decide) (by simp)
theorem symx1 : isSym dx1 = true := sym_mk (by kernel_rfl) (by decide) (by simp)
theorem aw2 : extend t1 0 dx 7 = (t2, 1, 0) := by unfold extend; rw [symx]; rfl
theorem aw3 : extend t2 1 dx1 8 = (t3, 2, 0) := by unfold extend; rw [symx1]; rfl
theorem hit1 : hit t3.l 2 sx [] = some 1 := by
  unfold hit ups t3 up
  simp [up, binds, dx, dx1, D.s, D.m]
theorem hit2 : hit t3.l 1 sx [1] = none := by
  unfold hit ups t3 up
  simp [up, binds, dx, dx1, D.s, D.m]
theorem aw4 : find t3 2 dx = (⟨1, 7, ⟨#[]⟩⟩, 0) := by
  unfold find
  rw [symx, if_neg (by decide), if_neg (by simp), if_neg (by simp [dx, D.m])]
  show (look t3 sx [] 0 2, (0 : Int)) = _
  rw [look, hit1]
  rfl
theorem aw5 : find t3 1 dx1 = (⟨0, 0, sx⟩, 0) := by
  unfold find
  rw [symx1, if_neg (by decide), if_neg (by simp), if_neg (by simp [dx1, D.m, t3])]
  show (look t3 sx [1] 1 1, (0 : Int)) = _
  rw [look]
  rw [show ([1] : List Int).take (0 + 1) = [1] from rfl, hit2]
  rfl
theorem wfx : Wf dx := by unfold dx; rw [Wf]; simp [sx, Wfs]; decide
theorem wfx1 : Wf dx1 := by unfold dx1; rw [Wf]; simp [sx, Wfs]; decide
theorem repx (F : Nat → Prop) (w : World) : Rep F w dx (.slice none 0 0) (.slice none 0 0) (.slice none 0 0) :=
  (rep_iff _ _ _ _ _ _).2 ⟨⟨none, 0, rfl, Nat.le_refl _, fun h => absurd rfl h⟩, ⟨none, 0, rfl, Nat.le_refl _, fun h => absurd rfl h⟩, ⟨none, 0, rfl, Nat.le_refl _, fun h => absurd rfl h⟩⟩
theorem repx1 (w : World) {g : Nat} (hg : w.cell? ⟨g, 0, none⟩ = some (.int .i64 1)) : Rep (fun _ => True) w dx1 (.slice (some ⟨g, 0, none⟩) 1 1) (.slice none 0 0) (.slice none 0 0) :=
  (rep_iff _ _ _ _ _ _).2 ⟨⟨some ⟨g, 0, none⟩, 1, rfl, Nat.le_refl _, fun _ => ⟨g, 0, rfl, trivial, block_lt_of_cell hg, fun j hj => by
    obtain rfl : j = 0 := by simp [dx1, D.m] at hj; omega
    exact hg⟩⟩, ⟨none, 0, rfl, Nat.le_refl _, fun h => absurd rfl h⟩, ⟨none, 0, rfl, Nat.le_refl _, fun h => absurd rfl h⟩⟩
theorem two_alloc {a w wk : World} {n : Nat} (h : Below n a w) {o o' : Obj} (hk : (w.alloc o).alloc o' = wk) (hn : n ≤ w.heap.size) : Below n a wk ∧ wk.heap[w.heap.size + 1]? = some o' ∧ wk.heap[w.heap.size]? = some o ∧ wk.heap.size = w.heap.size + 2 := by
  subst hk
  have h1 := World.alloc_heap_new (w.alloc o) o'
  rw [World.size_alloc] at h1
  refine ⟨(h.alloc hn _).alloc (by rw [World.size_alloc]; omega) _, h1, ?_, by simp⟩
  have hb : Below (w.alloc o).heap.size (w.alloc o) ((w.alloc o).alloc o') := (Below.refl _ _).alloc (Nat.le_refl _) _
  exact (hb.block _ (by simp)).trans (World.alloc_heap_new w o)
theorem below_mut {n base T mb : Nat} {vl : Value} {xs : List B} {t : Tbl} {w w' u : World} {a : World} (h : Below n a w) (hk : Keep (Mut T vl mb) w w') (ht : Tab u base T vl mb xs t) (hn : n ≤ base := by exact Nat.le_refl _) (hn' : n ≤ a.heap.size := by exact Nat.le_refl _) : Below n a w' :=
  h.trans (hk.to_below (fun k e => by
    rcases e with e | e | e
    · have := ht.bT; omega
    · have := (own_lt ht.row k e).1; omega
    · have := ht.bm; omega) (Nat.le_trans hn' h.size))
end Sp
set_option maxRecDepth 100000 in
theorem spSym_any (s : ByteArray) (a : Option Addr) (n c : Nat) (w : World) :
    Calls Tryd.prog 17 #[.string s, .slice a n c] w fun e w' => e = .returned (.agg #[.int .i64 5, .int .i64 0, .string s, .slice a n c, .slice none 0 0, .slice none 0 0]) ∧ Below w.heap.size w w' := by
  go_enter Tryd.func17, Tryd.ntmps17
  go_wp2
  refine bodyPost_ret (v := .agg #[.int .i64 5, .int .i64 0, .string s, .slice a n c, .slice none 0 0, .slice none 0 0]) ?_ rfl ?_
  · simp [results, Tryd.results17, go_sem]
  · exact ⟨rfl, (Below.refl _ w).alloc (Nat.le_refl _) _⟩
theorem spFindx {base T mb : Nat} {vl : Value} {xs : List Sp.B} (w : World) (h : Sp.Tab w base T vl mb xs Sp.t3) (hT : Sp.T10 w) :
    Calls Tryd.prog 11 #[.pointer (some ⟨T, 0, none⟩), .int .i64 2, .agg #[.int .i64 5, .int .i64 0, .string ⟨#[120]⟩, .slice none 0 0, .slice none 0 0, .slice none 0 0]] w fun e w' => e = .returned (.tuple #[.agg #[.int .i64 1, .int .i64 7, .string ⟨#[]⟩], .int .i64 0]) ∧ Below w.heap.size w w' := by
  have h1 := spFind_any 2 Sp.dx _ _ _ w h Sp.wfx (Sp.repx (fun _ => True) w) hT
  rw [Sp.aw4] at h1
  exact h1
theorem spFindx1 {base T mb g : Nat} {vl : Value} {xs : List Sp.B} (w : World) (h : Sp.Tab w base T vl mb xs Sp.t3) (hT : Sp.T10 w) (hg : w.cell? ⟨g, 0, none⟩ = some (.int .i64 1)) :
    Calls Tryd.prog 11 #[.pointer (some ⟨T, 0, none⟩), .int .i64 1, .agg #[.int .i64 5, .int .i64 0, .string ⟨#[120]⟩, .slice (some ⟨g, 0, none⟩) 1 1, .slice none 0 0, .slice none 0 0]] w fun e w' => e = .returned (.tuple #[.agg #[.int .i64 0, .int .i64 0, .string ⟨#[120]⟩], .int .i64 0]) ∧ Below w.heap.size w w' := by
  have h1 := spFind_any 1 Sp.dx1 _ _ _ w h Sp.wfx1 (Sp.repx1 w hg) hT
  rw [Sp.aw5] at h1
  exact h1
set_option maxRecDepth 100000 in
set_option maxHeartbeats 8000000 in
theorem spAwake_any (w : World) (hT : Sp.T10 w) :
    Calls Tryd.prog 9 #[] w fun e w' => e = .returned (.bool true) ∧ Below w.heap.size w w' := by
  have HT := Lib.hid hT
  clear hT
  go_enter Tryd.func9, Tryd.ntmps9
  go_wp2_with (go_at_call 21; refine (spNew_any w).mono ?_; rintro e wa ⟨T, vl, mb, rfl, ht, hb⟩; have HA := Lib.hid ht; have HBA := Lib.hid hb; have hmk := spMark_any 0 wa ht; rw [Sp.aw1] at hmk; clear ht hb; refine Hid.out ?_)
  refine Lib.hid ?_
  go_wp2_with (go_at_call 16; refine hmk.mono ?_; clear hmk; rintro e wb ⟨rfl, ht, hk⟩; have HTB := Lib.hid ht; have HBB := Lib.hid (HBA.out.trans (hk.to_below (fun k e => by have := HA.out.bm; omega) HBA.out.size)); clear ht hk; refine Hid.out ?_)
  refine Lib.hid ?_
  go_wp2_with (go_at_call 17; refine (spSym_any _ _ _ _ wb).mono ?_; rintro e wc ⟨rfl, hb⟩; have HBC := Lib.hid (HBB.out.trans (hb.mono HBB.out.size)); have hex := spExtend_any 0 Sp.dx _ _ _ 7 wc (HTB.out.below hb) HBC.out.size Sp.wfx (Sp.repx (fun _ => True) wc) (HT.out.on HBC.out); rw [Sp.aw2] at hex; clear hb; refine Hid.out ?_)
  refine Lib.hid ?_
  go_wp2_with (go_at_call 12; refine hex.mono ?_; clear hex; rintro e wd ⟨rfl, vld, xsd, ht, hk, -, -⟩; have HTD := Lib.hid ht; have HBD := Lib.hid (Sp.below_mut HBC.out hk (HTB.out)); obtain ⟨we, hwe⟩ : ∃ we, wd.alloc (.cells #[.int .i64 1] 3) = we := ⟨_, rfl⟩; have HBE := Lib.hid (Sp.below_new HBD.out hwe HBD.out.size); have HTE := Lib.hid (ht.below (Sp.below_new (Below.refl _ wd) hwe (Nat.le_refl _)).1); clear ht hk; refine Hid.out ?_)
  refine Lib.hid ?_
  have g0 : we.cell? ⟨wd.heap.size, 0, none⟩ = some (.int .i64 1) := by unfold World.cell?; rw [HBE.out.2.2.1]; rfl
  have HG0 := Lib.hid g0
  clear g0
  go_wp2_with (go_at_call 17; refine (spSym_any _ _ _ _ we).mono ?_; rintro e wf ⟨rfl, hb⟩; have HBF := Lib.hid (HBE.out.1.trans (hb.mono HBE.out.1.size)); have hex := spExtend_any 1 Sp.dx1 _ _ _ 8 wf (HTE.out.below hb) HBF.out.size Sp.wfx1 ((Sp.repx1 we HG0.out).below hb) (HT.out.on HBF.out); have HTF := Lib.hid (HTE.out.below hb); rw [Sp.aw3] at hex; clear hb; refine Hid.out ?_)
  refine Lib.hid ?_
  go_wp2_with (go_at_call 12; refine hex.mono ?_; clear hex; rintro e wg ⟨rfl, vlg, xsg, ht, hk, -, -⟩; have HTG := Lib.hid ht; have HBG := Lib.hid (Sp.below_mut HBF.out hk (HTF.out)); clear ht hk; refine Hid.out ?_)
  refine Lib.hid ?_
  go_wp2_with (go_at_call 17; refine (spSym_any _ _ _ _ wg).mono ?_; rintro e wh ⟨rfl, hb⟩; have HBH := Lib.hid (HBG.out.trans (hb.mono HBG.out.size)); have hfi := spFindx wh (HTG.out.below hb) (HT.out.on HBH.out); have HTH := Lib.hid (HTG.out.below hb); clear hb; refine Hid.out ?_)
  refine Lib.hid ?_
  go_wp2_with (go_at_call 11; refine hfi.mono ?_; clear hfi; rintro e wi ⟨rfl, hb⟩; obtain ⟨wk, hwk⟩ : ∃ wk, (wi.alloc (.cells #[.int .i64 1, .int .i64 7, .string ⟨#[]⟩] 35)).alloc (.cells #[.int .i64 1] 3) = wk := ⟨_, rfl⟩; have HNK := Lib.hid (Sp.two_alloc hb hwk hb.size); have HBK := Lib.hid (HBH.out.trans (HNK.out.1.mono HBH.out.size)); have HTK := Lib.hid (HTH.out.below HNK.out.1); clear hb; refine Hid.out ?_)
  refine Lib.hid ?_
  have HK0 : Hid (wk.cell? ⟨wi.heap.size + 1, 0, none⟩ = some (.int .i64 1)) := by show _ = _; unfold World.cell?; rw [HNK.out.2.1]; rfl
  go_wp2_with (go_at_call 17; refine (spSym_any _ _ _ _ wk).mono ?_; rintro e wl ⟨rfl, hb⟩; have HBL := Lib.hid (HBK.out.trans (hb.mono HBK.out.size)); have hfi := spFindx1 wl (HTK.out.below hb) (HT.out.on HBL.out) ((hb.cell (p := ⟨wi.heap.size + 1, 0, none⟩) (block_lt_of_cell HK0.out)).trans HK0.out); have HL := Lib.hid hb; clear hb; refine Hid.out ?_)
  refine Lib.hid ?_
  go_wp2_with (go_at_call 11; refine hfi.mono ?_; clear hfi; rintro e wm ⟨rfl, hb⟩; obtain ⟨wn, hwn⟩ : ∃ wn, wm.alloc (.cells #[.int .i64 0, .int .i64 0, .string ⟨#[120]⟩] 35) = wn := ⟨_, rfl⟩; have HNN := Lib.hid (Sp.below_new hb hwn hb.size); have HBN := Lib.hid (HBL.out.trans (HNN.out.1.mono HBL.out.size)); clear hb; refine Hid.out ?_)
  refine Lib.hid ?_
  have hki := HNK.out.2.2.1
  have hlk : wi.heap.size < wk.heap.size := (Array.getElem?_eq_some_iff.1 hki).1
  have hbn : Below wk.heap.size wk wn := (HL.out.trans (HNN.out.1.mono HL.out.size))
  have hni := (hbn.block _ hlk).trans hki
  have i0 : wn.cell? ⟨wi.heap.size, 0, none⟩ = some (.int .i64 1) := by unfold World.cell?; rw [hni]; rfl
  have i1 : wn.cell? ⟨wi.heap.size, 1, none⟩ = some (.int .i64 7) := by unfold World.cell?; rw [hni]; rfl
  have i2 : wn.cell? ⟨wi.heap.size, 2, none⟩ = some (.string ⟨#[]⟩) := by unfold World.cell?; rw [hni]; rfl
  have m0 : wn.cell? ⟨wm.heap.size, 0, none⟩ = some (.int .i64 0) := by unfold World.cell?; rw [HNN.out.2.2.1]; rfl
  have m1 : wn.cell? ⟨wm.heap.size, 1, none⟩ = some (.int .i64 0) := by unfold World.cell?; rw [HNN.out.2.2.1]; rfl
  have m2 : wn.cell? ⟨wm.heap.size, 2, none⟩ = some (.string ⟨#[120]⟩) := by unfold World.cell?; rw [HNN.out.2.2.1]; rfl
  clear hki hlk hbn hni
  go_wp2
  go_ret
  exact ⟨rfl, HBN.out⟩
end Go.Proofs.YtjbjgceblanhpaaDoor
