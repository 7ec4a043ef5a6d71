/-
  code.Clone: a program in memory of its own.
-/
import Derived.Test.YtlckjphnbfahgaaCdCloneA
import Derived.Test.YtlckjphnbfahgaaCdAt
import Derived.Test.YtlckjphnbfahgaaDtEq
import Derived.Deep.RegionLaw
import Derived.Deep.Cut
namespace Go.Proofs.Ytlckjphnbfahgaa
open Go.RowKit
attribute [local go_sem] Oper.semAt_some
namespace Cd
/-- how many there are -/
structure Small (p : Prog) : Prop where
  lc : p.codes.length ≤ 4096
  lk : p.consts.length ≤ 4096
  ln : p.names.length ≤ 4096
  li : ∀ c ∈ p.codes, c.ins.length ≤ 4096
/-- a program in memory of its own -/
structure Own (w : World) (base m : Nat) (vc vk vn : Value) (ks : List (Code × Value)) (l : List Dt.D) (ns : List ByteArray) : Prop where
  le : base ≤ m
  cs : CRow w m vc ks
  ds : Dt.Row (fun k => base ≤ k ∧ k < m) w vk l
  nm : NameRow (fun k => base ≤ k ∧ k < m) w vn ns
  no : w.ownsRow base 9 1 vn ns.length (ns.map Value.string) ∧ ∀ k, vn.ownBlock = some k → k < m
theorem nrow_mono {F G : Nat → Prop} {w : World} {v : Value} {l : List ByteArray} (h : NameRow F w v l) (hFG : ∀ b, F b → b < w.heap.size → G b) : NameRow G w v l := by
  obtain ⟨a, c, h1, h2, h3⟩ := h
  refine ⟨a, c, h1, h2, fun hn => ?_⟩
  obtain ⟨b, o, e, hF, hb, hr⟩ := h3 hn
  exact ⟨b, o, e, hFG b hF hb, hb, hr⟩
theorem row_mono {F G : Nat → Prop} {w : World} {v : Value} {l : List Dt.D} (h : Dt.Row F w v l) (hFG : ∀ b, F b → b < w.heap.size → G b) : Dt.Row G w v l := by
  obtain ⟨a, c, h1, h2, h3⟩ := h
  refine ⟨a, c, h1, h2, fun hn => ?_⟩
  obtain ⟨b, o, e, hF, hb, hr⟩ := h3 hn
  exact ⟨b, o, e, hFG b hF hb, hb, Dt.Reps.mono hFG _ hr⟩
theorem box_heap {w w1 : World} {cs : Array Value} {t : TypeId} (h : w.alloc (.cells cs t) = w1) : w1.heap[w.heap.size]? = some (.cells cs t (0, 0)) := by rw [← h]; exact heap_alloc_new w _
theorem hcell {w : World} {b : Nat} {cs : Array Value} {t : TypeId} (h : w.heap[b]? = some (.cells cs t (0, 0))) (i : Nat) : w.cell? ⟨b, i, none⟩ = cs[i]? := by rw [Lib.cell_of_heap h]
theorem hset {w : World} {b i : Nat} {cs : Array Value} {t : TypeId} {v : Value} (h : w.heap[b]? = some (.cells cs t (0, 0))) : (w.setCell ⟨b, i, none⟩ v).heap[b]? = some (.cells (cs.setIfInBounds i v) t (0, 0)) := by
  show ((w.heap.modify b _))[b]? = _
  rw [Array.getElem?_modify, if_pos rfl, h]
  rfl
end Cd
set_option maxRecDepth 100000 in
set_option maxHeartbeats 16000000 in
theorem clone_any {F : Nat → Prop} (p : Cd.Prog) (vc vk vn : Value) (w : World) (hp : Cd.PRep F w p vc vk vn) (hw : Cd.PWf p) (hs : Cd.Small p) :
    Calls Try.prog 15 #[.agg #[vc, vk, vn]] w fun e w' => ∃ (m : Nat) (vc' vk' vn' : Value) (ks : List (Cd.Code × Value)), e = .returned (.agg #[vc', vk', vn']) ∧ Cd.Own w' w.heap.size m vc' vk' vn' ks (p.consts.map Dt.clone) p.names ∧ ks.map Prod.fst = p.codes ∧ Below w.heap.size w w' := by
  obtain ⟨a1, c1, a2, c2, a3, c3, rfl, rfl, rfl⟩ := hp.forms
  obtain ⟨w1, hw1⟩ : ∃ w1, w.alloc (.cells #[.slice a1 p.codes.length c1, .slice a2 p.consts.length c2, .slice a3 p.names.length c3] 26) = w1 := ⟨_, rfl⟩
  obtain ⟨hb1, hs1, hbp⟩ := Cd.boxP hw1
  obtain ⟨w2, hw2⟩ : ∃ w2, w1.alloc (.cells #[.slice none 0 0, .slice none 0 0, .slice none 0 0] 26) = w2 := ⟨_, rfl⟩
  obtain ⟨hb2, hs2⟩ := Cd.below_new (Below.refl _ w1) hw2 (Nat.le_refl _)
  have hR2 := Cd.box_heap hw2
  obtain ⟨p0, p1, p2⟩ := hbp w2 hb2
  have hb02 := hb1.trans (hb2.mono hb1.size)
  have hnc := nameClone_any _ p.names w2 (hp.names.below hb02) hs.ln
  have HP := Lib.hid hp
  have HW := Lib.hid hw
  have HSM := Lib.hid hs
  have HB1 := Lib.hid hb1
  have HB2 := Lib.hid hb02
  have HB12 := Lib.hid hb2
  have HS : Hid (w1.heap.size = w.heap.size + 1 ∧ w2.heap.size = w.heap.size + 2) := ⟨hs1, by omega⟩
  have HBP := Lib.hid hbp
  have HR2 := Lib.hid hR2
  clear hp hw hs hb1 hs1 hbp hb2 hs2 hR2 hb02
  go_enter Try.func15, Try.ntmps15
  go_wp2_with (go_at_call 36; refine hnc.mono ?_; clear hnc hw1 hw2 p0 p1 p2; rintro e w3 ⟨vn', rfl, hown3, hb3⟩; refine Hid.out ?_)
  refine Lib.hid ?_
  obtain ⟨an, cn, rfl⟩ := Dt.row_form hown3
  obtain ⟨w4, hw4⟩ : ∃ w4, w3.alloc (.cells #[.slice none 0 0, .slice none 0 0, .slice an p.names.length cn] 26) = w4 := ⟨_, rfl⟩
  obtain ⟨hb4, hs4⟩ := Cd.below_new (Below.refl _ w3) hw4 (Nat.le_refl _)
  have hR4 := Cd.box_heap hw4
  have HB3 : Hid (Below w.heap.size w w3) := HB2.out.trans (hb3.mono HB2.out.size)
  have hb14 : Below w1.heap.size w1 w4 := HB12.out.trans ((hb3.trans (hb4.mono hb3.size)).mono HB12.out.size)
  obtain ⟨p0, p1, p2⟩ := HBP.out w4 hb14
  obtain ⟨R3, hR3⟩ : ∃ R3, w3.heap.size = R3 := ⟨_, rfl⟩
  have HN3 : Hid (Cd.NameRow (fun k => w.heap.size + 2 ≤ k ∧ k < R3) w3 (.slice an p.names.length cn) p.names) := Cd.NameRow.of_own hown3 (fun k e => by have := hown3.lt k e; have := HS.out.2; exact ⟨by omega, by omega⟩)
  have HN4 : Hid (w3.ownsRow w.heap.size 9 1 (.slice an p.names.length cn) p.names.length (p.names.map Value.string) ∧ ∀ k, (Value.slice an p.names.length cn).ownBlock = some k → w.heap.size + 2 ≤ k ∧ k < R3) := ⟨Cd.own_base hown3 (by have := HS.out.2; omega), fun k e => by have := hown3.lt k e; have := HS.out.2; exact ⟨by omega, by omega⟩⟩
  have HB34 : Hid (Below R3 w3 w4) := hR3 ▸ hb4
  have HB14 : Hid (Below w1.heap.size w1 w4) := hb14
  have hR34 : w4.heap[R3]? = some (.cells #[.slice none 0 0, .slice none 0 0, .slice an p.names.length cn] 26 (0, 0)) := hR3 ▸ hR4
  have HS3 : Hid (w.heap.size + 2 ≤ R3) := by show _ ≤ _; have := hb3.size; have := HS.out.2; omega
  have HS34 : Hid (R3 < w4.heap.size) := by show _ < _; omega
  have HR34 := Lib.hid hR34
  have HR3 := Lib.hid hR3
  have HB13 : Hid (Below w1.heap.size w1 w3) := HB12.out.trans (hb3.mono HB12.out.size)
  have HI0 : Hid (Dt.Rowing w4 (R3 + 1) (.slice none 0 0) [] ∧ ([] : List Dt.P).map Dt.P.d = (p.consts.take 0).map Dt.clone) := ⟨Dt.Rowing.nil _ _, by simp⟩
  obtain ⟨i0, hi, hz0, hz1, hz2⟩ := info_parts Dt.infoD
  have HI1 := Lib.hid hi
  have HZ0 := Lib.hid hz0
  have HZ1 := Lib.hid hz1
  have HZ2 := Lib.hid hz2
  have HR2W : Hid (w3.heap[w1.heap.size]? = some (.cells #[.slice none 0 0, .slice none 0 0, .slice none 0 0] 26 (0, 0))) := (hb3.block w1.heap.size (by have := HS.out; omega)).trans HR2.out
  clear hown3 hb3 hb4 hs4 hR4 hb14 hR34 HB12 HR2 hi hz0 hz1 hz2
  go_wp2
  clear hw4 p0 p1 p2 hR3
  go_loopw [15] (fun vi wr => ∃ (k : Nat) (ps : List Dt.P) (ak : Option Addr) (ck : Nat), vi = .int .i64 k ∧ k ≤ p.consts.length ∧ ps.length = k ∧ Hid (wr.heap[R3]? = some (.cells #[.slice none 0 0, .slice ak k ck, .slice an p.names.length cn] 26 (0, 0))) ∧ Hid (Dt.Rowing wr (R3 + 1) (.slice ak k ck) ps ∧ ps.map Dt.P.d = (p.consts.take k).map Dt.clone) ∧ Hid (Below R3 w3 wr)) (fun vi _ => p.consts.length - (intOf vi).toNat)
  case atStart => exact ⟨0, [], none, 0, rfl, by omega, rfl, HR34, HI0, HB34⟩
  case round =>
    clear HI0 HR34 HB34
    obtain ⟨k, ps, ak, ck, rfl, hk, hpk, HRR, HI, HBR⟩ := hrel
    have HB : Hid (Below w.heap.size w wr) := HB3.out.trans (HBR.out.mono (by have := HS3.out; omega))
    have HB1R : Hid (Below w1.heap.size w1 wr) := HB13.out.trans (HBR.out.mono (by have := HS3.out; have := HS.out.1; omega))
    have hR3l : R3 < wr.heap.size := (Array.getElem?_eq_some_iff.1 HRR.out).1
    by_cases hlt : k < p.consts.length
    · have hlti : (k : Int) < (p.consts.length : Int) := by omega
      obtain ⟨b, o, vm, vl, vt, rfl, -, ⟨x0, x1, x2, x3, x4, x5⟩, hrep⟩ := Cd.const_at (HP.out.below HB.out).consts k hlt
      have hwf := Cd.wfs_at HW.out.wk k hlt
      have HTK : Hid (∀ d, d = Dt.clone p.consts[k] → (p.consts.take k).map Dt.clone ++ [d] = (p.consts.take (k + 1)).map Dt.clone) := fun d hd => by rw [hd, List.take_succ_eq_append_getElem hlt, List.map_append]; rfl
      obtain ⟨x, hx⟩ : ∃ x, x = p.consts[k] := ⟨_, rfl⟩
      rw [← hx] at x0 x1 x2 hrep hwf HTK
      obtain ⟨⟨am, cm, rfl, _⟩, ⟨al, c_l, rfl, _⟩, ⟨at_, ct, rfl, _⟩⟩ := (Dt.rep_iff _ _ x vm vl vt).1 hrep
      obtain ⟨wc, hwc⟩ : ∃ wc, wr.alloc (.cells #[.int .i64 x.k, .int .i64 x.n, .string x.s, .slice am x.m.length cm, .slice al x.l.length c_l, .slice at_ x.t.length ct] 55) = wc := ⟨_, rfl⟩
      have hbc : Below wr.heap.size wr wc := by rw [← hwc]; exact (Below.refl _ _).alloc (Nat.le_refl _) _
      have hsix := Dt.six_of' wr x (.slice am x.m.length cm) (.slice al x.l.length c_l) (.slice at_ x.t.length ct) 55
      rw [hwc] at hsix
      have HSIX : Hid (∀ W, Below wc.heap.size wc W → Dt.Six W wr.heap.size 0 x (.slice am x.m.length cm) (.slice al x.l.length c_l) (.slice at_ x.t.length ct)) := fun W hW => Dt.Six.keep hsix ((Keep.refl (fun _ => False) wc).below hW) (block_lt_of_cell hsix.1) id
      obtain ⟨z0, z1, z2, z3, z4, z5⟩ := hsix
      simp only [Nat.zero_add] at z0 z1 z2 z3 z4 z5
      have hrc := (hbc.block R3 hR3l).trans HRR.out
      have c1 : wc.cell? ⟨R3, 1, none⟩ = some (.slice ak k ck) := by rw [Cd.hcell hrc]; rfl
      have HCL : Hid (∀ W, Below wc.heap.size wc W → Calls Try.prog 37 #[.agg #[.int .i64 x.k, .int .i64 x.n, .string x.s, .slice am x.m.length cm, .slice al x.l.length c_l, .slice at_ x.t.length ct]] W fun e w' => Dt.Fresh W.heap.size w' (Dt.clone x) e ∧ Below W.heap.size W w') := fun W hW => dClone_any x _ _ _ W hwf ((hrep.below hbc).below hW)
      have HRC := Lib.hid hrc
      have HBC := Lib.hid hbc
      have HR3L := Lib.hid hR3l
      obtain ⟨y, hy⟩ : ∃ y, y = Dt.clone x := ⟨_, rfl⟩
      rw [← hy] at HCL
      have HTY := Lib.hid (HTK.out y hy)
      have hm1 : k + 1 ≤ maxLen := by unfold maxLen; have := HSM.out.lk; omega
      have hm2 : (k + 1) * 104 ≤ 140737488355328 := by have := HSM.out.lk; omega
      clear hx hrep hwf hbc hrc hy HTK hR3l
      go_wp2_with fail
      clear x0 x1 x2 x3 x4 x5 hwc
      have HBD : Hid (Below wc.heap.size wc wc.drew) := (Below.refl _ wc).drew
      have HOWN : Hid (∀ W, Below wc.heap.size wc W → W.ownsRow (R3 + 1) 55 6 (.slice ak k ck) k (Dt.flatP ps)) := fun W hW => by
        have h := ((HI.out.1.below HBC.out).below hW).row
        rw [hpk] at h
        exact h
      have HPUSH : Hid (∀ (w2 wD w5 : World) (b1 b2 b3 : Option Addr) (m1 m2 m3 p1 p2 p3 : Nat) (v' : Value), Below wc.heap.size wc w2 → Dt.Rep (fun k => wc.heap.size ≤ k) w2 y (.slice b1 m1 p1) (.slice b2 m2 p2) (.slice b3 m3 p3) → Below w2.heap.size w2 wD →
          w5.ownsRow (R3 + 1) 55 6 v' (k + 1) (Dt.flatP ps ++ [.int .i64 y.k, .int .i64 y.n, .string y.s, .slice b1 m1 p1, .slice b2 m2 p2, .slice b3 m3 p3]) → wD.grownBy w5 (Value.slice ak k ck).ownBlock → (v'.ownBlock = (Value.slice ak k ck).ownBlock ∨ v'.ownBlock = some wD.heap.size) →
          w5.cell? ⟨R3, 1, none⟩ = some (.slice ak k ck) ∧ w5.frozen? ⟨R3, 1, none⟩ = false ∧ Hid ((w5.setCell ⟨R3, 1, none⟩ v').heap[R3]? = some (.cells #[.slice none 0 0, v', .slice an p.names.length cn] 26 (0, 0)) ∧ (Dt.Rowing (w5.setCell ⟨R3, 1, none⟩ v') (R3 + 1) v' (ps ++ [Dt.P.mk y (.slice b1 m1 p1) (.slice b2 m2 p2) (.slice b3 m3 p3)]) ∧ (ps ++ [Dt.P.mk y (.slice b1 m1 p1) (.slice b2 m2 p2) (.slice b3 m3 p3)]).map Dt.P.d = (p.consts.take (k + 1)).map Dt.clone) ∧ Below R3 w3 (w5.setCell ⟨R3, 1, none⟩ v'))) := by
        intro w2 wD w5 b1 b2 b3 m1 m2 m3 p1 p2 p3 v' hb2 hr2 hbD hown hgr hat
        have hRow := HI.out.1.below HBC.out
        have hlr := HR3L.out
        have hsc := HBC.out.size
        have s2 := hb2.size
        have sD := hbD.size
        have hvb : ∀ j, (Value.slice ak k ck).ownBlock = some j → R3 + 1 ≤ j ∧ j < wc.heap.size := fun j e => ⟨(hRow.row.lt j e).1, (hRow.row.lt j e).2⟩
        have hown2 : w5.ownsRow (R3 + 1) 55 6 v' (ps.length + 1) (Dt.flatP ps ++ (Dt.P.mk y (.slice b1 m1 p1) (.slice b2 m2 p2) (.slice b3 m3 p3)).cells) := by rw [hpk]; exact hown
        obtain ⟨k1, k2⟩ := hRow.push (by omega) hb2 hr2 hbD hown2 hgr hat
        have h5 : w5.heap[R3]? = some (.cells #[.slice none 0 0, .slice ak k ck, .slice an p.names.length cn] 26 (0, 0)) := (k2.block R3 (by omega) (fun e => by have := hvb R3 e; omega)).trans HRC.out
        have hk6 : Keep (fun j => j = R3) w5 (w5.setCell ⟨R3, 1, none⟩ v') := (Keep.refl (fun j => j = R3) w5).setCell rfl _ _
        refine ⟨by rw [Cd.hcell h5]; rfl, Lib.frozen_of_heap h5 1, ⟨Cd.hset h5, ⟨k1.keep hk6 (fun j hj _ e => by omega), ?_⟩, ?_⟩⟩
        · rw [List.map_append, HI.out.2]
          exact HTY.out
        · have hb35 : Below R3 w3 w5 := (HBR.out.trans (HBC.out.mono (by omega))).trans (k2.to_below (fun j e => by have := hvb j e; omega) (by omega))
          exact hb35.trans (hk6.to_below (fun j e => by omega) (by have := hb35.size; have := HR3.out; omega))
      have HR3B : Hid (∀ W, Below wc.heap.size wc W → W.cell? ⟨R3, 1, none⟩ = some (.slice ak k ck) ∧ R3 + 1 ≤ W.heap.size) := fun W hW => by
        have h := (hW.block R3 (by have := HR3L.out; have := HBC.out.size; omega)).trans HRC.out
        exact ⟨by rw [Cd.hcell h]; rfl, by have := HR3L.out; have := HBC.out.size; have := hW.size; omega⟩
      clear HI HRR HBR HB HB1R
      go_region_law (first | (refine Ap.step rfl (.tmp 20) (.tmp 23) 23 (by kernel_rfl) (R3 + 1) 55 i0 (.agg #[.int .i64 0, .int .i64 0, .string ⟨#[]⟩, .slice none 0 0, .slice none 0 0, .slice none 0 0]) 6 104 Try.underlying23 HI1.out HZ0.out HZ1.out HZ2.out rfl (by decide) (.slice ak k ck) k (Dt.flatP ps) (by kernel_rfl) (HOWN.out wD HBD2.out) (.slice (some ⟨w2.heap.size, 0, none⟩) 1 1) 1 [.int .i64 y.k, .int .i64 y.n, .string y.s, .slice b1 m1 p1, .slice b2 m2 p2, .slice b3 m3 p3] (by kernel_rfl) HSRC.out rfl (by simp [Value.oneCell']) hm1 hm2 HBS.out ?_; intro v' w5 hown hgrow hat; obtain ⟨a5, c5, rfl⟩ := Dt.row_form hown; obtain ⟨d1, f1, HFIN⟩ := HPUSH.out w2 wD w5 b1 b2 b3 m1 m2 m3 p1 p2 p3 _ HB2W.out HR2W.out HBWD.out hown hgrow hat; clear hown hgrow hat) | (go_simp; refine (HCL.out _ HBD.out).mono ?_; rintro e w2 ⟨⟨um, ul, ut, rfl, hr2⟩, hb2⟩; obtain ⟨b1, m1, p1, b2, m2, p2, b3, m3, p3, rfl, rfl, rfl⟩ := hr2.forms; have HB2W : Hid (Below wc.heap.size wc w2) := HBD.out.trans hb2; have HR2W : Hid (Dt.Rep (fun k => wc.heap.size ≤ k) w2 y (.slice b1 m1 p1) (.slice b2 m2 p2) (.slice b3 m3 p3)) := hr2; obtain ⟨wD, hwD⟩ : ∃ wD, w2.alloc (.cells #[.int .i64 y.k, .int .i64 y.n, .string y.s, .slice b1 m1 p1, .slice b2 m2 p2, .slice b3 m3 p3] 55) = wD := ⟨_, rfl⟩; have HBWD : Hid (Below w2.heap.size w2 wD) := (Cd.below_new (Below.refl _ w2) hwD (Nat.le_refl _)).1; have HBD2 : Hid (Below wc.heap.size wc wD) := HB2W.out.trans (HBWD.out.mono HB2W.out.size); have HSRC : Hid (Ap.Src wD (.slice (some ⟨w2.heap.size, 0, none⟩) 1 1) 1 [.int .i64 y.k, .int .i64 y.n, .string y.s, .slice b1 m1 p1, .slice b2 m2 p2, .slice b3 m3 p3]) := Or.inr ⟨_, _, rfl, fun j u h => by { rw [Cd.addr0]; exact Cd.cells_new w2 [.int .i64 y.k, .int .i64 y.n, .string y.s, .slice b1 m1 p1, .slice b2 m2 p2, .slice b3 m3 p3] _ hwD j u h }⟩; obtain ⟨e1, -⟩ := HR3B.out w2 HB2W.out; obtain ⟨e2, hbs⟩ := HR3B.out wD HBD2.out; have HBS := Lib.hid hbs; clear hr2 hb2 hbs; dsimp only))
      all_goals
        go_wp2
        go_roundw
        case rel => exact ⟨k + 1, ps ++ [Dt.P.mk y (.slice b1 m1 p1) (.slice b2 m2 p2) (.slice b3 m3 p3)], a5, c5, by simp, by omega, by rw [List.length_append, hpk]; rfl, HFIN.out.1, HFIN.out.2.1, HFIN.out.2.2⟩
        case measure => simp [intOf]; omega
    · obtain rfl : k = p.consts.length := by omega
      have hge : (p.consts.length : Int) ≤ (p.consts.length : Int) := Int.le_refl _
      obtain ⟨p0, p1, p2⟩ := HBP.out wr HB1R.out
      obtain ⟨m, hm⟩ : ∃ m, wr.heap.size = m := ⟨_, rfl⟩
      have HDS : Hid (Dt.Row (fun j => R3 < j ∧ j < m) wr (.slice ak p.consts.length ck) (p.consts.map Dt.clone)) := by
        have h1 := HI.out.1.to_row
        rw [HI.out.2, List.take_length] at h1
        exact Cd.row_mono h1 (fun j h1 h2 => ⟨by omega, by omega⟩)
      have HI2 : Hid (Cd.CRow wr m (.slice none 0 0) [] ∧ ([] : List (Cd.Code × Value)).map Prod.fst = p.codes.take 0) := ⟨Cd.CRow.nil _ _, by simp⟩
      have HM : Hid (R3 < m) := by show _ < _; omega
      obtain ⟨wm, hwm⟩ : ∃ wm, wm = wr := ⟨_, rfl⟩
      have HKM : Hid (Keep (fun j => j = R3 ∨ m ≤ j) wm wr) := by rw [hwm]; exact Keep.refl _ _
      rw [← hwm] at HDS hm
      have HMM := Lib.hid hm
      obtain ⟨i9, hi, hz0, hz1, hz2⟩ := info_parts Cd.infoCode
      have HJ1 := Lib.hid hi
      have HJZ0 := Lib.hid hz0
      have HJZ1 := Lib.hid hz1
      have HJZ2 := Lib.hid hz2
      clear hlt hge hk hwm hm HI HB HB1R hR3l hpk hi hz0 hz1 hz2
      go_wp2
      clear p0 p1 p2
      go_loopw [30] (fun vi wr => ∃ (k : Nat) (ks : List (Cd.Code × Value)) (ag : Option Addr) (cg : Nat), vi = .int .i64 k ∧ k ≤ p.codes.length ∧ ks.length = k ∧ Hid (wr.heap[R3]? = some (.cells #[.slice ag k cg, .slice ak p.consts.length ck, .slice an p.names.length cn] 26 (0, 0))) ∧ Hid (Cd.CRow wr m (.slice ag k cg) ks ∧ ks.map Prod.fst = p.codes.take k) ∧ Hid (Below R3 w3 wr) ∧ Hid (Keep (fun j => j = R3 ∨ m ≤ j) wm wr)) (fun vi _ => p.codes.length - (intOf vi).toNat)
      case atStart => exact ⟨0, [], none, 0, rfl, by omega, rfl, HRR, HI2, HBR, HKM⟩
      case round =>
        clear HI2 HRR HBR HKM
        obtain ⟨k, ks, ag, cg, rfl, hk, hpk, HRR, HI, HBR, HKM⟩ := hrel
        have HB : Hid (Below w.heap.size w wr) := HB3.out.trans (HBR.out.mono (by have := HS3.out; omega))
        have HB1R : Hid (Below w1.heap.size w1 wr) := HB13.out.trans (HBR.out.mono (by have := HS3.out; have := HS.out.1; omega))
        have hR3l : R3 < wr.heap.size := (Array.getElem?_eq_some_iff.1 HRR.out).1
        have hmw : m ≤ wr.heap.size := by have := HKM.out.size; have := HMM.out; omega
        by_cases hlt : k < p.codes.length
        · have hlti : (k : Int) < (p.codes.length : Int) := by omega
          obtain ⟨b, o, hao, -, -, x0, x1, x2, x3, vi, x4, hins⟩ := Cd.code_at (HP.out.below HB.out).codes k hlt
          cases hao
          obtain ⟨ai, ci, rfl⟩ := hins.form
          have HTK : Hid (∀ d, d = p.codes[k] → p.codes.take k ++ [d] = p.codes.take (k + 1)) := fun d hd => by rw [hd, List.take_succ_eq_append_getElem hlt]
          have hll := HSM.out.li p.codes[k] (List.getElem_mem hlt)
          obtain ⟨c, hc⟩ : ∃ c, c = p.codes[k] := ⟨_, rfl⟩
          rw [← hc] at x0 x1 x2 x3 x4 hins hll
          have HTC := Lib.hid (HTK.out c hc)
          obtain ⟨wc, hwc⟩ : ∃ wc, wr.alloc (.cells #[.int .i64 c.params, .int .i64 c.rest, .int .i64 c.caps, .int .i64 c.max, .slice ai c.ins.length ci] 39) = wc := ⟨_, rfl⟩
          obtain ⟨hbc, hsc, hbcc⟩ := Cd.boxC hwc
          obtain ⟨q0, q1, q2, q3, q4⟩ := hbcc wc (Below.refl _ _)
          have hD := Cd.box_heap hwc
          have hcl := insClone_any _ c.ins wc (hins.below hbc) hll
          have HBC := Lib.hid hbc
          have HSC : Hid (wc.heap.size = wr.heap.size + 1) := hsc
          have HDD := Lib.hid hD
          have HRC := Lib.hid ((hbc.block R3 hR3l).trans HRR.out)
          have HSZ : Hid (R3 < wr.heap.size ∧ m ≤ wr.heap.size) := ⟨hR3l, hmw⟩
          have hm1 : k + 1 ≤ maxLen := by unfold maxLen; have := HSM.out.lc; omega
          have hm2 : (k + 1) * 56 ≤ 140737488355328 := by have := HSM.out.lc; omega
          obtain ⟨D, hDe⟩ : ∃ D, wr.heap.size = D := ⟨_, rfl⟩
          have HDE := Lib.hid hDe
          rw [hDe] at q0 q1 q2 q3 q4 HDD
          clear hc HTK hins hll hbc hsc hbcc hD hR3l hmw
          go_wp2_with (go_at_call 38; refine hcl.mono ?_; clear hcl hwc x0 x1 x2 x3 x4 q0 q1 q2 q3 q4; rintro e w5 ⟨v', rfl, hown5, hb5⟩; refine Hid.out ?_)
          refine Lib.hid ?_
          obtain ⟨a', c', rfl⟩ := Dt.row_form hown5
          have hD5 := (hb5.block D (by have := HSC.out; omega)).trans HDD.out
          have d4 : w5.cell? ⟨D, 4, none⟩ = some (.slice ai c.ins.length ci) := by rw [Cd.hcell hD5]; rfl
          have f4 : w5.frozen? ⟨D, 4, none⟩ = false := Lib.frozen_of_heap hD5 4
          obtain ⟨w6, hw6⟩ : ∃ w6, w5.setCell ⟨D, 4, none⟩ (.slice a' c.ins.length c') = w6 := ⟨_, rfl⟩
          have hk56 : Keep (fun j => j = D) w5 w6 := by rw [← hw6]; exact (Keep.refl (fun j => j = D) w5).setCell rfl _ _
          have hD6 : w6.heap[D]? = some (.cells #[.int .i64 c.params, .int .i64 c.rest, .int .i64 c.caps, .int .i64 c.max, .slice a' c.ins.length c'] 39 (0, 0)) := by rw [← hw6]; exact Cd.hset hD5
          have hb56 : Below wr.heap.size wr w6 := (HBC.out.trans (hb5.mono HBC.out.size)).trans (hk56.to_below (fun j e => by omega) (by have := hb5.size; have := HBC.out.size; omega))
          have hown6 : w6.ownsRow wr.heap.size 41 3 (.slice a' c.ins.length c') c.ins.length (Cd.flatI c.ins) := Cd.own_base (Cd.own_keep hown5 hk56 (fun j e => by have := (hown5.lt j e).1; have := HSC.out; omega)) HBC.out.size
          have hR6 := (hk56.block R3 (by have := HSZ.out.1; have := hb5.size; have := HSC.out; omega) (by have := HSZ.out.1; omega)).trans ((hb5.block R3 (by have := HSZ.out.1; have := HSC.out; omega)).trans HRC.out)
          have r0 : w6.cell? ⟨R3, 0, none⟩ = some (.slice ag k cg) := by rw [Cd.hcell hR6]; rfl
          have q0 : w6.cell? ⟨D, 0, none⟩ = some (.int .i64 c.params) := by rw [Cd.hcell hD6]; rfl
          have q1 : w6.cell? ⟨D, 1, none⟩ = some (.int .i64 c.rest) := by rw [Cd.hcell hD6]; rfl
          have q2 : w6.cell? ⟨D, 2, none⟩ = some (.int .i64 c.caps) := by rw [Cd.hcell hD6]; rfl
          have q3 : w6.cell? ⟨D, 3, none⟩ = some (.int .i64 c.max) := by rw [Cd.hcell hD6]; rfl
          have q4 : w6.cell? ⟨D, 4, none⟩ = some (.slice a' c.ins.length c') := by rw [Cd.hcell hD6]; rfl
          obtain ⟨w7, hw7⟩ : ∃ w7, w6.alloc (.cells #[.int .i64 c.params, .int .i64 c.rest, .int .i64 c.caps, .int .i64 c.max, .slice a' c.ins.length c'] 39) = w7 := ⟨_, rfl⟩
          obtain ⟨hb7, hs7⟩ := Cd.below_new (Below.refl _ w6) hw7 (Nat.le_refl _)
          have hcr7 := ((HI.out.1.below hb56).below hb7).row
          rw [hpk] at hcr7
          have hsrc : Ap.Src w7 (.slice (some ⟨w6.heap.size, 0, none⟩) 1 1) 1 [.int .i64 c.params, .int .i64 c.rest, .int .i64 c.caps, .int .i64 c.max, .slice a' c.ins.length c'] := .inr ⟨_, _, rfl, fun j u h => by rw [Cd.addr0]; exact Cd.cells_new w6 [.int .i64 c.params, .int .i64 c.rest, .int .i64 c.caps, .int .i64 c.max, .slice a' c.ins.length c'] _ hw7 j u h⟩
          have hbs7 : m ≤ w7.heap.size := by have := HSZ.out.2; have := hb56.size; omega
          have HB56 := Lib.hid hb56
          have HOWN6 := Lib.hid hown6
          have HB7 := Lib.hid hb7
          have HR6 := Lib.hid hR6
          clear hown5 hb5 hD5 hk56 hD6 hb56 hown6 hb7 hs7 hR6
          go_wp2_with (at_builtin; refine Ap.list rfl _ _ 22 rfl m 39 i9 (.agg #[.int .i64 0, .int .i64 0, .int .i64 0, .int .i64 0, .slice none 0 0]) 5 56 Try.underlying22 HJ1.out HJZ0.out HJZ1.out HJZ2.out rfl (by decide) (.slice ag k cg) k (Cd.flatK ks) rfl hcr7 (.slice (some ⟨w6.heap.size, 0, none⟩) 1 1) 1 [.int .i64 c.params, .int .i64 c.rest, .int .i64 c.caps, .int .i64 c.max, .slice a' c.ins.length c'] rfl hsrc rfl (by simp [Value.oneCell']) hm1 hm2 hbs7 ?_)
          intro v8 w8 hown8 hgr8 hat8
          obtain ⟨a8, c8, rfl⟩ := Dt.row_form hown8
          have hvb : ∀ j, (Value.slice ag k cg).ownBlock = some j → m ≤ j ∧ j < wr.heap.size := fun j e => (HI.out.1.row.lt j e)
          have hcr8 := HI.out.1.push HSZ.out.2 HB56.out HOWN6.out HB7.out (by rw [hpk]; exact hown8) hgr8 hat8
          have hk78 := Cd.keep_grown hgr8
          have hs67 := HB7.out.size
          have hsr6 := HB56.out.size
          have hR8 := (hk78.block R3 (by have := HSZ.out.1; omega) (fun e => by have := hvb R3 e; have := HM.out; omega)).trans ((HB7.out.block R3 (by have := HSZ.out.1; omega)).trans HR6.out)
          have r8 : w8.cell? ⟨R3, 0, none⟩ = some (.slice ag k cg) := by rw [Cd.hcell hR8]; rfl
          have f8 : w8.frozen? ⟨R3, 0, none⟩ = false := Lib.frozen_of_heap hR8 0
          obtain ⟨w9, hw9⟩ : ∃ w9, w8.setCell ⟨R3, 0, none⟩ (.slice a8 (k + 1) c8) = w9 := ⟨_, rfl⟩
          have hk89 : Keep (fun j => j = R3) w8 w9 := by rw [← hw9]; exact (Keep.refl (fun j => j = R3) w8).setCell rfl _ _
          have HR9 : Hid (w9.heap[R3]? = some (.cells #[.slice a8 (k + 1) c8, .slice ak p.consts.length ck, .slice an p.names.length cn] 26 (0, 0))) := by show _ = _; rw [← hw9]; exact Cd.hset hR8
          have HC9 : Hid (Cd.CRow w9 m (.slice a8 (k + 1) c8) (ks ++ [(c, .slice a' c.ins.length c')]) ∧ (ks ++ [(c, Value.slice a' c.ins.length c')]).map Prod.fst = p.codes.take (k + 1)) := by
            refine ⟨hcr8.keep hk89 (fun j hj e => by have := HM.out; omega), ?_⟩
            rw [List.map_append, HI.out.2]
            exact HTC.out
          have hkr8 : Keep (fun j => m ≤ j) wr w8 := (((Keep.refl (fun j => m ≤ j) wr).below HB56.out).below HB7.out).trans (hk78.mono (fun j _ e => (hvb j e).1))
          have HK9 : Hid (Keep (fun j => j = R3 ∨ m ≤ j) wm w9) := (HKM.out.trans (hkr8.mono (fun j _ e => .inr e))).trans (hk89.mono (fun j _ e => .inl e))
          have HB9 : Hid (Below R3 w3 w9) := (HBR.out.trans (hkr8.to_below (fun j e => by have := HM.out; omega) (by have := HSZ.out.1; omega))).trans (hk89.to_below (fun j e => by omega) (by have := HSZ.out.1; have := hkr8.size; omega))
          clear hown8 hgr8 hat8 hvb hcr8 hk78 hR8 hk89 hkr8 hsrc hcr7 hbs7 d4 f4 r0 q0 q1 q2 q3 q4 hw6 hw7
          go_wp2
          go_roundw
          case rel => exact ⟨k + 1, ks ++ [(c, .slice a' c.ins.length c')], a8, c8, by simp, by omega, by rw [List.length_append, hpk]; rfl, HR9, HC9, HB9, HK9⟩
          case measure => simp [intOf]; omega
        · obtain rfl : k = p.codes.length := by omega
          have hge : (p.codes.length : Int) ≤ (p.codes.length : Int) := Int.le_refl _
          have r0 : wr.cell? ⟨R3, 0, none⟩ = some (.slice ag p.codes.length cg) := by rw [Cd.hcell HRR.out]; rfl
          have r1 : wr.cell? ⟨R3, 1, none⟩ = some (.slice ak p.consts.length ck) := by rw [Cd.hcell HRR.out]; rfl
          have r2 : wr.cell? ⟨R3, 2, none⟩ = some (.slice an p.names.length cn) := by rw [Cd.hcell HRR.out]; rfl
          obtain ⟨B2, hB2⟩ : ∃ B2, w1.heap.size = B2 := ⟨_, rfl⟩
          have hlB : B2 < R3 := by have := HS.out.1; have := HS3.out; omega
          have hBR : wr.heap[B2]? = some (.cells #[.slice none 0 0, .slice none 0 0, .slice none 0 0] 26 (0, 0)) := (HBR.out.block B2 hlB).trans (hB2 ▸ HR2W.out)
          have b0 : wr.cell? ⟨B2, 0, none⟩ = some (.slice none 0 0) := by rw [Cd.hcell hBR]; rfl
          have b1 : wr.cell? ⟨B2, 1, none⟩ = some (.slice none 0 0) := by rw [Cd.hcell hBR]; rfl
          have b2 : wr.cell? ⟨B2, 2, none⟩ = some (.slice none 0 0) := by rw [Cd.hcell hBR]; rfl
          have f0 : wr.frozen? ⟨B2, 0, none⟩ = false := Lib.frozen_of_heap hBR 0
          have f1 : wr.frozen? ⟨B2, 1, none⟩ = false := Lib.frozen_of_heap hBR 1
          have f2 : wr.frozen? ⟨B2, 2, none⟩ = false := Lib.frozen_of_heap hBR 2
          obtain ⟨wF, hwF⟩ : ∃ wF, ((wr.setCell ⟨B2, 0, none⟩ (.slice ag p.codes.length cg)).setCell ⟨B2, 1, none⟩ (.slice ak p.consts.length ck)).setCell ⟨B2, 2, none⟩ (.slice an p.names.length cn) = wF := ⟨_, rfl⟩
          have hkF : Keep (fun j => j = B2) wr wF := by
            rw [← hwF]
            exact (((Keep.refl (fun j => j = B2) wr).setCell rfl 0 _).setCell rfl 1 _).setCell rfl 2 _
          have hBF : wF.heap[B2]? = some (.cells #[.slice ag p.codes.length cg, .slice ak p.consts.length ck, .slice an p.names.length cn] 26 (0, 0)) := by
            rw [← hwF]
            exact Cd.hset (Cd.hset (Cd.hset hBR))
          have z0 : wF.cell? ⟨B2, 0, none⟩ = some (.slice ag p.codes.length cg) := by rw [Cd.hcell hBF]; rfl
          have z1 : wF.cell? ⟨B2, 1, none⟩ = some (.slice ak p.consts.length ck) := by rw [Cd.hcell hBF]; rfl
          have z2 : wF.cell? ⟨B2, 2, none⟩ = some (.slice an p.names.length cn) := by rw [Cd.hcell hBF]; rfl
          have HOWN : Hid (Cd.Own wF w.heap.size m (.slice ag p.codes.length cg) (.slice ak p.consts.length ck) (.slice an p.names.length cn) ks (p.consts.map Dt.clone) p.names) := by
            have hs3 := HS3.out
            have hmm := HM.out
            have hw3m : w3.heap.size = R3 := HR3.out
            refine ⟨by omega, HI.out.1.keep hkF (fun j hj e => by omega), ?_, ?_, ?_⟩
            · have h1 := (HDS.out.keep HKM.out (fun j hj _ e => by omega)).keep hkF (fun j hj _ e => by omega)
              exact Cd.row_mono h1 (fun j hj _ => ⟨by omega, hj.2⟩)
            · have h1 := (HN3.out.keep (S := fun j => R3 ≤ j) ⟨HBR.out.os, HBR.out.tape, HBR.out.output, HBR.out.size, fun j _ hn => HBR.out.block j (by omega)⟩ (fun j hj _ e => by omega)).keep hkF (fun j hj _ e => by have := HS.out.1; omega)
              exact Cd.nrow_mono h1 (fun j hj _ => ⟨by omega, by omega⟩)
            · exact ⟨Cd.own_keep (Cd.own_keep (S := fun j => R3 ≤ j) HN4.out.1 ⟨HBR.out.os, HBR.out.tape, HBR.out.output, HBR.out.size, fun j _ hn => HBR.out.block j (by omega)⟩ (fun j e e2 => by have := HN4.out.2 j e; omega)) hkF (fun j e e2 => by have := HN4.out.2 j e; have := HS.out.1; omega), fun j e => by have := HN4.out.2 j e; omega⟩
          have HFST : Hid (ks.map Prod.fst = p.codes) := by show _ = _; rw [HI.out.2, List.take_length]
          have HBF : Hid (Below w.heap.size w wF) := HB.out.trans (hkF.to_below (fun j e => by have := HS.out.1; omega) HB.out.size)
          clear hBR hkF hBF hlB hk hlt hpk hR3l hmw
          go_wp2
          exact bodyPost_ret (v := .agg #[.slice ag p.codes.length cg, .slice ak p.consts.length ck, .slice an p.names.length cn]) (by simp [results, Try.results15, go_sem, hB2, z0, z1, z2]) rfl ⟨m, _, _, _, ks, rfl, HOWN.out, HFST.out, HBF.out⟩
end Go.Proofs.Ytlckjphnbfahgaa
