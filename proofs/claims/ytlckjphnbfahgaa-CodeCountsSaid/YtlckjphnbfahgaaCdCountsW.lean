/-
  CodeCounts: the walk.
-/
import Derived.Test.YtlckjphnbfahgaaCdAwakeM
import Derived.Test.YtlckjphnbfahgaaCdFew
import Derived.Test.YtlckjphnbfahgaaCdCloneW
import Derived.Test.YtlckjphnbfahgaaCdCountsP
import Derived.Deep.Draws
import Derived.Deep.RegionHeld3
import Derived.Deep.DeepCutAuto
import Derived.Deep.Cut
namespace Go.Proofs.Ytlckjphnbfahgaa
open Go.RowKit
attribute [local go_sem] Oper.semAt_some
namespace Cd
theorem Own.rep {w : World} {base m : Nat} {vc vk vn : Value} {ks : List (Code × Value)} {l : List Dt.D} {ns : List ByteArray} (h : Own w base m vc vk vn ks l ns) : PRep (fun _ => True) w ⟨ks.map Prod.fst, l, ns⟩ vc vk vn :=
  ⟨h.cs.codes (fun _ _ => trivial), row_mono h.ds (fun _ _ _ => trivial), nrow_mono h.nm (fun _ _ _ => trivial)⟩
theorem Own.below {w w' : World} {base m : Nat} {vc vk vn : Value} {ks : List (Code × Value)} {l : List Dt.D} {ns : List ByteArray} (h : Own w base m vc vk vn ks l ns) (hb : Below w.heap.size w w') : Own w' base m vc vk vn ks l ns :=
  ⟨h.le, h.cs.below hb, h.ds.below hb, h.nm.below hb⟩
theorem Own.keep {S : Nat → Prop} {w w' : World} {base m : Nat} {vc vk vn : Value} {ks : List (Code × Value)} {l : List Dt.D} {ns : List ByteArray} (h : Own w base m vc vk vn ks l ns) (hk : Keep S w w') (hS : ∀ j, base ≤ j → j < w.heap.size → ¬ S j) : Own w' base m vc vk vn ks l ns := by
  have h1 := h.le
  refine ⟨h.le, ⟨own_keep h.cs.row hk (fun k e => hS k (by have := (h.cs.row.lt k e).1; omega) (h.cs.row.lt k e).2), fun j hj => own_keep (h.cs.ins j hj) hk (fun k e => hS k (by have := ((h.cs.ins j hj).lt k e).1; omega) ((h.cs.ins j hj).lt k e).2), h.cs.ne, h.cs.dj⟩, h.ds.keep hk (fun j hj hl => hS j hj.1 hl), h.nm.keep hk (fun j hj hl => hS j hj.1 hl)⟩
theorem wf_set {p : Prog} {i : Nat} {c : Code} (h : PWf p) (hc : CWf c) : PWf (setC p i c) := by
  refine ⟨by show (p.codes.set i c).length ≤ _; rw [List.length_set]; exact h.lc, h.lk, h.ln, h.wk, h.wn, fun d hd => ?_⟩
  rcases List.mem_or_eq_of_mem_set hd with hd | rfl
  · exact h.wc d hd
  · exact hc
theorem sl_form {F : Nat → Prop} {w : World} {v : Value} {l : List Dt.D} (h : Dt.Row F w v l) : ∃ a c, v = .slice a l.length c := by
  obtain ⟨a, c, e, -⟩ := h
  exact ⟨a, c, e⟩
theorem nm_form {F : Nat → Prop} {w : World} {v : Value} {l : List ByteArray} (h : NameRow F w v l) : ∃ a c, v = .slice a l.length c := by
  obtain ⟨a, c, e, -⟩ := h
  exact ⟨a, c, e⟩
end Cd
set_option maxRecDepth 100000 in
set_option maxHeartbeats 16000000 in
theorem CodeCounts_walk {F : Nat → Prop} (p : Cd.Prog) (vc vk vn : Value) (k : Nat) (by_ : Int) (x : Cd.Ins) (w : World) (hp : Cd.PRep F w p vc vk vn) (hw : Cd.PWf p) (hk : k < 256) (hby : -128 ≤ by_ ∧ by_ ≤ 127) (hx : Cd.I64 x.o ∧ Cd.I64 x.a ∧ Cd.I64 x.b) :
    Calls Try.prog 5 #[.agg #[vc, vk, vn], .int .u8 k, .int .i8 by_, .agg #[.int .i64 x.o, .int .i64 x.a, .int .i64 x.b]] w fun e w' => e = .returned (.bool true) ∧ Below w.heap.size w w' := by
  obtain ⟨a1, c1, a2, c2, a3, c3, rfl, rfl, rfl⟩ := hp.forms
  obtain ⟨w0, hw0⟩ : ∃ w0, w.alloc (.cells #[.slice a1 p.codes.length c1, .slice a2 p.consts.length c2, .slice a3 p.names.length c3] 26) = w0 := ⟨_, rfl⟩
  obtain ⟨hb0, hs0, hbp0⟩ := Cd.boxP hw0
  obtain ⟨w1, hw1⟩ : ∃ w1, w0.alloc (.cells #[.int .i64 x.o, .int .i64 x.a, .int .i64 x.b] 41) = w1 := ⟨_, rfl⟩
  obtain ⟨hb1, hs1⟩ := Cd.below_new (Below.refl _ w0) hw1 (Nat.le_refl _)
  have hX := Cd.InsAt.new hw1
  rw [hs0] at hX
  have haw := awake_any w1
  have HP := Lib.hid hp
  have HW := Lib.hid hw
  have HB1 : Hid (Below w.heap.size w w1) := hb0.trans (hb1.mono hb0.size)
  have HS1 : Hid (w1.heap.size = w.heap.size + 2) := by show _ = _; omega
  have HBP : Hid (∀ W, Below w1.heap.size w1 W → W.cell? ⟨w.heap.size, 0, none⟩ = some (.slice a1 p.codes.length c1) ∧ W.cell? ⟨w.heap.size, 1, none⟩ = some (.slice a2 p.consts.length c2) ∧ W.cell? ⟨w.heap.size, 2, none⟩ = some (.slice a3 p.names.length c3)) := fun W hW => hbp0 W (hb1.trans (hW.mono hb1.size))
  have HX := Lib.hid hX
  have HXX := Lib.hid hx
  clear hp hw hb0 hbp0 hb1 hs1 hX hx
  go_enter Try.func5, Try.ntmps5
  go_wp2_with (first | (go_at_call 7; refine haw.mono ?_; clear haw hw0 hw1 hs0; rintro e w2 ⟨rfl, hb2⟩; obtain ⟨p0, p1, p2⟩ := HBP.out w2 hb2; have HB2 : Hid (Below w.heap.size w w2) := HB1.out.trans (hb2.mono HB1.out.size); have HB12 := Lib.hid hb2; have hfew := few_any p _ _ _ w2 (HP.out.below HB2.out) HW.out; clear hb2) | (go_at_call 8; refine hfew.mono ?_; clear hfew p0 p1 p2; rintro e w3 ⟨⟨fb, rfl⟩, hb3⟩; refine Hid.out ?_))
  refine Lib.hid ?_
  have HB13 : Hid (Below w1.heap.size w1 w3) := HB12.out.trans (hb3.mono HB12.out.size)
  have HB3 : Hid (Below w.heap.size w w3) := HB2.out.trans (hb3.mono HB2.out.size)
  clear hb3 HB12 HB2
  cases fb with
  | false =>
    have haw := awake_any w3
    go_wp2_with (go_at_call 7; refine haw.mono ?_; clear haw; rintro e w4 ⟨rfl, hb4⟩)
    go_ret
    exact ⟨rfl, HB3.out.trans (hb4.mono HB3.out.size)⟩
  | true =>
    obtain ⟨p0, p1, p2⟩ := HBP.out w3 HB13.out
    have hck := check_any p _ _ _ w3 (HP.out.below HB3.out) HW.out
    rcases Cd.check_is p with h0 | h0
    case inr =>
      rw [h0] at hck
      go_wp2_with (first | (go_at_call 11; refine hck.mono ?_; clear hck p0 p1 p2; rintro e w4 ⟨rfl, hb4⟩; have haw := awake_any w4; have HB4 : Hid (Below w.heap.size w w4) := HB3.out.trans (hb4.mono HB3.out.size); clear hb4) | (go_at_call 7; refine haw.mono ?_; clear haw; rintro e w5 ⟨rfl, hb5⟩))
      go_ret
      exact ⟨rfl, HB4.out.trans (hb5.mono HB4.out.size)⟩
    case inl =>
      rw [h0] at hck
      obtain ⟨hne, hlc, hgood⟩ := Cd.check_codes h0
      obtain ⟨hs1, hs2, hs3, hs4⟩ := Cd.check_small h0
      have hcp : 0 < p.codes.length := List.length_pos_iff.2 hne
      have hkm : k % p.codes.length < p.codes.length := Nat.mod_lt _ hcp
      obtain ⟨q, hq⟩ : ∃ q, k % p.codes.length = q := ⟨_, rfl⟩
      rw [hq] at hkm
      have hgq := Cd.good_good (hgood p.codes[q] (List.getElem_mem hkm))
      have hgmax := hgq.max
      obtain ⟨fin, hways⟩ := hgq.ways hgood
      have hgmax0 := hways.max.1
      have hcwf := HW.out.wc p.codes[q] (List.getElem_mem hkm)
      have HMORE := Lib.hid (Cd.counts_more hkm h0 x)
      have HMAX := Lib.hid (Cd.counts_max hkm h0)
      have HSAME := Lib.hid (Cd.setC_same hkm)
      have HCLS := Lib.hid (Cd.clone_same h0)
      have HSM : Hid (Cd.Small p) := ⟨by omega, by omega, by omega, hs4⟩
      have HCQ : Hid (p.codes[q]? = some p.codes[q]) := List.getElem?_eq_getElem hkm
      obtain ⟨c, hc⟩ : ∃ c, p.codes[q] = c := ⟨_, rfl⟩
      rw [hc] at hgmax hgmax0 hcwf HMORE HMAX HSAME HCQ
      have hcl := hgq.len
      rw [hc] at hcl
      have hcpi : (0 : Int) < (p.codes.length : Int) := by omega
      have hqi : (q : Int) < (p.codes.length : Int) := by omega
      have hq0 : (0 : Int) ≤ (q : Int) := by omega
      have hk0 : (0 : Int) ≤ (k : Int) := by omega
      have hk256 : (k : Int) < 256 := by omega
      have hmod : (k : Int) % (p.codes.length : Int) = (q : Int) := by rw [← hq]; exact (Int.natCast_emod k p.codes.length).symm
      have HCWF := Lib.hid hcwf
      have HH0 := Lib.hid h0
      clear hne hgood hs1 hs2 hs3 hs4 hcp hq hgq hways hc hcwf h0 hlc
      go_upto_region 4 with (go_at_call 11; refine hck.mono ?_; clear hck p0 p1 p2; rintro e w4 ⟨rfl, hb4⟩; have HB4 : Hid (Below w.heap.size w w4) := HB3.out.trans (hb4.mono HB3.out.size); have HB14 : Hid (Below w1.heap.size w1 w4) := HB13.out.trans (hb4.mono HB13.out.size); obtain ⟨p0, p1, p2⟩ := HBP.out w4 HB14.out; clear hb4)
      have hcn := clone_any p _ _ _ w4 (HP.out.below HB4.out) HW.out HSM.out
      go_wp2_with (go_at_call 15; refine hcn.mono ?_; clear hcn p0 p1 p2; rintro e w5 ⟨m, vc', vk', vn', ks, rfl, hown, hfst, hb5⟩; refine Hid.out ?_)
      refine Lib.hid ?_
      have hkl : ks.length = p.codes.length := by rw [← hfst, List.length_map]
      obtain ⟨g, cap, rfl, hmg, hgl, hfg⟩ := hown.cs.form (by intro e; rw [e] at hkl; simp at hkl; omega)
      obtain ⟨bk, dk, rfl⟩ := Cd.sl_form hown.ds
      obtain ⟨bn, dn, rfl⟩ := Cd.nm_form hown.nm
      rw [HCLS.out] at hown ⊢
      rw [hkl] at hown ⊢
      obtain ⟨w6, hw6⟩ : ∃ w6, w5.alloc (.cells #[.slice (some ⟨g, 0, none⟩) p.codes.length cap, .slice bk p.consts.length dk, .slice bn p.names.length dn] 26) = w6 := ⟨_, rfl⟩
      obtain ⟨hb6, hs6, hbq⟩ := Cd.boxP hw6
      obtain ⟨z0, z1, z2⟩ := hbq w6 (Below.refl _ _)
      have hown6 := hown.below hb6
      have HB5 : Hid (Below w.heap.size w w5) := HB4.out.trans (hb5.mono HB4.out.size)
      have HB6 : Hid (Below w.heap.size w w6) := HB5.out.trans (hb6.mono HB5.out.size)
      have HB16 : Hid (Below w1.heap.size w1 w6) := HB14.out.trans ((hb5.trans (hb6.mono hb5.size)).mono HB14.out.size)
      have hQ6 := Cd.box_heap hw6
      have hf6 : w6.frozen? ⟨g, q * 5 + 3, none⟩ = false := (((Keep.refl (fun _ => False) w5).below hb6).frozen (q * 5 + 3) hgl id).trans (hfg _)
      obtain ⟨Q, hQ⟩ : ∃ Q, w5.heap.size = Q := ⟨_, rfl⟩
      rw [hQ] at z0 z1 z2 hQ6 hgl hs6
      obtain ⟨p0, p1, p2⟩ := HBP.out w6 HB16.out
      have hcodes : ∀ j, (hj : j < ks.length) → ks[j].1 = p.codes[j]'(by omega) := fun j hj => by
        have : (ks.map Prod.fst)[j]'(by rw [List.length_map]; exact hj) = p.codes[j]'(by omega) := by simp only [hfst]
        rw [List.getElem_map] at this
        exact this
      have hq2 : q < ks.length := by omega
      have hkq : ks[q].1 = c := by
        have h1 := hcodes q hq2
        have h2 := HCQ.out
        rw [List.getElem?_eq_getElem (by omega)] at h2
        rw [h1]
        exact Option.some.inj h2
      have hrep6 := hown6.rep
      obtain ⟨b', o', e', -, -, -, -, -, m3, vi, m4, -⟩ := Cd.code_at hrep6.codes q (by rw [List.length_map]; omega)
      cases e'
      rw [List.getElem_map, hkq, Nat.zero_add] at m3
      go_upto_region 8 with fail
      obtain ⟨w7, hw7⟩ : ∃ w7, w6.setCell ⟨g, q * 5 + 3, none⟩ (.int .i64 (c.max + by_)) = w7 := ⟨_, rfl⟩
      have hcr7 := Cd.CRow.setMax (by rw [hkl]; exact hown6.cs) hq2 (c.max + by_)
      rw [hw7, hkl, hkq] at hcr7
      rw [hw7]
      have hk67 : Keep (fun j => j = g) w6 w7 := by rw [← hw7]; exact (Keep.refl (fun j => j = g) w6).setCell rfl _ _
      have hrep7 : Cd.PRep (fun _ => True) w7 (Cd.setC p q { c with max := c.max + by_ }) (.slice (some ⟨g, 0, none⟩) p.codes.length cap) (.slice bk p.consts.length dk) (.slice bn p.names.length dn) := by
        refine ⟨?_, Cd.row_mono (hown6.ds.keep hk67 (fun j hj _ e => by omega)) (fun _ _ _ => trivial), Cd.nrow_mono (hown6.nm.keep hk67 (fun j hj _ e => by omega)) (fun _ _ _ => trivial)⟩
        have h1 := hcr7.codes (F := fun _ => True) (fun _ _ => trivial)
        rw [List.map_set, hfst] at h1
        exact h1
      have hwf7 : Cd.PWf (Cd.setC p q { c with max := c.max + by_ }) := Cd.wf_set HW.out ⟨HCWF.out.1, HCWF.out.2.1, HCWF.out.2.2.1, (by unfold Cd.I64; show _ ≤ c.max + by_ ∧ c.max + by_ ≤ _; omega), HCWF.out.2.2.2.2⟩
      have hck7 := check_any _ _ _ _ w7 hrep7 hwf7
      obtain ⟨R7, hR7⟩ : ∃ R7, Cd.checkP (Cd.setC p q { c with max := c.max + by_ }) = R7 := ⟨_, rfl⟩
      rw [hR7] at hck7
      have hRB : (R7 == 0) = (by_ == 0) := by
        by_cases e : by_ = 0
        · subst e
          rw [Int.add_zero, HSAME.out, HH0.out] at hR7
          rw [← hR7]
        · rw [HMAX.out _ (by omega)] at hR7
          rw [← hR7]
          exact (beq_eq_false_iff_ne.2 e).symm
      obtain ⟨B, hB⟩ : ∃ B, (by_ == 0) = B := ⟨_, rfl⟩
      rw [hB] at hRB
      have hk := hk67
      have y0 := (hk.cell 0 (by omega) (by omega : ¬ Q = g)).trans z0
      have y1 := (hk.cell 1 (by omega) (by omega : ¬ Q = g)).trans z1
      have y2 := (hk.cell 2 (by omega) (by omega : ¬ Q = g)).trans z2
      have HQ7 : Hid (w7.heap[Q]? = some (.cells #[.slice (some ⟨g, 0, none⟩) p.codes.length cap, .slice bk p.consts.length dk, .slice bn p.names.length dn] 26 (0, 0))) := (hk.block Q (by omega) (by omega : ¬ Q = g)).trans hQ6
      have hwg : w.heap.size + 2 ≤ g := by have h1 := hown6.le; have h2 := HB4.out.size; have h3 := HS1.out; have h4 := HB14.out.size; omega
      have HB7 : Hid (Below w.heap.size w w7) := HB6.out.trans (hk.to_below (fun j e => by omega) HB6.out.size)
      have HB17 : Hid (Below w1.heap.size w1 w7) := HB16.out.trans (hk.to_below (fun j e => by have := HS1.out; omega) HB16.out.size)
      have hQl : Q < w7.heap.size := by have := hk.size; omega
      have HQL : Hid (Q < w7.heap.size ∧ w.heap.size + 2 ≤ Q) := ⟨hQl, by omega⟩
      clear hw7 hcr7 hk67 hk hrep7 hwf7 hR7 hown hown6 hb5 hb6 hbq hw6 hs6 hQ hQ6 hrep6 m3 m4 hf6 hkq hq2 hcodes hkl hfst hmg hgl hfg z0 z1 z2 p0 p1 p2 hwg hQl
      go_upto_region 10 with (go_at_call 11; refine hck7.mono ?_; clear hck7 y0 y1 y2; rintro e w8 ⟨rfl, hb8⟩; have HB8 := Lib.hid hb8; clear hb8)
      clear hRB hB
      have HB08 : Hid (Below w.heap.size w w8) := HB7.out.trans (HB8.out.mono HB7.out.size)
      have HB18 : Hid (Below w1.heap.size w1 w8) := HB17.out.trans (HB8.out.mono HB17.out.size)
      have HQ8 := Lib.hid ((HB8.out.block Q HQL.out.1).trans HQ7.out)
      obtain ⟨p0, p1, p2⟩ := HBP.out w8 HB18.out
      have hcn := clone_any p _ _ _ w8 (HP.out.below HB08.out) HW.out HSM.out
      go_wp2_with (go_at_call 15; refine hcn.mono ?_; clear hcn p0 p1 p2; rintro e w9 ⟨m2, vc2, vk2, vn2, ks2, rfl, hown, hfst, hb9⟩; refine Hid.out ?_)
      refine Lib.hid ?_
      have hkl : ks2.length = p.codes.length := by rw [← hfst, List.length_map]
      obtain ⟨g2, cap2, rfl, hmg, hgl, hfg⟩ := hown.cs.form (by intro e; rw [e] at hkl; simp at hkl; omega)
      obtain ⟨bk2, dk2, rfl⟩ := Cd.sl_form hown.ds
      obtain ⟨bn2, dn2, rfl⟩ := Cd.nm_form hown.nm
      rw [HCLS.out] at hown ⊢
      rw [hkl] at hown ⊢
      have hQ9 := (hb9.block Q (by have := HQL.out.1; have := HB8.out.size; omega)).trans HQ8.out
      have z0 : w9.cell? ⟨Q, 0, none⟩ = some (.slice (some ⟨g, 0, none⟩) p.codes.length cap) := by rw [Cd.hcell hQ9]; rfl
      have z1 : w9.cell? ⟨Q, 1, none⟩ = some (.slice bk p.consts.length dk) := by rw [Cd.hcell hQ9]; rfl
      have z2 : w9.cell? ⟨Q, 2, none⟩ = some (.slice bn p.names.length dn) := by rw [Cd.hcell hQ9]; rfl
      have f0 : w9.frozen? ⟨Q, 0, none⟩ = false := Lib.frozen_of_heap hQ9 0
      have f1 : w9.frozen? ⟨Q, 1, none⟩ = false := Lib.frozen_of_heap hQ9 1
      have f2 : w9.frozen? ⟨Q, 2, none⟩ = false := Lib.frozen_of_heap hQ9 2
      obtain ⟨wq, hwq⟩ : ∃ wq, ((w9.setCell ⟨Q, 0, none⟩ (.slice (some ⟨g2, 0, none⟩) p.codes.length cap2)).setCell ⟨Q, 1, none⟩ (.slice bk2 p.consts.length dk2)).setCell ⟨Q, 2, none⟩ (.slice bn2 p.names.length dn2) = wq := ⟨_, rfl⟩
      have hkq9 : Keep (fun j => j = Q) w9 wq := by
        rw [← hwq]
        exact (((Keep.refl (fun j => j = Q) w9).setCell rfl 0 _).setCell rfl 1 _).setCell rfl 2 _
      have hQq : wq.heap[Q]? = some (.cells #[.slice (some ⟨g2, 0, none⟩) p.codes.length cap2, .slice bk2 p.consts.length dk2, .slice bn2 p.names.length dn2] 26 (0, 0)) := by
        rw [← hwq]
        exact Cd.hset (Cd.hset (Cd.hset hQ9))
      have hownq := hown.keep hkq9 (fun j hj _ e => by have := HQL.out.1; have := HB8.out.size; omega)
      have HB9 : Hid (Below w.heap.size w w9) := HB08.out.trans (hb9.mono HB08.out.size)
      have HBQ : Hid (Below w.heap.size w wq) := HB9.out.trans (hkq9.to_below (fun j e => by have := HQL.out.2; omega) HB9.out.size)
      have HB1Q : Hid (Below w1.heap.size w1 wq) := (HB18.out.trans (hb9.mono HB18.out.size)).trans (hkq9.to_below (fun j e => by have := HQL.out.2; have := HS1.out; omega) (by have := HB18.out.size; have := hb9.size; omega))
      clear hb9 hgl hfg hown
      go_upto_region 11 with fail
      clear hwq z0 z1 z2 f0 f1 f2 hQ9 hkq9
      have hq2 : q < ks2.length := by omega
      have hkq : ks2[q].1 = c := by
        have h1 : (ks2.map Prod.fst)[q]'(by rw [List.length_map]; exact hq2) = p.codes[q]'(by omega) := by simp only [hfst]
        rw [List.getElem_map] at h1
        have h2 := HCQ.out
        rw [List.getElem?_eq_getElem (by omega)] at h2
        rw [h1]
        exact Option.some.inj h2
      have hcs := hownq.cs
      have hvi := hcs.ins q hq2
      have hvne := hcs.ne q hq2
      rw [hkq] at hvi
      obtain ⟨av, cv, hvv⟩ := Dt.row_form hvi
      rw [hvv] at hvi hvne
      have m4' : wq.cell? ⟨g2, q * 5 + 4, none⟩ = some (.slice av c.ins.length cv) := by
        have h1 : (Cd.flatK ks2)[q * 5 + 4]? = some (ks2[q].2) := by rw [show Cd.flatK ks2 = ks2.flatMap Cd.codeV from rfl, Cd.flat_get Cd.codeV 5 (fun _ => rfl) ks2 q 4 hq2 (by decide)]; rfl
        have h2 := hcs.row.cells (g := g2) rfl (q * 5 + 4) _ h1
        rw [Cd.addr0] at h2
        rw [h2, hvv]
      have HLIT : ∃ wD, (wq.alloc (.cells #[.int .i64 x.o, .int .i64 x.a, .int .i64 x.b] 41)).drew = wD := ⟨_, rfl⟩
      obtain ⟨wD, hwD⟩ := HLIT
      obtain ⟨hbl, hsl⟩ := Cd.below_new (Below.refl _ wq) (rfl : wq.alloc (.cells #[.int .i64 x.o, .int .i64 x.a, .int .i64 x.b] 41) = _) (Nat.le_refl _)
      have hbD : Below wq.heap.size wq wD := by rw [← hwD]; exact hbl.drew
      have hsD : wD.heap.size = wq.heap.size + 1 := by rw [← hwD]; exact hsl
      have hQ2 : Q < m2 := by have := HQL.out.1; have := HB8.out.size; have := hownq.le; omega
      have hX2 : w.heap.size + 1 < m2 := by have := HQL.out.2; omega
      have HSK : Hid (∀ W, Keep (fun j => m2 ≤ j) wq W → (fun W => W.cell? ⟨Q, 0, none⟩ = some (.slice (some ⟨g2, 0, none⟩) p.codes.length cap2) ∧ W.cell? ⟨w.heap.size + 1, 0, none⟩ = some (.int .i64 x.o) ∧ W.cell? ⟨w.heap.size + 1, 1, none⟩ = some (.int .i64 x.a) ∧ W.cell? ⟨w.heap.size + 1, 2, none⟩ = some (.int .i64 x.b)) W) := fun W hW => by
        have hx1 := HX.out.keep ((Keep.refl (fun _ => False) w1).below HB1Q.out) id
        have hl := HS1.out
        have hlq := HB1Q.out.size
        have hQl := (Array.getElem?_eq_some_iff.1 hQq).1
        refine ⟨(hW.cell 0 hQl (by omega)).trans (by rw [Cd.hcell hQq]; rfl), (hW.cell 0 (by omega) (by omega)).trans hx1.1, (hW.cell 1 (by omega) (by omega)).trans hx1.2.1, (hW.cell 2 (by omega) (by omega)).trans hx1.2.2⟩
      have HK0 : Hid (Keep (fun j => m2 ≤ j) wq wq.drew) := (Keep.refl _ wq).drew 1
      have HKD : Hid (Keep (fun j => m2 ≤ j) wq wD) := (Keep.refl _ wq).below hbD
      have HOWD : Hid (wD.ownsRow m2 41 3 (.slice av c.ins.length cv) c.ins.length (Cd.flatI c.ins)) := Cd.own_keep (S := fun _ => False) hvi ((Keep.refl _ wq).below hbD) (fun _ _ h => h)
      have HSRC : Hid (Ap.Src wD (.slice (some ⟨wq.heap.size, 0, none⟩) 1 1) 1 (Cd.insV x)) := .inr ⟨_, _, rfl, fun j u h => by
        rw [Cd.addr0]
        have := Cd.cells_new wq (Cd.insV x) 41 (rfl : wq.alloc (.cells (Cd.insV x).toArray 41) = _) j u h
        rw [← hwD]
        exact this⟩
      have HBSD : Hid (m2 ≤ wD.heap.size) := by show _ ≤ _; have := (hcs.row.lt g2 rfl); omega
      have mD : wD.cell? ⟨g2, q * 5 + 4, none⟩ = some (.slice av c.ins.length cv) := (hbD.cell (p := ⟨g2, q * 5 + 4, none⟩) (hcs.row.lt g2 rfl).2).trans m4'
      have HPUSH : Hid (∀ (w5 : World) (v' : Value), w5.ownsRow m2 41 3 v' (c.ins.length + 1) (Cd.flatI c.ins ++ Cd.insV x) → wD.grownBy w5 (Value.slice av c.ins.length cv).ownBlock → (v'.ownBlock = (Value.slice av c.ins.length cv).ownBlock ∨ v'.ownBlock = some wD.heap.size) →
          w5.cell? ⟨g2, q * 5 + 4, none⟩ = some (.slice av c.ins.length cv) ∧ w5.frozen? ⟨g2, q * 5 + 4, none⟩ = false ∧ Hid ((fun W => W.cell? ⟨Q, 0, none⟩ = some (.slice (some ⟨g2, 0, none⟩) p.codes.length cap2) ∧ W.cell? ⟨w.heap.size + 1, 0, none⟩ = some (.int .i64 x.o) ∧ W.cell? ⟨w.heap.size + 1, 1, none⟩ = some (.int .i64 x.a) ∧ W.cell? ⟨w.heap.size + 1, 2, none⟩ = some (.int .i64 x.b)) w5) ∧ Hid ((fun W => W.cell? ⟨Q, 0, none⟩ = some (.slice (some ⟨g2, 0, none⟩) p.codes.length cap2) ∧ W.cell? ⟨w.heap.size + 1, 0, none⟩ = some (.int .i64 x.o) ∧ W.cell? ⟨w.heap.size + 1, 1, none⟩ = some (.int .i64 x.a) ∧ W.cell? ⟨w.heap.size + 1, 2, none⟩ = some (.int .i64 x.b)) (w5.setCell ⟨g2, q * 5 + 4, none⟩ v')) ∧ Hid (Cd.PRep (fun _ => True) (w5.setCell ⟨g2, q * 5 + 4, none⟩ v') (Cd.setC p q { c with ins := c.ins ++ [x] }) (.slice (some ⟨g2, 0, none⟩) p.codes.length cap2) (.slice bk2 p.consts.length dk2) (.slice bn2 p.names.length dn2) ∧ (w5.setCell ⟨g2, q * 5 + 4, none⟩ v').heap[Q]? = some (.cells #[.slice (some ⟨g2, 0, none⟩) p.codes.length cap2, .slice bk2 p.consts.length dk2, .slice bn2 p.names.length dn2] 26 (0, 0)) ∧ Below w.heap.size w (w5.setCell ⟨g2, q * 5 + 4, none⟩ v'))) := by
        intro w5 v' h1 h2 h3
        have hk25 := Cd.keep_grown h2
        have hvb : ∀ j, (Value.slice av c.ins.length cv).ownBlock = some j → m2 ≤ j := fun j e => (hvi.lt j e).1
        have hg2 := hcs.row.lt g2 rfl
        have hk5 : Keep (fun j => m2 ≤ j) wq w5 := HKD.out.trans (hk25.mono (fun j _ e => hvb j e))
        have hk6 : Keep (fun j => m2 ≤ j) wq (w5.setCell ⟨g2, q * 5 + 4, none⟩ v') := hk5.setCell hg2.1 _ _
        have hgn : ¬ (Value.slice av c.ins.length cv).ownBlock = some g2 := fun e => hvne g2 e rfl
        have hrow5 := Cd.own_keep (Cd.own_keep (S := fun _ => False) hcs.row ((Keep.refl _ wq).below hbD) (fun _ _ h => h)) hk25 (fun j e e2 => by cases e; exact hgn e2)
        have hfz5 : w5.frozen? ⟨g2, q * 5 + 4, none⟩ = false := by
          obtain ⟨g', cap', cur, e1, e2, e3, e4⟩ := hrow5.2.resolve_left (fun h => by cases h.1)
          have eg : g' = g2 := by injection e1 with e1; injection e1 with e1; injection e1 with e1; exact e1.symm
          rw [← eg]
          exact Lib.frozen_of_heap e3 _
        have hadd := Cd.CRow.addIns (by rw [hkl]; exact hcs) hq2 x v' hbD (by rw [hvv]; exact h2) (by rw [hkq]; exact h1) (by rw [hvv]; exact h3)
        rw [hkl, hkq] at hadd
        have hQl := (Array.getElem?_eq_some_iff.1 hQq).1
        refine ⟨(hk25.cell _ (by have := hbD.size; omega) hgn).trans mD, hfz5, HSK.out _ hk5, HSK.out _ hk6, ⟨⟨?_, Cd.row_mono (hownq.ds.keep hk6 (fun j hj _ e => by omega)) (fun _ _ _ => trivial), Cd.nrow_mono (hownq.nm.keep hk6 (fun j hj _ e => by omega)) (fun _ _ _ => trivial)⟩, (hk6.block Q hQl (by omega)).trans hQq, HBQ.out.trans (hk6.to_below (fun j e => by omega) HBQ.out.size)⟩⟩
        have h4 := hadd.codes (F := fun _ => True) (fun _ _ => trivial)
        rw [List.map_set, hfst] at h4
        exact h4
      obtain ⟨i9, hi, hz0, hz1, hz2⟩ := info_parts Cd.infoIns
      have HJ1 := Lib.hid hi
      have HJZ0 := Lib.hid hz0
      have HJZ1 := Lib.hid hz1
      have HJZ2 := Lib.hid hz2
      have hm1 : c.ins.length + 1 ≤ maxLen := by unfold maxLen; omega
      have hm2b : (c.ins.length + 1) * 24 ≤ 140737488355328 := by omega
      have HWF11 : Hid (Cd.PWf (Cd.setC p q { c with ins := c.ins ++ [x] })) := Cd.wf_set HW.out ⟨HCWF.out.1, HCWF.out.2.1, HCWF.out.2.2.1, HCWF.out.2.2.2.1, (by show (c.ins ++ [x]).length ≤ _; rw [List.length_append]; simp; omega), (fun y hy => by rcases List.mem_append.1 hy with hy | hy; exact HCWF.out.2.2.2.2.2 y hy; obtain rfl := List.mem_singleton.1 hy; exact HXX.out)⟩
      clear hcs hvi hvne hbl hsl hbD hsD hownq hkl hfst hQq hkq hvv hi hz0 hz1 hz2 hmg hX2 hQ2
      have hS0 := HSK.out _ HK0.out
      refine wp_region_noPanic ?_
      refine wp_region_held_drew (S := fun W => W.cell? ⟨Q, 0, none⟩ = some (.slice (some ⟨g2, 0, none⟩) p.codes.length cap2) ∧ W.cell? ⟨w.heap.size + 1, 0, none⟩ = some (.int .i64 x.o) ∧ W.cell? ⟨w.heap.size + 1, 1, none⟩ = some (.int .i64 x.a) ∧ W.cell? ⟨w.heap.size + 1, 2, none⟩ = some (.int .i64 x.b)) (by kernel_rfl) hS0 (fun hHeld => ?_)
      refine wpAnyH_take (i := 0) (oi := ⟨_, _, _, _, _, _⟩) (v := ?_) rfl (by kernel_rfl) (by kernel_rfl) (by kernel_rfl) (fun _ _ _ h => h) (Or.inl ⟨by rfl, ?_⟩) (by assumption) ?_
      rotate_left
      · intro w hSw
        clear hSw
        go_simp
        try with_reducible rfl
      simp only [Act.put, List.setIfInBounds_toArray, List.set_cons_zero, List.set_cons_succ]
      refine wpAnyH_take (i := 2) (oi := ⟨_, _, _, _, _, _⟩) (v := ?_) rfl (by kernel_rfl) (by kernel_rfl) (by kernel_rfl) (fun _ _ _ h => h) (Or.inl ⟨by rfl, ?_⟩) (by assumption) ?_
      rotate_left
      · intro w hSw
        clear hSw
        go_simp
        try with_reducible rfl
      simp only [Act.put, List.setIfInBounds_toArray, List.set_cons_zero, List.set_cons_succ]
      refine wpAnyH_take (i := 3) (oi := ⟨_, _, _, _, _, _⟩) (v := ?_) rfl (by kernel_rfl) (by kernel_rfl) (by kernel_rfl) (fun _ _ _ h => h) (Or.inl ⟨by rfl, ?_⟩) (by assumption) ?_
      rotate_left
      · intro w hSw
        clear hSw
        go_simp
        try with_reducible rfl
      simp only [Act.put, List.setIfInBounds_toArray, List.set_cons_zero, List.set_cons_succ]
      refine wpAnyH_take (i := 5) (oi := ⟨_, _, _, _, _, _⟩) (v := ?_) rfl (by kernel_rfl) (by kernel_rfl) (by kernel_rfl) (fun _ _ _ h => h) (Or.inl ⟨by rfl, ?_⟩) (by assumption) ?_
      rotate_left
      · intro w hSw
        clear hSw
        go_simp
        try with_reducible rfl
      simp only [Act.put, List.setIfInBounds_toArray, List.set_cons_zero, List.set_cons_succ]
      refine wpAnyH_take (i := 1) (oi := ⟨_, _, _, _, _, _⟩) (v := ?_) rfl (by kernel_rfl) (by kernel_rfl) (by kernel_rfl) (fun _ _ _ h => h) (Or.inl ⟨by rfl, ?_⟩) (by assumption) ?_
      rotate_left
      · intro w hSw
        obtain ⟨s0, s1, s2, s3⟩ := hSw
        go_simp
        try with_reducible rfl
      simp only [Act.put, List.setIfInBounds_toArray, List.set_cons_zero, List.set_cons_succ]
      refine wpAnyH_take (i := 4) (oi := ⟨_, _, _, _, _, _⟩) (v := ?_) rfl (by kernel_rfl) (by kernel_rfl) (by kernel_rfl) (fun _ _ _ h => h) (Or.inl ⟨by rfl, ?_⟩) (by assumption) ?_
      rotate_left
      · intro w hSw
        obtain ⟨s0, s1, s2, s3⟩ := hSw
        go_simp
        try with_reducible rfl
      simp only [Act.put, List.setIfInBounds_toArray, List.set_cons_zero, List.set_cons_succ]
      refine wpAnyH_take (i := 9) (oi := ⟨_, _, _, _, _, _⟩) (v := ?_) rfl (by kernel_rfl) (by kernel_rfl) (by kernel_rfl) (fun _ _ _ h => h) (Or.inl ⟨by rfl, ?_⟩) (by assumption) ?_
      rotate_left
      · intro w hSw
        obtain ⟨s0, s1, s2, s3⟩ := hSw
        go_simp
        try with_reducible rfl
      simp only [Act.put, List.setIfInBounds_toArray, List.set_cons_zero, List.set_cons_succ]
      refine wpAnyH_take (i := 6) (oi := ⟨_, _, _, _, _, _⟩) (v := ?_) rfl (by kernel_rfl) (by kernel_rfl) (by kernel_rfl) (fun _ _ _ h => h) (Or.inl ⟨by rfl, ?_⟩) (by assumption) ?_
      rotate_left
      · intro w hSw
        clear hSw
        go_simp
        try with_reducible rfl
      simp only [Act.put, List.setIfInBounds_toArray, List.set_cons_zero, List.set_cons_succ]
      refine wpAnyH_take (i := 7) (oi := ⟨_, _, _, _, _, _⟩) (v := ?_) rfl (by kernel_rfl) (by kernel_rfl) (by kernel_rfl) (fun _ _ _ h => h) (Or.inl ⟨by rfl, ?_⟩) (by assumption) ?_
      rotate_left
      · intro w hSw
        clear hSw
        go_simp
        try with_reducible rfl
      simp only [Act.put, List.setIfInBounds_toArray, List.set_cons_zero, List.set_cons_succ]
      refine wpAnyH_ready (rs := [8, 10]) (by kernel_rfl) (by simp) ?_
      refine AllReadyH.cons (o := ⟨_, _, _, _, _, _⟩) rfl (fun K hK => ?_) ?_
      · go_simp
        refine hK.out _ _ ?_ (fun hHeld => ?_)
        · exact HSK.out _ HK0.out
        clear hK K
        try simp only [Act.put, List.setIfInBounds_toArray, List.set_cons_zero, List.set_cons_succ]
        refine wpAnyH_ready (rs := [10]) (by kernel_rfl) (by simp) ?_
        refine AllReadyH.cons (o := ⟨_, _, _, _, _, _⟩) rfl (fun K hK => ?_) AllReadyH.nil
        go_simp
        refine hK.out _ _ ?_ (fun hHeld => ?_)
        · exact HSK.out _ HKD.out
        clear hK K
        try simp only [Act.put, List.setIfInBounds_toArray, List.set_cons_zero, List.set_cons_succ]
        refine wpAnyH_ready (rs := [11]) (by kernel_rfl) (by simp) ?_
        refine AllReadyH.cons (o := ⟨_, _, _, _, _, _⟩) rfl (fun K hK => ?_) AllReadyH.nil
        refine Ap.step rfl _ _ 37 (by rfl) m2 41 i9 (.agg #[.int .i64 0, .int .i64 0, .int .i64 0]) 3 24 Try.underlying37 HJ1.out HJZ0.out HJZ1.out HJZ2.out rfl (by decide) (.slice av c.ins.length cv) c.ins.length (Cd.flatI c.ins) (by rfl) HOWD.out (.slice (some ⟨wq.heap.size, 0, none⟩) 1 1) 1 (Cd.insV x) (by rfl) HSRC.out rfl (by simp [Cd.insV, Value.oneCell']) hm1 hm2b HBSD.out ?_
        intro v' w5 hown5 hgr5 hat5
        obtain ⟨a5, c5, rfl⟩ := Dt.row_form hown5
        obtain ⟨d4, f4, HS5, HS6, HFIN⟩ := HPUSH.out w5 _ hown5 hgr5 hat5
        clear hown5 hgr5 hat5
        refine hK.out _ _ ?_ (fun hHeld => ?_)
        · exact HS5.out
        clear hK K
        try simp only [Act.put, List.setIfInBounds_toArray, List.set_cons_zero, List.set_cons_succ]
        refine wpAnyH_take (i := 12) (oi := ⟨_, _, _, _, _, _⟩) (v := ?_) rfl (by kernel_rfl) (by kernel_rfl) (by kernel_rfl) (fun _ _ _ h => h) (Or.inl ⟨by rfl, ?_⟩) (by assumption) ?_
        rotate_left
        · intro w hSw
          clear hSw
          go_simp
          try with_reducible rfl
        simp only [Act.put, List.setIfInBounds_toArray, List.set_cons_zero, List.set_cons_succ]
        refine wpAnyH_take (i := 13) (oi := ⟨_, _, _, _, _, _⟩) (v := ?_) rfl (by kernel_rfl) (by kernel_rfl) (by kernel_rfl) (fun _ _ _ h => h) (Or.inl ⟨by rfl, ?_⟩) (by assumption) ?_
        rotate_left
        · intro w hSw
          clear hSw
          go_simp
          try with_reducible rfl
        simp only [Act.put, List.setIfInBounds_toArray, List.set_cons_zero, List.set_cons_succ]
        refine wpAnyH_ready (rs := [14]) (by kernel_rfl) (by simp) ?_
        refine AllReadyH.cons (o := ⟨_, _, _, _, _, _⟩) rfl (fun K hK => ?_) AllReadyH.nil
        go_simp
        refine hK.out _ _ ?_ (fun hHeld => ?_)
        · exact HS6.out
        clear hK K
        try simp only [Act.put, List.setIfInBounds_toArray, List.set_cons_zero, List.set_cons_succ]
        refine wpAnyH_done (by kernel_rfl) ?_ _
        refine NoPanic.normal ?_
        have r0 : (w5.setCell ⟨g2, q * 5 + 4, none⟩ (.slice a5 (c.ins.length + 1) c5)).cell? ⟨Q, 0, none⟩ = some (.slice (some ⟨g2, 0, none⟩) p.codes.length cap2) := by rw [Cd.hcell HFIN.out.2.1]; rfl
        have r1 : (w5.setCell ⟨g2, q * 5 + 4, none⟩ (.slice a5 (c.ins.length + 1) c5)).cell? ⟨Q, 1, none⟩ = some (.slice bk2 p.consts.length dk2) := by rw [Cd.hcell HFIN.out.2.1]; rfl
        have r2 : (w5.setCell ⟨g2, q * 5 + 4, none⟩ (.slice a5 (c.ins.length + 1) c5)).cell? ⟨Q, 2, none⟩ = some (.slice bn2 p.names.length dn2) := by rw [Cd.hcell HFIN.out.2.1]; rfl
        have hck9 := check_any _ _ _ _ _ HFIN.out.1 HWF11.out
        rw [HMORE.out] at hck9
        have HBF := Lib.hid HFIN.out.2.2
        obtain ⟨w6', hw6'⟩ : ∃ W, w5.setCell ⟨g2, q * 5 + 4, none⟩ (.slice a5 (c.ins.length + 1) c5) = W := ⟨_, rfl⟩
        rw [hw6'] at r0 r1 r2 hck9 HBF ⊢
        clear HFIN HS5 HS6 d4 f4 m4' mD hS0
        go_wp2_with (go_at_call 11; refine hck9.mono ?_; clear hck9 r0 r1 r2; rintro e w12 ⟨rfl, hb12⟩)
        go_ret
        exact ⟨rfl, HBF.out.trans (hb12.mono HBF.out.size)⟩
      refine AllReadyH.cons (o := ⟨_, _, _, _, _, _⟩) rfl (fun K hK => ?_) AllReadyH.nil
      go_simp
      refine hK.out _ _ ?_ (fun hHeld => ?_)
      · exact HSK.out _ HKD.out
      clear hK K
      try simp only [Act.put, List.setIfInBounds_toArray, List.set_cons_zero, List.set_cons_succ]
      refine wpAnyH_ready (rs := [8]) (by kernel_rfl) (by simp) ?_
      refine AllReadyH.cons (o := ⟨_, _, _, _, _, _⟩) rfl (fun K hK => ?_) AllReadyH.nil
      go_simp
      refine hK.out _ _ ?_ (fun hHeld => ?_)
      · exact HSK.out _ HKD.out
      clear hK K
      try simp only [Act.put, List.setIfInBounds_toArray, List.set_cons_zero, List.set_cons_succ]
      refine wpAnyH_ready (rs := [11]) (by kernel_rfl) (by simp) ?_
      refine AllReadyH.cons (o := ⟨_, _, _, _, _, _⟩) rfl (fun K hK => ?_) AllReadyH.nil
      refine Ap.step rfl _ _ 37 (by rfl) m2 41 i9 (.agg #[.int .i64 0, .int .i64 0, .int .i64 0]) 3 24 Try.underlying37 HJ1.out HJZ0.out HJZ1.out HJZ2.out rfl (by decide) (.slice av c.ins.length cv) c.ins.length (Cd.flatI c.ins) (by rfl) HOWD.out (.slice (some ⟨wq.heap.size, 0, none⟩) 1 1) 1 (Cd.insV x) (by rfl) HSRC.out rfl (by simp [Cd.insV, Value.oneCell']) hm1 hm2b HBSD.out ?_
      intro v' w5 hown5 hgr5 hat5
      obtain ⟨a5, c5, rfl⟩ := Dt.row_form hown5
      obtain ⟨d4, f4, HS5, HS6, HFIN⟩ := HPUSH.out w5 _ hown5 hgr5 hat5
      clear hown5 hgr5 hat5
      refine hK.out _ _ ?_ (fun hHeld => ?_)
      · exact HS5.out
      clear hK K
      try simp only [Act.put, List.setIfInBounds_toArray, List.set_cons_zero, List.set_cons_succ]
      refine wpAnyH_take (i := 12) (oi := ⟨_, _, _, _, _, _⟩) (v := ?_) rfl (by kernel_rfl) (by kernel_rfl) (by kernel_rfl) (fun _ _ _ h => h) (Or.inl ⟨by rfl, ?_⟩) (by assumption) ?_
      rotate_left
      · intro w hSw
        clear hSw
        go_simp
        try with_reducible rfl
      simp only [Act.put, List.setIfInBounds_toArray, List.set_cons_zero, List.set_cons_succ]
      refine wpAnyH_take (i := 13) (oi := ⟨_, _, _, _, _, _⟩) (v := ?_) rfl (by kernel_rfl) (by kernel_rfl) (by kernel_rfl) (fun _ _ _ h => h) (Or.inl ⟨by rfl, ?_⟩) (by assumption) ?_
      rotate_left
      · intro w hSw
        clear hSw
        go_simp
        try with_reducible rfl
      simp only [Act.put, List.setIfInBounds_toArray, List.set_cons_zero, List.set_cons_succ]
      refine wpAnyH_ready (rs := [14]) (by kernel_rfl) (by simp) ?_
      refine AllReadyH.cons (o := ⟨_, _, _, _, _, _⟩) rfl (fun K hK => ?_) AllReadyH.nil
      go_simp
      refine hK.out _ _ ?_ (fun hHeld => ?_)
      · exact HS6.out
      clear hK K
      try simp only [Act.put, List.setIfInBounds_toArray, List.set_cons_zero, List.set_cons_succ]
      refine wpAnyH_done (by kernel_rfl) ?_ _
      refine NoPanic.normal ?_
      have r0 : (w5.setCell ⟨g2, q * 5 + 4, none⟩ (.slice a5 (c.ins.length + 1) c5)).cell? ⟨Q, 0, none⟩ = some (.slice (some ⟨g2, 0, none⟩) p.codes.length cap2) := by rw [Cd.hcell HFIN.out.2.1]; rfl
      have r1 : (w5.setCell ⟨g2, q * 5 + 4, none⟩ (.slice a5 (c.ins.length + 1) c5)).cell? ⟨Q, 1, none⟩ = some (.slice bk2 p.consts.length dk2) := by rw [Cd.hcell HFIN.out.2.1]; rfl
      have r2 : (w5.setCell ⟨g2, q * 5 + 4, none⟩ (.slice a5 (c.ins.length + 1) c5)).cell? ⟨Q, 2, none⟩ = some (.slice bn2 p.names.length dn2) := by rw [Cd.hcell HFIN.out.2.1]; rfl
      have hck9 := check_any _ _ _ _ _ HFIN.out.1 HWF11.out
      rw [HMORE.out] at hck9
      have HBF := Lib.hid HFIN.out.2.2
      obtain ⟨w6', hw6'⟩ : ∃ W, w5.setCell ⟨g2, q * 5 + 4, none⟩ (.slice a5 (c.ins.length + 1) c5) = W := ⟨_, rfl⟩
      rw [hw6'] at r0 r1 r2 hck9 HBF ⊢
      clear HFIN HS5 HS6 d4 f4 m4' mD hS0
      go_wp2_with (go_at_call 11; refine hck9.mono ?_; clear hck9 r0 r1 r2; rintro e w12 ⟨rfl, hb12⟩)
      go_ret
      exact ⟨rfl, HBF.out.trans (hb12.mono HBF.out.size)⟩
end Go.Proofs.Ytlckjphnbfahgaa
