/-
  The walk of the reference's Join.
-/
import Derived.Test.YtihfflinkmceaabTxP
import Derived.Test.YtihfflinkmceaabLexQuoted
import Derived.Lib.AppendStr
namespace Go.Proofs.Ytihfflinkmceaab
open Go.RowKit
theorem infoU8 : (Try.prog.info? 5).map (fun i => (i.zero, i.size, i.bytes)) = some (some (.int .u8 0), 1, 1) := by kernel_rfl
theorem Tx.own_below {w w' : World} {B e size n : Nat} {v : Value} {xs : List Value} (h : w.ownsRow B e size v n xs) (hb : Below w.heap.size w w') : w'.ownsRow B e size v n xs := by
  obtain ⟨h0, h1⟩ := h
  refine ⟨h0, ?_⟩
  rcases h1 with h1 | ⟨g, cap, cur, e1, e2, e3, e4⟩
  · exact .inl h1
  · refine .inr ⟨g, cap, cur, e1, e2, ?_, e4⟩
    have hg : g < w.heap.size := by
      apply Classical.byContradiction
      intro hh
      rw [Array.getElem?_eq_none (by omega)] at e3
      exact absurd e3 (by simp)
    rw [hb.block g hg]
    exact e3
set_option maxRecDepth 100000 in
set_option maxHeartbeats 8000000 in
theorem JoinR_any (l : List Tx.W) (v : Value) (w : World) (hv : Tx.Row w v l) (hok : ∀ t ∈ l, t.ok) :
    Calls Try.prog 16 #[v] w fun e w' => e = .returned (Tx.JV l) ∧ Below w.heap.size w w' := by
  obtain ⟨i0, hi, hz0, hz1, hz2⟩ := info_parts infoU8
  obtain ⟨ao, cap, rfl, hcap, hcells⟩ := hv
  by_cases h4 : 4096 < l.length
  · have HR := Lib.hid (Tx.JV_long l h4)
    have h4i : (4096 : Int) < (l.length : Int) := by omega
    clear hcells
    go_enter Try.func16, Try.ntmps16
    go_wp2
    go_ret2
    exact ⟨by rw [HR.out]; rfl, Below.refl _ _⟩
  have h4i : ¬ ((4096 : Int) < (l.length : Int)) := by omega
  have h4n : l.length ≤ 4096 := by omega
  have HC := Lib.hid hcells
  have HOK := Lib.hid hok
  clear hcells hok h4
  go_enter Try.func16, Try.ntmps16
  go_wp2_with fail
  go_loopw [4, 5] (fun v0 vi wr => ∃ (k : Nat) (xs : List (List UInt8)) (acc : List UInt8) (vb : Value), vb = v0 ∧ vi = .int .i64 k ∧ k ≤ l.length ∧ Hid (xs.length = k) ∧ Hid (∀ x ∈ xs, x.length ≤ 1100) ∧ Hid (Tx.Way l k xs) ∧ Hid (acc = Lib.join xs [32]) ∧ Hid (wr.ownsRow w.heap.size 5 1 vb acc.length (acc.map Lx.byteV)) ∧ Below w.heap.size w wr) (fun _ vi _ => l.length - (intOf vi).toNat)
  case atStart => exact ⟨0, [], [], _, rfl, rfl, by omega, by show _ = _; rfl, by intro x hx; exact absurd hx (by simp), Tx.Way.start l, by show _ = _; rfl, World.ownsRow_nil _ _ _ _, Below.refl _ _⟩
  case round =>
    obtain ⟨k, xs, acc, vb, rfl, rfl, hk, HXL, HXS, HW, HA, HO, hbl⟩ := hrel
    have HB := Lib.hid hbl
    by_cases hlt : k < l.length
    case neg =>
      have hge : (l.length : Int) ≤ (k : Int) := by omega
      have ht := Tx.JV_some l h4n xs (HW.out.done (by omega))
      rw [← HA.out] at ht
      have HT := Lib.hid ht
      obtain ⟨ao2, cap2, hvb⟩ : ∃ ao2 cap2, vb = .slice ao2 acc.length cap2 := by
        rcases HO.out.2 with ⟨hv0, h0⟩ | ⟨g, c, cur, hv0, _⟩
        · exact ⟨none, 0, by rw [hv0, h0]⟩
        · exact ⟨_, _, hv0⟩
      have hcv := Lx.conv_own acc HO.out
      subst hvb
      clear ht hbl
      by_cases h16 : 16384 < acc.length
      · have h16i : (16384 : Int) < (acc.length : Int) := by omega
        have HV : Hid (Tx.JV l = .tuple #[.string ⟨#[]⟩, .int .i64 3]) := by show _ = _; rw [HT.out, if_pos h16]
        clear h16
        go_wp2
        go_ret2
        exact ⟨by rw [HV.out]; rfl, HB.out⟩
      · have h16i : ¬ ((16384 : Int) < (acc.length : Int)) := by omega
        have HV : Hid (Tx.JV l = .tuple #[.string ⟨acc.toArray⟩, .int .i64 0]) := by show _ = _; rw [HT.out, if_neg h16]
        clear h16
        go_wp2
        go_ret2
        exact ⟨by rw [HV.out]; rfl, HB.out⟩
    have hlti : (k : Int) < (l.length : Int) := by omega
    obtain ⟨t, ht⟩ : ∃ t, l[k] = t := ⟨_, rfl⟩
    have htok : t.ok := HOK.out t (by rw [← ht]; exact List.getElem_mem hlt)
    obtain ⟨b, o, hao, hbw, hcell⟩ := HC.out (by intro h0; rw [h0] at hlt; simp at hlt)
    obtain ⟨c0, c1, c2, c3, c4⟩ := hcell k hlt
    rw [ht] at c0 c1 c2 c3 c4
    subst hao
    have r0 := (hbl.cell (p := ⟨b, o + k * 5, none⟩) hbw).trans c0
    have r1 := (hbl.cell (p := ⟨b, o + k * 5 + 1, none⟩) hbw).trans c1
    have r2 := (hbl.cell (p := ⟨b, o + k * 5 + 2, none⟩) hbw).trans c2
    have r3 := (hbl.cell (p := ⟨b, o + k * 5 + 3, none⟩) hbw).trans c3
    have r4 := (hbl.cell (p := ⟨b, o + k * 5 + 4, none⟩) hbw).trans c4
    have hT := fun w => TextR_w t w htok
    have HX : Hid ((l[k]).txt = t.txt) := by show _ = _; rw [ht]
    obtain ⟨T, hTT⟩ : ∃ T, t.txt = T := ⟨_, rfl⟩
    rw [hTT] at hT HX
    clear c0 c1 c2 c3 c4 hcell hTT htok hbl
    cases T with
    | none =>
      rw [Tx.VRn] at hT
      have HV : Hid (Tx.JV l = .tuple #[.string ⟨#[]⟩, .int .i64 30]) := by show _ = _; exact Tx.JV_none l h4n (HW.out.fail hlt HX.out)
      go_wp2_with (go_at_call 14; refine (hT _).mono ?_; rintro e w1 ⟨rfl, hb1⟩)
      go_ret2
      exact ⟨by rw [HV.out]; rfl, HB.out.trans (hb1.mono HB.out.size)⟩
    | some x =>
      rw [Tx.VRs] at hT
      have HWN := Lib.hid (HW.out.next hlt x HX.out)
      have hxl : x.length ≤ 1100 := Tx.text_len _ _ _ x HX.out
      have HXN : Hid (∀ y ∈ xs ++ [x], y.length ≤ 1100) := by
        intro y hy
        rcases List.mem_append.1 hy with h | h
        · exact HXS.out y h
        · rw [List.mem_singleton.1 h]; exact hxl
      have hal : acc.length ≤ 1101 * 4096 := by
        have h1 := Tx.join_len xs HXS.out
        rw [← HA.out, HXL.out] at h1
        omega
      have HAL := Lib.hid hal
      have HXL2 := Lib.hid hxl
      clear hal hxl
      by_cases hk0 : k = 0
      · have hki : ¬ ((0 : Int) < (k : Int)) := by omega
        have HAN : Hid (acc ++ x = Lib.join (xs ++ [x]) [32]) := by
          show _ = _
          have hx0 : xs = [] := List.eq_nil_of_length_eq_zero (by rw [HXL.out, hk0])
          rw [HA.out, hx0, List.nil_append, Lib.join_one, Lib.join_nil, List.nil_append]
        clear hk0
        have hO := HO.out
        go_wp2_with (first
          | (go_at_call 14; refine (hT _).mono ?_; rintro e w1 ⟨rfl, hb1⟩)
          | (at_builtin; refine Lib.wpList_append_own_string _ rfl _ _ 65 9 rfl w.heap.size 5 i0 Try.underlying65 Try.underlying9 hi hz0 hz1 hz2 _ _ _ rfl (Tx.own_below hO hb1) ⟨x.toArray⟩ rfl ?c3 ?c4 ?c5 ?_)
          | fail)
        case c3 => have := HAL.out; have := HXL2.out; unfold maxLen; rw [show (⟨x.toArray⟩ : ByteArray).size = x.length by simp [ByteArray.size]]; omega
        case c4 => have := HAL.out; have := HXL2.out; rw [show (⟨x.toArray⟩ : ByteArray).size = x.length by simp [ByteArray.size]]; omega
        case c5 => have := HB.out.size; have := hb1.size; omega
        intro v' w2 hown' hgrow _
        clear hO
        go_wp2
        go_roundw
        case rel => exact ⟨k + 1, xs ++ [x], acc ++ x, _, rfl, by simp, by omega, by show _ = _; rw [List.length_append, HXL.out]; rfl, HXN, HWN.out, HAN.out, Lib.hid (by rw [List.length_append, List.map_append]; exact hown'), Below.grown (HB.out.trans (hb1.mono HB.out.size)) hgrow (by have := HB.out.size; have := hb1.size; omega) (fun j hj => (HO.out.lt j hj).1)⟩
        case measure => simp [intOf]; omega
      · have hki : (0 : Int) < (k : Int) := by omega
        have HAN : Hid ((acc ++ [32]) ++ x = Lib.join (xs ++ [x]) [32]) := by
          show _ = _
          rw [Tx.join_snoc xs x (by intro h0; have h1 := HXL.out; rw [h0] at h1; simp at h1; omega), HA.out]
        clear hk0
        have hO := HO.out
        go_wp2_with (first
          | (go_at_call 14; refine (hT _).mono ?_; rintro e w1 ⟨rfl, hb1⟩)
          | (at_builtin; refine wpList_append_own _ rfl _ _ 65 rfl w.heap.size 5 i0 (.int .u8 0) 1 1 Try.underlying65 hi hz0 hz1 hz2 rfl (by decide) _ _ _ rfl ((Tx.own_below hO hb1).alloc _) ⟨w1.heap.size, 0, none⟩ 1 1 [.int .u8 32] rfl rfl (cell_one_new _ _ _) (fun x hx => by simp at hx; subst hx; rfl)
              (by have := HAL.out; unfold maxLen; omega) (by have := HAL.out; omega) (by have := HB.out.size; have := hb1.size; simp; omega) ?_; intro v3 w3 hown3 hgrow3 _; clear hO)
          | (at_builtin; refine Lib.wpList_append_own_string _ rfl _ _ 65 9 rfl w.heap.size 5 i0 Try.underlying65 Try.underlying9 hi hz0 hz1 hz2 _ _ _ rfl hown3 ⟨x.toArray⟩ rfl ?c3 ?c4 ?c5 ?_)
          | fail)
        case c3 => have := HAL.out; have := HXL2.out; unfold maxLen; rw [show (⟨x.toArray⟩ : ByteArray).size = x.length by simp [ByteArray.size]]; omega
        case c4 => have := HAL.out; have := HXL2.out; rw [show (⟨x.toArray⟩ : ByteArray).size = x.length by simp [ByteArray.size]]; omega
        case c5 => have := HB.out.size; have := hb1.size; have := hgrow3.size; simp at this; omega
        intro v' w2 hown' hgrow _
        go_wp2
        go_roundw
        case rel => exact ⟨k + 1, xs ++ [x], (acc ++ [32]) ++ x, _, rfl, by simp, by omega, by show _ = _; rw [List.length_append, HXL.out]; rfl, HXN, HWN.out, HAN.out, Lib.hid (by rw [List.length_append, List.length_append, List.map_append, List.map_append, List.append_assoc]; exact hown'),
          Below.grown (Below.grown ((HB.out.trans (hb1.mono HB.out.size)).alloc (by have := HB.out.size; have := hb1.size; omega) _) hgrow3 (by have := HB.out.size; have := hb1.size; simp; omega) (fun j hj => (HO.out.lt j hj).1)) hgrow (by have := HB.out.size; have := hb1.size; have := hgrow3.size; simp at this; omega) (fun j hj => (hown3.lt j hj).1)⟩
        case measure => simp [intOf]; omega
end Go.Proofs.Ytihfflinkmceaab
