/-
  The walk of lex.Join.
-/
import Derived.Test.YtihfflinkmceaabTxQ
import Derived.Test.YtihfflinkmceaabTxShelf
namespace Go.Proofs.Ytihfflinkmceaab
open Go.RowKit
theorem infoStr : (Try.prog.info? 9).map (fun i => (i.zero, i.size, i.bytes)) = some (some (.string ⟨#[]⟩), 1, 16) := by kernel_rfl
def Tx.strV (x : List UInt8) : Value := .string ⟨x.toArray⟩
set_option maxRecDepth 100000 in
set_option maxHeartbeats 8000000 in
theorem Join_any (l : List Tx.W) (v : Value) (w : World) (hv : Tx.Row w v l) (hok : ∀ t ∈ l, t.ok) :
    Calls Try.prog 15 #[v] w fun e w' => e = .returned (Tx.JV l) ∧ Below w.heap.size w w' := by
  obtain ⟨i0, hi, hz0, hz1, hz2⟩ := info_parts infoStr
  obtain ⟨ao, cap, rfl, hcap, hcells⟩ := hv
  by_cases h4 : 4096 < l.length
  · have HR := Lib.hid (Tx.JV_long l h4)
    have h4i : (4096 : Int) < (l.length : Int) := by omega
    clear hcells
    go_enter Try.func15, Try.ntmps15
    go_wp2
    go_ret2
    exact ⟨by rw [HR.out]; rfl, Below.refl _ _⟩
  have h4i : ¬ ((4096 : Int) < (l.length : Int)) := by omega
  have h4n : l.length ≤ 4096 := by omega
  have HC := Lib.hid hcells
  have HOK := Lib.hid hok
  clear hcells hok h4
  go_enter Try.func15, Try.ntmps15
  go_wp2_with fail
  go_loopw [4, 15] (fun v0 vi wr => ∃ (k : Nat) (xs : List (List UInt8)) (vb : Value), vb = v0 ∧ vi = .int .i64 k ∧ k ≤ l.length ∧ Hid (xs.length = k) ∧ Hid (∀ x ∈ xs, x.length ≤ 1100) ∧ Hid (Tx.Way l k xs) ∧ Hid (wr.ownsRow w.heap.size 9 1 vb xs.length (xs.map Tx.strV)) ∧ Below w.heap.size w wr) (fun _ vi _ => l.length - (intOf vi).toNat)
  case atStart => exact ⟨0, [], _, rfl, rfl, by omega, by show _ = _; rfl, by intro x hx; exact absurd hx (by simp), Tx.Way.start l, World.ownsRow_nil _ _ _ _, Below.refl _ _⟩
  case round =>
    obtain ⟨k, xs, vb, rfl, rfl, hk, HXL, HXS, HW, HO, hbl⟩ := hrel
    have HB := Lib.hid hbl
    by_cases hlt : k < l.length
    case neg =>
      have hge : (l.length : Int) ≤ (k : Int) := by omega
      have ht := Tx.JV_some l h4n xs (HW.out.done (by omega))
      have hjl := Tx.join_len xs HXS.out
      obtain ⟨J, hJ⟩ : ∃ J, Lib.join xs [32] = J := ⟨_, rfl⟩
      have hcall : ∃ ao2 cap2, vb = .slice ao2 xs.length cap2 ∧ Calls Try.prog 34 #[.slice ao2 xs.length cap2, .string ⟨#[32]⟩] wr fun e w' => e = .returned (.string ⟨J.toArray⟩) ∧ Below wr.heap.size wr w' := by
        rcases HO.out.2 with ⟨hv0, h0⟩ | ⟨g, c, cur, hv0, hbg, hgg, hnc, _, _, _⟩
        · refine ⟨none, 0, by rw [hv0, h0], ?_⟩
          rw [h0]
          have hx0 : xs = [] := List.eq_nil_of_length_eq_zero h0
          rw [hx0, Lib.join_nil] at hJ
          subst hJ
          exact (Try.strings_Join_none none 0 ⟨#[32]⟩ wr).mono fun e w' h => ⟨h.1, by rw [h.2]; exact Below.refl _ _⟩
        · refine ⟨_, _, hv0, ?_⟩
          have hO := HO.out
          rw [hv0] at hO
          have hgl : g < wr.heap.size := by
            apply Classical.byContradiction
            intro hh
            rw [Array.getElem?_eq_none (by omega)] at hgg
            exact absurd hgg (by simp)
          have hc := Try.strings_Join g 0 c (xs.map fun x => (⟨x.toArray⟩ : ByteArray)) ⟨#[32]⟩ wr (fun j x hx => by
            have hj : j < xs.length := by
              have := (List.getElem?_eq_some_iff.1 hx).1
              simpa using this
            rw [Nat.zero_add, hO.cellAt j (by omega), List.getElem?_map]
            rw [List.getElem?_map] at hx
            rw [List.getElem?_eq_getElem hj] at hx ⊢
            simp only [Option.map_some, Option.some.injEq] at hx ⊢
            rw [← hx]; rfl) hgl (by rw [List.length_map, HXL.out]; omega) (by rw [List.length_map]; exact hnc) (by
            rw [List.map_map]
            have e : (List.map ((fun (x : ByteArray) => x.data.toList) ∘ fun x => (⟨x.toArray⟩ : ByteArray)) xs) = xs := by
              conv => rhs; rw [← List.map_id xs]
              rfl
            rw [e]
            show (Lib.join xs [32]).length ≤ _
            have := HXL.out
            omega)
          rw [List.length_map] at hc
          have e : (List.map (fun (x : ByteArray) => x.data.toList) (List.map (fun x => (⟨x.toArray⟩ : ByteArray)) xs)) = xs := by
            rw [List.map_map]
            conv => rhs; rw [← List.map_id xs]
            rfl
          rw [e] at hc
          rw [← hJ]
          exact hc
      obtain ⟨ao2, cap2, rfl, hcl⟩ := hcall
      rw [hJ] at ht hjl
      have HT := Lib.hid ht
      have HJL : Hid (J.length ≤ 1101 * 4096) := by show _ ≤ _; have := HXL.out; omega
      clear ht hbl hjl hJ
      by_cases h16 : 16384 < J.length
      · have h16i : (16384 : Int) < (J.length : Int) := by omega
        have HV : Hid (Tx.JV l = .tuple #[.string ⟨#[]⟩, .int .i64 3]) := by show _ = _; rw [HT.out, if_pos h16]
        clear h16
        go_wp2_with (go_at_call 34; refine hcl.mono ?_; rintro e w1 ⟨rfl, hb1⟩)
        go_ret2
        exact ⟨by rw [HV.out]; rfl, HB.out.trans (hb1.mono HB.out.size)⟩
      · have h16i : ¬ ((16384 : Int) < (J.length : Int)) := by omega
        have HV : Hid (Tx.JV l = .tuple #[.string ⟨J.toArray⟩, .int .i64 0]) := by show _ = _; rw [HT.out, if_neg h16]
        clear h16
        go_wp2_with (go_at_call 34; refine hcl.mono ?_; rintro e w1 ⟨rfl, hb1⟩)
        go_ret2
        exact ⟨by rw [HV.out]; rfl, HB.out.trans (hb1.mono HB.out.size)⟩
    have hlti : (k : Int) < (l.length : Int) := by omega
    obtain ⟨t, ht⟩ : ∃ t, l[k] = t := ⟨_, rfl⟩
    have htok : t.ok := HOK.out t (by rw [← ht]; exact List.getElem_mem hlt)
    obtain ⟨b, o, hao, hbw, hcell⟩ := HC.out (by intro h0; rw [h0] at hlt; simp at hlt)
    obtain ⟨c0, c1, c2, c3, c4⟩ := hcell k hlt
    rw [ht] at c0 c1 c2 c3 c4
    subst hao
    have r0 := (hbl.cell (p := ⟨b, o + k * 5, none⟩) hbw).trans c0
    have r1 := (hbl.cell (p := ⟨b, o + k * 5 + 1, none⟩) hbw).trans c1
    have r2 := (hbl.cell (p := ⟨b, o + k * 5 + 2, none⟩) hbw).trans c2
    have r3 := (hbl.cell (p := ⟨b, o + k * 5 + 3, none⟩) hbw).trans c3
    have r4 := (hbl.cell (p := ⟨b, o + k * 5 + 4, none⟩) hbw).trans c4
    have hT := fun w => Text_w t w htok
    have HX : Hid ((l[k]).txt = t.txt) := by show _ = _; rw [ht]
    obtain ⟨T, hTT⟩ : ∃ T, t.txt = T := ⟨_, rfl⟩
    rw [hTT] at hT HX
    clear c0 c1 c2 c3 c4 hcell hTT htok hbl
    cases T with
    | none =>
      rw [Tx.Vn] at hT
      have HV : Hid (Tx.JV l = .tuple #[.string ⟨#[]⟩, .int .i64 30]) := by show _ = _; exact Tx.JV_none l h4n (HW.out.fail hlt HX.out)
      go_wp2_with (go_at_call 13; refine (hT _).mono ?_; rintro e w1 ⟨rfl, hb1⟩)
      go_ret2
      exact ⟨by rw [HV.out]; rfl, (HB.out.alloc HB.out.size _).trans (hb1.mono (by have := HB.out.size; rw [World.size_alloc]; omega))⟩
    | some x =>
      rw [Tx.Vs] at hT
      have HWN := Lib.hid (HW.out.next hlt x HX.out)
      have hxl : x.length ≤ 1100 := Tx.text_len _ _ _ x HX.out
      have HXN : Hid (∀ y ∈ xs ++ [x], y.length ≤ 1100) := by
        intro y hy
        rcases List.mem_append.1 hy with h | h
        · exact HXS.out y h
        · rw [List.mem_singleton.1 h]; exact hxl
      clear hxl
      have hO := HO.out
      have HL : Hid (xs.length ≤ 4096) := by show _ ≤ _; rw [HXL.out]; omega
      go_wp2_with (first
        | (go_at_call 13; refine (hT _).mono ?_; rintro e w1 ⟨rfl, hb1⟩; have hOw := Tx.own_below (hO.alloc _) hb1; clear hO)
        | (at_builtin; refine wpList_append_own _ rfl _ _ 60 rfl w.heap.size 9 i0 (.string ⟨#[]⟩) 1 16 Try.underlying60 hi hz0 hz1 hz2 rfl (by decide) _ _ _ rfl (hOw.alloc _) ⟨w1.heap.size, 0, none⟩ 1 1 [.string ⟨x.toArray⟩] rfl rfl (cell_one_new _ _ _) (fun x hx => by simp at hx; subst hx; rfl)
            (by have := HL.out; unfold maxLen; omega) (by have := HL.out; omega) (by have := HB.out.size; have := hb1.size; rw [World.size_alloc] at this; rw [World.size_alloc]; omega) ?_; intro v3 w3 hown3 hgrow3 _)
        | fail)
      go_roundw
      case rel => exact ⟨k + 1, xs ++ [x], _, rfl, by simp, by omega, by show _ = _; rw [List.length_append, HXL.out]; rfl, HXN, HWN.out, Lib.hid (by rw [List.length_append, List.map_append]; exact hown3),
          Below.grown (((HB.out.alloc HB.out.size _).trans (hb1.mono (by have := HB.out.size; rw [World.size_alloc]; omega))).alloc (by have := HB.out.size; have := hb1.size; rw [World.size_alloc] at this; omega) _) hgrow3 (by have := HB.out.size; have := hb1.size; rw [World.size_alloc] at this; rw [World.size_alloc]; omega) (fun j hj => (HO.out.lt j hj).1)⟩
      case measure => simp [intOf]; omega
end Go.Proofs.Ytihfflinkmceaab
