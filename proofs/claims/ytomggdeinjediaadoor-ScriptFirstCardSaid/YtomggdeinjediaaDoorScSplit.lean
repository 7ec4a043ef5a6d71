/-
  The walk of strings.SplitAfterN at a line feed, where so many lines end.
-/
import Derived.Test.YtomggdeinjediaaDoorScSplitP
import Derived.Test.YtomggdeinjediaaDoorScBase
import Derived.Deep.OwnRows
namespace Go.Proofs.YtomggdeinjediaaDoor
open Go.RowKit
theorem infoStrS : (Tryd.prog.info? 9).map (fun i => (i.zero, i.size, i.bytes)) = some (some (.string ⟨#[]⟩), 1, 16) := by kernel_rfl
namespace Sc
/-- a row of texts, the rest empty -/
def pf (ps : List (List UInt8)) (j : Nat) : Value := match ps[j]? with
  | some x => .string ⟨x.toArray⟩
  | none => .string ⟨#[]⟩
theorem pf_snoc (ps : List (List UInt8)) (x : List UInt8) (j : Nat) : (if j = ps.length then .string ⟨x.toArray⟩ else pf ps j) = pf (ps ++ [x]) j := by
  unfold pf
  by_cases h : j = ps.length
  · subst h
    rw [if_pos rfl]
    simp
  · rw [if_neg h]
    by_cases h2 : j < ps.length
    · rw [List.getElem?_append_left h2]
    · rw [List.getElem?_eq_none (by omega), List.getElem?_eq_none (by simp; omega)]
theorem line_idx (t l r : List UInt8) (h : line t = some (l, r)) : Lib.indexByte t 10 = (l.length : Int) ∧ l.length < t.length ∧ t.take (l.length + 1) = l ++ [10] ∧ t.drop (l.length + 1) = r := by
  obtain ⟨e, hn⟩ := of_line t l r h
  have hi : Lib.indexByte t 10 = (l.length : Int) := by
    rcases idx_has t 10 with ⟨_, h2, _⟩ | ⟨i, h1, h2, _hc, h4, _⟩
    · rw [e] at h2
      simp at h2
    · rw [h1]
      have htw : t.takeWhile (· != 10) = l := by
        have h' := h
        unfold line at h'
        rw [if_pos _hc] at h'
        injection h' with h'
        injection h' with h'' _
      rw [htw] at h4
      have := congrArg List.length h4
      rw [List.length_take] at this
      omega
  refine ⟨hi, by rw [e]; simp, ?_, ?_⟩
  · rw [e, show l ++ 10 :: r = (l ++ [10]) ++ r by simp, show l.length + 1 = (l ++ [10]).length by simp, List.take_left']
    rfl
  · rw [e]; simp
end Sc
set_option maxRecDepth 100000 in
theorem Index_any (s z : ByteArray) (c : UInt8) (w : World) (hz : z.data.toList = [c]) :
    Calls Tryd.prog 23 #[.string s, .string z] w fun e w' => e = .returned (.int .i64 (Lib.indexByte s.data.toList c)) ∧ w = w' := by
  have h := sIndex_any s z c w hz
  go_enter Tryd.func23, Tryd.ntmps23
  go_wp2_with (go_at_call 32; refine h.mono ?_; rintro e w1 ⟨rfl, rfl⟩)
  go_ret
  exact ⟨rfl, rfl⟩
set_option maxRecDepth 100000 in
set_option maxHeartbeats 4000000 in
theorem genSplit_any (s : ByteArray) (k : Nat) (w : World) (hs : s.size ≤ 1000000) (hh : Sc.hasL k s.data.toList = true) (hk : k ≤ 6) :
    Calls Tryd.prog 13 #[.string s, .string ⟨#[10]⟩, .int .i64 1, .int .i64 ((k : Int) + 1)] w fun e w' => ∃ g, e = .returned (.slice (some ⟨g, 0, none⟩) (k + 1) (k + 1)) ∧
      (∀ j x, (Sc.pieces k s.data.toList)[j]? = some x → w'.cell? ⟨g, j, none⟩ = some (.string ⟨x.toArray⟩)) ∧ g < w'.heap.size ∧ Below w.heap.size w w' := by
  obtain ⟨i0, hi, hz0, hz1, hz2⟩ := info_parts infoStrS
  have hlen := Sc.rest_len k _ hh
  rw [Fx.size_toList] at hlen
  have hmin : min ((k : Int) + 1) ((s.size : Int) + 1) = ((k + 1 : Nat) : Int) := by omega
  have hk0 : ((k : Int) + 1 == 0) = false := by rw [beq_eq_false_iff_ne]; omega
  have hk1 : ¬ ((k : Int) + 1 < 0) := by omega
  have HH := Lib.hid hh
  clear hh hlen
  go_enter Tryd.func13, Tryd.ntmps13
  go_wp2_with (refine wpList_make_row _ rfl _ _ 29 rfl 9 i0 (.string ⟨#[]⟩) Tryd.underlying29 hi hz0 hz1 rfl .i64 .i64 (k + 1) rfl rfl (by rw [hz2]; omega) (by omega) ?_)
  have hrow0 := World.rowIs_made w (.string ⟨#[]⟩) (k + 1) 9
  have hb0 : Below w.heap.size w (w.alloc (.cells (madeCells #[.string ⟨#[]⟩] (k + 1)) 9)) := (Below.refl _ _).alloc (Nat.le_refl _) _
  go_loopw [0, 10] (fun vs vi wr => ∃ (i : Nat) (si : ByteArray), vs = .string si ∧ vi = .int .i64 i ∧ i ≤ k ∧ Hid (si.data.toList = Sc.rest i s.data.toList) ∧ Hid (wr.rowIs w.heap.size 9 (k + 1) (Sc.pf (Sc.pieces i s.data.toList))) ∧ Below w.heap.size w wr) (fun _ vi _ => k - (intOf vi).toNat)
  case atStart => exact ⟨0, s, rfl, rfl, by omega, by show _ = _; rfl, hrow0, hb0⟩
  case round =>
    obtain ⟨i, si, rfl, rfl, hik, HS, HR, hbl⟩ := hrel
    have HB := Lib.hid hbl
    obtain ⟨hi1, hi2⟩ := Sc.hasL_split i (k - i) s.data.toList (by rw [show i + (k - i) = k by omega]; exact HH.out)
    have hpl := Sc.pieces_len i _ hi1
    have hrl := Sc.rest_len i _ hi1
    rw [Fx.size_toList, ← HS.out, Fx.size_toList] at hrl
    by_cases hlt : i < k
    case neg =>
      have hik2 : i = k := by omega
      subst hik2
      have c1 := HR.out.cell (i := i) (by omega)
      have f1 := HR.out.frozen i
      have hnl : ¬ ((i : Int) < (i : Int)) := by omega
      have hb2 : Below w.heap.size w (wr.setCell ⟨w.heap.size, i, none⟩ (.string si)) := hbl.setCell (p := ⟨w.heap.size, i, none⟩) (Nat.le_refl _) _
      have hr2 := HR.out.set i (.string si)
      have HR2 := Lib.hid hr2
      have HB2 := Lib.hid hb2
      have HPL := Lib.hid hpl
      unfold Sc.pf at c1
      clear hbl hb2 hr2 hpl hrl hi1 hi2
      go_wp2
      go_ret
      refine ⟨_, rfl, ?_, HR2.out.lt, HB2.out⟩
      intro j x hj
      have hji : j < i := by
        have := (List.getElem?_eq_some_iff.1 hj).1
        have := HPL.out
        omega
      rw [HR2.out.cell (by omega), if_neg (by omega)]
      unfold Sc.pf
      rw [hj]
    have hlti : (i : Int) < (k : Int) := by omega
    obtain ⟨d, hd⟩ : ∃ d, k - i = d + 1 := ⟨k - i - 1, by omega⟩
    rw [hd, Sc.hasL_succ] at hi2
    cases hln : Sc.line (Sc.rest i s.data.toList) with
    | none => rw [hln] at hi2; exact absurd hi2 (by simp)
    | some p =>
      obtain ⟨l, r⟩ := p
      obtain ⟨e1, e2, e3, e4⟩ := Sc.line_idx _ _ _ hln
      obtain ⟨g1, g2⟩ := Sc.pieces_snoc i _ l r hi1 hln
      rw [← HS.out] at e1 e2 e3 e4
      have hix := Index_any si ⟨#[10]⟩ 10
      rw [e1] at hix
      have c1 := HR.out.cell (i := i) (by omega)
      have f1 := HR.out.frozen i
      obtain ⟨x, hx⟩ : ∃ x, si.extract 0 (l.length + 1) = x := ⟨_, rfl⟩
      obtain ⟨y, hy⟩ : ∃ y, si.extract (l.length + 1) si.size = y := ⟨_, rfl⟩
      have hxl : (⟨(l ++ [10]).toArray⟩ : ByteArray) = x := by
        rw [← hx]
        apply ByteArray.ext
        apply Array.toList_inj.1
        rw [Lib.extract_data, List.drop_zero, Nat.sub_zero, e3]
      have hyl : y.data.toList = r := by
        rw [← hy, Lib.extract_data, e4, List.take_of_length_le]
        rw [← e4, List.length_drop, Fx.size_toList]
        omega
      have HY : Hid (y.data.toList = Sc.rest (i + 1) s.data.toList) := by show _ = _; rw [g2, hyl]
      have hr2 : (wr.setCell ⟨w.heap.size, i, none⟩ (.string x)).rowIs w.heap.size 9 (k + 1) (Sc.pf (Sc.pieces (i + 1) s.data.toList)) := by
        refine (HR.out.set i (.string x)).congr fun j _ => ?_
        rw [g1, ← Sc.pf_snoc, hpl, hxl]
      have hb2 : Below w.heap.size w (wr.setCell ⟨w.heap.size, i, none⟩ (.string x)) := hbl.setCell (p := ⟨w.heap.size, i, none⟩) (Nat.le_refl _) _
      have HR2 := Lib.hid hr2
      have HB2 := Lib.hid hb2
      have hml : (l.length : Int) + 1 ≤ (si.size : Int) := by rw [Fx.size_toList] at e2; omega
      have hss : (si.size : Int) ≤ 1000000 := by omega
      unfold Sc.pf at c1
      clear hbl hb2 hr2 hpl hrl hi1 hi2 e1 e2 e3 e4 g1 g2 hxl hyl hln hd
      go_wp2_with (go_at_call 23; refine (hix _ rfl).mono ?_; rintro e w1 ⟨rfl, rfl⟩)
      go_roundw
      case rel => exact ⟨i + 1, y, rfl, by simp, by omega, HY, HR2, HB2.out⟩
      case measure => simp [intOf]; omega
set_option maxRecDepth 100000 in
set_option maxHeartbeats 1000000 in
theorem SplitAfterN_any (s : ByteArray) (k : Nat) (w : World) (hs : s.size ≤ 1000000) (hh : Sc.hasL k s.data.toList = true) (hk : k ≤ 6) :
    Calls Tryd.prog 6 #[.string s, .string ⟨#[10]⟩, .int .i64 ((k : Int) + 1)] w fun e w' => ∃ g, e = .returned (.slice (some ⟨g, 0, none⟩) (k + 1) (k + 1)) ∧
      (∀ j x, (Sc.pieces k s.data.toList)[j]? = some x → w'.cell? ⟨g, j, none⟩ = some (.string ⟨x.toArray⟩)) ∧ g < w'.heap.size ∧ Below w.heap.size w w' := by
  have hg := genSplit_any s k w hs hh hk
  clear hh
  go_enter Tryd.func6, Tryd.ntmps6
  go_wp2_with fail
  refine hg.mono ?_
  rintro e w1 ⟨g, rfl, hc, hgl, hb⟩
  have HC := Lib.hid hc
  clear hc
  go_wp2
  go_ret
  exact ⟨g, rfl, HC.out, hgl, hb⟩
end Go.Proofs.YtomggdeinjediaaDoor
