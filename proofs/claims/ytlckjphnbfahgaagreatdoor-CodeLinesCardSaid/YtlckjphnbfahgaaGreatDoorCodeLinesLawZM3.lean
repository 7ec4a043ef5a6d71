/-
  Several texts of this proof in one: CdEqS, CdCountsP, CdOwnP, CdFewS, CdLinesW, CdLaid.
-/
import Derived.Test.YtlckjphnbfahgaaGreatDoorCdModel
import Derived.Test.YtlckjphnbfahgaaGreatDoorCdAt
import Derived.Test.YtlckjphnbfahgaaGreatDoorCdIndex
import Derived.Test.YtlckjphnbfahgaaGreatDoorCdCheckP
import Derived.Test.YtlckjphnbfahgaaGreatDoorCdWaysP
import Derived.Test.YtlckjphnbfahgaaGreatDoorDtOwn
import Derived.Test.YtlckjphnbfahgaaGreatDoorCdCloneW
import Derived.Test.YtlckjphnbfahgaaGreatDoorCodeLinesLawZM2
import Derived.Deep.RegionHeld3
import Derived.IntWalk
import Derived.Test.YtlckjphnbfahgaaGreatDoorRows
import Derived.Lib.SmallJoins
import Derived.Lib.LaidTab
import Derived.LaidMore
import Derived.Lay
namespace Go.Proofs.YtlckjphnbfahgaaGreatDoor
open Go.RowKit
attribute [local go_sem] Oper.semAt_some
set_option maxRecDepth 100000 in
set_option maxHeartbeats 2000000 in
theorem sEqual_any {F G : Nat → Prop} (va vb : Value) (m m' : List ByteArray) (w : World) (ha : Cd.NameRow F w va m) (hb : Cd.NameRow G w vb m') (hl : m.length ≤ 140737488355328) (_hl' : m'.length ≤ 140737488355328) :
    Calls Tryz.prog 9 #[va, vb] w fun e w' => e = .returned (.bool (decide (m = m'))) ∧ Below w.heap.size w w' := by
  obtain ⟨a, c, rfl, _, hc⟩ := ha
  obtain ⟨a', c', rfl, _, hc'⟩ := hb
  obtain ⟨R, hR⟩ : ∃ R, R = decide (m = m') := ⟨_, rfl⟩
  rw [← hR]
  by_cases hlen : m.length = m'.length
  case neg =>
    have hne : ((m.length : Int) != (m'.length : Int)) = true := by simpa using fun h => hlen (by omega)
    have HR : Hid (R = false) := by show _ = _; rw [hR]; exact decide_eq_false (fun e => hlen (by rw [e]))
    clear hc hc' hR hlen
    go_enter Tryz.func9, Tryz.ntmps9
    go_wp2
    go_ret
    exact ⟨by rw [HR.out]; rfl, Below.refl _ _⟩
  have hne : ((m.length : Int) != (m'.length : Int)) = false := by simp [hlen]
  have H0 : Hid (R = decide (m.drop 0 = m'.drop 0)) := by show _ = _; rw [List.drop_zero, List.drop_zero]; exact hR
  have HC := Lib.hid hc
  have HC' := Lib.hid hc'
  have HL := Lib.hid hlen
  clear hc hc' hR hlen
  go_enter Tryz.func9, Tryz.ntmps9
  go_wp2
  go_loopw [13] (fun v wr => ∃ k : Nat, v = .int .i64 k ∧ k ≤ m.length ∧ Hid (R = decide (m.drop k = m'.drop k)) ∧ ∃ q, wr = w.drewN q) (fun v _ => m.length - (intOf v).toNat)
  case atStart => exact ⟨0, rfl, by omega, H0, 0, rfl⟩
  case round =>
    obtain ⟨k, rfl, hk, HR, q, rfl⟩ := hrel
    by_cases hlt : k < m.length
    · have hlti : (k : Int) < (m.length : Int) := by omega
      have hlt' : k < m'.length := by have := HL.out; omega
      have hlti' : (k : Int) < (m'.length : Int) := by omega
      obtain ⟨b, o, rfl, _, hb, hcell⟩ := HC.out (by intro h0; rw [h0] at hlt; simp at hlt)
      obtain ⟨b', o', rfl, _, hb', hcell'⟩ := HC'.out (by intro h0; rw [h0] at hlt'; simp at hlt')
      have x0 := hcell k hlt
      have y0 := hcell' k hlt'
      have hr := HR.out
      rw [List.drop_eq_getElem_cons hlt, List.drop_eq_getElem_cons hlt'] at hr
      obtain ⟨x, hx⟩ : ∃ x, m[k] = x := ⟨_, rfl⟩
      obtain ⟨y, hy⟩ : ∃ y, m'[k] = y := ⟨_, rfl⟩
      rw [hx] at x0 hr
      rw [hy] at y0 hr
      clear hx hy hcell hcell'
      by_cases hxy : x = y
      · subst hxy
        have hxe : (x != x) = false := by simp
        have hxt : (!x.toList == x.toList) = false := by simp
        have HN : Hid (R = decide (m.drop (k + 1) = m'.drop (k + 1))) := by show _ = _; rw [hr]; simp
        clear hr
        go_wp2
        go_quiet (fail)
        go_wp2
        go_roundw
        case rel => exact ⟨k + 1, by simp, by omega, HN, _, rfl⟩
        case measure => simp [intOf]; omega
      · have hxe : (x != y) = true := bne_iff_ne.2 hxy
        have hxt : (x.toList == y.toList) = false := by
          rw [ByteArray.toList_eq, ByteArray.toList_eq, beq_eq_false_iff_ne]
          intro e
          apply hxy
          cases x; cases y
          cases Array.toList_inj.1 e
          rfl
        have HN : Hid (R = false) := by show _ = _; rw [hr]; simp [hxy]
        clear hr hxy
        go_wp2
        go_quiet (fail)
        go_wp2
        go_ret
        exact ⟨by rw [HN.out]; rfl, ⟨rfl, rfl, rfl, Nat.le_refl _, fun _ _ => rfl⟩⟩
    · have hge : (m.length : Int) ≤ (k : Int) := by omega
      have HN : Hid (R = true) := by show _ = _; rw [HR.out, List.drop_eq_nil_of_le (by omega), List.drop_eq_nil_of_le (by have := HL.out; omega)]; rfl
      go_wp2
      go_ret
      exact ⟨by rw [HN.out]; rfl, ⟨rfl, rfl, rfl, Nat.le_refl _, fun _ _ => rfl⟩⟩
end Go.Proofs.YtlckjphnbfahgaaGreatDoor
namespace Go.Proofs.YtlckjphnbfahgaaGreatDoor
namespace Cd
def setC (p : Prog) (i : Nat) (c : Code) : Prog := { p with codes := p.codes.set i c }
theorem counts_max {p : Prog} {i : Nat} (hi : i < p.codes.length) (h : checkP p = 0) (m : Int) (hm : m ≠ p.codes[i].max) : checkP (setC p i { p.codes[i] with max := m }) = 90 := by
  obtain ⟨-, -, hg⟩ := check_codes h
  obtain ⟨fin, hf⟩ := (good_good (hg p.codes[i] (List.getElem_mem hi))).flow
  have hi2 : i < (setC p i { p.codes[i] with max := m }).codes.length := by show i < (p.codes.set i _).length; rw [List.length_set]; exact hi
  refine check_code i hi2 ?_
  have e : (setC p i { p.codes[i] with max := m }).codes[i] = { p.codes[i] with max := m } := List.getElem_set_self _
  rw [e]
  cases hgd : good (setC p i { p.codes[i] with max := m }) { p.codes[i] with max := m } with
  | false => rfl
  | true =>
    obtain ⟨fin2, hf2⟩ := (good_good hgd).flow
    have hf3 : flowW p.codes[i].ins 0 (start p.codes[i].ins.length) 0 = some (fin2, m) := hf2
    rw [hf] at hf3
    exact absurd (Prod.mk.inj (Option.some.inj hf3)).2.symm hm
theorem counts_more {p : Prog} {i : Nat} (hi : i < p.codes.length) (h : checkP p = 0) (x : Ins) : checkP (setC p i { p.codes[i] with ins := p.codes[i].ins ++ [x] }) = 90 := by
  rcases check_is (setC p i { p.codes[i] with ins := p.codes[i].ins ++ [x] }) with h2 | h2
  · obtain ⟨-, -, hg⟩ := check_codes h
    obtain ⟨-, -, hg2⟩ := check_codes h2
    have hi2 : i < (setC p i { p.codes[i] with ins := p.codes[i].ins ++ [x] }).codes.length := by show i < (p.codes.set i _).length; rw [List.length_set]; exact hi
    have e : (setC p i { p.codes[i] with ins := p.codes[i].ins ++ [x] }).codes[i] = { p.codes[i] with ins := p.codes[i].ins ++ [x] } := List.getElem_set_self _
    have hgd := hg2 _ (List.getElem_mem hi2)
    rw [e] at hgd
    obtain ⟨hfw, fin, hfl⟩ := (good_good hgd).flow' hg2
    have hx : Few x := hfw x (List.mem_append_right _ (List.mem_singleton_self x))
    have hm := (good_good (hg p.codes[i] (List.getElem_mem hi))).more hg hx.1.1
    rw [show ({ p.codes[i] with ins := p.codes[i].ins ++ [x] } : Code).ins = p.codes[i].ins ++ [x] from rfl] at hfl
    rw [hm] at hfl
    cases hfl
  · exact h2
theorem setC_same {p : Prog} {i : Nat} (hi : i < p.codes.length) : setC p i { p.codes[i] with max := p.codes[i].max } = p := by
  unfold setC
  rw [show ({ p.codes[i] with max := p.codes[i].max } : Code) = p.codes[i] from rfl, List.set_getElem_self]
theorem clone_same {p : Prog} (h : checkP p = 0) : p.consts.map Dt.clone = p.consts := by
  obtain ⟨-, hc, -, -⟩ := check_parts h
  conv => rhs; rw [← List.map_id p.consts]
  apply List.map_congr_left
  intro d hd
  obtain ⟨i, hi, rfl⟩ := List.getElem_of_mem hd
  have := hc i hi
  rw [constOk_at hi] at this
  have h2 : plainD p.consts[i] = true := by
    cases e : plainD p.consts[i] with
    | true => rfl
    | false => rw [e] at this; cases this
  unfold plainD at h2
  rw [Bool.and_eq_true, decide_eq_true_eq] at h2
  unfold Dt.clone
  rw [if_pos h2.1]
  rfl
theorem check_small {p : Prog} (h : checkP p = 0) : p.codes.length ≤ 1024 ∧ p.consts.length ≤ 1024 ∧ p.names.length ≤ 1024 ∧ ∀ c ∈ p.codes, c.ins.length ≤ 4096 := by
  obtain ⟨hf, -, -, -⟩ := check_parts h
  obtain ⟨-, -, hg⟩ := check_codes h
  refine ⟨?_, ?_, ?_, fun c hc => (good_good (hg c hc)).len⟩
  · exact Nat.le_of_not_lt fun h => hf (.inr (.inl h))
  · exact Nat.le_of_not_lt fun h => hf (.inr (.inr (.inl h)))
  · exact Nat.le_of_not_lt fun h => hf (.inr (.inr (.inr (.inl h))))
end Cd
end Go.Proofs.YtlckjphnbfahgaaGreatDoor
namespace Go.Proofs.YtlckjphnbfahgaaGreatDoor
open Go.RowKit
namespace Cd
theorem Own.rep {w : World} {base m : Nat} {vc vk vn : Value} {ks : List (Code × Value)} {l : List Dt.D} {ns : List ByteArray} (h : Own w base m vc vk vn ks l ns) : PRep (fun _ => True) w ⟨ks.map Prod.fst, l, ns⟩ vc vk vn :=
  ⟨h.cs.codes (fun _ _ => trivial), row_mono h.ds (fun _ _ _ => trivial), nrow_mono h.nm (fun _ _ _ => trivial)⟩
theorem Own.below {w w' : World} {base m : Nat} {vc vk vn : Value} {ks : List (Code × Value)} {l : List Dt.D} {ns : List ByteArray} (h : Own w base m vc vk vn ks l ns) (hb : Below w.heap.size w w') : Own w' base m vc vk vn ks l ns :=
  ⟨h.le, h.cs.below hb, h.ds.below hb, h.nm.below hb, own_keep (S := fun _ => False) h.no.1 ((Keep.refl _ w).below hb) (fun _ _ h => h), h.no.2⟩
theorem Own.keep {S : Nat → Prop} {w w' : World} {base m : Nat} {vc vk vn : Value} {ks : List (Code × Value)} {l : List Dt.D} {ns : List ByteArray} (h : Own w base m vc vk vn ks l ns) (hk : Keep S w w') (hS : ∀ j, base ≤ j → j < w.heap.size → ¬ S j) : Own w' base m vc vk vn ks l ns := by
  have h1 := h.le
  refine ⟨h.le, ⟨own_keep h.cs.row hk (fun k e => hS k (by have := (h.cs.row.lt k e).1; omega) (h.cs.row.lt k e).2), fun j hj => own_keep (h.cs.ins j hj) hk (fun k e => hS k (by have := ((h.cs.ins j hj).lt k e).1; omega) ((h.cs.ins j hj).lt k e).2), h.cs.ne, h.cs.dj⟩, h.ds.keep hk (fun j hj hl => hS j hj.1 hl), h.nm.keep hk (fun j hj hl => hS j hj.1 hl), own_keep h.no.1 hk (fun k e => hS k (h.no.1.lt k e).1 (h.no.1.lt k e).2), h.no.2⟩
theorem wf_set {p : Prog} {i : Nat} {c : Code} (h : PWf p) (hc : CWf c) : PWf (setC p i c) := by
  refine ⟨by show (p.codes.set i c).length ≤ _; rw [List.length_set]; exact h.lc, h.lk, h.ln, h.wk, h.wn, fun d hd => ?_⟩
  rcases List.mem_or_eq_of_mem_set hd with hd | rfl
  · exact h.wc d hd
  · exact hc
theorem sl_form {F : Nat → Prop} {w : World} {v : Value} {l : List Dt.D} (h : Dt.Row F w v l) : ∃ a c, v = .slice a l.length c := by
  obtain ⟨a, c, e, -⟩ := h
  exact ⟨a, c, e⟩
theorem nm_form {F : Nat → Prop} {w : World} {v : Value} {l : List ByteArray} (h : NameRow F w v l) : ∃ a c, v = .slice a l.length c := by
  obtain ⟨a, c, e, -⟩ := h
  exact ⟨a, c, e⟩
end Cd
end Go.Proofs.YtlckjphnbfahgaaGreatDoor
namespace Go.Proofs.YtlckjphnbfahgaaGreatDoor
open Go.RowKit
attribute [local go_sem] Oper.semAt_some
namespace Cd
/-- how little a program has -/
def FewIs (p : Prog) : Prop := p.codes.length ≤ 40 ∧ p.consts.length ≤ 60 ∧ p.names.length ≤ 60 ∧ ∀ c ∈ p.codes, c.ins.length ≤ 400
def FewPost (p : Prog) (w : World) (e : Ending) (w' : World) : Prop := (∃ b, e = .returned (.bool b) ∧ (b = true → FewIs p)) ∧ Below w.heap.size w w'
theorem fewNo {p : Prog} {w w' : World} (h : Below w.heap.size w w') : FewPost p w (.returned (.bool false)) w' := ⟨⟨_, rfl, fun h => by cases h⟩, h⟩
theorem fewYes {p : Prog} {w w' : World} (h1 : FewIs p) (h : Below w.heap.size w w') : FewPost p w (.returned (.bool true)) w' := ⟨⟨_, rfl, fun _ => h1⟩, h⟩
end Cd
set_option maxRecDepth 100000 in
set_option maxHeartbeats 8000000 in
theorem fewS_any {F : Nat → Prop} (p : Cd.Prog) (vc vk vn : Value) (w : World) (hp : Cd.PRep F w p vc vk vn) (hw : Cd.PWf p) :
    Calls Tryz.prog 5 #[.agg #[vc, vk, vn]] w fun e w' => Cd.FewPost p w e w' := by
  obtain ⟨a1, c1, a2, c2, a3, c3, rfl, rfl, rfl⟩ := hp.forms
  obtain ⟨w1, hw1⟩ : ∃ w1, w.alloc (.cells #[.slice a1 p.codes.length c1, .slice a2 p.consts.length c2, .slice a3 p.names.length c3] 26) = w1 := ⟨_, rfl⟩
  obtain ⟨hb1, hs1, hbp⟩ := Cd.boxP hw1
  obtain ⟨p0, p1, p2⟩ := hbp w1 (Below.refl _ _)
  have HP := Lib.hid hp
  have HW := Lib.hid hw
  have HB1 := Lib.hid hb1
  have HS1 := Lib.hid hs1
  have HBP := Lib.hid hbp
  clear hp hw hb1 hs1 hbp
  by_cases l1 : 40 < p.codes.length
  · have l1' : (40 : Int) < (p.codes.length : Int) := by omega
    go_enter Tryz.func5, Tryz.ntmps5
    go_wp2
    go_ret
    exact Cd.fewNo HB1.out
  have l1' : decide ((40 : Int) < (p.codes.length : Int)) = false := decide_eq_false (by omega)
  by_cases l2 : 60 < p.consts.length
  · have l2' : decide ((60 : Int) < (p.consts.length : Int)) = true := decide_eq_true (by omega)
    clear l1 l2
    go_enter Tryz.func5, Tryz.ntmps5
    go_wp2
    go_ret
    exact Cd.fewNo HB1.out
  have l2' : decide ((60 : Int) < (p.consts.length : Int)) = false := decide_eq_false (by omega)
  by_cases l3 : 60 < p.names.length
  · have l3' : decide ((60 : Int) < (p.names.length : Int)) = true := decide_eq_true (by omega)
    clear l1 l2 l3
    go_enter Tryz.func5, Tryz.ntmps5
    go_wp2
    go_ret
    exact Cd.fewNo HB1.out
  have l3' : decide ((60 : Int) < (p.names.length : Int)) = false := decide_eq_false (by omega)
  have hl1 : p.codes.length ≤ 40 := by omega
  have hl2 : p.consts.length ≤ 60 := by omega
  have hl3 : p.names.length ≤ 60 := by omega
  clear l1 l2 l3
  go_enter Tryz.func5, Tryz.ntmps5
  go_wp2
  clear l1' l2' l3'
  go_loopw [28] (fun v wr => ∃ k : Nat, v = .int .i64 k ∧ k ≤ p.codes.length ∧ Hid (∀ c ∈ p.codes.take k, c.ins.length ≤ 400) ∧ Hid (Below w1.heap.size w1 wr)) (fun v _ => p.codes.length - (intOf v).toNat)
  case atStart => exact ⟨0, rfl, by omega, (fun c hc => by simp at hc), Below.refl _ _⟩
  case round =>
    obtain ⟨k, rfl, hk, HF, HBR⟩ := hrel
    obtain ⟨p0', p1', p2'⟩ := HBP.out wr HBR.out
    by_cases hlt : k < p.codes.length
    · have hlti : (k : Int) < (p.codes.length : Int) := by omega
      have HB : Hid (Below w.heap.size w wr) := HB1.out.trans (HBR.out.mono HB1.out.size)
      obtain ⟨b, o, rfl, -, -, x0, x1, x2, x3, vi, x4, hi⟩ := Cd.code_at (HP.out.below HB.out).codes k hlt
      obtain ⟨ai, ci, rfl⟩ := hi.form
      have HTK : Hid (∀ d, d = p.codes[k] → d.ins.length ≤ 400 → ∀ c ∈ p.codes.take (k + 1), c.ins.length ≤ 400) := fun d hd hl c hc => by
        rw [List.take_succ_eq_append_getElem hlt, List.mem_append] at hc
        rcases hc with hc | hc
        · exact HF.out c hc
        · rw [List.mem_singleton.1 hc, ← hd]; exact hl
      obtain ⟨c, hc⟩ : ∃ c, c = p.codes[k] := ⟨_, rfl⟩
      rw [← hc] at x0 x1 x2 x3 x4
      have HBN : Hid (Below w1.heap.size w1 (wr.alloc (.cells #[.int .i64 c.params, .int .i64 c.rest, .int .i64 c.caps, .int .i64 c.max, .slice ai c.ins.length ci] 47))) := HBR.out.alloc HBR.out.size _
      have HTC : Hid (c.ins.length ≤ 400 → ∀ c ∈ p.codes.take (k + 1), c.ins.length ≤ 400) := HTK.out c hc
      clear hi hc HTK
      by_cases h4 : 400 < c.ins.length
      · have h4' : (400 : Int) < (c.ins.length : Int) := by omega
        go_wp2
        go_ret
        exact Cd.fewNo (HB1.out.trans (HBN.out.mono HB1.out.size))
      · have h4' : decide ((400 : Int) < (c.ins.length : Int)) = false := decide_eq_false (by omega)
        have HTN : Hid (∀ c ∈ p.codes.take (k + 1), c.ins.length ≤ 400) := HTC.out (by omega)
        clear h4
        go_wp2
        go_roundw
        case rel => exact ⟨k + 1, by simp, by omega, HTN, HBN⟩
        case measure => simp [intOf]; omega
    · have hge : (p.codes.length : Int) ≤ (k : Int) := by omega
      have hd : decide (k < p.codes.length) = false := decide_eq_false hlt
      have hd' : (k < p.codes.length) = False := eq_false hlt
      have HF : Hid (∀ c ∈ p.codes, c.ins.length ≤ 400) := by have h := HF.out; rw [List.take_of_length_le (by omega)] at h; exact h
      clear hlt p0 p1 p2
      go_wp2
      try simp only [hd, hd', decide_false]
      clear hd hd'
      go_loopw [40] (fun v wz => ∃ k : Nat, v = .int .i64 k ∧ k ≤ p.consts.length ∧ Hid (Below w1.heap.size w1 wz)) (fun v _ => p.consts.length - (intOf v).toNat)
      case atStart => exact ⟨0, rfl, by omega, HBR⟩
      case round =>
        clear hge hk p0' p1' p2' HBR
        obtain ⟨k, rfl, hk, HBR⟩ := hrel
        obtain ⟨p0', p1', p2'⟩ := HBP.out _ HBR.out
        by_cases hlt : k < p.consts.length
        · have hlti : (k : Int) < (p.consts.length : Int) := by omega
          have HB : Hid (Below w.heap.size w _) := HB1.out.trans (HBR.out.mono HB1.out.size)
          obtain ⟨b, o, vm, vl, vt, rfl, -, ⟨x0, x1, x2, x3, x4, x5⟩, hrep⟩ := Cd.const_at (HP.out.below HB.out).consts k hlt
          have hwf := Cd.wfs_at HW.out.wk k hlt
          obtain ⟨x, hx⟩ : ∃ x, x = p.consts[k] := ⟨_, rfl⟩
          rw [← hx] at x0 x1 x2 hrep hwf
          obtain ⟨am, cm, al, c_l, at_, ct, rfl, rfl, rfl⟩ : ∃ am cm al c_l at_ ct, vm = .slice am x.m.length cm ∧ vl = .slice al x.l.length c_l ∧ vt = .slice at_ x.t.length ct := by
            obtain ⟨⟨a1, c1, h1, _⟩, ⟨a2, c2, h2, _⟩, ⟨a3, c3, h3, _⟩⟩ := (Dt.rep_iff _ _ x vm vl vt).1 hrep
            exact ⟨_, _, _, _, _, _, h1, h2, h3⟩
          obtain ⟨w4, hw4⟩ : ∃ w4, wr.alloc (.cells #[.int .i64 x.k, .int .i64 x.n, .string x.s, .slice am x.m.length cm, .slice al x.l.length c_l, .slice at_ x.t.length ct] 52) = w4 := ⟨_, rfl⟩
          have hb4 : Below wr.heap.size wr w4 := by rw [← hw4]; exact (Below.refl _ _).alloc (Nat.le_refl _) _
          have hsix := Dt.six_of' wr x (.slice am x.m.length cm) (.slice al x.l.length c_l) (.slice at_ x.t.length ct) 52
          rw [hw4] at hsix
          obtain ⟨z0, z1, z2, z3, z4, z5⟩ := hsix
          simp only [Nat.zero_add] at z0 z1 z2 z3 z4 z5
          have hsz := rSize_any x _ _ _ w4 hwf (hrep.below hb4)
          obtain ⟨Z, hZ⟩ : ∃ Z : Int, Z = (Cd.sizeD x : Nat) := ⟨_, rfl⟩
          rw [← hZ] at hsz
          have HB4 : Hid (Below w1.heap.size w1 w4) := HBR.out.trans (hb4.mono HBR.out.size)
          clear hx hb4 hrep hwf hZ
          by_cases g0 : 1000 < x.s.size
          · have g0' : decide ((1000 : Int) < (x.s.size : Int)) = true := decide_eq_true (by omega)
            clear g0
            go_wp2
            go_ret
            exact Cd.fewNo (HB1.out.trans (HB4.out.mono HB1.out.size))
          have g0' : decide ((1000 : Int) < (x.s.size : Int)) = false := decide_eq_false (by omega)
          clear g0
          by_cases g1 : 100 < x.m.length
          · have g1' : decide ((100 : Int) < (x.m.length : Int)) = true := decide_eq_true (by omega)
            clear g1
            go_wp2
            go_ret
            exact Cd.fewNo (HB1.out.trans (HB4.out.mono HB1.out.size))
          have g1' : decide ((100 : Int) < (x.m.length : Int)) = false := decide_eq_false (by omega)
          clear g1
          by_cases g2 : 300 < x.l.length
          · have g2' : decide ((300 : Int) < (x.l.length : Int)) = true := decide_eq_true (by omega)
            clear g2
            go_wp2
            go_ret
            exact Cd.fewNo (HB1.out.trans (HB4.out.mono HB1.out.size))
          have g2' : decide ((300 : Int) < (x.l.length : Int)) = false := decide_eq_false (by omega)
          clear g2
          by_cases g3 : 10 < x.t.length
          · have g3' : decide ((10 : Int) < (x.t.length : Int)) = true := decide_eq_true (by omega)
            clear g3
            go_wp2
            go_ret
            exact Cd.fewNo (HB1.out.trans (HB4.out.mono HB1.out.size))
          have g3' : decide ((10 : Int) < (x.t.length : Int)) = false := decide_eq_false (by omega)
          clear g3
          by_cases g5 : 400 < Z
          · go_wp2_with (go_at_call 18; refine hsz.mono ?_; clear hsz; rintro e w9 ⟨rfl, hb9⟩; have HB9 : Hid (Below w1.heap.size w1 w9) := HB4.out.trans (hb9.mono HB4.out.size); clear hb9)
            go_ret
            exact Cd.fewNo (HB1.out.trans (HB9.out.mono HB1.out.size))
          · have g5' : decide (400 < Z) = false := decide_eq_false g5
            clear g5
            go_wp2_with (go_at_call 18; refine hsz.mono ?_; clear hsz; rintro e w9 ⟨rfl, hb9⟩; have HB9 : Hid (Below w1.heap.size w1 w9) := HB4.out.trans (hb9.mono HB4.out.size); clear hb9)
            go_roundw
            case rel => exact ⟨k + 1, by simp, by omega, HB9⟩
            case measure => simp [intOf]; omega
        · have hge : (p.consts.length : Int) ≤ (k : Int) := by omega
          have hd' : (k < p.consts.length) = False := eq_false hlt
          clear hlt
          go_wp2
          try simp only [hd', decide_false]
          clear hd'
          go_loopw [75] (fun v wz => ∃ k : Nat, v = .int .i64 k ∧ k ≤ p.names.length ∧ Hid (Below w1.heap.size w1 wz)) (fun v _ => p.names.length - (intOf v).toNat)
          case atStart => exact ⟨0, rfl, by omega, HBR⟩
          case round =>
            clear hge hk p0' p1' p2' HBR
            obtain ⟨k, rfl, hk, HBR⟩ := hrel
            by_cases hlt : k < p.names.length
            · have hlti : (k : Int) < (p.names.length : Int) := by omega
              have HB : Hid (Below w.heap.size w _) := HB1.out.trans (HBR.out.mono HB1.out.size)
              obtain ⟨b, o, rfl, -, x0⟩ := Cd.name_at (HP.out.below HB.out).names k hlt
              obtain ⟨x, hx⟩ : ∃ x, x = p.names[k] := ⟨_, rfl⟩
              rw [← hx] at x0
              clear hx
              by_cases g0 : 1000 < x.size
              · have g0' : decide ((1000 : Int) < (x.size : Int)) = true := decide_eq_true (by omega)
                clear g0
                go_wp2
                go_ret
                exact Cd.fewNo HB.out
              · have g0' : decide ((1000 : Int) < (x.size : Int)) = false := decide_eq_false (by omega)
                clear g0
                go_wp2
                go_roundw
                case rel => exact ⟨k + 1, by simp, by omega, HBR⟩
                case measure => simp [intOf]; omega
            · have hge : (p.names.length : Int) ≤ (k : Int) := by omega
              clear hlt
              go_wp2
              go_ret
              exact Cd.fewYes ⟨hl1, hl2, hl3, HF.out⟩ (HB1.out.trans (HBR.out.mono HB1.out.size))
end Go.Proofs.YtlckjphnbfahgaaGreatDoor
namespace Go.Proofs.YtlckjphnbfahgaaGreatDoor
open Go.RowKit Go.Sort
attribute [local go_sem] Oper.semAt_some
namespace Cd
theorem linesOf_len {p : Prog} (hf : FewIs p) (k : Int) : (linesOf p k).length ≤ 400 := by
  unfold linesOf
  split
  · simp
  · split
    · rename_i c hc
      rw [linesN_len]
      exact hf.2.2.2 c (List.mem_of_getElem? hc)
    · simp
theorem NameRow.take {F : Nat → Prop} {w : World} {a : Option Addr} {n c : Nat} {l : List ByteArray} (h : NameRow F w (.slice a n c) l) {q : Nat} (hq : q ≤ l.length) : NameRow F w (.slice a q c) (l.take q) := by
  obtain ⟨a', c', e, hc, hr⟩ := h
  cases e
  refine ⟨a, c, by rw [List.length_take, Nat.min_eq_left hq], by rw [List.length_take]; omega, fun hn => ?_⟩
  obtain ⟨b, o, e1, e2, e3, e4⟩ := hr (fun e => hn (by rw [e, List.take_nil]))
  refine ⟨b, o, e1, e2, e3, fun j hj => ?_⟩
  rw [List.getElem_take]
  exact e4 j (by rw [List.length_take] at hj; omega)
/-- code.Lines(p, k) hands back a value that goes through the lines -/
def LinesIs (p : Prog) (k : Int) (a1 a2 a3 : Option Addr) (c1 c2 c3 : Nat) (w : World) (e : Ending) (w' : World) : Prop := ∃ Bp Bk, e = .returned (.func (.func 23) #[] #[.pointer (some ⟨Bp, 0, none⟩), .pointer (some ⟨Bk, 0, none⟩)]) ∧ Below w.heap.size w w' ∧
  (w'.cell? ⟨Bp, 0, none⟩ = some (.slice a1 p.codes.length c1) ∧ w'.cell? ⟨Bp, 1, none⟩ = some (.slice a2 p.consts.length c2) ∧ w'.cell? ⟨Bp, 2, none⟩ = some (.slice a3 p.names.length c3)) ∧ w'.cell? ⟨Bk, 0, none⟩ = some (.int .i64 k)
end Cd
set_option maxRecDepth 100000 in
theorem cLines_any (p : Cd.Prog) (k : Int) (a1 a2 a3 : Option Addr) (c1 c2 c3 : Nat) (w : World) :
    Calls Tryz.prog 11 #[.agg #[.slice a1 p.codes.length c1, .slice a2 p.consts.length c2, .slice a3 p.names.length c3], .int .i64 k] w (Cd.LinesIs p k a1 a2 a3 c1 c2 c3 w) := by
  obtain ⟨w1, hw1⟩ : ∃ w1, w.alloc (.cells #[.slice a1 p.codes.length c1, .slice a2 p.consts.length c2, .slice a3 p.names.length c3] 26) = w1 := ⟨_, rfl⟩
  obtain ⟨w2, hw2⟩ : ∃ w2, w1.alloc (.cells #[.int .i64 k] 3) = w2 := ⟨_, rfl⟩
  obtain ⟨hb1, hs1, hbp⟩ := Cd.boxP hw1
  obtain ⟨hb2, hs2⟩ := Cd.below_new (Below.refl _ w1) hw2 (Nat.le_refl _)
  have hh2 := Cd.box_heap hw2
  have HE : Hid (Cd.LinesIs p k a1 a2 a3 c1 c2 c3 w (.returned (.func (.func 23) #[] #[.pointer (some ⟨w.heap.size, 0, none⟩), .pointer (some ⟨w1.heap.size, 0, none⟩)])) w2) :=
    ⟨_, _, rfl, hb1.trans (hb2.mono hb1.size), hbp w2 hb2, by rw [Cd.hcell hh2]; rfl⟩
  clear hb1 hs1 hbp hb2 hs2 hh2
  go_enter Tryz.func11, Tryz.ntmps11
  go_wp2
  go_ret
  exact HE.out
/-- told, over code.Lines: the first so many lines -/
theorem cdTold_any {F : Nat → Prop} (p : Cd.Prog) (k : Int) (a1 a2 a3 : Option Addr) (c1 c2 c3 : Nat) (m : Nat) (hm : m ≤ 1048576) (w : World) (hp : Cd.PRep F w p (.slice a1 p.codes.length c1) (.slice a2 p.consts.length c2) (.slice a3 p.names.length c3)) (hw : Cd.PWf p) (hT : Cd.T10 w) (hl : (Cd.linesOf p k).length ≤ 4096) (Bp Bk : Nat)
    (hBp : w.cell? ⟨Bp, 0, none⟩ = some (.slice a1 p.codes.length c1) ∧ w.cell? ⟨Bp, 1, none⟩ = some (.slice a2 p.consts.length c2) ∧ w.cell? ⟨Bp, 2, none⟩ = some (.slice a3 p.names.length c3)) (hBk : w.cell? ⟨Bk, 0, none⟩ = some (.int .i64 k)) :
    Calls Tryz.prog 10 #[.func (.func 23) #[] #[.pointer (some ⟨Bp, 0, none⟩), .pointer (some ⟨Bk, 0, none⟩)], .int .i64 (m : Int)] w fun e W' => ∃ a c, e = .returned (.slice a ((Cd.linesOf p k).take m).length c) ∧ Cd.NameRow (fun _ => True) W' (.slice a ((Cd.linesOf p k).take m).length c) ((Cd.linesOf p k).take m) ∧ Below w.heap.size w W' := by
  refine (cdTold_gen Bp Bk (Cd.linesOf p k) m hm w hl (fun W0 hB0 l J Jx W hW hJ _ hY h0 => Lines1_in 8 (by decide) l Bp Bk p k a1 a2 a3 c1 c2 c3 w hp hw hT J Jx _ rfl W (hB0.trans (hW.mono hB0.size)) hJ hY hBp hBk h0)).mono ?_
  rintro e W' ⟨v, rfl, hown, hb⟩
  have h := Cd.NameRow.of_own (F := fun _ => True) hown (fun _ _ => trivial)
  obtain ⟨a, c, rfl⟩ := Cd.nm_form h
  exact ⟨a, c, rfl, h, hb⟩
set_option maxRecDepth 100000 in
set_option maxHeartbeats 16000000 in
theorem CodeLines_walk {F : Nat → Prop} (p : Cd.Prog) (vc vk vn : Value) (k op : Int) (m : Nat) (w : World) (hp : Cd.PRep F w p vc vk vn) (hw : Cd.PWf p) (hm : m < 256) (hT : Cd.T10 w) :
    Calls Tryz.prog 3 #[.agg #[vc, vk, vn], .int .i64 k, .int .i64 op, .int .u8 (m : Int)] w fun e w' => e = .returned (.bool true) ∧ Below w.heap.size w w' := by
  obtain ⟨a1, c1, a2, c2, a3, c3, rfl, rfl, rfl⟩ := hp.forms
  obtain ⟨w1, hw1⟩ : ∃ w1, w.alloc (.cells #[.slice a1 p.codes.length c1, .slice a2 p.consts.length c2, .slice a3 p.names.length c3] 26) = w1 := ⟨_, rfl⟩
  obtain ⟨hb1, hs1, hbp⟩ := Cd.boxP hw1
  have haw := awake_any w1
  have HP := Lib.hid hp
  have HW := Lib.hid hw
  have HB1 := Lib.hid hb1
  have HBP := Lib.hid hbp
  have HT := Lib.hid hT
  clear hp hw hb1 hs1 hbp hT
  go_enter Tryz.func3, Tryz.ntmps3
  go_wp2_with (first | (go_at_call 4; refine haw.mono ?_; clear haw hw1; rintro e w2 ⟨rfl, hb2⟩; obtain ⟨p0, p1, p2⟩ := HBP.out w2 hb2; have HB2 : Hid (Below w.heap.size w w2) := HB1.out.trans (hb2.mono HB1.out.size); have HB12 := Lib.hid hb2; have hfew := fewS_any p _ _ _ w2 (HP.out.below HB2.out) HW.out; clear hb2) | (go_at_call 5; refine hfew.mono ?_; clear hfew p0 p1 p2; rintro e w3 hf; obtain ⟨⟨fb, rfl, hfb⟩, hb3⟩ := hf; refine Hid.out ?_))
  refine Lib.hid ?_
  have HB13 : Hid (Below w1.heap.size w1 w3) := HB12.out.trans (hb3.mono HB12.out.size)
  have HB3 : Hid (Below w.heap.size w w3) := HB2.out.trans (hb3.mono HB2.out.size)
  clear hb3 HB12 HB2
  cases fb with
  | false =>
    have haw := awake_any w3
    clear hfb
    go_wp2_with (go_at_call 4; refine haw.mono ?_; clear haw; rintro e w4 ⟨rfl, hb4⟩)
    go_ret
    exact ⟨rfl, HB3.out.trans (hb4.mono HB3.out.size)⟩
  | true =>
    have hll := Cd.linesOf_len (hfb rfl) k
    obtain ⟨p0, p1, p2⟩ := HBP.out w3 HB13.out
    have hrl := rLines_any p k _ _ _ w3 (HP.out.below HB3.out) HW.out
    clear hfb
    go_wp2_with (go_at_call 6; refine hrl.mono ?_; clear hrl p0 p1 p2; rintro e w4 hlp; obtain ⟨aw, cw, rfl, hrow, hb4⟩ := hlp; refine Hid.out ?_)
    refine Lib.hid ?_
    have HB14 : Hid (Below w1.heap.size w1 w4) := HB13.out.trans (hb4.mono HB13.out.size)
    have HB4 : Hid (Below w.heap.size w w4) := HB3.out.trans (hb4.mono HB3.out.size)
    have hwant := Cd.NameRow.of_own (F := fun _ => True) hrow (fun _ _ => trivial)
    have hcap : (Cd.linesOf p k).length ≤ cw := by obtain ⟨a', c', e, h, -⟩ := hwant; cases e; exact h
    have HTOLD : Hid (∀ (m : Nat) (W : World) (Bp Bk : Nat), m ≤ 1048576 → Below w4.heap.size w4 W → (W.cell? ⟨Bp, 0, none⟩ = some (.slice a1 p.codes.length c1) ∧ W.cell? ⟨Bp, 1, none⟩ = some (.slice a2 p.consts.length c2) ∧ W.cell? ⟨Bp, 2, none⟩ = some (.slice a3 p.names.length c3)) → W.cell? ⟨Bk, 0, none⟩ = some (.int .i64 k) → Calls Tryz.prog 10 #[.func (.func 23) #[] #[.pointer (some ⟨Bp, 0, none⟩), .pointer (some ⟨Bk, 0, none⟩)], .int .i64 (m : Int)] W fun e W' => ∃ a c, e = .returned (.slice a ((Cd.linesOf p k).take m).length c) ∧ Cd.NameRow (fun _ => True) W' (.slice a ((Cd.linesOf p k).take m).length c) ((Cd.linesOf p k).take m) ∧ Below W.heap.size W W') := fun m W Bp Bk hm hb h1 h2 =>
      have hB := HB4.out.trans (hb.mono HB4.out.size)
      cdTold_any p k a1 a2 a3 c1 c2 c3 m hm W (HP.out.below hB) HW.out (HT.out.on hB) (by omega) Bp Bk h1 h2
    have HPRE : Hid (∀ q W, q ≤ (Cd.linesOf p k).length → Below w4.heap.size w4 W → Cd.NameRow (fun _ => True) W (.slice aw q cw) ((Cd.linesOf p k).take q)) := fun q W hq hb => (hwant.below hb).take hq
    have hnm1 := cName_any op
    have hnm2 := rName_any op
    obtain ⟨N, hN⟩ : ∃ N, Cd.nm op = N := ⟨_, rfl⟩
    rw [hN] at hnm1 hnm2
    obtain ⟨L, hL⟩ : ∃ L, Cd.linesOf p k = L := ⟨_, rfl⟩
    rw [hL] at HTOLD HPRE hll hcap ⊢
    obtain ⟨q, hq⟩ : ∃ q, q = min L.length m := ⟨_, rfl⟩
    have hqi : min (L.length : Int) (m : Int) = (q : Int) := by omega
    have hq1 : q ≤ L.length := by omega
    have hqL : L.take m = L.take q := by
      rw [hq]
      by_cases h : m ≤ L.length
      · rw [Nat.min_eq_right h]
      · rw [Nat.min_eq_left (by omega), List.take_length, List.take_of_length_le (by omega)]
    have hlq : (L.take q).length = q := by rw [List.length_take]; omega
    have hq0 : (0 : Int) ≤ (q : Int) := by omega
    have hqc : (q : Int) ≤ (cw : Int) := by omega
    have hqn : (q : Int) ≤ (L.length : Int) := by omega
    have hm0 : (0 : Int) ≤ (m : Int) := by omega
    have hm2 : (m : Int) < 256 := by omega
    have hwm : IntKind.i64.wrap (m : Int) = (m : Int) := IntWalk.i64_in _ (by omega)
    have H1 := Lib.hid hnm1
    have H2 := Lib.hid hnm2
    have HQL := Lib.hid hqL
    have HLQ := Lib.hid hlq
    have HQQ := Lib.hid hq
    have HKP : Hid (∀ W, Below w4.heap.size w4 W → W.cell? ⟨w.heap.size, 0, none⟩ = some (.slice a1 p.codes.length c1) ∧ W.cell? ⟨w.heap.size, 1, none⟩ = some (.slice a2 p.consts.length c2) ∧ W.cell? ⟨w.heap.size, 2, none⟩ = some (.slice a3 p.names.length c3)) := fun W hW => HBP.out W (HB14.out.trans (hW.mono HB14.out.size))
    have HBD : Hid (Below w4.heap.size w4 w4.drew) := (Below.refl _ w4).drew
    have HS0 := HKP.out _ HBD.out
    clear hb4 hrow hwant hcap hnm1 hnm2 hN hL hqL hlq hq hq1
    go_upto_region 4 with fail
    refine wp_region_noPanic ?_
    refine wp_region_held_drew (S := fun W => W.cell? ⟨w.heap.size, 0, none⟩ = some (.slice a1 p.codes.length c1) ∧ W.cell? ⟨w.heap.size, 1, none⟩ = some (.slice a2 p.consts.length c2) ∧ W.cell? ⟨w.heap.size, 2, none⟩ = some (.slice a3 p.names.length c3)) (by kernel_rfl) HS0 (fun hHeld => ?_)
    refine wpAnyH_take (i := 0) (oi := ⟨_, _, _, _, _, _⟩) (v := ?_) rfl (by kernel_rfl) (by kernel_rfl) (by kernel_rfl) (fun _ _ _ h => h) (Or.inl ⟨by rfl, ?_⟩) (by assumption) ?_
    rotate_left
    · intro w hSw
      clear hSw
      go_simp
      try with_reducible rfl
    simp only [Act.put, List.setIfInBounds_toArray, List.set_cons_zero, List.set_cons_succ]
    refine wpAnyH_take (i := 2) (oi := ⟨_, _, _, _, _, _⟩) (v := ?_) rfl (by kernel_rfl) (by kernel_rfl) (by kernel_rfl) (fun _ _ _ h => h) (Or.inl ⟨by rfl, ?_⟩) (by assumption) ?_
    rotate_left
    · intro w hSw
      clear hSw
      go_simp
      try with_reducible rfl
    simp only [Act.put, List.setIfInBounds_toArray, List.set_cons_zero, List.set_cons_succ]
    refine wpAnyH_ready (rs := [1]) (by kernel_rfl) (by simp) ?_
    refine AllReadyH.cons (o := ⟨_, _, _, _, _, _⟩) rfl (fun K hK => ?_) AllReadyH.nil
    go_simp
    refine (H1.out _).mono ?_
    rintro e w5 ⟨rfl, hb5⟩
    have HB5 : Hid (Below w4.heap.size w4 w5) := HBD.out.trans (hb5.mono HBD.out.size)
    clear hb5
    dsimp only
    refine hK.out _ _ ?_ (fun hHeld => ?_)
    · exact HKP.out _ HB5.out
    clear hK K
    try simp only [Act.put, List.setIfInBounds_toArray, List.set_cons_zero, List.set_cons_succ]
    refine wpAnyH_ready (rs := [3]) (by kernel_rfl) (by simp) ?_
    refine AllReadyH.cons (o := ⟨_, _, _, _, _, _⟩) rfl (fun K hK => ?_) AllReadyH.nil
    go_simp
    refine (H2.out _).mono ?_
    rintro e w6 ⟨rfl, hb6⟩
    have HB6 : Hid (Below w4.heap.size w4 w6) := HB5.out.trans (hb6.mono HB5.out.size)
    clear hb6
    dsimp only
    refine hK.out _ _ ?_ (fun hHeld => ?_)
    · exact HKP.out _ HB6.out
    clear hK K
    try simp only [Act.put, List.setIfInBounds_toArray, List.set_cons_zero, List.set_cons_succ]
    refine wpAnyH_take (i := 4) (oi := ⟨_, _, _, _, _, _⟩) (v := .bool true) rfl (by kernel_rfl) (by kernel_rfl) (by kernel_rfl) (fun _ _ _ h => h) (Or.inl ⟨by rfl, ?_⟩) (by assumption) ?_
    · intro w hSw
      clear hSw
      go_simp
      try with_reducible rfl
    simp only [Act.put, List.setIfInBounds_toArray, List.set_cons_zero, List.set_cons_succ]
    refine wpAnyH_take (i := 5) (oi := ⟨_, _, _, _, _, _⟩) (v := .bool true) rfl (by kernel_rfl) (by kernel_rfl) (by kernel_rfl) (fun _ _ _ h => h) (Or.inl ⟨by rfl, ?_⟩) (by assumption) ?_
    · intro w hSw
      clear hSw
      go_simp
      try with_reducible rfl
    simp only [Act.put, List.setIfInBounds_toArray, List.set_cons_zero, List.set_cons_succ]
    refine wpAnyH_take (i := 6) (oi := ⟨_, _, _, _, _, _⟩) (v := ?_) rfl (by kernel_rfl) (by kernel_rfl) (by kernel_rfl) (fun _ _ _ h => h) (Or.inl ⟨by rfl, ?_⟩) (by assumption) ?_
    rotate_left
    · intro w hSw
      obtain ⟨s0, s1, s2⟩ := hSw
      go_simp
      try with_reducible rfl
    simp only [Act.put, List.setIfInBounds_toArray, List.set_cons_zero, List.set_cons_succ]
    refine wpAnyH_take (i := 7) (oi := ⟨_, _, _, _, _, _⟩) (v := ?_) rfl (by kernel_rfl) (by kernel_rfl) (by kernel_rfl) (fun _ _ _ h => h) (Or.inl ⟨by rfl, ?_⟩) (by assumption) ?_
    rotate_left
    · intro w hSw
      clear hSw
      go_simp
      try with_reducible rfl
    simp only [Act.put, List.setIfInBounds_toArray, List.set_cons_zero, List.set_cons_succ]
    refine wpAnyH_take (i := 10) (oi := ⟨_, _, _, _, _, _⟩) (v := ?_) rfl (by kernel_rfl) (by kernel_rfl) (by kernel_rfl) (fun _ _ _ h => h) (Or.inl ⟨by rfl, ?_⟩) (by assumption) ?_
    rotate_left
    · intro w hSw
      clear hSw
      go_simp
      try with_reducible rfl
    simp only [Act.put, List.setIfInBounds_toArray, List.set_cons_zero, List.set_cons_succ]
    refine wpAnyH_ready (rs := [8]) (by kernel_rfl) (by simp) ?_
    refine AllReadyH.cons (o := ⟨_, _, _, _, _, _⟩) rfl (fun K hK => ?_) AllReadyH.nil
    go_simp
    refine (cLines_any p k a1 a2 a3 c1 c2 c3 _).mono ?_
    rintro e w7 h7
    obtain ⟨Bp, Bk, rfl, hb7, hBp, hBk⟩ := h7
    have HBX := Lib.hid hBp
    have HBY := Lib.hid hBk
    clear hBp hBk
    have HB7 : Hid (Below w4.heap.size w4 w7) := HB6.out.trans (hb7.mono HB6.out.size)
    clear hb7
    dsimp only
    refine hK.out _ _ ?_ (fun hHeld => ?_)
    · exact HKP.out _ HB7.out
    clear hK K
    try simp only [Act.put, List.setIfInBounds_toArray, List.set_cons_zero, List.set_cons_succ]
    refine wpAnyH_ready (rs := [9]) (by kernel_rfl) (by simp) ?_
    refine AllReadyH.cons (o := ⟨_, _, _, _, _, _⟩) rfl (fun K hK => ?_) AllReadyH.nil
    go_simp
    refine (HTOLD.out 1048576 _ Bp Bk (by decide) HB7.out HBX.out HBY.out).mono ?_
    rintro e w8 h8
    obtain ⟨ax, cx, rfl, hx, hb8⟩ := h8
    have hxx : L.take 1048576 = L := List.take_of_length_le (by omega)
    rw [hxx] at hx ⊢
    have HX := Lib.hid hx
    clear hx hxx
    have HB8 : Hid (Below w4.heap.size w4 w8) := HB7.out.trans (hb8.mono HB7.out.size)
    clear hb8
    dsimp only
    refine hK.out _ _ ?_ (fun hHeld => ?_)
    · exact HKP.out _ HB8.out
    clear hK K
    try simp only [Act.put, List.setIfInBounds_toArray, List.set_cons_zero, List.set_cons_succ]
    refine wpAnyH_ready (rs := [11]) (by kernel_rfl) (by simp) ?_
    refine AllReadyH.cons (o := ⟨_, _, _, _, _, _⟩) rfl (fun K hK => ?_) AllReadyH.nil
    go_simp
    refine (sEqual_any _ _ L L _ HX.out (HPRE.out L.length _ (Nat.le_refl _) HB8.out |> fun h => by rw [List.take_length] at h; exact h) (by omega) (by omega)).mono ?_
    rintro e w9 ⟨rfl, hb9⟩
    rw [decide_eq_true rfl]
    have HB9 : Hid (Below w4.heap.size w4 w9) := HB8.out.trans (hb9.mono HB8.out.size)
    clear hb9
    dsimp only
    refine hK.out _ _ ?_ (fun hHeld => ?_)
    · exact HKP.out _ HB9.out
    clear hK K
    try simp only [Act.put, List.setIfInBounds_toArray, List.set_cons_zero, List.set_cons_succ]
    refine wpAnyH_take (i := 12) (oi := ⟨_, _, _, _, _, _⟩) (v := .bool true) rfl (by kernel_rfl) (by kernel_rfl) (by kernel_rfl) (fun _ _ _ h => h) (Or.inl ⟨by rfl, ?_⟩) (by assumption) ?_
    · intro w hSw
      clear hSw
      go_simp
      try with_reducible rfl
    simp only [Act.put, List.setIfInBounds_toArray, List.set_cons_zero, List.set_cons_succ]
    refine wpAnyH_take (i := 13) (oi := ⟨_, _, _, _, _, _⟩) (v := .bool true) rfl (by kernel_rfl) (by kernel_rfl) (by kernel_rfl) (fun _ _ _ h => h) (Or.inl ⟨by rfl, ?_⟩) (by assumption) ?_
    · intro w hSw
      clear hSw
      go_simp
      try with_reducible rfl
    simp only [Act.put, List.setIfInBounds_toArray, List.set_cons_zero, List.set_cons_succ]
    refine wpAnyH_take (i := 14) (oi := ⟨_, _, _, _, _, _⟩) (v := ?_) rfl (by kernel_rfl) (by kernel_rfl) (by kernel_rfl) (fun _ _ _ h => h) (Or.inl ⟨by rfl, ?_⟩) (by assumption) ?_
    rotate_left
    · intro w hSw
      obtain ⟨s0, s1, s2⟩ := hSw
      go_simp
      try with_reducible rfl
    simp only [Act.put, List.setIfInBounds_toArray, List.set_cons_zero, List.set_cons_succ]
    refine wpAnyH_take (i := 15) (oi := ⟨_, _, _, _, _, _⟩) (v := ?_) rfl (by kernel_rfl) (by kernel_rfl) (by kernel_rfl) (fun _ _ _ h => h) (Or.inl ⟨by rfl, ?_⟩) (by assumption) ?_
    rotate_left
    · intro w hSw
      clear hSw
      go_simp
      try with_reducible rfl
    simp only [Act.put, List.setIfInBounds_toArray, List.set_cons_zero, List.set_cons_succ]
    refine wpAnyH_take (i := 17) (oi := ⟨_, _, _, _, _, _⟩) (v := ?_) rfl (by kernel_rfl) (by kernel_rfl) (by kernel_rfl) (fun _ _ _ h => h) (Or.inl ⟨by rfl, ?_⟩) (by assumption) ?_
    rotate_left
    · intro w hSw
      clear hSw
      go_simp
      try with_reducible rfl
    simp only [Act.put, List.setIfInBounds_toArray, List.set_cons_zero, List.set_cons_succ]
    refine wpAnyH_take (i := 18) (oi := ⟨_, _, _, _, _, _⟩) (v := .int .i64 (m : Int)) rfl (by kernel_rfl) (by kernel_rfl) (by kernel_rfl) (fun _ _ _ h => h) (Or.inl ⟨by rfl, ?_⟩) (by assumption) ?_
    · intro w hSw
      clear hSw
      go_simp
      try with_reducible rfl
    simp only [Act.put, List.setIfInBounds_toArray, List.set_cons_zero, List.set_cons_succ]
    refine wpAnyH_take (i := 20) (oi := ⟨_, _, _, _, _, _⟩) (v := ?_) rfl (by kernel_rfl) (by kernel_rfl) (by kernel_rfl) (fun _ _ _ h => h) (Or.inl ⟨by rfl, ?_⟩) (by assumption) ?_
    rotate_left
    · intro w hSw
      clear hSw
      go_simp
      try with_reducible rfl
    simp only [Act.put, List.setIfInBounds_toArray, List.set_cons_zero, List.set_cons_succ]
    refine wpAnyH_take (i := 21) (oi := ⟨_, _, _, _, _, _⟩) (v := ?_) rfl (by kernel_rfl) (by kernel_rfl) (by kernel_rfl) (fun _ _ _ h => h) (Or.inl ⟨by rfl, ?_⟩) (by assumption) ?_
    rotate_left
    · intro w hSw
      clear hSw
      go_simp
      try with_reducible rfl
    simp only [Act.put, List.setIfInBounds_toArray, List.set_cons_zero, List.set_cons_succ]
    refine wpAnyH_take (i := 22) (oi := ⟨_, _, _, _, _, _⟩) (v := .int .i64 (L.length : Int)) rfl (by kernel_rfl) (by kernel_rfl) (by kernel_rfl) (fun _ _ _ h => h) (Or.inl ⟨by rfl, ?_⟩) (by assumption) ?_
    · intro w hSw
      clear hSw
      go_simp
      try with_reducible rfl
    simp only [Act.put, List.setIfInBounds_toArray, List.set_cons_zero, List.set_cons_succ]
    refine wpAnyH_take (i := 23) (oi := ⟨_, _, _, _, _, _⟩) (v := ?_) rfl (by kernel_rfl) (by kernel_rfl) (by kernel_rfl) (fun _ _ _ h => h) (Or.inl ⟨by rfl, ?_⟩) (by assumption) ?_
    rotate_left
    · intro w hSw
      clear hSw
      go_simp
      try with_reducible rfl
    simp only [Act.put, List.setIfInBounds_toArray, List.set_cons_zero, List.set_cons_succ]
    refine wpAnyH_take (i := 24) (oi := ⟨_, _, _, _, _, _⟩) (v := .int .i64 (m : Int)) rfl (by kernel_rfl) (by kernel_rfl) (by kernel_rfl) (fun _ _ _ h => h) (Or.inl ⟨by rfl, ?_⟩) (by assumption) ?_
    · intro w hSw
      clear hSw
      go_simp
      try with_reducible rfl
    simp only [Act.put, List.setIfInBounds_toArray, List.set_cons_zero, List.set_cons_succ]
    refine wpAnyH_take (i := 25) (oi := ⟨_, _, _, _, _, _⟩) (v := .int .i64 (q : Int)) rfl (by kernel_rfl) (by kernel_rfl) (by kernel_rfl) (fun _ _ _ h => h) (Or.inl ⟨by rfl, ?_⟩) (by assumption) ?_
    · intro w hSw
      clear hSw
      go_simp
      try with_reducible rfl
    simp only [Act.put, List.setIfInBounds_toArray, List.set_cons_zero, List.set_cons_succ]
    refine wpAnyH_take (i := 26) (oi := ⟨_, _, _, _, _, _⟩) (v := .slice aw q cw) rfl (by kernel_rfl) (by kernel_rfl) (by kernel_rfl) (fun _ _ _ h => h) (Or.inl ⟨by rfl, ?_⟩) (by assumption) ?_
    · intro w hSw
      clear hSw
      go_simp
      try with_reducible rfl
    simp only [Act.put, List.setIfInBounds_toArray, List.set_cons_zero, List.set_cons_succ]
    refine wpAnyH_ready (rs := [16]) (by kernel_rfl) (by simp) ?_
    refine AllReadyH.cons (o := ⟨_, _, _, _, _, _⟩) rfl (fun K hK => ?_) AllReadyH.nil
    go_simp
    refine (cLines_any p k a1 a2 a3 c1 c2 c3 _).mono ?_
    rintro e w10 h10
    obtain ⟨Bp2, Bk2, rfl, hb10, hBp, hBk⟩ := h10
    have HBX2 := Lib.hid hBp
    have HBY2 := Lib.hid hBk
    clear hBp hBk
    have HB10 : Hid (Below w4.heap.size w4 w10) := HB9.out.trans (hb10.mono HB9.out.size)
    clear hb10
    dsimp only
    refine hK.out _ _ ?_ (fun hHeld => ?_)
    · exact HKP.out _ HB10.out
    clear hK K
    try simp only [Act.put, List.setIfInBounds_toArray, List.set_cons_zero, List.set_cons_succ]
    refine wpAnyH_ready (rs := [19]) (by kernel_rfl) (by simp) ?_
    refine AllReadyH.cons (o := ⟨_, _, _, _, _, _⟩) rfl (fun K hK => ?_) AllReadyH.nil
    go_simp
    refine (HTOLD.out m _ Bp2 Bk2 (by omega) HB10.out HBX2.out HBY2.out).mono ?_
    rintro e w11 h11
    obtain ⟨ay, cy, rfl, hy, hb11⟩ := h11
    rw [HQL.out, HLQ.out] at hy ⊢
    have HY := Lib.hid hy
    clear hy
    have HB11 : Hid (Below w4.heap.size w4 w11) := HB10.out.trans (hb11.mono HB10.out.size)
    clear hb11
    dsimp only
    refine hK.out _ _ ?_ (fun hHeld => ?_)
    · exact HKP.out _ HB11.out
    clear hK K
    try simp only [Act.put, List.setIfInBounds_toArray, List.set_cons_zero, List.set_cons_succ]
    refine wpAnyH_ready (rs := [27]) (by kernel_rfl) (by simp) ?_
    refine AllReadyH.cons (o := ⟨_, _, _, _, _, _⟩) rfl (fun K hK => ?_) AllReadyH.nil
    go_simp
    refine (sEqual_any _ _ (L.take q) (L.take q) _ HY.out (HPRE.out q _ (by have := HQQ.out; omega) HB11.out) (by rw [HLQ.out]; omega) (by rw [HLQ.out]; omega)).mono ?_
    rintro e w12 ⟨rfl, hb12⟩
    rw [decide_eq_true rfl]
    have HB12 : Hid (Below w4.heap.size w4 w12) := HB11.out.trans (hb12.mono HB11.out.size)
    clear hb12
    dsimp only
    refine hK.out _ _ ?_ (fun hHeld => ?_)
    · exact HKP.out _ HB12.out
    clear hK K
    try simp only [Act.put, List.setIfInBounds_toArray, List.set_cons_zero, List.set_cons_succ]
    refine wpAnyH_take (i := 28) (oi := ⟨_, _, _, _, _, _⟩) (v := .bool true) rfl (by kernel_rfl) (by kernel_rfl) (by kernel_rfl) (fun _ _ _ h => h) (Or.inl ⟨by rfl, ?_⟩) (by assumption) ?_
    · intro w hSw
      clear hSw
      go_simp
      try with_reducible rfl
    simp only [Act.put, List.setIfInBounds_toArray, List.set_cons_zero, List.set_cons_succ]
    refine wpAnyH_take (i := 29) (oi := ⟨_, _, _, _, _, _⟩) (v := ?_) rfl (by kernel_rfl) (by kernel_rfl) (by kernel_rfl) (fun _ _ _ h => h) (Or.inl ⟨by rfl, ?_⟩) (by assumption) ?_
    rotate_left
    · intro w hSw
      clear hSw
      go_simp
      try with_reducible rfl
    simp only [Act.put, List.setIfInBounds_toArray, List.set_cons_zero, List.set_cons_succ]
    refine wpAnyH_done (by kernel_rfl) ?_ _
    refine NoPanic.normal ?_
    go_wp2
    go_ret
    exact ⟨rfl, HB4.out.trans (HB12.out.mono HB4.out.size)⟩
theorem CodeLines_law {F : Nat → Prop} (p : Cd.Prog) (vc vk vn : Value) (k op m : Int) (w : World) (hp : Cd.PRep F w p vc vk vn) (hw : Cd.PWf p) (hm : (Lit.int .u8 m).wf = true) (hT : Cd.T10 w) :
    Calls Tryz.prog 3 #[.agg #[vc, vk, vn], .int .i64 k, .int .i64 op, .int .u8 m] w fun e w' => e = .returned (.bool true) ∧ Below w.heap.size w w' := by
  have h := hm
  simp only [Lit.wf, IntKind.min, IntKind.max, IntKind.signed, IntKind.bits, Bool.and_eq_true] at h
  obtain ⟨j, rfl⟩ : ∃ j : Nat, m = (j : Int) := ⟨m.toNat, by simp at h; omega⟩
  exact CodeLines_walk p vc vk vn k op j w hp hw (by simp at h; omega) hT
end Go.Proofs.YtlckjphnbfahgaaGreatDoor
namespace Go.Proofs.YtlckjphnbfahgaaGreatDoor
open Go.Joins Go.ChangeShapes Go.WideShapes Go.RowKit Go.Deep
namespace Cd
def laid : List (String × DataW Unit) := [("math/bits.deBruijn32tab", Rows.laid_math_bits_deBruijn32tab), ("math/bits.deBruijn64tab", Rows.laid_math_bits_deBruijn64tab), ("internal/strconv.uint64pow10", Rows.laid_internal_strconv_uint64pow10)]
set_option maxRecDepth 100000 in
theorem t10_of {W : World} (h : laidMetH Tryz.prog laid W) : T10 W := by
  rw [MakeChecks.laidMetH_plain _ _ _ (by kernel_rfl)] at h
  obtain ⟨ps, ⟨g1, t1, cs1, f1, p1, q1, _, _, _, _, ⟨g2, t2, cs2, f2, p2, q2, _, _, _, _, ⟨g3, t3, cs, fuel, p, q, hg, hty, hvar, hd, _, _⟩, _⟩, _⟩, _⟩ := h
  have hg0 : Tryz.prog.globalNamed "internal/strconv.uint64pow10" = some g3 := hg
  obtain rfl := Option.some.inj ((show Tryz.prog.globalNamed "internal/strconv.uint64pow10" = some 0 by kernel_rfl).symm.trans hg0)
  have hT : (Tryz.prog.globals[0]?).map (·.type) = some 134 := by kernel_rfl
  obtain rfl := Option.some.inj (hT.symm.trans hty)
  have e : (Rows.laid_internal_strconv_uint64pow10 : DataW Unit) = Lib.tabData .u64 Lib.pow10Tab := by kernel_rfl
  rw [e] at hd
  show Lib.TabIs _ _ _ _ _
  unfold Lib.TabIs
  rw [hvar, ← Lib.cells_of_tab Tryz.underlying134 Tryz.underlying116 (by kernel_rfl) (by kernel_rfl) hd]
end Cd
end Go.Proofs.YtlckjphnbfahgaaGreatDoor
