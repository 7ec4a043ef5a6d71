/-
  The walk of LexApart.
-/
import Derived.Test.YtggkohbfgnbgeaaLexApartS
import Derived.Deep.RegionHeld3
namespace Go.Proofs.Ytggkohbfgnbgeaa
open Go.RowKit Go.Sort
namespace Lx
theorem lex_zero (s : List UInt8) (h : (lex s).2.2 = 0) : (lex s).2.1 = 0 := by
  unfold lex at h ⊢
  split
  · rfl
  · rename_i h1
    rw [if_neg h1] at h
    split
    · rename_i h2; rw [if_pos h2] at h; simp at h
    · rename_i h2
      rw [if_neg h2] at h
      have hn := words_norm s.length (s.length + 1) 0 s
      unfold app at hn
      rw [if_pos h] at hn
      rw [← hn]
theorem Row.below {w w' : World} {v : Value} {l : List PTok} (h : Row w v l) (hb : Below w.heap.size w w') : Row w' v l := by
  rcases h with h | ⟨g, cap, hv, hc⟩
  · exact .inl h
  · refine .inr ⟨g, cap, hv, fun j u hj => ?_⟩
    have := hc j u hj
    rw [hb.cell (p := ⟨g, j, none⟩) (block_lt_of_cell this)]
    exact this
theorem row_own {w : World} {b n : Nat} {v : Value} {l : List PTok} (h : w.ownsRow b 28 5 v n (flatT l)) (hn : n = l.length) : Row w v l := by
  subst hn
  rcases Joins.ownsRow_forms h with ⟨rfl, hz⟩ | ⟨g, cap, rfl, _⟩
  · exact .inl ⟨rfl, List.eq_nil_of_length_eq_zero hz⟩
  · refine .inr ⟨g, cap, rfl, fun j u hj => ?_⟩
    rw [h.cellAt j (by have := (List.getElem?_eq_some_iff.1 hj).1; rw [flat_len] at this; exact this)]
    exact hj
theorem row_one (w : World) (p : PTok) (ty : TypeId) (cap : Nat) : Row (w.alloc (.cells #[.int .i64 p.t.k, .int .i64 (p.at_ : Int), .int .i64 (p.to : Int), .int .i64 p.t.n, .string ⟨p.t.s.toArray⟩] ty)) (.slice (some ⟨w.heap.size, 0, none⟩) 1 cap) [p] := by
  refine .inr ⟨w.heap.size, cap, rfl, fun j u hj => ?_⟩
  have := five_new w p.t.k (p.at_ : Int) (p.to : Int) p.t.n ⟨p.t.s.toArray⟩ ty j u (by simpa [flatT, cells5] using hj)
  have e : ((⟨w.heap.size, 0, none⟩ : Addr).add j) = ⟨w.heap.size, j, none⟩ := by simp [Addr.add]; omega
  rw [e] at this
  exact this
theorem lastH {A1 A2 A3 A4 A5 A6 A7 B : Prop} (h : A1 ∧ A2 ∧ A3 ∧ A4 ∧ A5 ∧ A6 ∧ A7 ∧ Hid B) : B := h.2.2.2.2.2.2.2.out
theorem below_al {w w' : World} (h : Below w.heap.size w w') (o : Obj) : Below w.heap.size w (w'.alloc o) := h.alloc h.size o
end Lx
set_option maxRecDepth 100000 in
set_option maxHeartbeats 4000000 in
theorem LexApart_walk (s : ByteArray) (w : World) (hs : s.size ≤ 9223372036854775807) :
    Calls Try.prog 3 #[.string s] w fun e w' => e = .returned (.bool true) ∧ Below w.heap.size w w' := by
  have hW := Words_any s w hs
  obtain ⟨L, pos, ec, hlex⟩ : ∃ L pos ec, Lx.lex s.data.toList = (L, pos, ec) := ⟨_, _, _, rfl⟩
  rw [hlex] at hW
  go_enter Try.func3, Try.ntmps3
  go_wp2_with fail
  refine hW.mono ?_
  rintro e w1 ⟨hb1, h⟩
  rcases h with ⟨h0, v, rfl, hO⟩ | ⟨h0, rfl⟩
  case inr =>
    have hec : (ec != 0) = true := by simpa using h0
    have hec' : ec ≠ 0 := h0
    go_wp2_with fail
    refine (awake_any _).mono ?_
    rintro e w2 ⟨rfl, hb2⟩
    go_wp2_with fail
    refine (awake_any _).mono ?_
    rintro e w3 ⟨rfl, hb3⟩
    go_wp2
    go_ret
    exact ⟨rfl, bchain (bchain hb1 hb2) hb3⟩
  have hec0 : ec = 0 := h0
  subst hec0
  obtain ⟨hap, hsz⟩ := Lx.lex_apart _ _ (show Lx.lex s.data.toList = (L, 0, 0) by
    rw [hlex, show pos = 0 by have := Lx.lex_zero s.data.toList; rw [hlex] at this; exact this rfl])
  rw [Fx.size_toList] at hsz
  have hszi : ¬ 16384 < (s.size : Int) := by omega
  have hrow := Lx.row_own (show w1.ownsRow w.heap.size 28 5 v L.length (Lx.flatT L) from hO) rfl
  have HAP := Lib.hid hap
  clear hO hap hlex hW h0
  rcases hrow with ⟨rfl, hnil⟩ | ⟨g, cap, rfl, hc⟩
  · go_wp2_with fail
    refine (awake_any _).mono ?_
    rintro e w2 ⟨rfl, hb2⟩
    go_wp2_with fail
    go_loopw [37] (fun u wr => u = .int .i64 0 ∧ wr = w2) (fun _ _ => 0)
    case atStart => exact ⟨rfl, rfl⟩
    case round =>
      obtain ⟨rfl, rfl⟩ := hrel
      go_wp2
      go_ret
      exact ⟨rfl, bchain hb1 hb2⟩
  · by_cases h100 : 100 < L.length
    · have h100i : 100 < (L.length : Int) := by omega
      clear hc
      go_wp2_with fail
      refine (awake_any _).mono ?_
      rintro e w2 ⟨rfl, hb2⟩
      go_wp2_with fail
      refine (awake_any _).mono ?_
      rintro e w3 ⟨rfl, hb3⟩
      go_wp2
      go_ret
      exact ⟨rfl, bchain (bchain hb1 hb2) hb3⟩
    · have h100i : ¬ 100 < (L.length : Int) := by omega
      go_wp2_with fail
      refine (awake_any _).mono ?_
      rintro e w2 ⟨rfl, hb2⟩
      go_wp2_with fail
      go_loopw [6, 37] (fun va vi wr => ∃ a k : Nat, va = .int .i64 a ∧ vi = .int .i64 k ∧ k ≤ L.length ∧ Hid (Lx.Apart s.data.toList a (L.drop k)) ∧ Hid (Lx.Row wr (.slice (some ⟨g, 0, none⟩) L.length cap) L) ∧ Below w.heap.size w wr) (fun _ vi _ => L.length - (intOf vi).toNat)
      case atStart => exact ⟨0, 0, rfl, rfl, by omega, HAP.out, (Lx.Row.below (.inr ⟨g, cap, rfl, hc⟩) hb2), bchain hb1 hb2⟩
      case round =>
        obtain ⟨a, k, rfl, rfl, hk, HA, HR, hbl⟩ := hrel
        clear hc HAP
        by_cases hlt : k < L.length
        case neg =>
          have hge : ¬ (k : Int) < (L.length : Int) := by omega
          go_wp2
          go_ret
          exact ⟨rfl, hbl⟩
        have hlti : (k : Int) < (L.length : Int) := by omega
        have hA := HA.out
        rw [List.drop_eq_getElem_cons hlt] at hA
        obtain ⟨q1, q2, q3, q4, q5⟩ := hA
        rw [Fx.size_toList] at q3
        have hcl : ∀ j u, (Lx.flatT L)[j]? = some u → wr.cell? ⟨g, j, none⟩ = some u := by
          rcases HR.out with ⟨hv, _⟩ | ⟨g', cap', hv, hc⟩
          · simp at hv
          · simp at hv
            obtain ⟨⟨rfl, _⟩, _⟩ := hv
            exact hc
        obtain ⟨p, hp⟩ : ∃ p, L[k] = p := ⟨_, rfl⟩
        obtain ⟨a0, a1, a2, a3, a4⟩ := Lx.Row.five hcl k hlt
        rw [hp] at q1 q2 q3 q4 q5 a0 a1 a2 a3 a4
        clear hcl
        obtain ⟨x, hx⟩ : ∃ x, s.extract p.at_ p.to = x := ⟨_, rfl⟩
        have hxl : x.data.toList = (s.data.toList.drop p.at_).take (p.to - p.at_) := by rw [← hx, Lib.extract_data]
        have hxs : x.size = p.to - p.at_ := by
          have := congrArg List.length hxl
          rw [Fx.size_toList, List.length_take, List.length_drop, Fx.size_toList] at this
          omega
        rw [← hxl] at q4
        have hWx := fun w => Words_any x w (by omega)
        rw [q4] at hWx
        have hT := Lx.TkAt.alloc wr p.t.k (p.at_ : Int) (p.to : Int) p.t.n ⟨p.t.s.toArray⟩ 28
        have t1 := hT.c1
        have t2 := hT.c2
        have i1 : ¬ ((p.at_ : Int) < (a : Int)) := by omega
        have i2 : ¬ ((p.to : Int) ≤ (p.at_ : Int)) := by omega
        have i3 : ¬ ((s.size : Int) < (p.to : Int)) := by omega
        have i4 : (p.at_ : Int) ≤ (p.to : Int) := by omega
        have i5 : (p.to : Int) ≤ (s.size : Int) := by omega
        have HQ5 := Lib.hid q5
        have HTT := Lib.hid hT
        have HR1 := Lib.hid (HR.out.below ((Below.refl wr.heap.size wr).alloc (Nat.le_refl _) (.cells #[.int .i64 p.t.k, .int .i64 (p.at_ : Int), .int .i64 (p.to : Int), .int .i64 p.t.n, .string ⟨p.t.s.toArray⟩] 28)))
        have hbl1 := hbl.alloc hbl.size (.cells #[.int .i64 p.t.k, .int .i64 (p.at_ : Int), .int .i64 (p.to : Int), .int .i64 p.t.n, .string ⟨p.t.s.toArray⟩] 28)
        clear hxl q4 q5 hT hs
        go_wp2_with fail
        refine (hWx _).mono ?_
        rintro e w4 ⟨hb4, h4⟩
        rcases h4 with ⟨_, v4, rfl, hO4⟩ | ⟨h4, _⟩
        case inr => exact absurd rfl h4
        have hrow4 := Lx.row_own hO4 rfl
        rcases hrow4 with ⟨_, hbad⟩ | ⟨g4, cap4, rfl, hc4⟩
        · exact absurd hbad (by simp)
        obtain ⟨b0, b1, b2, b3, b4⟩ := Lx.Row.five hc4 0 (by simp)
        have hT4 := HTT.out.below hb4
        have u0 := hT4.c0
        have u1 := hT4.c1
        have u2 := hT4.c2
        have u3 := hT4.c3
        have u4 := hT4.c4
        have hlen1 : [(⟨0, p.to - p.at_, p.t⟩ : Lx.PTok)].length = 1 := rfl
        simp only [List.getElem_cons_zero, Nat.zero_mul, Nat.zero_add] at b0 b1 b2 b3 b4
        rw [hlen1]
        have HC4 := Lib.hid hc4
        clear hlen1 hc4 hO4 t1 t2 i1 i2 i3 i4 i5 a0 a1 a2 a3 a4
        obtain ⟨T, hT0⟩ : ∃ T, wr.heap.size = T := ⟨_, rfl⟩
        rw [hT0] at u0 u1 u2 u3 u4 ⊢
        have hg4 := block_lt_of_cell b0
        have HMK : Hid (∀ w', Below w4.heap.size w4 w' → w'.cell? ⟨g4, 1, none⟩ = some (.int .i64 ((0 : Nat) : Int)) ∧ w'.cell? ⟨g4, 2, none⟩ = some (.int .i64 ((p.to - p.at_ : Nat) : Int)) ∧ w'.cell? ⟨T, 0, none⟩ = some (.int .i64 p.t.k) ∧ w'.cell? ⟨T, 1, none⟩ = some (.int .i64 (p.at_ : Int)) ∧ w'.cell? ⟨T, 2, none⟩ = some (.int .i64 (p.to : Int)) ∧ w'.cell? ⟨T, 3, none⟩ = some (.int .i64 p.t.n) ∧ w'.cell? ⟨T, 4, none⟩ = some (.string ⟨p.t.s.toArray⟩) ∧ Hid (Below w4.heap.size w4 w')) := by
          intro w' hb
          exact ⟨(hb.cell (block_lt_of_cell b1)).trans b1, (hb.cell (block_lt_of_cell b2)).trans b2, (hb.cell (block_lt_of_cell u0)).trans u0, (hb.cell (block_lt_of_cell u1)).trans u1, (hb.cell (block_lt_of_cell u2)).trans u2, (hb.cell (block_lt_of_cell u3)).trans u3, (hb.cell (block_lt_of_cell u4)).trans u4, hb⟩
        have HR4 : Hid (Lx.Row w4 (.slice (some ⟨g4, 0, none⟩) 1 cap4) [⟨0, p.to - p.at_, p.t⟩]) := .inr ⟨g4, cap4, rfl, HC4.out⟩
        have isub : IntKind.i64.wrap ((p.to : Int) - (p.at_ : Int)) = ((p.to - p.at_ : Nat) : Int) := by rw [IntWalk.i64_in _ (by omega)]; omega
        have hne1 : (((p.to - p.at_ : Nat) : Int) != ((p.to - p.at_ : Nat) : Int)) = false := by simp
        go_wp2_with fail
        go_region_held3 (fun w' => w'.cell? ⟨g4, 1, none⟩ = some (.int .i64 ((0 : Nat) : Int)) ∧ w'.cell? ⟨g4, 2, none⟩ = some (.int .i64 ((p.to - p.at_ : Nat) : Int)) ∧ w'.cell? ⟨T, 0, none⟩ = some (.int .i64 p.t.k) ∧ w'.cell? ⟨T, 1, none⟩ = some (.int .i64 (p.at_ : Int)) ∧ w'.cell? ⟨T, 2, none⟩ = some (.int .i64 (p.to : Int)) ∧ w'.cell? ⟨T, 3, none⟩ = some (.int .i64 p.t.n) ∧ w'.cell? ⟨T, 4, none⟩ = some (.string ⟨p.t.s.toArray⟩) ∧ Hid (Below w4.heap.size w4 w')) (first | exact HMK.out _ ((Below.refl _ _).drew) | exact HMK.out _ (bchain (Lx.lastH (by assumption)) hb7) | exact HMK.out _ (bchain (Lx.lastH (by assumption)) hb6) | exact HMK.out _ (bchain (Lx.lastH (by assumption)) hb5) | exact HMK.out _ (Lx.below_al (Lx.lastH (by assumption)) _))
          (first | (go_at_call_of 12 (Value.slice (some ⟨g4, 0, none⟩) 1 cap4); refine (bare_any _ _ [⟨0, p.to - p.at_, p.t⟩] (HR4.out.below (Lx.lastH (by assumption))) (by simp)).mono ?_; rintro e w5 ⟨v5, rfl, hr5, hb5⟩) | (go_at_call 12; refine (bare_any _ _ [p] (by first | exact Lx.row_one _ p _ _ | exact Lx.row_one w4.drew p _ _ | exact (Lx.row_one w4.drew p _ _).below hb5) (by simp)).mono ?_; rintro e w6 ⟨v6, rfl, hr6, hb6⟩) | (go_at_call 11; refine (Same_any _ _ _ ([p].map Lx.bareT) (by first | exact hr5 | exact hr5.below hb6 | exact hr5.below (bchain ((Below.refl _ _).alloc (Nat.le_refl _) _) hb6)) (by first | exact hr6 | exact hr6.below hb5) (by simp)).mono ?_; rintro e w7 ⟨rfl, hb7⟩; have hb8 : Below w4.heap.size w4 w7 := bchain (Lx.lastH (by assumption)) hb7))
        all_goals
          have hfin : Below w.heap.size w w7 := (hbl1.trans (hb4.mono (by simp; exact Nat.le_trans hbl.size (Nat.le_succ _)))).trans (hb8.mono (Nat.le_trans hbl1.size hb4.size))
          have HR7 := Lib.hid ((HR1.out.below hb4).below hb8)
          have HF := Lib.hid hfin
          have e3 := (hb8.cell (block_lt_of_cell u2)).trans u2
          clear hb5 hb6 hb7 hb8 hr5 hr6 hb4 hbl hbl1 hfin b0 b1 b2 b3 b4 u0 u1 u2 u3 u4 HMK
          go_wp2
          go_roundw
          case rel => exact ⟨p.to, k + 1, rfl, by go_num, by omega, HQ5, HR7, HF.out⟩
          case measure => simp [intOf]; omega
end Go.Proofs.Ytggkohbfgnbgeaa
