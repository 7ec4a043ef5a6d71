/-
  The walk of LexBlanks.
-/
import Derived.Test.YtggkohbfgnbgeaaLexBlanksP
import Derived.Test.YtggkohbfgnbgeaaLexApartW
import Derived.Laws.Concat
namespace Go.Proofs.Ytggkohbfgnbgeaa
open Go.RowKit Go.Sort
namespace Lx
/-- a row's form -/
theorem Row.form {w : World} {v : Value} {l : List PTok} (h : Row w v l) : ∃ a cap, v = .slice a l.length cap ∧ (0 < l.length → ∃ g, a = some ⟨g, 0, none⟩ ∧ ∀ j u, (flatT l)[j]? = some u → w.cell? ⟨g, j, none⟩ = some u) := by
  rcases h with ⟨rfl, rfl⟩ | ⟨g, cap, rfl, hc⟩
  · exact ⟨none, 0, rfl, fun h => absurd h (by simp)⟩
  · exact ⟨_, cap, rfl, fun _ => ⟨g, rfl, hc⟩⟩
def blanks : Nat → List UInt8
  | 0 => [32]
  | 1 => [10]
  | 2 => [9, 13]
  | 3 => [59, 32, 97, 32, 34, 32, 40, 32, 98, 10]
  | 4 => [32, 35, 124, 32, 120, 32, 35, 124, 32, 40, 32, 124, 35, 32, 34, 32, 124, 35, 32]
  | _ => [32, 59]
theorem blank_of (m : Nat) (h : m < 5) : Blank (blanks m) := by
  match m, h with
  | 0, _ => exact blank_a0
  | 1, _ => exact blank_a1
  | 2, _ => exact blank_a2
  | 3, _ => exact blank_a3
  | 4, _ => exact blank_a4
theorem tail_blanks (m : Nat) (h : m < 6) : Tail (blanks m) := by
  by_cases h5 : m < 5
  · exact tail_of _ (blank_of m h5)
  · obtain rfl : m = 5 := by omega
    exact tail_b5
theorem blanks_len (m : Nat) (h : m < 6) : (blanks m).length ≤ 40 := (tail_blanks m h).2.2
theorem six_new (w : World) (ty : TypeId) (m : Nat) (h : m < 6) : (w.alloc (.cells #[.string ⟨(blanks 0).toArray⟩, .string ⟨(blanks 1).toArray⟩, .string ⟨(blanks 2).toArray⟩, .string ⟨(blanks 3).toArray⟩, .string ⟨(blanks 4).toArray⟩, .string ⟨(blanks 5).toArray⟩] ty)).cell? ⟨w.heap.size, m, none⟩ = some (.string ⟨(blanks m).toArray⟩) := by
  have hh : (w.alloc (.cells #[.string ⟨(blanks 0).toArray⟩, .string ⟨(blanks 1).toArray⟩, .string ⟨(blanks 2).toArray⟩, .string ⟨(blanks 3).toArray⟩, .string ⟨(blanks 4).toArray⟩, .string ⟨(blanks 5).toArray⟩] ty)).heap[w.heap.size]? = some (.cells #[.string ⟨(blanks 0).toArray⟩, .string ⟨(blanks 1).toArray⟩, .string ⟨(blanks 2).toArray⟩, .string ⟨(blanks 3).toArray⟩, .string ⟨(blanks 4).toArray⟩, .string ⟨(blanks 5).toArray⟩] ty) := by
    show (w.heap.push _)[w.heap.size]? = _
    simp
  unfold World.cell?
  rw [hh]
  match m, h with
  | 0, _ => rfl
  | 1, _ => rfl
  | 2, _ => rfl
  | 3, _ => rfl
  | 4, _ => rfl
  | 5, _ => rfl
theorem apart_bd (s : List UInt8) : ∀ (l : List PTok) (a : Nat), Apart s a l → ∀ p ∈ l, p.at_ ≤ s.length ∧ p.to ≤ s.length := by
  intro l
  induction l with
  | nil => intro a _ p hp; simp at hp
  | cons q l ih =>
    rintro a ⟨h1, h2, h3, _, h5⟩ p hp
    rcases List.mem_cons.1 hp with rfl | hp
    · exact ⟨by omega, h3⟩
    · exact ih _ h5 p hp
theorem blanks_map (l : List PTok) (a : Nat) : (l.map (shift a)).map bareT = l.map bareT := by
  rw [List.map_map]; rfl
end Lx
set_option maxRecDepth 100000 in
set_option maxHeartbeats 4000000 in
theorem LexBlanks_walk (s : ByteArray) (k1 k2 : Int) (w : World) (hs : s.size ≤ 9223372036854775807) (hk1 : (Lit.int .u8 k1).wf = true) (hk2 : (Lit.int .u8 k2).wf = true) :
    Calls Try.prog 4 #[.string s, .int .u8 k1, .int .u8 k2] w fun e w' => e = .returned (.bool true) ∧ Below w.heap.size w w' := by
  have hW := Words_any s w hs
  have b1 : 0 ≤ k1 ∧ k1 ≤ 255 := by simpa [Lit.wf, IntKind.min, IntKind.max, IntKind.signed, IntKind.bits] using hk1
  have b2 : 0 ≤ k2 ∧ k2 ≤ 255 := by simpa [Lit.wf, IntKind.min, IntKind.max, IntKind.signed, IntKind.bits] using hk2
  clear hk1 hk2
  obtain ⟨L, pos, ec, hlex⟩ : ∃ L pos ec, Lx.lex s.data.toList = (L, pos, ec) := ⟨_, _, _, rfl⟩
  rw [hlex] at hW
  go_enter Try.func4, Try.ntmps4
  go_wp2_with fail
  refine hW.mono ?_
  rintro e w1 ⟨hb1, h⟩
  rcases h with ⟨h0, v, rfl, hO⟩ | ⟨h0, rfl⟩
  case inr =>
    have hec : (ec != 0) = true := by simpa using h0
    have hec' : ec ≠ 0 := h0
    go_wp2_with fail
    refine (awake_any _).mono ?_
    rintro e w2 ⟨rfl, hb2⟩
    go_wp2_with fail
    refine (awake_any _).mono ?_
    rintro e w3 ⟨rfl, hb3⟩
    go_wp2
    go_ret
    exact ⟨rfl, bchain (bchain hb1 hb2) hb3⟩
  have hec0 : ec = 0 := h0
  subst hec0
  have hlex0 : Lx.lex s.data.toList = (L, 0, 0) := by
    rw [hlex, show pos = 0 by have := Lx.lex_zero s.data.toList; rw [hlex] at this; exact this rfl]
  obtain ⟨hap, hsz⟩ := Lx.lex_apart _ _ hlex0
  have hrow := Lx.row_own (show w1.ownsRow w.heap.size 28 5 v L.length (Lx.flatT L) from hO) rfl
  have hL4 := Lx.lex_few _ _ hlex0
  have HPL := Lib.hid (Lx.apart_bd _ _ _ hap)
  rw [Fx.size_toList] at HPL
  rw [Fx.size_toList] at hsz
  clear hO hap hlex hW h0
  obtain ⟨a1, c1, rfl, ha1⟩ := hrow.form
  have HR1 := Lib.hid hrow
  have HA1 := Lib.hid ha1
  clear hrow ha1
  by_cases hbig : 16284 < s.size
  · have hbigi : 16284 < (s.size : Int) := by omega
    go_wp2_with fail
    refine (awake_any _).mono ?_
    rintro e w2 ⟨rfl, hb2⟩
    go_wp2_with fail
    refine (awake_any _).mono ?_
    rintro e w3 ⟨rfl, hb3⟩
    go_wp2
    go_ret
    exact ⟨rfl, bchain (bchain hb1 hb2) hb3⟩
  have hbigi : ¬ 16284 < (s.size : Int) := by omega
  obtain ⟨m1, hm1, hm1l⟩ : ∃ m : Nat, k1 % 5 = m ∧ m < 5 := ⟨(k1 % 5).toNat, by omega, by omega⟩
  obtain ⟨m2, hm2, hm2l⟩ : ∃ m : Nat, k2 % 6 = m ∧ m < 6 := ⟨(k2 % 6).toNat, by omega, by omega⟩
  have HLX := Lib.hid (Lx.lex_blanks (Lx.blanks m1) (Lx.blanks m2) s.data.toList L (Lx.blank_of m1 hm1l) (Lx.tail_blanks m2 hm2l) (by rw [Fx.size_toList]; omega) hlex0)
  clear hlex0
  go_wp2_with fail
  refine (awake_any _).mono ?_
  rintro e w2 ⟨rfl, hb2⟩
  go_wp2_with fail
  obtain ⟨w3, hw3⟩ : ∃ w3, w2.alloc (.cells #[.string ⟨(Lx.blanks 0).toArray⟩, .string ⟨(Lx.blanks 1).toArray⟩, .string ⟨(Lx.blanks 2).toArray⟩, .string ⟨(Lx.blanks 3).toArray⟩, .string ⟨(Lx.blanks 4).toArray⟩, .string ⟨(Lx.blanks 5).toArray⟩] 9) = w3 := ⟨_, rfl⟩
  have hb3 : Below w2.heap.size w2 w3 := by rw [← hw3]; exact (Below.refl _ _).alloc (Nat.le_refl _) _
  have hce : ∀ m, m < 6 → w3.cell? ⟨w2.heap.size, m, none⟩ = some (.string ⟨(Lx.blanks m).toArray⟩) := by
    intro m hm
    rw [← hw3]
    exact Lx.six_new w2 _ m hm
  have q1 := hce m1 (by omega)
  have q2 := hce m2 hm2l
  clear hce
  change Code.wp _ _ _ _ (w2.alloc (.cells #[.string ⟨(Lx.blanks 0).toArray⟩, .string ⟨(Lx.blanks 1).toArray⟩, .string ⟨(Lx.blanks 2).toArray⟩, .string ⟨(Lx.blanks 3).toArray⟩, .string ⟨(Lx.blanks 4).toArray⟩, .string ⟨(Lx.blanks 5).toArray⟩] 9))
  rw [hw3]
  clear hw3
  obtain ⟨A, hA⟩ : ∃ A : ByteArray, (⟨(Lx.blanks m1).toArray⟩ : ByteArray) = A := ⟨_, rfl⟩
  obtain ⟨B, hB⟩ : ∃ B : ByteArray, (⟨(Lx.blanks m2).toArray⟩ : ByteArray) = B := ⟨_, rfl⟩
  rw [hA] at q1
  rw [hB] at q2
  have hAl : A.data.toList = Lx.blanks m1 := by rw [← hA]
  have hBl : B.data.toList = Lx.blanks m2 := by rw [← hB]
  rw [← hAl, ← hBl] at HLX
  have hAs : A.size ≤ 40 := by have := Lx.blanks_len m1 (by omega); rw [← hAl, Fx.size_toList] at this; exact this
  have hBs : B.size ≤ 40 := by have := Lx.blanks_len m2 hm2l; rw [← hBl, Fx.size_toList] at this; exact this
  clear hA hB hAl hBl
  have r1 : k1.tmod 5 = (m1 : Int) := by rw [Int.tmod_eq_emod_of_nonneg b1.1]; exact hm1
  have r2 : k2.tmod 6 = (m2 : Int) := by rw [Int.tmod_eq_emod_of_nonneg b2.1]; exact hm2
  have r3 : (m1 : Int) < 6 := by omega
  have r4 : (m2 : Int) < 6 := by omega
  go_quiet (fail)
  clear r1 r2 hm1 hm2
  obtain ⟨x, hx⟩ : ∃ x : ByteArray, A ++ s ++ ⟨#[10]⟩ ++ B = x := ⟨_, rfl⟩
  have hxl : x.data.toList = A.data.toList ++ (s.data.toList ++ 10 :: B.data.toList) := by rw [← hx]; simp
  have hWx := fun w => Words_any x w (by rw [← Fx.size_toList, hxl]; simp; omega)
  rw [hxl, HLX.out] at hWx
  go_wp2_with fail
  refine (hWx _).mono ?_
  rintro e w4 ⟨hb4, h4⟩
  rcases h4 with ⟨_, v4, rfl, hO4⟩ | ⟨h4, _⟩
  case inr => exact absurd rfl h4
  have hrow4 := Lx.row_own hO4 rfl
  obtain ⟨a2, c2, rfl, ha2⟩ := hrow4.form
  have hLm : (L.map (Lx.shift A.data.toList.length)).length = L.length := List.length_map ..
  have hAl : A.data.toList.length = A.size := Fx.size_toList A
  simp only [hAl] at hLm hrow4 ha2 ⊢
  simp only [hLm] at hrow4 ha2 ⊢
  have hb14 : Below w1.heap.size w1 w4 := bchain (bchain hb2 (bchain hb3 (below_drewN (Below.refl _ _) nq))) hb4
  have HR14 := Lib.hid (HR1.out.below hb14)
  have HA14 : Hid (0 < L.length → ∃ g, a1 = some ⟨g, 0, none⟩ ∧ ∀ j u, (Lx.flatT L)[j]? = some u → w4.cell? ⟨g, j, none⟩ = some u) := fun h => by
    obtain ⟨g, hg, hc⟩ := HA1.out h
    exact ⟨g, hg, fun j u hj => (hb14.cell (block_lt_of_cell (hc j u hj))).trans (hc j u hj)⟩
  have HB := Lib.hid (bchain hb1 hb14)
  have HR4 := Lib.hid hrow4
  have HA2 := Lib.hid ha2
  have hsz2 : s.size ≤ 16284 := by omega
  clear hO4 hrow4 ha2 hb1 hb2 hb3 hb4 hWx hxl hx hLm hAl HLX HR1 q1 q2
  go_wp2_with fail
  go_loopw [67] (fun vi wr => ∃ k q : Nat, vi = .int .i64 k ∧ k ≤ L.length ∧ wr = w4.drewN q) (fun vi _ => L.length - (intOf vi).toNat)
  case atStart => exact ⟨0, 0, rfl, by omega, rfl⟩
  case round =>
    obtain ⟨k, q, rfl, hk, rfl⟩ := hrel
    by_cases hlt : k < L.length
    case neg =>
      have hge : ¬ (k : Int) < (L.length : Int) := by omega
      go_wp2_with fail
      refine (bare_any _ _ (L.map (Lx.shift A.size)) (HR4.out.below (below_drewN (Below.refl _ _) q)) (by rw [List.length_map]; omega)).mono ?_
      rintro e w5 ⟨v5, rfl, hr5, hb5⟩
      rw [Lx.blanks_map] at hr5
      go_wp2_with fail
      refine (bare_any _ _ L ((HR14.out.below (below_drewN (Below.refl _ _) q)).below hb5) (by omega)).mono ?_
      rintro e w6 ⟨v6, rfl, hr6, hb6⟩
      go_wp2_with fail
      refine (Same_any _ _ _ (L.map Lx.bareT) (hr5.below hb6) hr6 (by rw [List.length_map]; omega)).mono ?_
      rintro e w7 ⟨rfl, hb7⟩
      go_wp2
      go_ret
      exact ⟨rfl, bchain (bchain (bchain (bchain HB.out (below_drewN (Below.refl _ _) q)) hb5) hb6) hb7⟩
    case pos =>
      have hlti : (k : Int) < (L.length : Int) := by omega
      have hkm : k < (L.map (Lx.shift A.size)).length := by rw [List.length_map]; exact hlt
      obtain ⟨g1, rfl, hc1⟩ := HA14.out (by omega)
      obtain ⟨g2, rfl, hc2⟩ := HA2.out (by omega)
      obtain ⟨p, hp⟩ : ∃ p, L[k] = p := ⟨_, rfl⟩
      obtain ⟨_, m1, m2, _, _⟩ := Lx.Row.five hc1 k hlt
      obtain ⟨_, n1, n2, _, _⟩ := Lx.Row.five hc2 k hkm
      have hpl := HPL.out p (by rw [← hp]; exact List.getElem_mem _)
      rw [List.getElem_map] at n1 n2
      rw [hp] at m1 m2 n1 n2
      have n1' : w4.cell? ⟨g2, k * 5 + 1, none⟩ = some (.int .i64 ((p.at_ + A.size : Nat) : Int)) := n1
      have n2' : w4.cell? ⟨g2, k * 5 + 2, none⟩ = some (.int .i64 ((p.to + A.size : Nat) : Int)) := n2
      have s1 : IntKind.i64.wrap ((p.at_ : Int) + (A.size : Int)) = ((p.at_ + A.size : Nat) : Int) := by rw [IntWalk.i64_in _ (by omega)]; omega
      have s2 : IntKind.i64.wrap ((p.to : Int) + (A.size : Int)) = ((p.to + A.size : Nat) : Int) := by rw [IntWalk.i64_in _ (by omega)]; omega
      have d1 : (((p.at_ + A.size : Nat) : Int) != ((p.at_ + A.size : Nat) : Int)) = false := by simp
      have d2 : (((p.to + A.size : Nat) : Int) != ((p.to + A.size : Nat) : Int)) = false := by simp
      clear hc1 hc2 n1 n2 hp
      go_wp2
      go_quiet (fail)
      go_wp2
      exact ⟨⟨k + 1, _, by simp, by omega, rfl⟩, by simp [intOf]; omega⟩
end Go.Proofs.Ytggkohbfgnbgeaa
