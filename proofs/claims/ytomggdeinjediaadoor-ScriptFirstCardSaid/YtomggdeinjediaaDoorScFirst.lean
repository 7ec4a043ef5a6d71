/-
  The walk of the law ScriptFirst.
-/
import Derived.Test.YtomggdeinjediaaDoorScSplit
import Derived.Test.YtomggdeinjediaaDoorScLawA
import Derived.Test.YtomggdeinjediaaDoorScShelf
namespace Go.Proofs.YtomggdeinjediaaDoor
open Go.RowKit
namespace Sc
theorem catF (x y : List UInt8) (hx : x.length ≤ 1000000) (hy : y.length ≤ 1000000) (w : World) : (Op.stringOp .add ⟨x.toArray⟩ ⟨y.toArray⟩).run Tryd.prog w = .ok (.string ⟨(x ++ y).toArray⟩) w :=
  run_string_add_lists w x y (by omega) (by omega)
def seg (j i : Nat) : List UInt8 := ((lines.drop j).take (i - j)).flatten
theorem seg_next (j i : Nat) (h1 : j ≤ i) (h2 : i < 5) : seg j (i + 1) = seg j i ++ lines.getD i [] := by
  unfold seg
  have hl : lines.length = 5 := rfl
  have hi : i - j < (lines.drop j).length := by rw [List.length_drop, hl]; omega
  rw [show i + 1 - j = (i - j) + 1 by omega, List.take_succ_eq_append_getElem hi, List.flatten_append]
  congr 1
  rw [List.getElem_drop, List.getD_eq_getElem?_getD, List.getElem?_eq_getElem (by rw [hl]; omega)]
  simp [show j + (i - j) = i by omega]
theorem seg_end (j i : Nat) (h : 5 ≤ i) (hj : j ≤ 6) : seg j i = behind j := by
  unfold seg
  have hl : lines.length = 5 := rfl
  rw [List.take_of_length_le (by rw [List.length_drop, hl]; omega), lines_behind j hj]
theorem seg_len (j i : Nat) : (seg j i).length ≤ 100 := by
  have h : ∀ (xs ys : List (List UInt8)), xs.Sublist ys → xs.flatten.length ≤ ys.flatten.length := by
    intro xs ys h
    induction h with
    | slnil => exact Nat.le_refl _
    | cons a _ ih => rw [List.flatten_cons, List.length_append]; omega
    | cons_cons a _ ih => rw [List.flatten_cons, List.flatten_cons, List.length_append, List.length_append]; omega
  have := h _ _ ((List.take_sublist (i - j) (lines.drop j)).trans (List.drop_sublist j lines))
  have h5 : lines.flatten.length ≤ 100 := by decide
  unfold seg
  omega
theorem line5 (i : Nat) : (lines.getD i []).length ≤ 100 := by
  rcases Nat.lt_or_ge i 5 with h | h
  · have : i = 0 ∨ i = 1 ∨ i = 2 ∨ i = 3 ∨ i = 4 := by omega
    rcases this with rfl | rfl | rfl | rfl | rfl <;> decide
  · rw [List.getD_eq_getElem?_getD, List.getElem?_eq_none (by show 5 ≤ i; omega)]; simp
/-- the five lines, in a block -/
def linesC : Array Value := #[.string ⟨#[99, 101, 108, 108, 115, 32, 53, 10]⟩, .string ⟨#[115, 104, 97, 114, 100, 115, 32, 49, 10]⟩, .string ⟨#[119, 111, 114, 107, 101, 114, 115, 32, 49, 54, 10]⟩, .string ⟨#[113, 117, 97, 110, 116, 117, 109, 32, 49, 10]⟩, .string ⟨#[115, 116, 101, 112, 115, 32, 48, 10]⟩]
theorem linesC_at (i : Nat) (h : i < linesC.size) : linesC[i]? = some (.string ⟨(lines.getD i []).toArray⟩) := by
  have : i = 0 ∨ i = 1 ∨ i = 2 ∨ i = 3 ∨ i = 4 := by
    have h5 : linesC.size = 5 := rfl
    omega
  rcases this with rfl | rfl | rfl | rfl | rfl <;> rfl
theorem join_ahead (k : Nat) (t : List UInt8) : Lib.join ((List.map (fun x => (⟨x.toArray⟩ : ByteArray)) (pieces k t)).map (·.data.toList)) [] = ahead k t := by
  have e : ((List.map (fun x => (⟨x.toArray⟩ : ByteArray)) (pieces k t)).map (·.data.toList)) = pieces k t := by
    rw [List.map_map]
    conv => rhs; rw [← List.map_id (pieces k t)]
    rfl
  rw [e, join_flat, pieces_flat]
end Sc
set_option maxRecDepth 100000 in
set_option maxHeartbeats 8000000 in
theorem First_long (s : ByteArray) (w : World) (hli : 40000 < (s.size : Int)) :
    Calls Tryd.prog 3 #[.string s] w fun e w' => e = .returned (.bool true) ∧ Below w.heap.size w w' := by
  go_enter Tryd.func3, Tryd.ntmps3
  go_wp2_with fail
  refine (awake25_any _).mono ?_
  rintro e w2 ⟨rfl, hb2⟩
  go_wp2_with fail
  refine (awake25_any _).mono ?_
  rintro e w3 ⟨rfl, hb3⟩
  go_wp2
  go_ret
  exact ⟨rfl, bchain hb2 hb3⟩
set_option maxRecDepth 100000 in
set_option maxHeartbeats 8000000 in
theorem First_ok (s : ByteArray) (w : World) (hli : ¬ 40000 < (s.size : Int)) (q : Sc.Scr) (hq : Sc.parse s.data.toList = .ok q) :
    Calls Tryd.prog 3 #[.string s] w fun e w' => e = .returned (.bool true) ∧ Below w.heap.size w w' := by
  have hP := fun wq => Parse_walk s wq (by omega)
  rw [hq] at hP
  clear hq
  go_enter Tryd.func3, Tryd.ntmps3
  go_wp2_with fail
  refine (awake25_any _).mono ?_
  rintro e w1 ⟨rfl, hb1⟩
  go_wp2_with fail
  refine (hP _).mono ?_
  rintro e w2 ⟨hb2, pv, rfl, ho⟩
  obtain ⟨pa, pc, rfl⟩ := Sc.own_form ho
  clear ho hP
  go_wp2
  go_ret
  exact ⟨rfl, (bchain hb1 hb2).alloc (bchain hb1 hb2).size _⟩
set_option maxRecDepth 100000 in
set_option maxHeartbeats 8000000 in
theorem First_err (s : ByteArray) (w : World) (hli : ¬ 40000 < (s.size : Int)) (hq : Sc.parse s.data.toList = .err 0 3) :
    Calls Tryd.prog 3 #[.string s] w fun e w' => e = .returned (.bool true) ∧ Below w.heap.size w w' := by
  have hP := fun wq => Parse_walk s wq (by omega)
  rw [hq] at hP
  clear hq
  go_enter Tryd.func3, Tryd.ntmps3
  go_wp2_with fail
  refine (awake25_any _).mono ?_
  rintro e w1 ⟨rfl, hb1⟩
  go_wp2_with fail
  refine (hP _).mono ?_
  rintro e w2 ⟨hb2, rfl⟩
  unfold Sc.zeroA
  clear hP
  go_wp2
  go_ret
  exact ⟨rfl, (bchain hb1 hb2).alloc (bchain hb1 hb2).size _⟩
set_option maxRecDepth 100000 in
set_option maxHeartbeats 8000000 in
theorem First_line (s : ByteArray) (w : World) (hli : ¬ 40000 < (s.size : Int)) (j : Nat) (hj : j ≤ 6) (hh : Sc.hasL j s.data.toList = true) (hq : Sc.parse s.data.toList = .err ((j : Int) + 1) 250) (q : Sc.Scr) (hq2 : Sc.parse (Sc.ahead j s.data.toList ++ Sc.behind j ++ (Sc.program ++ [10])) = .ok q) :
    Calls Tryd.prog 3 #[.string s] w fun e w' => e = .returned (.bool true) ∧ Below w.heap.size w w' := by
  have hP := fun wq => Parse_walk s wq (by omega)
  rw [hq] at hP
  have hS := fun wq => SplitAfterN_any s j wq (by omega) hh hj
  have hpl := Sc.pieces_len j _ hh
  have hrl := (Sc.rest_len j _ hh).1
  rw [Fx.size_toList] at hrl
  have hjn := Sc.join_ahead j s.data.toList
  obtain ⟨ps, hps⟩ : ∃ ps, Sc.pieces j s.data.toList = ps := ⟨_, rfl⟩
  obtain ⟨A, hA⟩ : ∃ A, Sc.ahead j s.data.toList = A := ⟨_, rfl⟩
  rw [hps] at hpl hS hjn
  rw [hA] at hrl hjn hq2
  have HAL : Hid (A.length ≤ 40000) := by show _ ≤ _; omega
  have hsz : (⟨(A ++ Sc.behind j ++ (Sc.program ++ [10])).toArray⟩ : ByteArray).size ≤ 1000000 := by
    have h1 : (⟨(A ++ Sc.behind j ++ (Sc.program ++ [10])).toArray⟩ : ByteArray).size = (A ++ Sc.behind j ++ (Sc.program ++ [10])).length := by simp [ByteArray.size]
    have h2 := HAL.out
    have h3 := Sc.seg_len j 5
    rw [Sc.seg_end j 5 (by omega) hj] at h3
    rw [h1, List.length_append, List.length_append]
    have h4 : (Sc.program ++ [10]).length = 8 := rfl
    omega
  have hQ : ∀ wq, Calls Tryd.prog 5 #[.string ⟨(A ++ Sc.behind j ++ (Sc.program ++ [10])).toArray⟩] wq (Sc.ParsePost (Sc.parse (A ++ Sc.behind j ++ (Sc.program ++ [10]))) wq) := fun wq => Parse_walk _ wq hsz
  rw [hq2] at hQ
  clear hsz
  obtain ⟨F, hF⟩ : ∃ F : ByteArray, (⟨(A ++ Sc.behind j ++ (Sc.program ++ [10])).toArray⟩ : ByteArray) = F := ⟨_, rfl⟩
  rw [hF] at hQ
  have HF := Lib.hid hF
  have HQ := Lib.hid hQ
  clear hF
  have HS := Lib.hid hS
  have HPL := Lib.hid hpl
  have HJN := Lib.hid hjn
  have n1 : ¬ ((j : Int) + 1 < 1) := by omega
  have n2 : ¬ (7 < (j : Int) + 1) := by omega
  clear hq hq2 hps hA hh hQ hS hpl hrl hjn
  go_enter Tryd.func3, Tryd.ntmps3
  go_wp2_with fail
  refine (awake25_any _).mono ?_
  rintro e w1 ⟨rfl, hb1⟩
  go_wp2_with fail
  refine (hP _).mono ?_
  rintro e w2 ⟨hb2, rfl⟩
  have HB2 := Lib.hid ((bchain hb1 hb2).alloc (bchain hb1 hb2).size (.cells #[.int .i64 0, .int .i64 0, .int .i64 0, .int .i64 0, .int .i64 0, .slice none 0 0, .string ⟨#[]⟩] 25))
  unfold Sc.zeroA
  clear hP hb1 hb2
  go_wp2_with fail
  refine (HS.out _).mono ?_
  rintro e w3 ⟨g, rfl, hc, hgl, hb3⟩
  have HB3 := Lib.hid (HB2.out.trans (hb3.mono HB2.out.size))
  have hJ := Tryd.strings_Join g 0 (j + 1) (ps.map fun x => (⟨x.toArray⟩ : ByteArray)) ⟨#[]⟩ w3 (fun i x hx => by
    rw [List.getElem?_map] at hx
    cases hp : ps[i]? with
    | none => rw [hp] at hx; exact absurd hx (by simp)
    | some y =>
      rw [hp] at hx
      simp only [Option.map_some, Option.some.injEq] at hx
      rw [Nat.zero_add, hc i y hp, hx]) hgl (by rw [List.length_map, HPL.out]; omega) (by rw [List.length_map, HPL.out]; omega) (by
      show (Lib.join _ []).length ≤ _
      rw [HJN.out]
      have := HAL.out
      omega)
  rw [List.length_map, HPL.out, show (⟨#[]⟩ : ByteArray).data.toList = [] from rfl, HJN.out] at hJ
  clear hc hgl hb3
  go_wp2_with fail
  refine hJ.mono ?_
  rintro e w4 ⟨rfl, hb4⟩
  have hB4 := HB3.out.trans (hb4.mono HB3.out.size)
  have hrow := World.rowIs_alloc w4 Sc.linesC 9 (fun i => .string ⟨(Sc.lines.getD i []).toArray⟩) Sc.linesC_at
  rw [show Sc.linesC.size = 5 from rfl] at hrow
  obtain ⟨w5, hw5⟩ : ∃ w5, w4.alloc (.cells Sc.linesC 9) = w5 := ⟨_, rfl⟩
  rw [hw5] at hrow
  have HB5 := Lib.hid (show Below w.heap.size w w5 by rw [← hw5]; exact hB4.alloc hB4.size _)
  have HROW := Lib.hid hrow
  unfold Sc.linesC at hw5
  clear hrow hB4 hb4 hJ
  go_wp2_with fail
  clear hw5
  go_loop [7, 9] (fun va vi => ∃ i : Nat, va = .string ⟨(A ++ Sc.seg j i).toArray⟩ ∧ vi = .int .i64 i ∧ j ≤ i ∧ i ≤ 6) (fun _ vi => 7 - (intOf vi).toNat)
  case atStart => exact ⟨j, by first | (simp [Sc.seg]; done) | skip, by simp, by omega, by omega⟩
  case round =>
    obtain ⟨i, rfl, rfl, hi1, hi2⟩ := hrel
    by_cases hlt : i < 5
    · have hlti : (i : Int) < 5 := by omega
      have c1 := HROW.out.cell (i := i) hlt
      obtain ⟨L, hL⟩ : ∃ L, Sc.lines.getD i [] = L := ⟨_, rfl⟩
      have hL2 := Sc.line5 i
      rw [hL] at c1 hL2
      have HC := Sc.catF (A ++ Sc.seg j i) L (by have := HAL.out; have := Sc.seg_len j i; rw [List.length_append]; omega) (by omega)
      have HN : Hid (A ++ Sc.seg j i ++ L = A ++ Sc.seg j (i + 1)) := by show _ = _; rw [Sc.seg_next j i hi1 hlt, hL, List.append_assoc]
      clear hL hL2
      go_wp2
      go_round
      case rel => exact ⟨i + 1, by rw [← HN.out]; simp, by simp, by omega, by omega⟩
      case measure => simp [intOf]; omega
    · have hge : (5 : Int) ≤ (i : Int) := by omega
      have HN : Hid (A ++ Sc.seg j i = A ++ Sc.behind j) := by show _ = _; rw [Sc.seg_end j i (by omega) hj]
      have HC := Sc.catF (A ++ Sc.seg j i) (Sc.program ++ [10]) (by have := HAL.out; have := Sc.seg_len j i; rw [List.length_append]; omega) (by decide)
      rw [HN.out] at HC ⊢
      have HC2 : ∀ w : World, (Op.stringOp .add ⟨(A ++ Sc.behind j).toArray⟩ ⟨#[112, 114, 111, 103, 114, 97, 109, 10]⟩).run Tryd.prog w = .ok (.string F) w := by rw [← HF.out]; exact HC
      clear HC
      go_wp2_with fail
      refine (HQ.out _).mono ?_
      rintro e w6 ⟨hb6, pv, rfl, ho⟩
      obtain ⟨pa, pc, rfl⟩ := Sc.own_form ho
      have HB6 := Lib.hid (HB5.out.trans (hb6.mono HB5.out.size))
      clear ho hb6
      go_wp2
      go_ret
      exact ⟨rfl, HB6.out.alloc HB6.out.size _⟩
theorem ScriptFirst_walk (s : ByteArray) (w : World) (_hs : s.size ≤ maxLen) :
    Calls Tryd.prog 3 #[.string s] w fun e w' => e = .returned (.bool true) ∧ Below w.heap.size w w' := by
  by_cases hl : 40000 < (s.size : Int)
  · exact First_long s w hl
  · cases hq : Sc.parse s.data.toList with
    | ok q => exact First_ok s w hl q hq
    | err n e =>
      rcases Sc.parse_err _ _ _ hq with ⟨rfl, rfl⟩ | rfl
      · exact First_err s w hl hq
      · obtain ⟨k, rfl, hk, hh, q, hq2⟩ := Sc.first_law _ _ hq
        exact First_line s w hl k hk hh hq q hq2
end Go.Proofs.YtomggdeinjediaaDoor
