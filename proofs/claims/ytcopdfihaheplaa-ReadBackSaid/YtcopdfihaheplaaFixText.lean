/-
 The walk of fix.Text and of shuttleref01's Text: a fixnum's text.
-/
import Derived.Test.YtcopdfihaheplaaFixPlain
import Derived.Laws.BytesArg
namespace Go.Proofs.Ytcopdfihaheplaa
open Go.RowKit
namespace Fx
def digU (n : Nat) : UInt8 := UInt8.ofNat (48 + n % 10)
def digF : Nat → Nat → List UInt8
 | 0, n => [digU n]
 | f + 1, n => if n < 10 then [digU n] else digF f (n / 10) ++ [digU n]
def textL (a : Int) : List UInt8 := (if a < 0 then [45] else []) ++ digF 20 a.natAbs
def G (N : Nat) (j : Nat) : Int := ((48 + N / 10 ^ (19 - j) % 10 : Nat) : Int)
theorem digF_eq (k : Nat) : ∀ (f N : Nat), k ≤ f → N < 10 ^ (k + 1) → (k = 0 ∨ 10 ^ k ≤ N) →
  digF f N = (List.range (k + 1)).map fun i => UInt8.ofNat (48 + N / 10 ^ (k - i) % 10) := by
 induction k with
 | zero =>
  intro f N _ hN _
  have h10 : N < 10 := by simpa using hN
  cases f with
  | zero => simp [digF, digU]
  | succ f => simp [digF, digU, h10]
 | succ k ih =>
  intro f N hf hN hlo
  have hlo' : 10 ^ (k + 1) ≤ N := by rcases hlo with h | h; cases h; exact h
  have h10 : ¬ N < 10 := by
   have : 10 ^ 1 ≤ 10 ^ (k + 1) := Nat.pow_le_pow_right (by omega) (by omega)
   omega
  cases f with
  | zero => omega
  | succ f =>
   rw [digF, if_neg h10, ih f (N / 10) (by omega) (by rw [Nat.pow_succ] at hN; omega) (by
    by_cases hk : k = 0
    ·exact .inl hk
    ·right
     rw [Nat.pow_succ] at hlo'
     omega)]
   rw [List.range_succ (n := k + 1), List.map_append]
   congr 1
   ·apply List.map_congr_left
    intro i hi
    have hi' : i < k + 1 := by simpa using hi
    have e : k + 1 - i = (k - i) + 1 := by omega
    rw [e, Nat.pow_succ, Nat.mul_comm, Nat.div_div_eq_div_mul]
   ·simp [digU]
end Fx
def Fx.TR (a : Int) (w : World) (B at_ : Nat) (wr : World) : Prop :=
 Below w.heap.size w wr ∧ B = w.heap.size ∧ (∀ j, wr.frozen? ⟨B, j, none⟩ = false) ∧ (∀ j, j < at_ → j < 20 → wr.cell? ⟨B, j, none⟩ = some (.int .u8 0)) ∧ B < wr.heap.size ∧
  (∀ j, at_ ≤ j → j < 20 → wr.cell? ⟨B, j, none⟩ = some (.int .u8 (Fx.G a.natAbs j)))
theorem Fx.TR_start (a : Int) (w : World) (C : Array Value) (T : TypeId) (hC : ∀ j, j < 20 → C[j]? = some (.int .u8 0)) : Fx.TR a w w.heap.size 20 (w.alloc (.cells C T)) :=
 ⟨(Below.refl _ _).alloc (Nat.le_refl _) _, rfl, by simp [go_sem], fun j _ hj => by rw [World.cell?_alloc_new, hC j hj], by simp, fun j h1 h2 => by omega⟩
theorem Fx.TR_step (a : Int) (w : World) (B m : Nat) (wr : World) (v : Int) (h : Fx.TR a w B (m + 1) wr) (hm : m < 20) (hv : v = Fx.G a.natAbs m) : Fx.TR a w B m (wr.setCell ⟨B, m, none⟩ (.int .u8 v)) := by
 obtain ⟨T1, T2, T3, T4, T5, T6⟩ := h
 have c0 := T4 m (by omega) hm
 refine ⟨T1.setCell (by rw [T2]; exact Nat.le_refl _) _, T2, fun j => by rw [World.frozen?_setCell]; exact T3 j, fun j h1 h2 => ?_, by simpa [World.setCell] using T5, fun j h1 h2 => ?_⟩
 ·rw [World.cell?_setCell_other _ _ _ _ (by simp <;> omega)]
  exact T4 j (by omega) h2
 ·by_cases hj : j = m
  ·subst hj
   rw [hv]
   exact World.cell?_setCell_same _ _ _ c0
  ·rw [World.cell?_setCell_other _ _ _ _ (by simp <;> omega)]
   exact T6 j (by omega) h2
theorem Fx.TR_45 (a : Int) (w : World) (B m : Nat) (wr : World) (h : Fx.TR a w B (m + 1) wr) (hm : m < 20) :
  (wr.setCell ⟨B, m, none⟩ (.int .u8 45)).cell? ⟨B, m, none⟩ = some (.int .u8 45) ∧ ∀ j, m + 1 ≤ j → j < 20 → (wr.setCell ⟨B, m, none⟩ (.int .u8 45)).cell? ⟨B, j, none⟩ = some (.int .u8 (Fx.G a.natAbs j)) := by
 obtain ⟨_, _, _, T4, _, T6⟩ := h
 refine ⟨World.cell?_setCell_same _ _ _ (T4 m (by omega) hm), fun j h1 h2 => ?_⟩
 rw [World.cell?_setCell_other _ _ _ _ (by simp <;> omega)]
 exact T6 j h1 h2
theorem Fx.small20 {C : Array Value} (h0 : C.size = 20) (h : C.toList.all (fun v => match v with | .int .u8 0 => true | _ => false) = true) : ∀ j, j < 20 → C[j]? = some (.int .u8 0) := by
 intro j hj
 have hs : j < C.size := by omega
 rw [Array.getElem?_eq_getElem hs]
 have := List.all_eq_true.1 h C[j] (by simp)
 revert this
 split
 ·intro _; simp_all
 ·intro hh; simp at hh
theorem Fx.q19 {N k : Nat} (hN : N ≤ 1152921504606846976) (h : k = 19) : N / 10 ^ k = 0 := by
 subst h
 exact Nat.div_eq_of_lt (by omega)
theorem Fx.div10 (N k : Nat) : N / 10 ^ k / 10 = N / 10 ^ (k + 1) := by rw [Nat.div_div_eq_div_mul, Nat.pow_succ]
theorem Fx.G_eq (N k m : Nat) (h : m + 1 + k = 20) : ((48 : Int) + ((N / 10 ^ k : Nat) : Int) % 10) = Fx.G N m := by
 unfold Fx.G
 have e : 19 - m = k := by omega
 rw [e]
 omega
theorem Fx.slice20 (B at_ : Nat) (h : at_ < 20) (w : World) :
  (Instr.sliceAt 130 (.pointer (some ⟨B, 0, none⟩)) (some (.int .i64 (at_ : Int))) none none).run Try.prog w = .ok (.slice (some ⟨B, at_, none⟩) (20 - at_) (20 - at_)) w := by
 have hl : Try.prog.arrayLen 130 = 20 := by kernel_rfl
 have hz : (sizeOf (Try.prog.elem 130)).run Try.prog w = .ok 1 w := by kernel_rfl
 rw [run_sliceAt_array_l w _ _ (by kernel_rfl) .i64 at_ (by omega) (by rw [hl]; omega), hz, hl]
 simp only [Result.andThen, slicedAt, Int.toNat_natCast]
 rw [if_neg (by omega)]
 simp [Addr.add]
 omega
theorem Fx.text_eq (N k m : Nat) (hmk : m + 1 + k = 20) (hk : 0 < k) (h0 : 0 = N / 10 ^ k) (h1 : k ≤ 1 ∨ 1 ≤ N / 10 ^ (k - 1)) :
  ((List.range (19 - m)).map fun i => Fx.G N (m + 1 + i)).map (fun n => UInt8.ofNat n.toNat) = Fx.digF 20 N := by
 obtain ⟨k, rfl⟩ : ∃ k', k = k' + 1 := ⟨k - 1, by omega⟩
 rw [Fx.digF_eq k 20 N (by omega) ((Nat.div_eq_zero_iff_lt (Nat.pow_pos (by omega))).1 h0.symm) (by
  rcases h1 with h | h
  ·exact .inl (by omega)
  ·right
   rw [Nat.add_sub_cancel] at h
   have := (Nat.le_div_iff_mul_le (Nat.pow_pos (n := k) (by omega : 0 < 10))).1 h
   omega), List.map_map, show 19 - m = k + 1 from by omega]
 apply List.map_congr_left
 intro i hi
 have hi' : i < k + 1 := by simpa using hi
 simp only [Function.comp, Fx.G]
 rw [show 19 - (m + 1 + i) = k - i from by omega, Int.toNat_natCast]
set_option maxRecDepth 100000 in
theorem Text_ok (a : Int) (w : World) (ha : Fx.isF a = true) :
  Calls Try.prog 79 #[.int .i64 a] w fun e w' => e = .returned (.tuple #[.string ⟨(Fx.textL a).toArray⟩, .int .i64 0]) ∧ Below w.heap.size w w' := by
 have ba := Fx.isF_bd ha
 have hN : a.natAbs ≤ 1152921504606846976 := by omega
 go_enter Try.func79, Try.ntmps79
 go_wp2_with (first | (go_at_call 73; refine (In_any _ _).mono ?_; rintro e w' ⟨rfl, rfl⟩))
 refine (size_any a _ (by omega)).mono ?_; rintro e w' ⟨rfl, rfl⟩; rw [Fx.abs_nat]
 go_wp2_with fail
 obtain ⟨N, hNe⟩ : ∃ N : Nat, N = a.natAbs := ⟨_, rfl⟩
 have HNE := Lib.hid hNe
 rw [← hNe] at hN ⊢
 clear hNe
 go_loopw [5, 6, 13] (fun p l i wr => ∃ k m q : Nat, m + k = 20 ∧ k ≤ 19 ∧ q ≤ N ∧ i = .int .i64 k ∧ p = .int .i64 m ∧ l = .int .u64 q ∧ Hid (q = N / 10 ^ k) ∧ Hid (k ≤ 1 ∨ 1 ≤ N / 10 ^ (k - 1)) ∧ Hid (Fx.TR a w w.heap.size m wr)) (fun _ _ i _ => 20 - (intOf i).toNat)
 case atStart => exact ⟨0, 20, N, rfl, by omega, Nat.le_refl _, rfl, rfl, rfl, (by simp : N = N / 10 ^ 0), .inl (by omega), Fx.TR_start a w _ _ (Fx.small20 rfl rfl)⟩
 case round =>
  obtain ⟨k, m, q, hmk, hk, hqN, rfl, rfl, rfl, HQ, HK, HT⟩ := hrel
  by_cases hbr : 0 < k ∧ q = 0
  ·obtain ⟨h1, rfl⟩ := hbr
   obtain ⟨m, rfl⟩ : ∃ m', m = m' + 1 := ⟨m - 1, by omega⟩
   have HMK := Lib.hid hmk
   have hm1 : m + 1 < 20 := by omega
   have e19 : 20 - (m + 1) = 19 - m := by omega
   have e20 : 20 - m = 19 - m + 1 := by omega
   have HE := Lib.hid (Fx.text_eq N k m hmk h1 HQ.out HK.out)
   have HE20 := Lib.hid e20
   clear hmk e20
   obtain ⟨T1, T2, T3, T4, T5, T6⟩ := HT.out
   by_cases hneg : a < 0
   ·have hf := Fx.TR_45 a w _ m wr HT.out (by omega)
    obtain ⟨S1, S2⟩ := hf
    have hconv := run_convert_bytes_arg (P := Try.prog) (wr.setCell ⟨w.heap.size, m, none⟩ (.int .u8 45)) 53 5 Try.underlying53 Try.underlying5 w.heap.size m (20 - m) (20 - m) (45 :: (List.range (19 - m)).map fun i => Fx.G a.natAbs (m + 1 + i)) (by simp; omega) (fun i hi => by
     cases i with
     | zero => simpa using S1
     | succ i =>
      rw [show m + (i + 1) = m + 1 + i from by omega, S2 (m + 1 + i) (by omega) (by omega)]
      simp only [List.getD, List.getElem?_cons_succ, List.getElem?_map, List.getElem?_range (show i < 19 - m by omega)]; rfl) 9 Try.underlying9
    have hsl := Fx.slice20 w.heap.size m (by omega) (wr.setCell ⟨w.heap.size, m, none⟩ (.int .u8 45))
    have c0 := T4 m (by omega) (by omega)
    have f0 := T3 m
    have HT1 := Lib.hid T1
    clear T1 T2 T3 T4 T6 S1 S2 e19
    go_wp2
    go_ret2
    refine ⟨?_, HT1.out.setCell (Nat.le_refl _) _⟩
    rw [← HNE.out]
    unfold strOfNums Fx.textL
    rw [List.map_cons, HE.out, if_pos hneg, HNE.out]
    rfl
   ·have hconv := run_convert_bytes_arg (P := Try.prog) wr 53 5 Try.underlying53 Try.underlying5 w.heap.size (m + 1) (19 - m) (19 - m) ((List.range (19 - m)).map fun i => Fx.G a.natAbs (m + 1 + i)) (by simp) (fun i hi => by
     rw [T6 (m + 1 + i) (by omega) (by omega)]
     simp only [List.getD, List.getElem?_map, List.getElem?_range hi]; rfl) 9 Try.underlying9
    have hsl := Fx.slice20 w.heap.size (m + 1) (by omega) wr
    rw [show (((m + 1 : Nat) : Int)) = (m : Int) + 1 from by omega] at hsl
    have HT1 := Lib.hid T1
    clear T1 T2 T3 T4 T6
    clear e19
    go_wp2
    go_ret2
    refine ⟨?_, HT1.out⟩
    rw [← HNE.out]
    unfold strOfNums Fx.textL
    rw [HE.out, if_neg (Int.not_lt.2 hneg), HNE.out]
    rfl
  ·obtain ⟨m, rfl⟩ : ∃ m', m = m' + 1 := ⟨m - 1, by omega⟩
   by_cases hk0 : k = 0
   ·subst hk0
    obtain rfl : m = 19 := by omega
    obtain ⟨T1, T2, T3, T4, T5, T6⟩ := HT.out
    have c0 := T4 19 (by omega) (by omega)
    have f0 := T3 19
    clear T1 T2 T3 T4 T6
    go_wp2
    go_roundw
    case rel => exact ⟨1, 19, q / 10, rfl, by omega, by omega, rfl, rfl, rfl, by rw [HQ.out]; exact Fx.div10 N 0, .inl (by omega), Fx.TR_step a w _ 19 wr _ HT.out (by omega) (by rw [← HNE.out, HQ.out]; exact Fx.G_eq N 0 19 rfl)⟩
    case measure => simp [intOf]
   ·have hq : ((q : Int) == 0) = false := by simp; omega
    obtain ⟨T1, T2, T3, T4, T5, T6⟩ := HT.out
    have c0 := T4 m (by omega) (by omega)
    have f0 := T3 m
    have hmb : m < 20 := by omega
    clear T1 T2 T3 T4 T6
    have HMK := Lib.hid hmk
    clear hmk
    have h19 : k + 1 ≤ 19 := by
     apply Classical.byContradiction
     intro h
     have := Fx.q19 (N := N) (k := k) hN (by omega)
     rw [← HQ.out] at this
     omega
    have hq1 : 1 ≤ q := by omega
    clear hbr
    go_wp2
    go_roundw
    case rel => exact ⟨k + 1, m, q / 10, by have := HMK.out; omega, h19, by omega, by go_num, rfl, by go_num, by rw [HQ.out]; exact Fx.div10 N k, .inr (by rw [Nat.add_sub_cancel, ← HQ.out]; exact hq1), Fx.TR_step a w _ m wr _ HT.out (by omega) (by rw [← HNE.out, HQ.out]; exact Fx.G_eq N k m HMK.out)⟩
    case measure => simp [intOf]; omega
end Go.Proofs.Ytcopdfihaheplaa
