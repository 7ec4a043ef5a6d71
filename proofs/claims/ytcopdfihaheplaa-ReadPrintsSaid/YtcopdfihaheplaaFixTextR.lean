/-
 The walk of shuttleref01.Text.
-/
import Derived.Test.YtcopdfihaheplaaFixParse
import Derived.Test.YtcopdfihaheplaaFixRef
import Derived.Laws.Concat
namespace Go.Proofs.Ytcopdfihaheplaa
open Go.RowKit
namespace Fx
theorem digF_len : ∀ (f n : Nat), (digF f n).length ≤ f + 1
 | 0, n => by simp [digF]
 | f + 1, n => by
  unfold digF
  split
  ·simp
  ·have := digF_len f (n / 10)
   simp only [List.length_append, List.length_singleton]
   omega
theorem cat (x y : List UInt8) (hx : x.length ≤ 1000) (hy : y.length ≤ 1000) (w : World) : (Op.stringOp .add ⟨x.toArray⟩ ⟨y.toArray⟩).run Try.prog w = .ok (.string ⟨(x ++ y).toArray⟩) w :=
 run_string_add_lists w x y (by omega) (by omega)
theorem digU_int (n : Nat) : UInt8.ofNat ((48 : Int) + (n : Int) % 10).toNat = digU n := by
 unfold digU
 congr 1
theorem conv1 (n : Nat) (w : World) :
  (convert 53 9 (.slice (some ⟨w.heap.size, 0, none⟩) 1 1)).run Try.prog (w.alloc (.cells #[.int .u8 (48 + (n : Int) % 10)] 5)) = .ok (.string ⟨#[digU n]⟩) (w.alloc (.cells #[.int .u8 (48 + (n : Int) % 10)] 5)) := by
 have h := run_convert_bytes_arg (P := Try.prog) (w.alloc (.cells #[.int .u8 (48 + (n : Int) % 10)] 5)) 53 5 Try.underlying53 Try.underlying5 w.heap.size 0 1 1 [48 + (n : Int) % 10] rfl (fun i hi => by
  obtain rfl : i = 0 := by omega
  simp [World.cell?_alloc_new]) 9 Try.underlying9
 rw [h]
 simp only [strOfNums, List.map_cons, List.map_nil, digU_int]
end Fx
set_option maxRecDepth 100000 in
theorem digits_any (f : Nat) (hf : f ≤ 20) : ∀ (n : Nat) (w : World), n < 10 ^ (f + 1) → n ≤ 1152921504606846976 →
  Calls Try.prog 104 #[.int .i64 n] w fun e w' => e = .returned (.string ⟨(Fx.digF f n).toArray⟩) ∧ Below w.heap.size w w' := by
 induction f with
 | zero =>
  intro n w hn hb
  have h10 : n < 10 := by simpa using hn
  have hc := Fx.conv1 n w
  clear hn
  go_enter Try.func104, Try.ntmps104
  go_wp2
  go_ret
  exact ⟨rfl, (Below.refl _ _).alloc (Nat.le_refl _) _⟩
 | succ f ih =>
  intro n w hn hb
  have hc := Fx.conv1 n w
  by_cases h10 : n < 10
  ·have e1 : Hid (Fx.digF (f + 1) n = [Fx.digU n]) := if_pos h10
   clear hn
   go_enter Try.func104, Try.ntmps104
   go_wp2
   go_ret
   exact ⟨by rw [e1.out]; rfl, (Below.refl _ _).alloc (Nat.le_refl _) _⟩
  ·have e1 : Hid (Fx.digF (f + 1) n = Fx.digF f (n / 10) ++ [Fx.digU n]) := if_neg h10
   have hn2 : Hid (n / 10 < 10 ^ (f + 1)) := by
    show n / 10 < 10 ^ (f + 1)
    rw [Nat.pow_succ] at hn
    omega
   clear hn
   have IH := Lib.hid (ih (by omega))
   clear ih
   go_enter Try.func104, Try.ntmps104
   go_wp2_with fail
   rw [show ((n : Int) / 10) = ((n / 10 : Nat) : Int) from by omega]
   refine (IH.out (n / 10) _ hn2.out (by omega)).mono ?_; rintro e w1 ⟨rfl, hb1⟩
   have hcat := Fx.cat (Fx.digF f (n / 10)) [Fx.digU n] (by have := Fx.digF_len f (n / 10); omega) (by simp) w1
   go_wp2
   go_ret
   refine ⟨?_, ((Below.refl _ _).alloc (Nat.le_refl _) _).trans (hb1.mono (by simp))⟩
   rw [e1.out]
   rfl
set_option maxRecDepth 100000 in
theorem rText_ok (a : Int) (w : World) (ha : Fx.isF a = true) :
  Calls Try.prog 95 #[.int .i64 a] w fun e w' => e = .returned (.tuple #[.string ⟨(Fx.textL a).toArray⟩, .int .i64 0]) ∧ Below w.heap.size w w' := by
 have ba := Fx.isF_bd ha
 have hp : (1152921504606846976 : Nat) < 10 ^ 21 := by decide
 by_cases h0 : a < 0
 ·have H := Lib.hid (fun w => digits_any 20 (by omega) a.natAbs w (Nat.lt_of_le_of_lt (by omega) hp) (by omega))
  have e1 : Hid (Fx.textL a = 45 :: Fx.digF 20 a.natAbs) := by show Fx.textL a = _; unfold Fx.textL; rw [if_pos h0]; rfl
  clear hp
  go_enter Try.func95, Try.ntmps95
  go_wp2_with (go_at_call 93; refine (rIn_any _ _).mono ?_; rintro e w' ⟨rfl, rfl⟩)
  rw [show (-a : Int) = ((a.natAbs : Nat) : Int) from by omega]
  refine (H.out _).mono ?_; rintro e w1 ⟨rfl, hb1⟩
  have hcat := Fx.cat [45] (Fx.digF 20 a.natAbs) (by simp) (by have := Fx.digF_len 20 a.natAbs; omega) w1
  go_wp2
  go_ret2
  refine ⟨?_, hb1⟩
  rw [e1.out]
  rfl
 ·have H := Lib.hid (fun w => digits_any 20 (by omega) a.natAbs w (Nat.lt_of_le_of_lt (by omega) hp) (by omega))
  have e1 : Hid (Fx.textL a = Fx.digF 20 a.natAbs) := by show Fx.textL a = _; unfold Fx.textL; rw [if_neg h0]; rfl
  clear hp
  go_enter Try.func95, Try.ntmps95
  go_wp2_with (go_at_call 93; refine (rIn_any _ _).mono ?_; rintro e w' ⟨rfl, rfl⟩)
  rw [show (a : Int) = ((a.natAbs : Nat) : Int) from by omega]
  refine (H.out _).mono ?_; rintro e w1 ⟨rfl, hb1⟩
  go_wp2
  go_ret2
  exact ⟨by rw [e1.out]; rfl, hb1⟩
end Go.Proofs.Ytcopdfihaheplaa
