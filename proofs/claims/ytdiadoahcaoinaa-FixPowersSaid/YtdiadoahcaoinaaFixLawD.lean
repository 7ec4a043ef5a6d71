/-
  The walks of the laws FixProducts, FixPowers, FixLists.
-/
import Derived.Test.YtdiadoahcaoinaaFixText
import Derived.Test.YtdiadoahcaoinaaFixSqrt
import Derived.Test.YtdiadoahcaoinaaFixFold
import Derived.Test.YtdiadoahcaoinaaPost
namespace Go.Proofs.Ytdiadoahcaoinaa
open Go.RowKit

theorem FixProducts_walk (a b : Int) (w : World) (_ : (Lit.int .i64 a).wf = true) (_ : (Lit.int .i64 b).wf = true) :
    Calls Try.prog 11 #[.int .i64 a, .int .i64 b] w fun e w' => e = .returned (.bool true) ∧ Below w.heap.size w w' := by
  go_enter Try.func11, Try.ntmps11
  go_wp2_with fail
  refine (Mul_any a b _).mono ?_; rintro e w1 ⟨rfl, hb1⟩; unfold Fx.R
  go_wp2_with fail
  refine (rMul_any a b _).mono ?_; rintro e w2 ⟨rfl, hb2⟩; unfold Fx.R
  go_wp2_with fail
  refine (Pow_any a b _).mono ?_; rintro e w3 ⟨rfl, hb3⟩; unfold Fx.R
  go_wp2_with fail
  refine (rPow_any a b _).mono ?_; rintro e w4 ⟨rfl, hb4⟩; unfold Fx.R
  go_wp2_with fail
  refine (Sqrt_any a _).mono ?_; rintro e w5 ⟨rfl, hb5⟩; unfold Fx.R
  go_wp2_with fail
  refine (rSqrt_any a _).mono ?_; rintro e w6 ⟨rfl, hb6⟩; unfold Fx.R
  go_wp2_with fail
  refine (awake_any _).mono ?_; rintro e w7 ⟨rfl, hb7⟩
  go_wp2_with fail
  refine (same_any _ _ _ _ _ rfl rfl).mono ?_; rintro e w' ⟨rfl, rfl⟩
  go_wp2_with fail
  refine (same_any _ _ _ _ _ rfl rfl).mono ?_; rintro e w' ⟨rfl, rfl⟩
  go_wp2_with fail
  refine (same_any _ _ _ _ _ rfl rfl).mono ?_; rintro e w' ⟨rfl, rfl⟩
  go_wp2
  go_ret
  exact ⟨rfl, (bchain (bchain (bchain (bchain (bchain (bchain hb1 hb2) hb3) hb4) hb5) hb6) hb7)⟩

theorem FixLists_nil (a : Option Addr) (cap : Nat) (w : World) :
    Calls Try.prog 10 #[.slice a 0 cap] w fun e w' => e = .returned (.bool true) ∧ Below w.heap.size w w' := by
  go_enter Try.func10, Try.ntmps10
  go_wp2_with fail
  refine (Sum_nil a cap _).mono ?_; rintro e w1 ⟨rfl, hb1⟩; unfold Fx.R
  go_wp2_with fail
  refine (rSum_nil a cap _).mono ?_; rintro e w2 ⟨rfl, hb2⟩; unfold Fx.R
  go_wp2_with fail
  refine (Prod_nil a cap _).mono ?_; rintro e w3 ⟨rfl, hb3⟩; unfold Fx.R
  go_wp2_with fail
  refine (rProd_nil a cap _).mono ?_; rintro e w4 ⟨rfl, hb4⟩; unfold Fx.R
  go_wp2_with fail
  refine (awake_any _).mono ?_; rintro e w5 ⟨rfl, hb5⟩
  go_wp2_with fail
  refine (same_any _ _ _ _ _ rfl rfl).mono ?_; rintro e w' ⟨rfl, rfl⟩
  go_wp2_with fail
  refine (same_any _ _ _ _ _ rfl rfl).mono ?_; rintro e w' ⟨rfl, rfl⟩
  go_wp2
  go_ret
  exact ⟨rfl, (bchain (bchain (bchain (bchain hb1 hb2) hb3) hb4) hb5)⟩

theorem FixLists_some (b off len cap : Nat) (zs : List Int) (w : World) (hlen : zs.length = len) (hm : len ≤ 9223372036854775807) (hc : ∀ i, i < len → w.cell? ⟨b, off + i, none⟩ = some (.int .i64 (zs.getD i 0))) (hb : b < w.heap.size) :
    Calls Try.prog 10 #[.slice (some ⟨b, off, none⟩) len cap] w fun e w' => e = .returned (.bool true) ∧ Below w.heap.size w w' := by
  have H1 := Lib.hid (fun (w' : World) (h : Below w.heap.size w w') => Sum_any b off len cap zs w' hlen hm (fun i hi => (h.cell (p := ⟨b, off + i, none⟩) hb).trans (hc i hi)) (Nat.lt_of_lt_of_le hb h.size))
  have H2 := Lib.hid (fun (w' : World) (h : Below w.heap.size w w') => rSum_any b off len cap zs w' hlen hm (fun i hi => (h.cell (p := ⟨b, off + i, none⟩) hb).trans (hc i hi)) (Nat.lt_of_lt_of_le hb h.size))
  have H3 := Lib.hid (fun (w' : World) (h : Below w.heap.size w w') => Prod_any b off len cap zs w' hlen hm (fun i hi => (h.cell (p := ⟨b, off + i, none⟩) hb).trans (hc i hi)) (Nat.lt_of_lt_of_le hb h.size))
  have H4 := Lib.hid (fun (w' : World) (h : Below w.heap.size w w') => rProd_any b off len cap zs w' hlen hm (fun i hi => (h.cell (p := ⟨b, off + i, none⟩) hb).trans (hc i hi)) (Nat.lt_of_lt_of_le hb h.size))
  clear hlen hc
  go_enter Try.func10, Try.ntmps10
  go_wp2_with fail
  refine (H1.out _ (Below.refl _ _)).mono ?_; rintro e w1 ⟨rfl, hb1⟩; unfold Fx.R
  go_wp2_with fail
  refine (H2.out _ hb1).mono ?_; rintro e w2 ⟨rfl, hb2⟩; unfold Fx.R
  go_wp2_with fail
  refine (H3.out _ (bchain hb1 hb2)).mono ?_; rintro e w3 ⟨rfl, hb3⟩; unfold Fx.R
  go_wp2_with fail
  refine (H4.out _ (bchain (bchain hb1 hb2) hb3)).mono ?_; rintro e w4 ⟨rfl, hb4⟩; unfold Fx.R
  go_wp2_with fail
  refine (awake_any _).mono ?_; rintro e w5 ⟨rfl, hb5⟩
  go_wp2_with fail
  refine (same_any _ _ _ _ _ rfl rfl).mono ?_; rintro e w' ⟨rfl, rfl⟩
  go_wp2_with fail
  refine (same_any _ _ _ _ _ rfl rfl).mono ?_; rintro e w' ⟨rfl, rfl⟩
  go_wp2
  go_ret
  exact ⟨rfl, (bchain (bchain (bchain (bchain hb1 hb2) hb3) hb4) hb5)⟩

theorem FixLists_walk (a : Option Addr) (len cap : Nat) (zs : List Int) (w : World) (h : IsRow .i64 w a len cap zs) :
    Calls Try.prog 10 #[.slice a len cap] w fun e w' => e = .returned (.bool true) ∧ Below w.heap.size w w' := by
  rcases h.at with ⟨rfl, rfl, rfl⟩ | ⟨rfl, _, rfl⟩ | ⟨b, off, rfl, _, hm, hb, hl, hc⟩
  · exact FixLists_nil _ _ w
  · exact FixLists_nil _ _ w
  · exact FixLists_some b off len cap _ w hl hm hc hb

theorem FixPowers_neg_ok (a n m : Int) (ha : a < 0) (x y z g : Int) (w : World) (hn : 0 ≤ n ∧ n ≤ 255) (hm : 0 ≤ m ∧ m ≤ 255)
    (HS : Hid (∀ w : World, Calls Try.prog 43 #[.int .i64 a] w fun e w' => e = .returned (.tuple #[.int .i64 0, .int .i64 1]) ∧ Below w.heap.size w w'))
    (HX : Hid (∀ w : World, Calls Try.prog 41 #[.int .i64 a, .int .i64 (n % 70)] w fun e' w' => e' = .returned (.tuple #[.int .i64 x, .int .i64 0]) ∧ Below w.heap.size w w'))
    (HY : Hid (∀ w : World, Calls Try.prog 41 #[.int .i64 a, .int .i64 (m % 70)] w fun e' w' => e' = .returned (.tuple #[.int .i64 y, .int .i64 0]) ∧ Below w.heap.size w w'))
    (HZ : Hid (∀ w : World, Calls Try.prog 41 #[.int .i64 a, .int .i64 (n % 70 + m % 70)] w fun e' w' => e' = .returned (.tuple #[.int .i64 z, .int .i64 g]) ∧ Below w.heap.size w w'))
    (HM : Hid (∀ w : World, Calls Try.prog 35 #[.int .i64 x, .int .i64 y] w fun e' w' => e' = .returned (.tuple #[.int .i64 z, .int .i64 g]) ∧ Below w.heap.size w w')) :
    Calls Try.prog 12 #[.int .i64 a, .int .u8 n, .int .u8 m] w fun e w' => e = .returned (.bool true) ∧ Below w.heap.size w w' := by
  go_enter Try.func12, Try.ntmps12
  go_wp2_with fail
  refine (HS.out _).mono ?_; rintro e w1 ⟨rfl, hb1⟩
  go_wp2_with fail
  refine (awake_any _).mono ?_; rintro e w2 ⟨rfl, hb2⟩
  go_wp2_with fail
  refine (HX.out _).mono ?_; rintro e w3 ⟨rfl, hb3⟩
  go_wp2_with fail
  refine (HY.out _).mono ?_; rintro e w4 ⟨rfl, hb4⟩
  go_wp2_with fail
  refine (HZ.out _).mono ?_; rintro e w5 ⟨rfl, hb5⟩
  go_wp2_with fail
  refine (HM.out _).mono ?_; rintro e w6 ⟨rfl, hb6⟩
  go_wp2_with fail
  refine (same_any _ _ _ _ _ rfl rfl).mono ?_; rintro e w' ⟨rfl, rfl⟩
  go_wp2
  go_ret
  exact ⟨rfl, (bchain (bchain (bchain (bchain (bchain hb1 hb2) hb3) hb4) hb5) hb6)⟩

theorem FixPowers_neg_e (a n m : Int) (ha : a < 0) (x y z k f g : Int) (hk : k ≠ 0) (hg : g ≠ 0) (w : World) (hn : 0 ≤ n ∧ n ≤ 255) (hm : 0 ≤ m ∧ m ≤ 255)
    (HS : Hid (∀ w : World, Calls Try.prog 43 #[.int .i64 a] w fun e w' => e = .returned (.tuple #[.int .i64 0, .int .i64 1]) ∧ Below w.heap.size w w'))
    (HX : Hid (∀ w : World, Calls Try.prog 41 #[.int .i64 a, .int .i64 (n % 70)] w fun e' w' => e' = .returned (.tuple #[.int .i64 x, .int .i64 k]) ∧ Below w.heap.size w w'))
    (HY : Hid (∀ w : World, Calls Try.prog 41 #[.int .i64 a, .int .i64 (m % 70)] w fun e' w' => e' = .returned (.tuple #[.int .i64 y, .int .i64 f]) ∧ Below w.heap.size w w'))
    (HZ : Hid (∀ w : World, Calls Try.prog 41 #[.int .i64 a, .int .i64 (n % 70 + m % 70)] w fun e' w' => e' = .returned (.tuple #[.int .i64 z, .int .i64 g]) ∧ Below w.heap.size w w')) :
    Calls Try.prog 12 #[.int .i64 a, .int .u8 n, .int .u8 m] w fun e w' => e = .returned (.bool true) ∧ Below w.heap.size w w' := by
  have t1 : (k != 0) = true := by simpa using hk
  have t2 : (g != 0) = true := by simpa using hg
  clear hk hg
  go_enter Try.func12, Try.ntmps12
  go_wp2_with fail
  refine (HS.out _).mono ?_; rintro e w1 ⟨rfl, hb1⟩
  go_wp2_with fail
  refine (awake_any _).mono ?_; rintro e w2 ⟨rfl, hb2⟩
  go_wp2_with fail
  refine (HX.out _).mono ?_; rintro e w3 ⟨rfl, hb3⟩
  go_wp2_with fail
  refine (HY.out _).mono ?_; rintro e w4 ⟨rfl, hb4⟩
  go_wp2_with fail
  refine (HZ.out _).mono ?_; rintro e w5 ⟨rfl, hb5⟩
  go_wp2
  go_ret
  exact ⟨rfl, (bchain (bchain (bchain (bchain hb1 hb2) hb3) hb4) hb5)⟩

theorem FixPowers_neg_f (a n m : Int) (ha : a < 0) (x y z f g : Int) (hf : f ≠ 0) (hg : g ≠ 0) (w : World) (hn : 0 ≤ n ∧ n ≤ 255) (hm : 0 ≤ m ∧ m ≤ 255)
    (HS : Hid (∀ w : World, Calls Try.prog 43 #[.int .i64 a] w fun e w' => e = .returned (.tuple #[.int .i64 0, .int .i64 1]) ∧ Below w.heap.size w w'))
    (HX : Hid (∀ w : World, Calls Try.prog 41 #[.int .i64 a, .int .i64 (n % 70)] w fun e' w' => e' = .returned (.tuple #[.int .i64 x, .int .i64 0]) ∧ Below w.heap.size w w'))
    (HY : Hid (∀ w : World, Calls Try.prog 41 #[.int .i64 a, .int .i64 (m % 70)] w fun e' w' => e' = .returned (.tuple #[.int .i64 y, .int .i64 f]) ∧ Below w.heap.size w w'))
    (HZ : Hid (∀ w : World, Calls Try.prog 41 #[.int .i64 a, .int .i64 (n % 70 + m % 70)] w fun e' w' => e' = .returned (.tuple #[.int .i64 z, .int .i64 g]) ∧ Below w.heap.size w w')) :
    Calls Try.prog 12 #[.int .i64 a, .int .u8 n, .int .u8 m] w fun e w' => e = .returned (.bool true) ∧ Below w.heap.size w w' := by
  have t1 : (f != 0) = true := by simpa using hf
  have t2 : (g != 0) = true := by simpa using hg
  clear hf hg
  go_enter Try.func12, Try.ntmps12
  go_wp2_with fail
  refine (HS.out _).mono ?_; rintro e w1 ⟨rfl, hb1⟩
  go_wp2_with fail
  refine (awake_any _).mono ?_; rintro e w2 ⟨rfl, hb2⟩
  go_wp2_with fail
  refine (HX.out _).mono ?_; rintro e w3 ⟨rfl, hb3⟩
  go_wp2_with fail
  refine (HY.out _).mono ?_; rintro e w4 ⟨rfl, hb4⟩
  go_wp2_with fail
  refine (HZ.out _).mono ?_; rintro e w5 ⟨rfl, hb5⟩
  go_wp2
  go_ret
  exact ⟨rfl, (bchain (bchain (bchain (bchain hb1 hb2) hb3) hb4) hb5)⟩

theorem FixPowers_big_e (a n m : Int) (ha : 1152921504606846975 < a) (x y z k f g : Int) (hk : k ≠ 0) (hg : g ≠ 0) (w : World) (hn : 0 ≤ n ∧ n ≤ 255) (hm : 0 ≤ m ∧ m ≤ 255)
    (HS : Hid (∀ w : World, Calls Try.prog 43 #[.int .i64 a] w fun e w' => e = .returned (.tuple #[.int .i64 0, .int .i64 1]) ∧ Below w.heap.size w w'))
    (HX : Hid (∀ w : World, Calls Try.prog 41 #[.int .i64 a, .int .i64 (n % 70)] w fun e' w' => e' = .returned (.tuple #[.int .i64 x, .int .i64 k]) ∧ Below w.heap.size w w'))
    (HY : Hid (∀ w : World, Calls Try.prog 41 #[.int .i64 a, .int .i64 (m % 70)] w fun e' w' => e' = .returned (.tuple #[.int .i64 y, .int .i64 f]) ∧ Below w.heap.size w w'))
    (HZ : Hid (∀ w : World, Calls Try.prog 41 #[.int .i64 a, .int .i64 (n % 70 + m % 70)] w fun e' w' => e' = .returned (.tuple #[.int .i64 z, .int .i64 g]) ∧ Below w.heap.size w w')) :
    Calls Try.prog 12 #[.int .i64 a, .int .u8 n, .int .u8 m] w fun e w' => e = .returned (.bool true) ∧ Below w.heap.size w w' := by
  have t1 : (k != 0) = true := by simpa using hk
  have t2 : (g != 0) = true := by simpa using hg
  clear hk hg
  go_enter Try.func12, Try.ntmps12
  go_wp2_with fail
  refine (HS.out _).mono ?_; rintro e w1 ⟨rfl, hb1⟩
  go_wp2_with fail
  refine (awake_any _).mono ?_; rintro e w2 ⟨rfl, hb2⟩
  go_wp2_with fail
  refine (HX.out _).mono ?_; rintro e w3 ⟨rfl, hb3⟩
  go_wp2_with fail
  refine (HY.out _).mono ?_; rintro e w4 ⟨rfl, hb4⟩
  go_wp2_with fail
  refine (HZ.out _).mono ?_; rintro e w5 ⟨rfl, hb5⟩
  go_wp2
  go_ret
  exact ⟨rfl, (bchain (bchain (bchain (bchain hb1 hb2) hb3) hb4) hb5)⟩

theorem FixPowers_ok_ok (a n m : Int) (r : Int) (hr : 0 ≤ r ∧ r ≤ 1073741824) (ha : 0 ≤ a ∧ a ≤ 1152921504606846975) (h1 : r * r ≤ a) (h2 : a < (r + 1) * (r + 1)) (h3 : 0 ≤ r * r) (h4 : (r + 1) * (r + 1) ≤ 4611686018427387904) (x y z g : Int) (w : World) (hn : 0 ≤ n ∧ n ≤ 255) (hm : 0 ≤ m ∧ m ≤ 255)
    (HS : Hid (∀ w : World, Calls Try.prog 43 #[.int .i64 a] w fun e w' => e = .returned (.tuple #[.int .i64 r, .int .i64 0]) ∧ Below w.heap.size w w'))
    (HX : Hid (∀ w : World, Calls Try.prog 41 #[.int .i64 a, .int .i64 (n % 70)] w fun e' w' => e' = .returned (.tuple #[.int .i64 x, .int .i64 0]) ∧ Below w.heap.size w w'))
    (HY : Hid (∀ w : World, Calls Try.prog 41 #[.int .i64 a, .int .i64 (m % 70)] w fun e' w' => e' = .returned (.tuple #[.int .i64 y, .int .i64 0]) ∧ Below w.heap.size w w'))
    (HZ : Hid (∀ w : World, Calls Try.prog 41 #[.int .i64 a, .int .i64 (n % 70 + m % 70)] w fun e' w' => e' = .returned (.tuple #[.int .i64 z, .int .i64 g]) ∧ Below w.heap.size w w'))
    (HM : Hid (∀ w : World, Calls Try.prog 35 #[.int .i64 x, .int .i64 y] w fun e' w' => e' = .returned (.tuple #[.int .i64 z, .int .i64 g]) ∧ Below w.heap.size w w')) :
    Calls Try.prog 12 #[.int .i64 a, .int .u8 n, .int .u8 m] w fun e w' => e = .returned (.bool true) ∧ Below w.heap.size w w' := by
  go_enter Try.func12, Try.ntmps12
  go_wp2_with fail
  refine (HS.out _).mono ?_; rintro e w1 ⟨rfl, hb1⟩
  go_wp2_with fail
  refine (awake_any _).mono ?_; rintro e w2 ⟨rfl, hb2⟩
  go_wp2_with fail
  refine (HX.out _).mono ?_; rintro e w3 ⟨rfl, hb3⟩
  go_wp2_with fail
  refine (HY.out _).mono ?_; rintro e w4 ⟨rfl, hb4⟩
  go_wp2_with fail
  refine (HZ.out _).mono ?_; rintro e w5 ⟨rfl, hb5⟩
  go_wp2_with fail
  refine (HM.out _).mono ?_; rintro e w6 ⟨rfl, hb6⟩
  go_wp2_with fail
  refine (same_any _ _ _ _ _ rfl rfl).mono ?_; rintro e w' ⟨rfl, rfl⟩
  go_wp2
  go_ret
  exact ⟨rfl, (bchain (bchain (bchain (bchain (bchain hb1 hb2) hb3) hb4) hb5) hb6)⟩

theorem FixPowers_ok_e (a n m : Int) (r : Int) (hr : 0 ≤ r ∧ r ≤ 1073741824) (ha : 0 ≤ a ∧ a ≤ 1152921504606846975) (h1 : r * r ≤ a) (h2 : a < (r + 1) * (r + 1)) (h3 : 0 ≤ r * r) (h4 : (r + 1) * (r + 1) ≤ 4611686018427387904) (x y z k f g : Int) (hk : k ≠ 0) (hg : g ≠ 0) (w : World) (hn : 0 ≤ n ∧ n ≤ 255) (hm : 0 ≤ m ∧ m ≤ 255)
    (HS : Hid (∀ w : World, Calls Try.prog 43 #[.int .i64 a] w fun e w' => e = .returned (.tuple #[.int .i64 r, .int .i64 0]) ∧ Below w.heap.size w w'))
    (HX : Hid (∀ w : World, Calls Try.prog 41 #[.int .i64 a, .int .i64 (n % 70)] w fun e' w' => e' = .returned (.tuple #[.int .i64 x, .int .i64 k]) ∧ Below w.heap.size w w'))
    (HY : Hid (∀ w : World, Calls Try.prog 41 #[.int .i64 a, .int .i64 (m % 70)] w fun e' w' => e' = .returned (.tuple #[.int .i64 y, .int .i64 f]) ∧ Below w.heap.size w w'))
    (HZ : Hid (∀ w : World, Calls Try.prog 41 #[.int .i64 a, .int .i64 (n % 70 + m % 70)] w fun e' w' => e' = .returned (.tuple #[.int .i64 z, .int .i64 g]) ∧ Below w.heap.size w w')) :
    Calls Try.prog 12 #[.int .i64 a, .int .u8 n, .int .u8 m] w fun e w' => e = .returned (.bool true) ∧ Below w.heap.size w w' := by
  have t1 : (k != 0) = true := by simpa using hk
  have t2 : (g != 0) = true := by simpa using hg
  clear hk hg
  go_enter Try.func12, Try.ntmps12
  go_wp2_with fail
  refine (HS.out _).mono ?_; rintro e w1 ⟨rfl, hb1⟩
  go_wp2_with fail
  refine (awake_any _).mono ?_; rintro e w2 ⟨rfl, hb2⟩
  go_wp2_with fail
  refine (HX.out _).mono ?_; rintro e w3 ⟨rfl, hb3⟩
  go_wp2_with fail
  refine (HY.out _).mono ?_; rintro e w4 ⟨rfl, hb4⟩
  go_wp2_with fail
  refine (HZ.out _).mono ?_; rintro e w5 ⟨rfl, hb5⟩
  go_wp2
  go_ret
  exact ⟨rfl, (bchain (bchain (bchain (bchain hb1 hb2) hb3) hb4) hb5)⟩

theorem FixPowers_ok_f (a n m : Int) (r : Int) (hr : 0 ≤ r ∧ r ≤ 1073741824) (ha : 0 ≤ a ∧ a ≤ 1152921504606846975) (h1 : r * r ≤ a) (h2 : a < (r + 1) * (r + 1)) (h3 : 0 ≤ r * r) (h4 : (r + 1) * (r + 1) ≤ 4611686018427387904) (x y z f g : Int) (hf : f ≠ 0) (hg : g ≠ 0) (w : World) (hn : 0 ≤ n ∧ n ≤ 255) (hm : 0 ≤ m ∧ m ≤ 255)
    (HS : Hid (∀ w : World, Calls Try.prog 43 #[.int .i64 a] w fun e w' => e = .returned (.tuple #[.int .i64 r, .int .i64 0]) ∧ Below w.heap.size w w'))
    (HX : Hid (∀ w : World, Calls Try.prog 41 #[.int .i64 a, .int .i64 (n % 70)] w fun e' w' => e' = .returned (.tuple #[.int .i64 x, .int .i64 0]) ∧ Below w.heap.size w w'))
    (HY : Hid (∀ w : World, Calls Try.prog 41 #[.int .i64 a, .int .i64 (m % 70)] w fun e' w' => e' = .returned (.tuple #[.int .i64 y, .int .i64 f]) ∧ Below w.heap.size w w'))
    (HZ : Hid (∀ w : World, Calls Try.prog 41 #[.int .i64 a, .int .i64 (n % 70 + m % 70)] w fun e' w' => e' = .returned (.tuple #[.int .i64 z, .int .i64 g]) ∧ Below w.heap.size w w')) :
    Calls Try.prog 12 #[.int .i64 a, .int .u8 n, .int .u8 m] w fun e w' => e = .returned (.bool true) ∧ Below w.heap.size w w' := by
  have t1 : (f != 0) = true := by simpa using hf
  have t2 : (g != 0) = true := by simpa using hg
  clear hf hg
  go_enter Try.func12, Try.ntmps12
  go_wp2_with fail
  refine (HS.out _).mono ?_; rintro e w1 ⟨rfl, hb1⟩
  go_wp2_with fail
  refine (awake_any _).mono ?_; rintro e w2 ⟨rfl, hb2⟩
  go_wp2_with fail
  refine (HX.out _).mono ?_; rintro e w3 ⟨rfl, hb3⟩
  go_wp2_with fail
  refine (HY.out _).mono ?_; rintro e w4 ⟨rfl, hb4⟩
  go_wp2_with fail
  refine (HZ.out _).mono ?_; rintro e w5 ⟨rfl, hb5⟩
  go_wp2
  go_ret
  exact ⟨rfl, (bchain (bchain (bchain (bchain hb1 hb2) hb3) hb4) hb5)⟩

/-- what the three powers come to -/
theorem Fx.pows (a n m : Int) (hn : 0 ≤ n) (hm : 0 ≤ m) (hb : n + m ≤ 200) :
    (Fx.isF a = true ∧ ∃ x y : Int, Fx.pow a n = (x, 0) ∧ Fx.pow a m = (y, 0) ∧ Fx.pow a (n + m) = Fx.mul x y) ∨
    ((Fx.pow a n).2 ≠ 0 ∧ (Fx.pow a (n + m)).2 ≠ 0) ∨ (Fx.isF a = true ∧ ∃ x, Fx.pow a n = (x, 0) ∧ (Fx.pow a m).2 ≠ 0 ∧ (Fx.pow a (n + m)).2 ≠ 0) := by
  have fi : ∀ k : Int, 0 ≤ k → k ≤ 200 → Fx.isF k = true := fun k h1 h2 => Fx.isF_mk (by omega)
  cases ha : Fx.isF a
  · have e : ∀ k, Fx.pow a k = (0, 1) := fun k => Fx.two_bad (by simp [ha])
    exact .inr (.inl ⟨by rw [e]; decide, by rw [e]; decide⟩)
  have e : ∀ k : Int, 0 ≤ k → k ≤ 200 → Fx.pow a k = Fx.fitsV (a ^ k.toNat) := fun k h1 h2 =>
    (Fx.two_ok ha (fi k h1 h2)).trans (if_neg (by omega))
  have hs : (n + m).toNat = n.toNat + m.toNat := by omega
  cases hx : Fx.isF (a ^ n.toNat)
  · refine .inr (.inl ⟨?_, ?_⟩)
    · rw [e n hn (by omega), Fx.fitsV_no hx]; decide
    · rw [e _ (by omega) hb, hs, Fx.fitsV_no (Fx.isF_pow_le a _ _ hx)]; decide
  cases hy : Fx.isF (a ^ m.toNat)
  · refine .inr (.inr ⟨rfl, a ^ n.toNat, ?_, ?_, ?_⟩)
    · rw [e n hn (by omega), Fx.fitsV_ok hx]
    · rw [e m hm (by omega), Fx.fitsV_no hy]; decide
    · rw [e _ (by omega) hb, hs, Nat.add_comm, Fx.fitsV_no (Fx.isF_pow_le a _ _ hy)]; decide
  refine .inl ⟨rfl, a ^ n.toNat, a ^ m.toNat, ?_, ?_, ?_⟩
  · rw [e n hn (by omega), Fx.fitsV_ok hx]
  · rw [e m hm (by omega), Fx.fitsV_ok hy]
  · rw [e _ (by omega) hb, hs, Int.pow_add]
    exact (Fx.two_ok (f := fun a b => Fx.fitsV (a * b)) hx hy).symm
theorem Fx.sqB_le (a : Nat) : ∀ b, sqB a b * sqB a b ≤ a
  | 0 => by simp [sqB]
  | b + 1 => by
    unfold sqB
    split
    · assumption
    · exact Fx.sqB_le a b
theorem Fx.sqB_lt (a : Nat) : ∀ b, a < (b + 1) * (b + 1) → a < (sqB a b + 1) * (sqB a b + 1)
  | 0 => fun h => by simpa [sqB] using h
  | b + 1 => fun h => by
    unfold sqB
    split
    · exact h
    · exact Fx.sqB_lt a b (by omega)
theorem Fx.sqrt_is (a : Int) (h0 : 0 ≤ a) (h1 : a ≤ 1152921504606846975) : ∃ r : Int, Fx.sqrt a = (r, 0) ∧ 0 ≤ r ∧ r ≤ 1073741823 ∧ r * r ≤ a ∧ a < (r + 1) * (r + 1) ∧ 0 ≤ r * r ∧ (r + 1) * (r + 1) ≤ 4611686018427387904 := by
  obtain ⟨a, rfl⟩ := Int.eq_ofNat_of_zero_le h0
  have hF : Fx.isF a = true := Fx.isF_mk (by omega)
  have q1 : Fx.sq a * Fx.sq a ≤ a := Fx.sqB_le a a
  have q2 : a < (Fx.sq a + 1) * (Fx.sq a + 1) := Fx.sqB_lt a a (by rw [Nat.add_mul]; omega)
  refine ⟨(Fx.sq a : Int), by simp [Fx.sqrt, hF], by omega, ?_, ?_, ?_, ?_, ?_⟩
  · apply Classical.byContradiction
    intro hc
    have hb : 1073741824 ≤ Fx.sq a := by omega
    have := Nat.mul_le_mul hb hb
    omega
  · rw [← Int.natCast_mul]; omega
  · have : ((Fx.sq a : Int) + 1) * ((Fx.sq a : Int) + 1) = (((Fx.sq a + 1) * (Fx.sq a + 1) : Nat) : Int) := by simp
    omega
  · rw [← Int.natCast_mul]; omega
  · have hb : Fx.sq a ≤ 1073741823 := by
      apply Classical.byContradiction
      intro hc
      have hb : 1073741824 ≤ Fx.sq a := by omega
      have := Nat.mul_le_mul hb hb
      omega
    have h5 : (Fx.sq a + 1) * (Fx.sq a + 1) ≤ 1073741824 * 1073741824 := Nat.mul_le_mul (by omega) (by omega)
    have : ((Fx.sq a : Int) + 1) * ((Fx.sq a : Int) + 1) = (((Fx.sq a + 1) * (Fx.sq a + 1) : Nat) : Int) := by simp
    omega
theorem FixPowers_walk (a n m : Int) (w : World) (_ : (Lit.int .i64 a).wf = true) (wn : (Lit.int .u8 n).wf = true) (wm : (Lit.int .u8 m).wf = true) :
    Calls Try.prog 12 #[.int .i64 a, .int .u8 n, .int .u8 m] w fun e w' => e = .returned (.bool true) ∧ Below w.heap.size w w' := by
  have hn : 0 ≤ n ∧ n ≤ 255 := by simpa [Lit.wf, IntKind.min, IntKind.max, IntKind.signed, IntKind.bits] using wn
  have hm : 0 ≤ m ∧ m ≤ 255 := by simpa [Lit.wf, IntKind.min, IntKind.max, IntKind.signed, IntKind.bits] using wm
  have HX := fun w => Pow_any a (n % 70) w
  have HY := fun w => Pow_any a (m % 70) w
  have HZ := fun w => Pow_any a (n % 70 + m % 70) w
  have HS := fun w => Sqrt_any a w
  have hp := Fx.pows a (n % 70) (m % 70) (by omega) (by omega) (by omega)
  by_cases ha0 : a < 0
  · rw [show Fx.sqrt a = (0, 1) by simp [Fx.sqrt]; omega] at HS
    rcases hp with ⟨_, x, y, e1, e2, e3⟩ | ⟨e1, e2⟩ | ⟨_, x, e1, e2, e3⟩
    · have HM := fun w => Mul_any x y w
      rw [e1] at HX; rw [e2] at HY; rw [e3] at HZ
      exact FixPowers_neg_ok a n m ha0 x y _ _ w hn hm HS HX HY HZ HM
    · exact FixPowers_neg_e a n m ha0 _ _ _ _ _ _ e1 e2 w hn hm HS HX HY HZ
    · rw [e1] at HX
      exact FixPowers_neg_f a n m ha0 x _ _ _ _ e2 e3 w hn hm HS HX HY HZ
  by_cases ha1 : 1152921504606846975 < a
  · have hF : Fx.isF a = false := by simp [Fx.isF]; omega
    rw [show Fx.sqrt a = (0, 1) by simp [Fx.sqrt, hF]] at HS
    rcases hp with ⟨h, _⟩ | ⟨e1, e2⟩ | ⟨h, _⟩
    · rw [hF] at h; cases h
    · exact FixPowers_big_e a n m ha1 _ _ _ _ _ _ e1 e2 w hn hm HS HX HY HZ
    · rw [hF] at h; cases h
  · obtain ⟨r, hs, r0, r1, r2, r3, r4, r5⟩ := Fx.sqrt_is a (by omega) (by omega)
    rw [hs] at HS
    rcases hp with ⟨_, x, y, e1, e2, e3⟩ | ⟨e1, e2⟩ | ⟨_, x, e1, e2, e3⟩
    · have HM := fun w => Mul_any x y w
      rw [e1] at HX; rw [e2] at HY; rw [e3] at HZ
      exact FixPowers_ok_ok a n m r ⟨r0, by omega⟩ (by omega) r2 r3 r4 r5 x y _ _ w hn hm HS HX HY HZ HM
    · exact FixPowers_ok_e a n m r ⟨r0, by omega⟩ (by omega) r2 r3 r4 r5 _ _ _ _ _ _ e1 e2 w hn hm HS HX HY HZ
    · rw [e1] at HX
      exact FixPowers_ok_f a n m r ⟨r0, by omega⟩ (by omega) r2 r3 r4 r5 x _ _ _ _ e2 e3 w hn hm HS HX HY HZ
end Go.Proofs.Ytdiadoahcaoinaa
