/-
 datum.Check at a datum without parts.
-/
import Derived.Test.YtcopdfihaheplaaTxB
import Derived.Test.YtcopdfihaheplaaLexSym
namespace Go.Proofs.Ytcopdfihaheplaa
open Go.RowKit
set_option maxRecDepth 100000 in
set_option maxHeartbeats 2000000 in
theorem emptyD_any (k n : Int) (s : ByteArray) (w : World) :
  Calls Try.prog 74 #[.agg #[.int .i64 k, .int .i64 n, .string s, .slice none 0 0, .slice none 0 0, .slice none 0 0]] w fun e w' => e = .returned (.bool ((n == 0) && s.toList.isEmpty)) ∧ Below w.heap.size w w' := by
 go_enter Try.func74, Try.ntmps74
 go_wp2
 all_goals
  go_ret
  exact ⟨by simp_all, (Below.refl _ _).alloc (Nat.le_refl _) _⟩
set_option maxRecDepth 100000 in
set_option maxHeartbeats 2000000 in
theorem ascii_any (s : ByteArray) (w : World) (hs : s.size ≤ 1000000) :
  Calls Try.prog 75 #[.string s] w fun e w' => e = .returned (.bool (decide (s.data.toList.length ≤ 256) && s.data.toList.all (fun c => decide (c.toNat < 128)))) ∧ w = w' := by
 obtain ⟨R, hR⟩ : ∃ R, (decide (s.data.toList.length ≤ 256) && s.data.toList.all (fun c => decide (c.toNat < 128))) = R := ⟨_, rfl⟩
 rw [hR]
 have hsz := Fx.size_toList s
 by_cases h : s.size ≤ 256
 case neg =>
  have HR : Hid (R = false) := by show _ = _; rw [← hR, decide_eq_false (by omega)]; rfl
  have hi : ¬ ((s.size : Int) ≤ 256) := by omega
  clear hR hsz
  go_enter Try.func75, Try.ntmps75
  go_wp2
  go_ret
  exact ⟨by rw [HR.out]; rfl, rfl⟩
 have hi : ¬ (256 < (s.size : Int)) := by omega
 have h0 : R = (Lx.tl s 0).all (fun c => decide (c.toNat < 128)) := by rw [← hR, decide_eq_true (by omega)]; unfold Lx.tl; simp
 have H0 := Lib.hid h0
 clear hR h0 hsz
 go_enter Try.func75, Try.ntmps75
 go_wp2_with fail
 go_loop [9] (fun v => ∃ k : Nat, v = .int .i64 k ∧ k ≤ s.size ∧ Hid (R = (Lx.tl s k).all (fun c => decide (c.toNat < 128)))) (fun v => s.size - (intOf v).toNat)
 case atStart => exact ⟨0, rfl, by omega, H0⟩
 case round =>
  obtain ⟨k, rfl, hk, HR⟩ := hrel
  by_cases hlt : k < s.size
  case neg =>
   have hge : (s.size : Int) ≤ (k : Int) := by omega
   have HE : Hid (R = true) := by show _ = _; rw [HR.out, Lx.tl_nil s k (by omega)]; rfl
   go_wp2
   go_ret
   exact ⟨by rw [HE.out]; rfl, rfl⟩
  have hlti : (k : Int) < (s.size : Int) := by omega
  have hr := HR.out
  rw [Lx.tl_cons s k hlt, List.all_cons] at hr
  by_cases hc : s[k].toNat < 128
  ·rw [decide_eq_true hc, Bool.true_and] at hr
   have HN := Lib.hid hr
   have hci : ¬ (128 ≤ (s[k].toNat : Int)) := by omega
   clear hr hc
   go_wp2
   go_round
   case rel => exact ⟨k + 1, by simp, by omega, HN⟩
   case measure => simp [intOf]; omega
  ·rw [decide_eq_false hc, Bool.false_and] at hr
   have HN := Lib.hid hr
   have hci : 128 ≤ (s[k].toNat : Int) := by omega
   clear hr hc
   go_wp2
   go_ret
   exact ⟨by rw [HN.out]; rfl, rfl⟩
namespace Tx
theorem nil_bool (s : ByteArray) : decide (s.data.toList = []) = s.toList.isEmpty := by
 rw [ByteArray.toList_eq]
 cases s.data.toList <;> simp
theorem bel2 (w : World) (a b : Obj) : Below w.heap.size w ((w.alloc a).alloc b) := ((Below.refl _ _).alloc (Nat.le_refl _) a).alloc (by rw [World.size_alloc]; omega) b
theorem bv_zero (x m : BitVec 64) (k : Nat) (hm : m.toNat = 2 ^ k - 1) : x &&& ~~~m = 0#64 ↔ x.toNat < 2 ^ k := by
 constructor
 ·intro h
  have e : x = x &&& m := by
   have hs : x = (x &&& m) ||| (x &&& ~~~m) := by
    rw [← BitVec.and_or_distrib_left, BitVec.or_not_self, BitVec.and_allOnes]
   rw [h, BitVec.or_zero] at hs
   exact hs
  have e2 := congrArg BitVec.toNat e
  rw [BitVec.toNat_and, hm, Nat.and_two_pow_sub_one_eq_mod] at e2
  rw [e2]
  exact Nat.mod_lt _ (Nat.two_pow_pos k)
 ·intro h
  have e : x &&& m = x := by
   apply BitVec.eq_of_toNat_eq
   rw [BitVec.toNat_and, hm, Nat.and_two_pow_sub_one_eq_mod, Nat.mod_eq_of_lt h]
  rw [← e, BitVec.and_assoc, BitVec.and_not_self]
  exact BitVec.and_zero
theorem andNot_zero (n M : Int) (k : Nat) (hk : k ≤ 62) (hM : (BitVec.ofInt 64 M).toNat = 2 ^ k - 1) (hn : -9223372036854775808 ≤ n ∧ n ≤ 9223372036854775807) : bits .andNot .i64 n M = 0 ↔ 0 ≤ n ∧ n < 2 ^ k := by
 have e : bits .andNot .i64 n M = IntKind.i64.wrap ((BitVec.ofInt 64 n &&& ~~~BitVec.ofInt 64 M).toNat : Int) := rfl
 rw [e, IntKind.wrap_i64]
 obtain ⟨x, hx⟩ : ∃ x, BitVec.ofInt 64 n = x := ⟨_, rfl⟩
 have hz := bv_zero x (BitVec.ofInt 64 M) k hM
 rw [hx]
 obtain ⟨y, hy⟩ : ∃ y, (x &&& ~~~BitVec.ofInt 64 M) = y := ⟨_, rfl⟩
 rw [hy] at hz ⊢
 have hyl := y.isLt
 have hy0 : y = 0#64 ↔ y.toNat = 0 := ⟨fun h => by rw [h]; rfl, fun h => BitVec.eq_of_toNat_eq h⟩
 have hxn : x.toNat = (n % 2 ^ 64).toNat := by rw [← hx, BitVec.toNat_ofInt]; rfl
 have hp : 2 ^ k ≤ 2 ^ 62 := Nat.pow_le_pow_right (by omega) hk
 have hpi : ((2 ^ k : Nat) : Int) = (2 : Int) ^ k := by simp
 rw [← hpi]
 rw [hy0] at hz
 constructor
 ·intro h
  have := hz.1 (by omega)
  omega
 ·intro h
  have := hz.2 (by omega)
  omega
end Tx
set_option maxRecDepth 100000 in
set_option maxHeartbeats 4000000 in
theorem single1_any (n : Int) (s : ByteArray) (w : World) (_hs : s.size ≤ 1000000) (_hn : -9223372036854775808 ≤ n ∧ n ≤ 9223372036854775807) :
  Calls Try.prog 50 #[.agg #[.int .i64 1, .int .i64 n, .string s, .slice none 0 0, .slice none 0 0, .slice none 0 0]] w fun e w' => e = .returned (.bool (Tx.ok 1 n s.data.toList)) ∧ Below w.heap.size w w' := by
 have he : Tx.ok 1 n s.data.toList = (Fx.isF n && decide (s.data.toList = [])) := rfl
 rw [Tx.nil_bool] at he
 have HE := Lib.hid he
 clear he
 go_enter Try.func50, Try.ntmps50
 go_wp2_with (first
  | (go_at_call 73; refine (In_any _ _).mono ?_; rintro e w1 ⟨rfl, rfl⟩)
  | (go_at_call 74; refine (emptyD_any _ _ _ _).mono ?_; rintro e w2 ⟨rfl, hb2⟩))
 ·go_ret
  exact ⟨by rw [HE.out]; simp_all, (Tx.bel2 _ _ _).trans (hb2.mono (by rw [World.size_alloc, World.size_alloc]; omega))⟩
 ·go_ret
  exact ⟨by rw [HE.out]; simp_all, Tx.bel2 _ _ _⟩
set_option maxRecDepth 100000 in
set_option maxHeartbeats 4000000 in
theorem single2_any (n : Int) (s : ByteArray) (w : World) (_hs : s.size ≤ 1000000) (hn : -9223372036854775808 ≤ n ∧ n ≤ 9223372036854775807) :
  Calls Try.prog 50 #[.agg #[.int .i64 2, .int .i64 n, .string s, .slice none 0 0, .slice none 0 0, .slice none 0 0]] w fun e w' => e = .returned (.bool (Tx.ok 2 n s.data.toList)) ∧ Below w.heap.size w w' := by
 have he : Tx.ok 2 n s.data.toList = ((decide (n = 0) || decide (n = 1)) && decide (s.data.toList = [])) := rfl
 rw [Tx.nil_bool] at he
 have HE := Lib.hid he
 clear he
 have hA := Lib.hid (Tx.andNot_zero n 1 1 (by omega) (by decide) hn)
 go_enter Try.func50, Try.ntmps50
 go_wp2_with (go_at_call 74; refine (emptyD_any _ _ _ _).mono ?_; rintro e w2 ⟨rfl, hb2⟩)
 ·rename_i hz
  have hz := hA.out.1 hz
  go_ret
  refine ⟨?_, (Tx.bel2 _ _ _).trans (hb2.mono (by rw [World.size_alloc, World.size_alloc]; omega))⟩
  rw [HE.out, show (decide (n = 0) || decide (n = 1)) = true by simp; omega]
  simp
 ·rename_i hz
  have hz' : ¬ (0 ≤ n ∧ n < 2) := fun h => hz (hA.out.2 h)
  go_ret
  refine ⟨?_, Tx.bel2 _ _ _⟩
  have hf : (decide (n = 0) || decide (n = 1)) = false := by simp; omega
  rw [HE.out, hf]
  simp_all
set_option maxRecDepth 100000 in
set_option maxHeartbeats 4000000 in
theorem single3_any (n : Int) (s : ByteArray) (w : World) (_hs : s.size ≤ 1000000) (hn : -9223372036854775808 ≤ n ∧ n ≤ 9223372036854775807) :
  Calls Try.prog 50 #[.agg #[.int .i64 3, .int .i64 n, .string s, .slice none 0 0, .slice none 0 0, .slice none 0 0]] w fun e w' => e = .returned (.bool (Tx.ok 3 n s.data.toList)) ∧ Below w.heap.size w w' := by
 have he : Tx.ok 3 n s.data.toList = ((decide (0 ≤ n) && decide (n ≤ 127)) && decide (s.data.toList = [])) := rfl
 rw [Tx.nil_bool] at he
 have HE := Lib.hid he
 clear he
 have hA := Lib.hid (Tx.andNot_zero n 127 7 (by omega) (by decide) hn)
 go_enter Try.func50, Try.ntmps50
 go_wp2_with (go_at_call 74; refine (emptyD_any _ _ _ _).mono ?_; rintro e w2 ⟨rfl, hb2⟩)
 ·rename_i hz
  have hz := hA.out.1 hz
  go_ret
  refine ⟨?_, (Tx.bel2 _ _ _).trans (hb2.mono (by rw [World.size_alloc, World.size_alloc]; omega))⟩
  rw [HE.out, decide_eq_true hz.1, decide_eq_true (show n ≤ 127 by omega)]
  simp
 ·rename_i hz
  have hz' : ¬ (0 ≤ n ∧ n < 128) := fun h => hz (hA.out.2 h)
  go_ret
  refine ⟨?_, Tx.bel2 _ _ _⟩
  have hf : (decide (0 ≤ n) && decide (n ≤ 127)) = false := by simp; omega
  rw [HE.out, hf]
  simp_all
set_option maxRecDepth 100000 in
set_option maxHeartbeats 4000000 in
theorem single4_any (n : Int) (s : ByteArray) (w : World) (hs : s.size ≤ 1000000) (_hn : -9223372036854775808 ≤ n ∧ n ≤ 9223372036854775807) :
  Calls Try.prog 50 #[.agg #[.int .i64 4, .int .i64 n, .string s, .slice none 0 0, .slice none 0 0, .slice none 0 0]] w fun e w' => e = .returned (.bool (Tx.ok 4 n s.data.toList)) ∧ Below w.heap.size w w' := by
 have he : Tx.ok 4 n s.data.toList = (decide (n = 0) && (decide (s.data.toList.length ≤ 256) && s.data.toList.all (fun c => decide (c.toNat < 128)))) := rfl
 have ha := ascii_any s
 obtain ⟨R, hR⟩ : ∃ R, (decide (s.data.toList.length ≤ 256) && s.data.toList.all (fun c => decide (c.toNat < 128))) = R := ⟨_, rfl⟩
 rw [hR] at ha he
 have HE := Lib.hid he
 clear he hR
 go_enter Try.func50, Try.ntmps50
 go_wp2_with (first
  | (go_at_call 75; refine (ha _ hs).mono ?_; rintro e w1 ⟨rfl, rfl⟩)
  | (go_at_call 74; refine (emptyD_any _ _ _ _).mono ?_; rintro e w2 ⟨rfl, hb2⟩))
 ·go_ret
  exact ⟨by rw [HE.out]; simp_all; exact (Bool.beq_eq_decide_eq _ _), (Tx.bel2 _ _ _).trans (hb2.mono (by rw [World.size_alloc, World.size_alloc]; omega))⟩
 ·go_ret
  exact ⟨by rw [HE.out]; simp_all, Tx.bel2 _ _ _⟩
set_option maxRecDepth 100000 in
set_option maxHeartbeats 1000000 in
theorem IndexFunc_nil (f : Value) (w : World) :
  Calls Try.prog 98 #[.slice none 0 0, f] w fun e w' => e = .returned (.int .i64 (-1)) ∧ w = w' := by
 go_enter Try.func98, Try.ntmps98
 go_wp2_with fail
 go_loop [8] (fun v => v = .int .i64 0) (fun _ => 0)
 case atStart => rfl
 case round =>
  subst hrel
  go_wp2
  go_ret
  exact ⟨rfl, rfl⟩
set_option maxRecDepth 100000 in
set_option maxHeartbeats 1000000 in
theorem ContainsFunc_nil (f : Value) (w : World) :
  Calls Try.prog 78 #[.slice none 0 0, f] w fun e w' => e = .returned (.bool false) ∧ w = w' := by
 go_enter Try.func78, Try.ntmps78
 go_wp2_with (go_at_call 98; refine (IndexFunc_nil _ _).mono ?_; rintro e w1 ⟨rfl, rfl⟩)
 go_ret
 exact ⟨rfl, rfl⟩
set_option maxRecDepth 100000 in
set_option maxHeartbeats 4000000 in
theorem single5_any (n : Int) (s : ByteArray) (w : World) (hs : s.size ≤ 1000000) (_hn : -9223372036854775808 ≤ n ∧ n ≤ 9223372036854775807) :
  Calls Try.prog 50 #[.agg #[.int .i64 5, .int .i64 n, .string s, .slice none 0 0, .slice none 0 0, .slice none 0 0]] w fun e w' => e = .returned (.bool (Tx.ok 5 n s.data.toList)) ∧ Below w.heap.size w w' := by
 have he : Tx.ok 5 n s.data.toList = (decide (n = 0) && Lx.symbol s.data.toList) := rfl
 have ha := Symbol_any s
 obtain ⟨R, hR⟩ : ∃ R, Lx.symbol s.data.toList = R := ⟨_, rfl⟩
 rw [hR] at ha he
 have HE := Lib.hid he
 clear he hR
 go_enter Try.func50, Try.ntmps50
 go_wp2_with (first
  | (go_at_call 77; refine (ha _ hs).mono ?_; rintro e w1 ⟨rfl, rfl⟩)
  | (go_at_call 78; refine (ContainsFunc_nil _ _).mono ?_; rintro e w1 ⟨rfl, rfl⟩)
  | (go_at_call 74; refine (emptyD_any _ _ _ _).mono ?_; rintro e w2 ⟨rfl, hb2⟩))
 ·go_ret
  exact ⟨by rw [HE.out]; simp_all; exact (Bool.beq_eq_decide_eq _ _), (Tx.bel2 _ _ _).trans (hb2.mono (by rw [World.size_alloc, World.size_alloc]; omega))⟩
 ·go_ret
  exact ⟨by rw [HE.out]; simp_all, Tx.bel2 _ _ _⟩
set_option maxRecDepth 100000 in
theorem single_any (k : Nat) (n : Int) (s : ByteArray) (w : World) (hs : s.size ≤ 1000000) (hn : -9223372036854775808 ≤ n ∧ n ≤ 9223372036854775807) (hk : 1 ≤ k ∧ k ≤ 5) :
  Calls Try.prog 50 #[.agg #[.int .i64 (k : Int), .int .i64 n, .string s, .slice none 0 0, .slice none 0 0, .slice none 0 0]] w fun e w' => e = .returned (.bool (Tx.ok k n s.data.toList)) ∧ Below w.heap.size w w' := by
 match k, hk with
 | 1, _ => exact single1_any n s w hs hn
 | 2, _ => exact single2_any n s w hs hn
 | 3, _ => exact single3_any n s w hs hn
 | 4, _ => exact single4_any n s w hs hn
 | 5, _ => exact single5_any n s w hs hn
end Go.Proofs.Ytcopdfihaheplaa
