/-
 The reference's Check at a datum without parts.
-/
import Derived.Test.YtcopdfihaheplaaTxF
import Derived.Test.YtcopdfihaheplaaLexRefC
import Derived.Test.YtcopdfihaheplaaFixTextR
namespace Go.Proofs.Ytcopdfihaheplaa
open Go.RowKit
set_option maxRecDepth 100000 in
set_option maxHeartbeats 4000000 in
theorem alone1_any (n : Int) (s : ByteArray) (w : World) (_hs : s.size ≤ 1000000) :
  Calls Try.prog 70 #[.agg #[.int .i64 1, .int .i64 n, .string s, .slice none 0 0, .slice none 0 0, .slice none 0 0]] w fun e w' => e = .returned (.bool (Tx.ok 1 n s.data.toList)) ∧ Below w.heap.size w w' := by
 have he : Tx.ok 1 n s.data.toList = (Fx.isF n && decide (s.data.toList = [])) := rfl
 rw [Tx.nil_bool] at he
 have hi := rIn_any n
 obtain ⟨R, hR⟩ : ∃ R, Fx.isF n = R := ⟨_, rfl⟩
 obtain ⟨E, hE⟩ : ∃ E, s.toList.isEmpty = E := ⟨_, rfl⟩
 rw [hR, hE] at he
 rw [hR] at hi
 obtain ⟨K, hK⟩ : ∃ K, Tx.ok 1 n s.data.toList = K := ⟨_, rfl⟩
 rw [hK] at he ⊢
 clear hK
 have HE := Lib.hid he
 clear he
 go_enter Try.func70, Try.ntmps70
 go_wp2_with (go_at_call 93; refine (hi _).mono ?_; rintro e w1 ⟨rfl, rfl⟩)
 all_goals
  go_ret
  exact ⟨by rw [HE.out]; first | (simp_all; done) | (simp_all; intros; omega), (Below.refl _ _).alloc (Nat.le_refl _) _⟩
set_option maxRecDepth 100000 in
set_option maxHeartbeats 4000000 in
theorem alone2_any (n : Int) (s : ByteArray) (w : World) (_hs : s.size ≤ 1000000) :
  Calls Try.prog 70 #[.agg #[.int .i64 2, .int .i64 n, .string s, .slice none 0 0, .slice none 0 0, .slice none 0 0]] w fun e w' => e = .returned (.bool (Tx.ok 2 n s.data.toList)) ∧ Below w.heap.size w w' := by
 have he : Tx.ok 2 n s.data.toList = ((decide (n = 0) || decide (n = 1)) && decide (s.data.toList = [])) := rfl
 rw [Tx.nil_bool] at he
 obtain ⟨E, hE⟩ : ∃ E, s.toList.isEmpty = E := ⟨_, rfl⟩
 rw [hE] at he
 obtain ⟨K, hK⟩ : ∃ K, Tx.ok 2 n s.data.toList = K := ⟨_, rfl⟩
 rw [hK] at he ⊢
 clear hK
 have HE := Lib.hid he
 clear he
 go_enter Try.func70, Try.ntmps70
 go_wp2_with fail
 all_goals
  go_ret
  exact ⟨by rw [HE.out]; first | (simp_all; done) | (simp_all; intros; omega), (Below.refl _ _).alloc (Nat.le_refl _) _⟩
set_option maxRecDepth 100000 in
set_option maxHeartbeats 4000000 in
theorem alone3_any (n : Int) (s : ByteArray) (w : World) (_hs : s.size ≤ 1000000) :
  Calls Try.prog 70 #[.agg #[.int .i64 3, .int .i64 n, .string s, .slice none 0 0, .slice none 0 0, .slice none 0 0]] w fun e w' => e = .returned (.bool (Tx.ok 3 n s.data.toList)) ∧ Below w.heap.size w w' := by
 have he : Tx.ok 3 n s.data.toList = ((decide (0 ≤ n) && decide (n ≤ 127)) && decide (s.data.toList = [])) := rfl
 rw [Tx.nil_bool] at he
 obtain ⟨E, hE⟩ : ∃ E, s.toList.isEmpty = E := ⟨_, rfl⟩
 rw [hE] at he
 obtain ⟨K, hK⟩ : ∃ K, Tx.ok 3 n s.data.toList = K := ⟨_, rfl⟩
 rw [hK] at he ⊢
 clear hK
 have HE := Lib.hid he
 clear he
 go_enter Try.func70, Try.ntmps70
 go_wp2_with fail
 all_goals
  go_ret
  exact ⟨by rw [HE.out]; first | (simp_all; done) | (simp_all; intros; omega), (Below.refl _ _).alloc (Nat.le_refl _) _⟩
set_option maxRecDepth 100000 in
set_option maxHeartbeats 4000000 in
theorem alone5_any (n : Int) (s : ByteArray) (w : World) (hs : s.size ≤ 1000000) :
  Calls Try.prog 70 #[.agg #[.int .i64 5, .int .i64 n, .string s, .slice none 0 0, .slice none 0 0, .slice none 0 0]] w fun e w' => e = .returned (.bool (Tx.ok 5 n s.data.toList)) ∧ Below w.heap.size w w' := by
 have he : Tx.ok 5 n s.data.toList = (decide (n = 0) && Lx.symbol s.data.toList) := rfl
 have hi := SymbolR_any s
 obtain ⟨R, hR⟩ : ∃ R, Lx.symbol s.data.toList = R := ⟨_, rfl⟩
 rw [hR] at he hi
 obtain ⟨K, hK⟩ : ∃ K, Tx.ok 5 n s.data.toList = K := ⟨_, rfl⟩
 rw [hK] at he ⊢
 clear hK
 have HE := Lib.hid he
 clear he
 go_enter Try.func70, Try.ntmps70
 go_wp2_with fail
 go_loop [9] (fun v => v = .int .i64 0) (fun _ => 0)
 case atStart => rfl
 case round =>
  subst hrel
  go_wp2_with (go_at_call 59; refine (hi _ hs).mono ?_; rintro e w1 ⟨rfl, hw1⟩; try subst hw1)
  all_goals
   go_ret
   exact ⟨by rw [HE.out]; first | (simp_all; done) | (simp_all; intros; omega), (Below.refl _ _).alloc (Nat.le_refl _) _⟩
set_option maxRecDepth 100000 in
set_option maxHeartbeats 4000000 in
theorem alone4_any (n : Int) (s : ByteArray) (w : World) (hs : s.size ≤ 1000000) :
  Calls Try.prog 70 #[.agg #[.int .i64 4, .int .i64 n, .string s, .slice none 0 0, .slice none 0 0, .slice none 0 0]] w fun e w' => e = .returned (.bool (Tx.ok 4 n s.data.toList)) ∧ Below w.heap.size w w' := by
 have he : Tx.ok 4 n s.data.toList = (decide (n = 0) && (decide (s.data.toList.length ≤ 256) && (Lx.tl s 0).all (fun c => decide (c.toNat < 128)))) := by
  show (decide (n = 0) && (decide (s.data.toList.length ≤ 256) && s.data.toList.all (fun c => decide (c.toNat < 128)))) = _
  unfold Lx.tl; simp
 have hsz := Fx.size_toList s
 obtain ⟨R, hR⟩ : ∃ R, (decide (s.data.toList.length ≤ 256) && (Lx.tl s 0).all (fun c => decide (c.toNat < 128))) = R := ⟨_, rfl⟩
 rw [hR] at he
 obtain ⟨K, hK⟩ : ∃ K, Tx.ok 4 n s.data.toList = K := ⟨_, rfl⟩
 rw [hK] at he ⊢
 clear hK
 have HE := Lib.hid he
 have H0 : Hid (R = (decide (s.size ≤ 256) && (Lx.tl s 0).all (fun c => decide (c.toNat < 128)))) := by show _ = _; rw [← hR, hsz]
 clear he hR hsz
 go_enter Try.func70, Try.ntmps70
 go_wp2_with fail
 go_loop [8] (fun v => ∃ k : Nat, v = .int .i64 k ∧ k ≤ s.size ∧ k ≤ 256 ∧ Hid (R = (decide (s.size ≤ 256) && (Lx.tl s k).all (fun c => decide (c.toNat < 128))))) (fun v => s.size - (intOf v).toNat)
 case atStart => exact ⟨0, rfl, by omega, by omega, H0⟩
 case round =>
  obtain ⟨k, rfl, hk, hk2, HR⟩ := hrel
  by_cases hlt : k < s.size
  case neg =>
   have hge : (s.size : Int) ≤ (k : Int) := by omega
   have HT : Hid (R = true) := by show _ = _; rw [HR.out, Lx.tl_nil s k (by omega), decide_eq_true (by omega)]; rfl
   go_wp2
   all_goals
    go_ret
    exact ⟨by rw [HE.out, HT.out]; first | (simp_all; done) | (simp_all; intros; omega), (Below.refl _ _).alloc (Nat.le_refl _) _⟩
  have hlti : (k : Int) < (s.size : Int) := by omega
  have hr := HR.out
  by_cases h256 : k = 256
  ·rw [decide_eq_false (by omega), Bool.false_and] at hr
   have HT := Lib.hid hr
   have h2 : 256 ≤ (k : Int) := by omega
   clear hr h256
   go_wp2
   all_goals
    go_ret
    exact ⟨by rw [HE.out, HT.out]; first | (simp_all; done) | (simp_all; intros; omega), (Below.refl _ _).alloc (Nat.le_refl _) _⟩
  have h2 : ¬ (256 ≤ (k : Int)) := by omega
  rw [Lx.tl_cons s k hlt, List.all_cons] at hr
  by_cases hc : s[k].toNat < 128
  ·rw [decide_eq_true hc, Bool.true_and] at hr
   have HN := Lib.hid hr
   have hci : ¬ (127 < (s[k].toNat : Int)) := by omega
   clear hr hc
   go_wp2
   go_round
   case rel => exact ⟨k + 1, by simp, by omega, by omega, HN⟩
   case measure => simp [intOf]; omega
  ·rw [decide_eq_false hc, Bool.false_and, Bool.and_false] at hr
   have HT := Lib.hid hr
   have hci : 127 < (s[k].toNat : Int) := by omega
   clear hr hc
   go_wp2
   all_goals
    go_ret
    exact ⟨by rw [HE.out, HT.out]; first | (simp_all; done) | (simp_all; intros; omega), (Below.refl _ _).alloc (Nat.le_refl _) _⟩
end Go.Proofs.Ytcopdfihaheplaa
