/-
 The walk of a word's text.
-/
import Derived.Test.YtcopdfihaheplaaTxF
import Derived.Test.YtcopdfihaheplaaFixText
namespace Go.Proofs.Ytcopdfihaheplaa
open Go.RowKit
namespace Tx
theorem text_sign (k n : Int) (s : ByteArray) (h : 1 ≤ k ∧ k ≤ 8) : text k n s.data.toList = if ((n == 0) && s.toList.isEmpty) = true then some (signL k) else none := by
 unfold text
 have hk : kind k = 0 := by
  unfold kind
  rw [if_neg (by omega), if_neg (by omega), if_neg (by omega), if_neg (by omega), if_neg (by omega)]
 rw [if_neg (by rw [hk]; simp), if_pos h, ByteArray.toList_eq]
 congr 1
 simp
theorem bel3 (w : World) (a b c : Obj) : Below w.heap.size w (((w.alloc a).alloc b).alloc c) := (bel2 w a b).alloc (by rw [World.size_alloc, World.size_alloc]; omega) c
theorem V_some (l : List UInt8) : V (some l) = .tuple #[.string ⟨l.toArray⟩, .int .i64 0] := rfl
theorem V_none : V none = .tuple #[.string ⟨#[]⟩, .int .i64 30] := rfl
end Tx
set_option maxRecDepth 100000 in
set_option maxHeartbeats 8000000 in
theorem Text1_any (a z n : Int) (s : ByteArray) (w : World) :
  Calls Try.prog 52 #[.agg #[.int .i64 1, .int .i64 a, .int .i64 z, .int .i64 n, .string s]] w fun e w' => e = .returned (Tx.V (Tx.text 1 n s.data.toList)) ∧ Below w.heap.size w w' := by
 have he := Tx.text_sign 1 n s (by omega)
 rw [show Tx.signL 1 = [40] from rfl] at he
 have HE := Lib.hid he
 clear he
 cases f1 : (n == 0)
 ·have f2 : (n != 0) = true := by rw [bne, f1]; rfl
  have HR : Hid (Tx.text 1 n s.data.toList = none) := by show _ = _; rw [HE.out, f1]; rfl
  clear HE
  go_enter Try.func52, Try.ntmps52
  go_wp2
  go_ret2
  exact ⟨by rw [HR.out, Tx.V_none]; rfl, Tx.bel3 _ _ _ _⟩
 ·have f2 : (n != 0) = false := by rw [bne, f1]; rfl
  cases f3 : s.toList.isEmpty
  ·have HR : Hid (Tx.text 1 n s.data.toList = none) := by show _ = _; rw [HE.out, f1, f3]; rfl
   clear HE
   go_enter Try.func52, Try.ntmps52
   go_wp2
   go_ret2
   exact ⟨by rw [HR.out, Tx.V_none]; rfl, Tx.bel3 _ _ _ _⟩
  ·have HR : Hid (Tx.text 1 n s.data.toList = some [40]) := by show _ = _; rw [HE.out, f1, f3]; rfl
   clear HE
   go_enter Try.func52, Try.ntmps52
   go_wp2
   go_ret2
   exact ⟨by rw [HR.out, Tx.V_some]; rfl, Tx.bel3 _ _ _ _⟩
set_option maxRecDepth 100000 in
set_option maxHeartbeats 8000000 in
theorem Text2_any (a z n : Int) (s : ByteArray) (w : World) :
  Calls Try.prog 52 #[.agg #[.int .i64 2, .int .i64 a, .int .i64 z, .int .i64 n, .string s]] w fun e w' => e = .returned (Tx.V (Tx.text 2 n s.data.toList)) ∧ Below w.heap.size w w' := by
 have he := Tx.text_sign 2 n s (by omega)
 rw [show Tx.signL 2 = [41] from rfl] at he
 have HE := Lib.hid he
 clear he
 cases f1 : (n == 0)
 ·have f2 : (n != 0) = true := by rw [bne, f1]; rfl
  have HR : Hid (Tx.text 2 n s.data.toList = none) := by show _ = _; rw [HE.out, f1]; rfl
  clear HE
  go_enter Try.func52, Try.ntmps52
  go_wp2
  go_ret2
  exact ⟨by rw [HR.out, Tx.V_none]; rfl, Tx.bel3 _ _ _ _⟩
 ·have f2 : (n != 0) = false := by rw [bne, f1]; rfl
  cases f3 : s.toList.isEmpty
  ·have HR : Hid (Tx.text 2 n s.data.toList = none) := by show _ = _; rw [HE.out, f1, f3]; rfl
   clear HE
   go_enter Try.func52, Try.ntmps52
   go_wp2
   go_ret2
   exact ⟨by rw [HR.out, Tx.V_none]; rfl, Tx.bel3 _ _ _ _⟩
  ·have HR : Hid (Tx.text 2 n s.data.toList = some [41]) := by show _ = _; rw [HE.out, f1, f3]; rfl
   clear HE
   go_enter Try.func52, Try.ntmps52
   go_wp2
   go_ret2
   exact ⟨by rw [HR.out, Tx.V_some]; rfl, Tx.bel3 _ _ _ _⟩
set_option maxRecDepth 100000 in
set_option maxHeartbeats 8000000 in
theorem Text3_any (a z n : Int) (s : ByteArray) (w : World) :
  Calls Try.prog 52 #[.agg #[.int .i64 3, .int .i64 a, .int .i64 z, .int .i64 n, .string s]] w fun e w' => e = .returned (Tx.V (Tx.text 3 n s.data.toList)) ∧ Below w.heap.size w w' := by
 have he := Tx.text_sign 3 n s (by omega)
 rw [show Tx.signL 3 = [35, 40] from rfl] at he
 have HE := Lib.hid he
 clear he
 cases f1 : (n == 0)
 ·have f2 : (n != 0) = true := by rw [bne, f1]; rfl
  have HR : Hid (Tx.text 3 n s.data.toList = none) := by show _ = _; rw [HE.out, f1]; rfl
  clear HE
  go_enter Try.func52, Try.ntmps52
  go_wp2
  go_ret2
  exact ⟨by rw [HR.out, Tx.V_none]; rfl, Tx.bel3 _ _ _ _⟩
 ·have f2 : (n != 0) = false := by rw [bne, f1]; rfl
  cases f3 : s.toList.isEmpty
  ·have HR : Hid (Tx.text 3 n s.data.toList = none) := by show _ = _; rw [HE.out, f1, f3]; rfl
   clear HE
   go_enter Try.func52, Try.ntmps52
   go_wp2
   go_ret2
   exact ⟨by rw [HR.out, Tx.V_none]; rfl, Tx.bel3 _ _ _ _⟩
  ·have HR : Hid (Tx.text 3 n s.data.toList = some [35, 40]) := by show _ = _; rw [HE.out, f1, f3]; rfl
   clear HE
   go_enter Try.func52, Try.ntmps52
   go_wp2
   go_ret2
   exact ⟨by rw [HR.out, Tx.V_some]; rfl, Tx.bel3 _ _ _ _⟩
set_option maxRecDepth 100000 in
set_option maxHeartbeats 8000000 in
theorem Text4_any (a z n : Int) (s : ByteArray) (w : World) :
  Calls Try.prog 52 #[.agg #[.int .i64 4, .int .i64 a, .int .i64 z, .int .i64 n, .string s]] w fun e w' => e = .returned (Tx.V (Tx.text 4 n s.data.toList)) ∧ Below w.heap.size w w' := by
 have he := Tx.text_sign 4 n s (by omega)
 rw [show Tx.signL 4 = [39] from rfl] at he
 have HE := Lib.hid he
 clear he
 cases f1 : (n == 0)
 ·have f2 : (n != 0) = true := by rw [bne, f1]; rfl
  have HR : Hid (Tx.text 4 n s.data.toList = none) := by show _ = _; rw [HE.out, f1]; rfl
  clear HE
  go_enter Try.func52, Try.ntmps52
  go_wp2
  go_ret2
  exact ⟨by rw [HR.out, Tx.V_none]; rfl, Tx.bel3 _ _ _ _⟩
 ·have f2 : (n != 0) = false := by rw [bne, f1]; rfl
  cases f3 : s.toList.isEmpty
  ·have HR : Hid (Tx.text 4 n s.data.toList = none) := by show _ = _; rw [HE.out, f1, f3]; rfl
   clear HE
   go_enter Try.func52, Try.ntmps52
   go_wp2
   go_ret2
   exact ⟨by rw [HR.out, Tx.V_none]; rfl, Tx.bel3 _ _ _ _⟩
  ·have HR : Hid (Tx.text 4 n s.data.toList = some [39]) := by show _ = _; rw [HE.out, f1, f3]; rfl
   clear HE
   go_enter Try.func52, Try.ntmps52
   go_wp2
   go_ret2
   exact ⟨by rw [HR.out, Tx.V_some]; rfl, Tx.bel3 _ _ _ _⟩
set_option maxRecDepth 100000 in
set_option maxHeartbeats 8000000 in
theorem Text5_any (a z n : Int) (s : ByteArray) (w : World) :
  Calls Try.prog 52 #[.agg #[.int .i64 5, .int .i64 a, .int .i64 z, .int .i64 n, .string s]] w fun e w' => e = .returned (Tx.V (Tx.text 5 n s.data.toList)) ∧ Below w.heap.size w w' := by
 have he := Tx.text_sign 5 n s (by omega)
 rw [show Tx.signL 5 = [96] from rfl] at he
 have HE := Lib.hid he
 clear he
 cases f1 : (n == 0)
 ·have f2 : (n != 0) = true := by rw [bne, f1]; rfl
  have HR : Hid (Tx.text 5 n s.data.toList = none) := by show _ = _; rw [HE.out, f1]; rfl
  clear HE
  go_enter Try.func52, Try.ntmps52
  go_wp2
  go_ret2
  exact ⟨by rw [HR.out, Tx.V_none]; rfl, Tx.bel3 _ _ _ _⟩
 ·have f2 : (n != 0) = false := by rw [bne, f1]; rfl
  cases f3 : s.toList.isEmpty
  ·have HR : Hid (Tx.text 5 n s.data.toList = none) := by show _ = _; rw [HE.out, f1, f3]; rfl
   clear HE
   go_enter Try.func52, Try.ntmps52
   go_wp2
   go_ret2
   exact ⟨by rw [HR.out, Tx.V_none]; rfl, Tx.bel3 _ _ _ _⟩
  ·have HR : Hid (Tx.text 5 n s.data.toList = some [96]) := by show _ = _; rw [HE.out, f1, f3]; rfl
   clear HE
   go_enter Try.func52, Try.ntmps52
   go_wp2
   go_ret2
   exact ⟨by rw [HR.out, Tx.V_some]; rfl, Tx.bel3 _ _ _ _⟩
set_option maxRecDepth 100000 in
set_option maxHeartbeats 8000000 in
theorem Text6_any (a z n : Int) (s : ByteArray) (w : World) :
  Calls Try.prog 52 #[.agg #[.int .i64 6, .int .i64 a, .int .i64 z, .int .i64 n, .string s]] w fun e w' => e = .returned (Tx.V (Tx.text 6 n s.data.toList)) ∧ Below w.heap.size w w' := by
 have he := Tx.text_sign 6 n s (by omega)
 rw [show Tx.signL 6 = [44] from rfl] at he
 have HE := Lib.hid he
 clear he
 cases f1 : (n == 0)
 ·have f2 : (n != 0) = true := by rw [bne, f1]; rfl
  have HR : Hid (Tx.text 6 n s.data.toList = none) := by show _ = _; rw [HE.out, f1]; rfl
  clear HE
  go_enter Try.func52, Try.ntmps52
  go_wp2
  go_ret2
  exact ⟨by rw [HR.out, Tx.V_none]; rfl, Tx.bel3 _ _ _ _⟩
 ·have f2 : (n != 0) = false := by rw [bne, f1]; rfl
  cases f3 : s.toList.isEmpty
  ·have HR : Hid (Tx.text 6 n s.data.toList = none) := by show _ = _; rw [HE.out, f1, f3]; rfl
   clear HE
   go_enter Try.func52, Try.ntmps52
   go_wp2
   go_ret2
   exact ⟨by rw [HR.out, Tx.V_none]; rfl, Tx.bel3 _ _ _ _⟩
  ·have HR : Hid (Tx.text 6 n s.data.toList = some [44]) := by show _ = _; rw [HE.out, f1, f3]; rfl
   clear HE
   go_enter Try.func52, Try.ntmps52
   go_wp2
   go_ret2
   exact ⟨by rw [HR.out, Tx.V_some]; rfl, Tx.bel3 _ _ _ _⟩
set_option maxRecDepth 100000 in
set_option maxHeartbeats 8000000 in
theorem Text7_any (a z n : Int) (s : ByteArray) (w : World) :
  Calls Try.prog 52 #[.agg #[.int .i64 7, .int .i64 a, .int .i64 z, .int .i64 n, .string s]] w fun e w' => e = .returned (Tx.V (Tx.text 7 n s.data.toList)) ∧ Below w.heap.size w w' := by
 have he := Tx.text_sign 7 n s (by omega)
 rw [show Tx.signL 7 = [44, 64] from rfl] at he
 have HE := Lib.hid he
 clear he
 cases f1 : (n == 0)
 ·have f2 : (n != 0) = true := by rw [bne, f1]; rfl
  have HR : Hid (Tx.text 7 n s.data.toList = none) := by show _ = _; rw [HE.out, f1]; rfl
  clear HE
  go_enter Try.func52, Try.ntmps52
  go_wp2
  go_ret2
  exact ⟨by rw [HR.out, Tx.V_none]; rfl, Tx.bel3 _ _ _ _⟩
 ·have f2 : (n != 0) = false := by rw [bne, f1]; rfl
  cases f3 : s.toList.isEmpty
  ·have HR : Hid (Tx.text 7 n s.data.toList = none) := by show _ = _; rw [HE.out, f1, f3]; rfl
   clear HE
   go_enter Try.func52, Try.ntmps52
   go_wp2
   go_ret2
   exact ⟨by rw [HR.out, Tx.V_none]; rfl, Tx.bel3 _ _ _ _⟩
  ·have HR : Hid (Tx.text 7 n s.data.toList = some [44, 64]) := by show _ = _; rw [HE.out, f1, f3]; rfl
   clear HE
   go_enter Try.func52, Try.ntmps52
   go_wp2
   go_ret2
   exact ⟨by rw [HR.out, Tx.V_some]; rfl, Tx.bel3 _ _ _ _⟩
end Go.Proofs.Ytcopdfihaheplaa
