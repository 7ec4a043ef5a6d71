/-
 The reference's Check at a datum without parts; two and charText.
-/
import Derived.Test.YtcopdfihaheplaaTxH
namespace Go.Proofs.Ytcopdfihaheplaa
open Go.RowKit
set_option maxRecDepth 100000 in
set_option maxHeartbeats 4000000 in
theorem walkedR_any (k : Nat) (n : Int) (s : ByteArray) (w : World) (hs : s.size ≤ 1000000) (hk : 1 ≤ k ∧ k ≤ 5) :
  Calls Try.prog 29 #[.agg #[.int .i64 (k : Int), .int .i64 n, .string s, .slice none 0 0, .slice none 0 0, .slice none 0 0]] w
   fun e w' => ∃ B, e = .returned (.pointer (some ⟨B, 0, none⟩)) ∧ w'.cell? ⟨B, 2, none⟩ = some (.int .i64 (if Tx.ok k n s.data.toList = true then 0 else 20)) ∧ Below w.heap.size w w' := by
 have hgo := fun B w h => goesR_any B k n s w h hs hk
 obtain ⟨R, hR⟩ : ∃ R : Int, (if Tx.ok k n s.data.toList = true then 0 else 20) = R := ⟨_, rfl⟩
 rw [hR] at hgo ⊢
 clear hR
 obtain ⟨X, hX⟩ : ∃ X, w.alloc (.cells #[.int .i64 (k : Int), .int .i64 n, .string s, .slice none 0 0, .slice none 0 0, .slice none 0 0] 25) = X := ⟨_, rfl⟩
 obtain ⟨w2, hw2⟩ : ∃ w2, X.alloc (.cells #[.slice none 0 0, .slice none 0 0, .int .i64 0] 72) = w2 := ⟨_, rfl⟩
 have hXs : X.heap.size = w.heap.size + 1 := by rw [← hX]; simp
 have hb2 : Below w.heap.size w w2 := by rw [← hw2, ← hX]; exact Tx.bel2 _ _ _
 have hD : Tx.DAt w2 w.heap.size k n s := (show Tx.DAt X w.heap.size k n s by rw [← hX]; exact Tx.DAt.alloc w k n s).below (by rw [← hw2]; exact (Below.refl _ _).alloc (Nat.le_refl _) _)
 have hh : w2.heap[w.heap.size + 1]? = some (.cells #[.slice none 0 0, .slice none 0 0, .int .i64 0] 72 (0, 0)) := by
  rw [← hw2, ← hXs]
  show (X.heap.push _)[X.heap.size]? = _
  simp
 have hK : Tx.Wk w2 (w.heap.size + 1) 0 := ⟨by rw [Lib.cell_of_heap hh]; rfl, by rw [Lib.cell_of_heap hh]; rfl, by rw [Lib.cell_of_heap hh]; rfl, fun j => Lib.frozen_of_heap hh j, by rw [← hw2, World.size_alloc]; omega⟩
 rw [← hX] at hw2
 obtain ⟨d0, d1, d2, d3, d4, d5, dl⟩ := hD
 have HK := Lib.hid hK
 have HB := Lib.hid hb2
 clear hK hb2 hh hXs hX dl
 go_enter Try.func29, Try.ntmps29
 go_wp2_with fail
 refine (hgo _ _ HK.out).mono ?_
 rintro e w3 ⟨rfl, hc, hk3⟩
 have HK3 := Lib.hid hk3
 clear hk3 hw2 d0 d1 d2 d3 d4 d5 hgo
 go_wp2
 go_ret
 exact ⟨_, rfl, hc, HB.out.trans (HK3.out.to_below (fun x hx => by omega) HB.out.size)⟩
set_option maxRecDepth 100000 in
set_option maxHeartbeats 4000000 in
theorem CheckR_any (k : Nat) (n : Int) (s : ByteArray) (w : World) (hs : s.size ≤ 1000000) (hk : 1 ≤ k ∧ k ≤ 5) :
  Calls Try.prog 15 #[.agg #[.int .i64 (k : Int), .int .i64 n, .string s, .slice none 0 0, .slice none 0 0, .slice none 0 0]] w fun e w' => e = .returned (.int .i64 (if Tx.ok k n s.data.toList = true then 0 else 20)) ∧ Below w.heap.size w w' := by
 have hw := fun w => walkedR_any k n s w hs hk
 obtain ⟨R, hR⟩ : ∃ R : Int, (if Tx.ok k n s.data.toList = true then 0 else 20) = R := ⟨_, rfl⟩
 rw [hR] at hw ⊢
 go_enter Try.func15, Try.ntmps15
 go_wp2_with fail
 refine (hw _).mono ?_
 rintro e w1 ⟨B, rfl, hc, hb1⟩
 go_wp2
 go_ret
 exact ⟨rfl, ((Below.refl _ _).alloc (Nat.le_refl _) _).trans (hb1.mono (by rw [World.size_alloc]; omega))⟩
end Go.Proofs.Ytcopdfihaheplaa
