/-
 datum.Check at a datum without parts.
-/
import Derived.Test.YtcopdfihaheplaaTxE
import Derived.Laws.EntriesVeiled
namespace Go.Proofs.Ytcopdfihaheplaa
open Go.RowKit
theorem Tx.frz_new (w : World) (C : Array Value) (T : TypeId) (j : Nat) : (w.alloc (.cells C T)).frozen? ⟨w.heap.size, j, none⟩ = false := by
 simp
theorem Tx.Env.other {w : World} {p d s t : Nat} {a b : Int} (h : Tx.Env w p d s t a b) (u : Nat) (v : Value) (h1 : p ≠ u) (h2 : d ≠ u) (h3 : s ≠ u) (h4 : t ≠ u) : Tx.Env (w.setCell ⟨u, 0, none⟩ v) p d s t a b :=
 ⟨by rw [World.cell?_setCell_other _ _ _ _ (by simp)]; exact h.cp, by rw [World.cell?_setCell_other _ _ _ _ (by simp)]; exact h.cd, by rw [World.cell?_setCell_other _ _ _ _ (by simp)]; exact h.cs, by rw [World.cell?_setCell_other _ _ _ _ (by simp)]; exact h.ct, by rw [World.frozen?_setCell]; exact h.fp, by rw [World.frozen?_setCell]; exact h.fd, by simpa [World.setCell] using h.lp, by simpa [World.setCell] using h.ld, by simpa [World.setCell] using h.ls, by simpa [World.setCell] using h.lt⟩
set_option maxRecDepth 100000 in
set_option maxHeartbeats 4000000 in
theorem walkD_any (k : Nat) (n : Int) (s : ByteArray) (w : World) (hs : s.size ≤ 1000000) (hn : -9223372036854775808 ≤ n ∧ n ≤ 9223372036854775807) (hk : 1 ≤ k ∧ k ≤ 5) :
  Calls Try.prog 31 #[.agg #[.int .i64 (k : Int), .int .i64 n, .string s, .slice none 0 0, .slice none 0 0, .slice none 0 0], .nilFunc] w fun e w' => (∃ a b : Int, e = .returned (.tuple #[.int .i64 a, .int .i64 b, .int .i64 (if Tx.ok k n s.data.toList = true then 0 else 20)])) ∧ Below w.heap.size w w' := by
 have hdn := fun w p d s' t u => downD_any k n s w p d s' t u
 obtain ⟨R, hR⟩ : ∃ R : Int, (if Tx.ok k n s.data.toList = true then 0 else 20) = R := ⟨_, rfl⟩
 rw [hR] at hdn ⊢
 clear hR
 obtain ⟨X0, h0⟩ : ∃ X, w.alloc (.cells #[.int .i64 (k : Int), .int .i64 n, .string s, .slice none 0 0, .slice none 0 0, .slice none 0 0] 25) = X := ⟨_, rfl⟩
 obtain ⟨X1, h1⟩ : ∃ X, X0.alloc (.cells #[.nilFunc] 27) = X := ⟨_, rfl⟩
 obtain ⟨X2, h2⟩ : ∃ X, X1.alloc (.cells #[.int .i64 0] 3) = X := ⟨_, rfl⟩
 obtain ⟨X3, h3⟩ : ∃ X, X2.alloc (.cells #[.int .i64 0] 3) = X := ⟨_, rfl⟩
 obtain ⟨X4, h4⟩ : ∃ X, X3.alloc (.cells #[.bool false] 4) = X := ⟨_, rfl⟩
 obtain ⟨X5, h5⟩ : ∃ X, X4.alloc (.cells #[.nilFunc] 89) = X := ⟨_, rfl⟩
 have z0 : X0.heap.size = w.heap.size + 1 := by rw [← h0, World.size_alloc]
 have z1 : X1.heap.size = w.heap.size + 1 + 1 := by rw [← h1, World.size_alloc, z0]
 have z2 : X2.heap.size = w.heap.size + 1 + 1 + 1 := by rw [← h2, World.size_alloc, z1]
 have z3 : X3.heap.size = w.heap.size + 1 + 1 + 1 + 1 := by rw [← h3, World.size_alloc, z2]
 have z4 : X4.heap.size = w.heap.size + 1 + 1 + 1 + 1 + 1 := by rw [← h4, World.size_alloc, z3]
 have z5 : X5.heap.size = w.heap.size + 1 + 1 + 1 + 1 + 1 + 1 := by rw [← h5, World.size_alloc, z4]
 have b0 : Below w.heap.size w X0 := by rw [← h0]; exact (Below.refl _ _).alloc (Nat.le_refl _) _
 have b1 : Below X0.heap.size X0 X1 := by rw [← h1]; exact (Below.refl _ _).alloc (Nat.le_refl _) _
 have b2 : Below X1.heap.size X1 X2 := by rw [← h2]; exact (Below.refl _ _).alloc (Nat.le_refl _) _
 have b3 : Below X2.heap.size X2 X3 := by rw [← h3]; exact (Below.refl _ _).alloc (Nat.le_refl _) _
 have b4 : Below X3.heap.size X3 X4 := by rw [← h4]; exact (Below.refl _ _).alloc (Nat.le_refl _) _
 have b5 : Below X4.heap.size X4 X5 := by rw [← h5]; exact (Below.refl _ _).alloc (Nat.le_refl _) _
 have hD : Tx.DAt X5 w.heap.size k n s := (((((by rw [← h0]; exact Tx.DAt.alloc w k n s : Tx.DAt X0 w.heap.size k n s).below b1).below b2).below b3).below b4).below b5
 have n1 : X1.cell? ⟨w.heap.size + 1, 0, none⟩ = some .nilFunc := by rw [← h1, ← z0]; simp [World.cell?_alloc_new]
 have n2 : X2.cell? ⟨w.heap.size + 1 + 1, 0, none⟩ = some (.int .i64 0) := by rw [← h2, ← z1]; simp [World.cell?_alloc_new]
 have n3 : X3.cell? ⟨w.heap.size + 1 + 1 + 1, 0, none⟩ = some (.int .i64 0) := by rw [← h3, ← z2]; simp [World.cell?_alloc_new]
 have n4 : X4.cell? ⟨w.heap.size + 1 + 1 + 1 + 1, 0, none⟩ = some (.bool false) := by rw [← h4, ← z3]; simp [World.cell?_alloc_new]
 have n5 : X5.cell? ⟨w.heap.size + 1 + 1 + 1 + 1 + 1, 0, none⟩ = some .nilFunc := by rw [← h5, ← z4]; simp [World.cell?_alloc_new]
 have m2 : X2.frozen? ⟨w.heap.size + 1 + 1, 0, none⟩ = false := by rw [← h2, ← z1]; exact Tx.frz_new _ _ _ _
 have m3 : X3.frozen? ⟨w.heap.size + 1 + 1 + 1, 0, none⟩ = false := by rw [← h3, ← z2]; exact Tx.frz_new _ _ _ _
 have m5 : X5.frozen? ⟨w.heap.size + 1 + 1 + 1 + 1 + 1, 0, none⟩ = false := by rw [← h5, ← z4]; exact Tx.frz_new _ _ _ _
 have b25 := (b3.trans (b4.mono (by omega))).trans (b5.mono (by omega))
 have hE : Tx.Env X5 (w.heap.size + 1 + 1) (w.heap.size + 1 + 1 + 1) (w.heap.size + 1) (w.heap.size + 1 + 1 + 1 + 1) 0 0 := by
  have b35 := b4.trans (b5.mono (by omega))
  have b15 := b2.trans (b25.mono (by omega))
  refine ⟨?_, ?_, ?_, ?_, ?_, ?_, by omega, by omega, by omega, by omega⟩
  ·exact (b25.cell (p := ⟨w.heap.size + 1 + 1, 0, none⟩) (by simp; omega)).trans n2
  ·exact (b35.cell (p := ⟨w.heap.size + 1 + 1 + 1, 0, none⟩) (by simp; omega)).trans n3
  ·exact (b15.cell (p := ⟨w.heap.size + 1, 0, none⟩) (by simp; omega)).trans n1
  ·exact (b5.cell (p := ⟨w.heap.size + 1 + 1 + 1 + 1, 0, none⟩) (by simp; omega)).trans n4
  ·exact (b25.frozen (p := ⟨w.heap.size + 1 + 1, 0, none⟩) (by simp; omega)).trans m2
  ·exact (b35.frozen (p := ⟨w.heap.size + 1 + 1 + 1, 0, none⟩) (by simp; omega)).trans m3
 have hB5 : Below w.heap.size w X5 := ((b0.trans (b1.mono (by omega))).trans (b2.mono (by omega))).trans (b25.mono (by omega))
 have hall : (((((w.alloc (.cells #[.int .i64 (k : Int), .int .i64 n, .string s, .slice none 0 0, .slice none 0 0, .slice none 0 0] 25)).alloc (.cells #[.nilFunc] 27)).alloc (.cells #[.int .i64 0] 3)).alloc (.cells #[.int .i64 0] 3)).alloc (.cells #[.bool false] 4)).alloc (.cells #[.nilFunc] 89) = X5 := by rw [h0, h1, h2, h3, h4, h5]
 clear n1 n2 n3 n4 m2 m3 b0 b1 b2 b3 b4 b5 b25 h0 h1 h2 h3 h4 h5 z0 z1 z2 z3 z4
 have HD := Lib.hid hD
 have HE := Lib.hid hE
 have HB := Lib.hid hB5
 have HZ := Lib.hid z5
 clear hE hB5 z5
 obtain ⟨d0, d1, d2, d3, d4, d5, dl⟩ := hD
 clear dl
 go_enter Try.func31, Try.ntmps31
 go_wp2_with fail
 refine (hdn _ _ _ _ _ _ (HE.out.other _ _ (by omega) (by omega) (by omega) (by omega)) (by omega) (by omega) (by omega) (by omega) (by omega) hs hn hk).mono ?_
 rintro e w7 ⟨rfl, ⟨a, b, ca, cb⟩, hK⟩
 have HK := Lib.hid (((HB.out).setCell (p := ⟨w.heap.size + 1 + 1 + 1 + 1 + 1, 0, none⟩) (by simp; omega) _).trans (hK.to_below (n := w.heap.size) (fun x hx => by omega) (by simp [World.setCell]; have := HZ.out; omega)))
 clear hdn hK d0 d1 d2 d3 d4 d5 n5 m5 hall
 go_wp2
 go_quiet (fail)
 go_wp2
 refine bodyPost_ret (v := .tuple #[.int .i64 a, .int .i64 b, .int .i64 R]) (by simp [results, Try.results31, go_sem]) rfl ?_
 exact ⟨⟨a, b, rfl⟩, below_drewN HK.out _⟩
set_option maxRecDepth 100000 in
set_option maxHeartbeats 4000000 in
theorem CheckD_any (k : Nat) (n : Int) (s : ByteArray) (w : World) (hs : s.size ≤ 1000000) (hn : -9223372036854775808 ≤ n ∧ n ≤ 9223372036854775807) (hk : 1 ≤ k ∧ k ≤ 5) :
  Calls Try.prog 19 #[.agg #[.int .i64 (k : Int), .int .i64 n, .string s, .slice none 0 0, .slice none 0 0, .slice none 0 0]] w fun e w' => e = .returned (.int .i64 (if Tx.ok k n s.data.toList = true then 0 else 20)) ∧ Below w.heap.size w w' := by
 have hw := fun w => walkD_any k n s w hs hn hk
 obtain ⟨R, hR⟩ : ∃ R : Int, (if Tx.ok k n s.data.toList = true then 0 else 20) = R := ⟨_, rfl⟩
 rw [hR] at hw ⊢
 go_enter Try.func19, Try.ntmps19
 go_wp2_with fail
 refine (hw _).mono ?_
 rintro e w1 ⟨⟨a, b, rfl⟩, hb1⟩
 go_wp2
 go_ret
 exact ⟨rfl, ((Below.refl _ _).alloc (Nat.le_refl _) _).trans (hb1.mono (by rw [World.size_alloc]; omega))⟩
end Go.Proofs.Ytcopdfihaheplaa
