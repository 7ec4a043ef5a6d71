/-
  shuttleref12.Find.
-/
import Derived.Test.YtihfflinkmceaaaTbPrim
namespace Go.Proofs.Ytihfflinkmceaaa
open Go.RowKit
namespace Tb
theorem flatP_at : ∀ (l : List (Nat × List UInt8 × Int × Int)) (k : Nat) (h : k < l.length), (flatP l)[k * 4]? = some (.int .i64 l[k].1) ∧ (flatP l)[k * 4 + 1]? = some (.string ⟨l[k].2.1.toArray⟩)
  | [], k, h => absurd h (by simp)
  | p :: r, 0, _ => ⟨rfl, rfl⟩
  | p :: r, k + 1, h => by
    have := flatP_at r k (by simpa using h)
    rw [show (k + 1) * 4 = k * 4 + 4 by omega]
    exact this
/-- the number of a procedure's name -/
def prim (s : List UInt8) : Option Nat := (prims.find? fun p => p.2.1 == s).map (·.1)
theorem prim_hit (s : List UInt8) (k : Nat) (h : k < prims.length) (hb : ∀ j (hj : j < k), prims[j].2.1 ≠ s) (he : prims[k].2.1 = s) : prim s = some prims[k].1 := by
  unfold prim
  rw [List.find?_eq_some_iff_getElem.2 ⟨by simp [he], k, h, rfl, fun j hj => by simpa using hb j hj⟩]
  rfl
theorem prim_miss (s : List UInt8) (hb : ∀ j (hj : j < prims.length), prims[j].2.1 ≠ s) : prim s = none := by
  unfold prim
  rw [List.find?_eq_none.2 fun p hp => by
    obtain ⟨j, hj, rfl⟩ := List.getElem_of_mem hp
    simpa using hb j hj]
  rfl
end Tb
set_option maxRecDepth 100000 in
set_option maxHeartbeats 1000000 in
theorem FindR_any (s : ByteArray) (w : World) : Calls Try.prog 16 #[.string s] w fun e w' => e = .returned (.tuple #[.int .i64 ((Tb.prim s.data.toList).getD 0 : Nat), .bool (Tb.prim s.data.toList).isSome]) ∧ Below w.heap.size w w' := by
  obtain ⟨L, hL⟩ : ∃ L, L = Tb.prims := ⟨_, rfl⟩
  have hlen : L.length = 76 := by rw [hL]; rfl
  have HL := Lib.hid hL
  obtain ⟨w1, hw1⟩ : ∃ w1, w1 = w.alloc (.cells (Tb.flatP L).toArray 74) := ⟨_, rfl⟩
  have hh := World.alloc_heap_new w (.cells (Tb.flatP L).toArray 74)
  rw [← hw1] at hh
  have hbel : Below w.heap.size w w1 := by rw [hw1]; exact (Below.refl _ w).alloc (Nat.le_refl _) _
  have hR := Rows_any w
  rw [← hL, ← hw1] at hR
  clear hL
  go_enter Try.func16, Try.ntmps16
  go_wp2_with fail
  refine hR.mono ?_
  rintro e w2 ⟨rfl, rfl⟩
  clear hw1
  go_wp2
  go_loopw [5] (fun v wr => ∃ k : Nat, v = .int .i64 k ∧ k ≤ 76 ∧ (∀ j (hj : j < k) (hj2 : j < L.length), L[j].2.1 ≠ s.data.toList) ∧ wr = w2) (fun v _ => 76 - (intOf v).toNat)
  case atStart => exact ⟨0, rfl, by omega, fun j hj => absurd hj (by omega), rfl⟩
  case round =>
    obtain ⟨k, rfl, hk, hno, rfl⟩ := hrel
    by_cases hlt : k < 76
    · have hlti : (k : Int) < 76 := by omega
      have hkl : k < L.length := by omega
      obtain ⟨h1, h2⟩ := Tb.flatP_at L k hkl
      have c0 : wr.cell? ⟨w.heap.size, k * 4, none⟩ = some (.int .i64 L[k].1) := by simp [World.cell?, hh, h1]
      have c1 : wr.cell? ⟨w.heap.size, k * 4 + 1, none⟩ = some (.string ⟨L[k].2.1.toArray⟩) := by simp [World.cell?, hh, h2]
      clear h1 h2
      cases ht : (L[k].2.1 == s.toList)
      · have hne : L[k].2.1 ≠ s.data.toList := by simpa [ByteArray.toList_eq] using ht
        go_wp2
        go_roundw
        case rel =>
          refine ⟨k + 1, by simp, by omega, fun j hj hj2 => ?_, trivial⟩
          by_cases e : j = k
          · subst e; exact hne
          · exact hno j (by omega) hj2
        case measure => simp [intOf]; omega
      · have heq : L[k].2.1 = s.data.toList := by simpa [ByteArray.toList_eq] using ht
        have HP : Hid (Tb.prim s.data.toList = some L[k].1) := by
          show _ = _
          have e := HL.out
          subst e
          exact Tb.prim_hit _ k hkl (fun j hj => hno j hj (by omega)) heq
        clear heq hno
        go_wp2
        go_ret2
        exact ⟨by rw [HP.out]; rfl, hbel⟩
    · have hge : (76 : Int) ≤ (k : Int) := by omega
      have HP : Hid (Tb.prim s.data.toList = none) := by
        show _ = _
        have e := HL.out
        subst e
        exact Tb.prim_miss _ (fun j hj => hno j (by omega) hj)
      go_wp2
      go_ret2
      exact ⟨by rw [HP.out]; rfl, hbel⟩
end Go.Proofs.Ytihfflinkmceaaa
