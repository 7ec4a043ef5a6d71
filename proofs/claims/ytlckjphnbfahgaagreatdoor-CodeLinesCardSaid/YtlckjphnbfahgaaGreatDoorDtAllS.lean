/-
  datum.All: what it gives, and that its iterator stops.
-/
import Derived.Test.YtlckjphnbfahgaaGreatDoorDtWalkS
namespace Go.Proofs.YtlckjphnbfahgaaGreatDoor
open Go.RowKit
namespace Dt
theorem six_of (w : World) (x : D) (vm vl vt : Value) (t : TypeId) : Six (w.alloc (.cells #[.int .i64 x.k, .int .i64 x.n, .string x.s, vm, vl, vt] t)) w.heap.size 0 x vm vl vt := by
  have h := six_new w x.k x.n x.s vm vl vt t
  exact ⟨h 0 (by omega), h 1 (by omega), h 2 (by omega), h 3 (by omega), h 4 (by omega), h 5 (by omega)⟩
end Dt
/-- datum.All gives its iterator -/
theorem dAll_any (x : Dt.D) (vm vl vt : Value) (w : World) :
    Calls Tryz.prog 48 #[.agg #[.int .i64 x.k, .int .i64 x.n, .string x.s, vm, vl, vt]] w fun e w' => e = .returned (.func (.func 66) #[] #[.pointer (some ⟨w.heap.size, 0, none⟩)]) ∧ Below w.heap.size w w' ∧ Dt.Six w' w.heap.size 0 x vm vl vt ∧ w.heap.size < w'.heap.size := by
  obtain ⟨w1, hw1⟩ : ∃ w1, w.alloc (.cells #[.int .i64 x.k, .int .i64 x.n, .string x.s, vm, vl, vt] 52) = w1 := ⟨_, rfl⟩
  have hb1 : Below w.heap.size w w1 := by rw [← hw1]; exact (Below.refl _ _).alloc (Nat.le_refl _) _
  have hs : Dt.Six w1 w.heap.size 0 x vm vl vt := by rw [← hw1]; exact Dt.six_of w x vm vl vt _
  have hz : w.heap.size < w1.heap.size := by rw [← hw1]; simp
  go_enter Tryz.func48, Tryz.ntmps48
  go_wp2
  go_ret
  exact ⟨rfl, hb1, hs, hz⟩
/-- All's iterator stops: it hands on the parts of a datum that may be -/
theorem dAll_stops (n : Nat) {F : Nat → Prop} (x : Dt.D) (vm vl vt : Value) (w0 : World) (R db : Nat) (hRz : R < w0.heap.size) (hW : Dt.Wf x) (hR : Dt.Rep F w0 x vm vl vt) (hF : ∀ k, F k → k < w0.heap.size ∧ k ≠ R) (hd : Dt.Six w0 db 0 x vm vl vt) (hck : (Dt.chk x 1 0).1 = 0) :
    Rb.SeqStopsB Fence.wide n Tryz.prog 66 #[.pointer (some ⟨db, 0, none⟩)] Dt.encP (Keep fun k => k = R ∨ k = w0.heap.size + 1) Dt.VP (fun xs => xs.map Dt.P.d = Dt.pre x) (fun xs => xs.map Dt.P.d <+: Dt.pre x) (Dt.pre x).length w0 := by
  intro l J Jx W hW0 hz hJ hJx hY h0
  have hdb : db < w0.heap.size := block_lt_of_cell hd.1
  have h := dAll1_any 3 (n - 1) (Nat.le_refl _) (N := (Dt.pre x).length) (l := l) (lb := fun k => k = R ∨ k = w0.heap.size + 1) (J := J) (Jx := Jx) (w := W) (fun k hk => by rcases hk with rfl | rfl <;> omega) hJ hJx hY (F := F) x vm vl vt hW (hR.below hW0)
    (fun k hk h => by have := hF k hk; rcases h with h | h <;> omega) db (hd.keep (S := fun _ => False) ((Keep.refl _ _).below hW0) hdb id) hck h0 (Nat.le_refl _)
  exact (callsIn_wide.2 h).mono (fun e w' h => ⟨h.1, h.2⟩)
end Go.Proofs.YtlckjphnbfahgaaGreatDoor
