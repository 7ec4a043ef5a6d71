/-
  Programs: what stands at a place of one that lies in memory.
-/
import Derived.Test.YtlckjphnbfahgaaGreatDoorCdOper
import Derived.Test.YtlckjphnbfahgaaGreatDoorCdWaysP
namespace Go.Proofs.YtlckjphnbfahgaaGreatDoor
open Go.RowKit
namespace Cd
open Dt
theorem boxP {w w1 : World} {x y z : Value} {t : TypeId} (h : w.alloc (.cells #[x, y, z] t) = w1) : Below w.heap.size w w1 ∧ w1.heap.size = w.heap.size + 1 ∧ (∀ W, Below w1.heap.size w1 W → W.cell? ⟨w.heap.size, 0, none⟩ = some x ∧ W.cell? ⟨w.heap.size, 1, none⟩ = some y ∧ W.cell? ⟨w.heap.size, 2, none⟩ = some z) := by
  obtain ⟨hb, hs⟩ := below_new (Below.refl _ w) h (Nat.le_refl _)
  have hc := fun i v hv => cells_new w [x, y, z] t h i v hv
  refine ⟨hb, hs, fun W hW => ⟨?_, ?_, ?_⟩⟩
  · exact (hW.cell (p := ⟨w.heap.size, 0, none⟩) (by show w.heap.size < _; omega)).trans (hc 0 _ rfl)
  · exact (hW.cell (p := ⟨w.heap.size, 1, none⟩) (by show w.heap.size < _; omega)).trans (hc 1 _ rfl)
  · exact (hW.cell (p := ⟨w.heap.size, 2, none⟩) (by show w.heap.size < _; omega)).trans (hc 2 _ rfl)
theorem boxC {w w1 : World} {x0 x1 x2 x3 x4 : Value} {t : TypeId} (h : w.alloc (.cells #[x0, x1, x2, x3, x4] t) = w1) : Below w.heap.size w w1 ∧ w1.heap.size = w.heap.size + 1 ∧ (∀ W, Below w1.heap.size w1 W → W.cell? ⟨w.heap.size, 0, none⟩ = some x0 ∧ W.cell? ⟨w.heap.size, 1, none⟩ = some x1 ∧ W.cell? ⟨w.heap.size, 2, none⟩ = some x2 ∧ W.cell? ⟨w.heap.size, 3, none⟩ = some x3 ∧ W.cell? ⟨w.heap.size, 4, none⟩ = some x4) := by
  obtain ⟨hb, hs⟩ := below_new (Below.refl _ w) h (Nat.le_refl _)
  have hc := fun i v hv => cells_new w [x0, x1, x2, x3, x4] t h i v hv
  refine ⟨hb, hs, fun W hW => ⟨?_, ?_, ?_, ?_, ?_⟩⟩
  · exact (hW.cell (p := ⟨w.heap.size, 0, none⟩) (by show w.heap.size < _; omega)).trans (hc 0 _ rfl)
  · exact (hW.cell (p := ⟨w.heap.size, 1, none⟩) (by show w.heap.size < _; omega)).trans (hc 1 _ rfl)
  · exact (hW.cell (p := ⟨w.heap.size, 2, none⟩) (by show w.heap.size < _; omega)).trans (hc 2 _ rfl)
  · exact (hW.cell (p := ⟨w.heap.size, 3, none⟩) (by show w.heap.size < _; omega)).trans (hc 3 _ rfl)
  · exact (hW.cell (p := ⟨w.heap.size, 4, none⟩) (by show w.heap.size < _; omega)).trans (hc 4 _ rfl)
theorem code_at {F : Nat → Prop} {w : World} {a : Option Addr} {n cc : Nat} {l : List Code} (h : CodeRow F w (.slice a n cc) l) (k : Nat) (hk : k < l.length) : ∃ b o, a = some ⟨b, o, none⟩ ∧ F b ∧ b < w.heap.size ∧ CodeAt F w b (o + k * 5) l[k] := by
  obtain ⟨a', c', e, -, h3⟩ := h
  obtain ⟨b, o, e2, hF, hb, h7⟩ := h3 (by intro e; rw [e] at hk; simp at hk)
  cases e
  exact ⟨b, o, e2, hF, hb, h7 k hk⟩
theorem name_at {F : Nat → Prop} {w : World} {a : Option Addr} {n cc : Nat} {l : List ByteArray} (h : NameRow F w (.slice a n cc) l) (k : Nat) (hk : k < l.length) : ∃ b o, a = some ⟨b, o, none⟩ ∧ b < w.heap.size ∧ w.cell? ⟨b, o + k, none⟩ = some (.string l[k]) := by
  obtain ⟨a', c', e, -, h3⟩ := h
  obtain ⟨b, o, e2, -, hb, h7⟩ := h3 (by intro e; rw [e] at hk; simp at hk)
  cases e
  exact ⟨b, o, e2, hb, h7 k hk⟩
theorem const_at {F : Nat → Prop} {w : World} {a : Option Addr} {n cc : Nat} {l : List D} (h : Row F w (.slice a n cc) l) (k : Nat) (hk : k < l.length) : ∃ b o vm vl vt, a = some ⟨b, o, none⟩ ∧ b < w.heap.size ∧ Six w b (o + k * 6) l[k] vm vl vt ∧ Rep F w l[k] vm vl vt := by
  obtain ⟨a', c', e, -, h3⟩ := h
  obtain ⟨b, o, e2, hF, hb, h7⟩ := h3 (by intro e; rw [e] at hk; simp at hk)
  cases e
  obtain ⟨vm, vl, vt, h8, h9⟩ := h7.at k hk
  exact ⟨b, o, vm, vl, vt, e2, hb, h8, h9⟩
theorem InsRow.form {F : Nat → Prop} {w : World} {v : Value} {l : List Ins} (h : InsRow F w v l) : ∃ a c, v = .slice a l.length c := by
  obtain ⟨a, c, e, -⟩ := h
  exact ⟨a, c, e⟩
/-- a row up to a place -/
theorem row_take {F : Nat → Prop} {w : World} {a : Option Addr} {n cc : Nat} {l : List D} (h : Row F w (.slice a n cc) l) (k : Nat) (hk : k ≤ l.length) : Row F w (.slice a k cc) (l.take k) ∧ l.length ≤ cc := by
  obtain ⟨a', c', e, hc, h3⟩ := h
  cases e
  refine ⟨⟨a, cc, by rw [List.length_take, Nat.min_eq_left hk], by rw [List.length_take]; omega, fun hn => ?_⟩, hc⟩
  obtain ⟨b, o, e2, hF, hb, h7⟩ := h3 (by intro e; rw [e] at hn; simp at hn)
  refine ⟨b, o, e2, hF, hb, Reps.of fun j hj => ?_⟩
  rw [List.length_take] at hj
  obtain ⟨vm, vl, vt, h8, h9⟩ := h7.at j (by omega)
  refine ⟨vm, vl, vt, ?_, ?_⟩
  · rw [List.getElem_take]; exact h8
  · rw [List.getElem_take]; exact h9
theorem row_take_nil {F : Nat → Prop} {w : World} (v : Value) (hv : ∃ a c, v = .slice a 0 c) : Row F w v ([] : List D) := by
  obtain ⟨a, c, rfl⟩ := hv
  exact ⟨a, c, rfl, Nat.zero_le _, fun h => absurd rfl h⟩
theorem wfs_at : ∀ {l : List D}, Wfs l → ∀ j, (h : j < l.length) → Wf l[j]
  | _ :: _, h, 0, _ => h.1
  | _ :: _, h, j + 1, hj => wfs_at h.2 j (by simpa using hj)
theorem wfs_take : ∀ {l : List D}, Wfs l → ∀ k, Wfs (l.take k)
  | [], _, k => by rw [List.take_nil]; trivial
  | _ :: _, _, 0 => trivial
  | _ :: _, h, k + 1 => ⟨h.1, wfs_take h.2 k⟩
end Cd
end Go.Proofs.YtlckjphnbfahgaaGreatDoor
