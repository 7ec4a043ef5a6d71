/-
  The walk of the reference's Same at the same scripts.
-/
import Derived.Test.YtomggdeinjediaaDoorScParse
namespace Go.Proofs.YtomggdeinjediaaDoor
open Go.RowKit Go.Sort
namespace Sc
theorem seven_of (w : World) (v0 v1 v2 v3 v4 : Int) (p : Value) (x : ByteArray) (ty : TypeId) : St (w.alloc (.cells #[.int .i64 v0, .int .i64 v1, .int .i64 v2, .int .i64 v3, .int .i64 v4, p, .string x] ty)) w.heap.size [v0, v1, v2, v3, v4] p x := by
  have hh : (w.alloc (.cells #[.int .i64 v0, .int .i64 v1, .int .i64 v2, .int .i64 v3, .int .i64 v4, p, .string x] ty)).heap[w.heap.size]? = some (.cells #[.int .i64 v0, .int .i64 v1, .int .i64 v2, .int .i64 v3, .int .i64 v4, p, .string x] ty) := by
    show (w.heap.push _)[w.heap.size]? = _
    simp
  refine ⟨fun k hk => ?_, ?_, ?_, fun j => ?_, by simp⟩
  · unfold World.cell?
    rw [hh]
    match k, hk with
    | 0, _ => rfl
    | 1, _ => rfl
    | 2, _ => rfl
    | 3, _ => rfl
    | 4, _ => rfl
  · unfold World.cell?; rw [hh]; rfl
  · unfold World.cell?; rw [hh]; rfl
  · unfold World.frozen?; rw [hh]; simp
/-- a row of bytes -/
def Bytes (w : World) (a : Option Addr) (n : Nat) (ps : List UInt8) : Prop := n = ps.length ∧ (0 < n → ∃ g o, a = some ⟨g, o, none⟩ ∧ ∀ j, (hj : j < ps.length) → w.cell? ⟨g, o + j, none⟩ = some (byteV ps[j]))
theorem Bytes.of_own {w : World} {b c : Nat} {a : Option Addr} {ps : List UInt8} (ho : w.ownsRow b 5 1 (.slice a ps.length c) ps.length (ps.map byteV)) : Bytes w a ps.length ps := by
  refine ⟨rfl, fun h => ?_⟩
  rcases Joins.ownsRow_forms ho with ⟨_, hz⟩ | ⟨g, cap, he, _⟩
  · omega
  · refine ⟨g, 0, rfl, fun j hj => ?_⟩
    rw [Nat.zero_add, ho.cellAt j (by omega), List.getElem?_map, List.getElem?_eq_getElem hj]
    rfl
theorem Bytes.keep {S : Nat → Prop} {w w' : World} {a : Option Addr} {n : Nat} {ps : List UInt8} (h : Bytes w a n ps) (hk : Keep S w w') (hS : ∀ b, b < w.heap.size → ¬ S b) : Bytes w' a n ps := by
  obtain ⟨h0, h1⟩ := h
  refine ⟨h0, fun hn => ?_⟩
  obtain ⟨g, o, ha, hc⟩ := h1 hn
  refine ⟨g, o, ha, fun j hj => ?_⟩
  have := hc j hj
  have hl := block_lt_of_cell this
  exact (hk.cell (o + j) hl (hS g hl)).trans this
end Sc
set_option maxRecDepth 100000 in
set_option maxHeartbeats 2000000 in
theorem Same25_any (v0 v1 v2 v3 v4 : Int) (a b : Option Addr) (n n' c c' : Nat) (ps : List UInt8) (x : ByteArray) (w : World) (ha : Sc.Bytes w a n ps) (hb : Sc.Bytes w b n' ps) (hl : ps.length ≤ 1000000) :
    Calls Tryd.prog 8 #[.agg #[.int .i64 v0, .int .i64 v1, .int .i64 v2, .int .i64 v3, .int .i64 v4, .slice a n c, .string x], .agg #[.int .i64 v0, .int .i64 v1, .int .i64 v2, .int .i64 v3, .int .i64 v4, .slice b n' c', .string x]] w fun e w' => e = .returned (.bool true) ∧ Below w.heap.size w w' := by
  obtain ⟨rfl, ha1⟩ := ha
  obtain ⟨rfl, hb1⟩ := hb
  obtain ⟨W, hW⟩ : ∃ W, w.heap.size = W := ⟨_, rfl⟩
  obtain ⟨w2, hw2⟩ : ∃ w2, (w.alloc (.cells #[.int .i64 v0, .int .i64 v1, .int .i64 v2, .int .i64 v3, .int .i64 v4, .slice a ps.length c, .string x] 25)).alloc (.cells #[.int .i64 v0, .int .i64 v1, .int .i64 v2, .int .i64 v3, .int .i64 v4, .slice b ps.length c', .string x] 25) = w2 := ⟨_, rfl⟩
  have hb2 : Below w.heap.size w w2 := by rw [← hw2]; exact ((Below.refl _ _).alloc (Nat.le_refl _) _).alloc (by simp) _
  have s1 := (Sc.seven_of w v0 v1 v2 v3 v4 (.slice a ps.length c) x 25).keep ((Keep.refl (fun _ => False) _).alloc (.cells #[.int .i64 v0, .int .i64 v1, .int .i64 v2, .int .i64 v3, .int .i64 v4, .slice b ps.length c', .string x] 25)) (fun h => h)
  have s2 := Sc.seven_of (w.alloc (.cells #[.int .i64 v0, .int .i64 v1, .int .i64 v2, .int .i64 v3, .int .i64 v4, .slice a ps.length c, .string x] 25)) v0 v1 v2 v3 v4 (.slice b ps.length c') x 25
  rw [hw2] at s1 s2
  simp only [World.size_alloc] at s1 s2
  rw [hW] at s1 s2
  have p0 : w2.cell? ⟨W, 0, none⟩ = some (.int .i64 v0) := s1.n 0 (by omega)
  have p1 : w2.cell? ⟨W, 1, none⟩ = some (.int .i64 v1) := s1.n 1 (by omega)
  have p2 : w2.cell? ⟨W, 2, none⟩ = some (.int .i64 v2) := s1.n 2 (by omega)
  have p3 : w2.cell? ⟨W, 3, none⟩ = some (.int .i64 v3) := s1.n 3 (by omega)
  have p4 : w2.cell? ⟨W, 4, none⟩ = some (.int .i64 v4) := s1.n 4 (by omega)
  have p5 := s1.c5
  have p6 := s1.c6
  have q0 : w2.cell? ⟨W + 1, 0, none⟩ = some (.int .i64 v0) := s2.n 0 (by omega)
  have q1 : w2.cell? ⟨W + 1, 1, none⟩ = some (.int .i64 v1) := s2.n 1 (by omega)
  have q2 : w2.cell? ⟨W + 1, 2, none⟩ = some (.int .i64 v2) := s2.n 2 (by omega)
  have q3 : w2.cell? ⟨W + 1, 3, none⟩ = some (.int .i64 v3) := s2.n 3 (by omega)
  have q4 : w2.cell? ⟨W + 1, 4, none⟩ = some (.int .i64 v4) := s2.n 4 (by omega)
  have q5 := s2.c5
  have q6 := s2.c6
  have ha2 : Hid (0 < ps.length → ∃ g o, a = some ⟨g, o, none⟩ ∧ ∀ j, (hj : j < ps.length) → w2.cell? ⟨g, o + j, none⟩ = some (Sc.byteV ps[j])) := fun h => by
    obtain ⟨g, o, e, hc⟩ := ha1 h
    exact ⟨g, o, e, fun j hj => (hb2.cell (block_lt_of_cell (hc j hj))).trans (hc j hj)⟩
  have hb3 : Hid (0 < ps.length → ∃ g o, b = some ⟨g, o, none⟩ ∧ ∀ j, (hj : j < ps.length) → w2.cell? ⟨g, o + j, none⟩ = some (Sc.byteV ps[j])) := fun h => by
    obtain ⟨g, o, e, hc⟩ := hb1 h
    exact ⟨g, o, e, fun j hj => (hb2.cell (block_lt_of_cell (hc j hj))).trans (hc j hj)⟩
  have HB := Lib.hid hb2
  have HW := Lib.hid hW
  clear ha1 hb1 hb2 s1 s2
  go_enter Tryd.func8, Tryd.ntmps8
  go_wp2_with fail
  clear hw2 hW
  go_loopw [5] (fun vi wr => ∃ k q : Nat, vi = .int .i64 k ∧ k ≤ ps.length ∧ wr = w2.drewN q) (fun vi _ => ps.length - (intOf vi).toNat)
  case atStart => exact ⟨0, 0, rfl, by omega, rfl⟩
  case round =>
    obtain ⟨k, q, rfl, hk, rfl⟩ := hrel
    by_cases hlt : k < ps.length
    case neg =>
      have hge : ¬ (k : Int) < (ps.length : Int) := by omega
      go_wp2
      go_ret
      exact ⟨rfl, below_drewN HB.out _⟩
    have hlti : (k : Int) < (ps.length : Int) := by omega
    obtain ⟨g1, o1, rfl, hc1⟩ := ha2.out (by omega)
    obtain ⟨g2, o2, rfl, hc2⟩ := hb3.out (by omega)
    have e1 := hc1 k hlt
    have e2 := hc2 k hlt
    unfold Sc.byteV at e1 e2
    have hne : (((ps[k].toNat : Int)) != (ps[k].toNat : Int)) = false := by simp
    clear hc1 hc2
    go_wp2
    go_quiet (fail)
    go_wp2
    exact ⟨⟨k + 1, _, by simp, by omega, rfl⟩, by simp [intOf]; omega⟩
end Go.Proofs.YtomggdeinjediaaDoor
