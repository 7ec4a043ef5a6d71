/-
  What came in: three numbers, three data in an array.
-/
import Derived.Test.YtjbjgceblanhpaaDoorSpOpenO
import Derived.OpenShut
namespace Go.Proofs.YtjbjgceblanhpaaDoor
open Go.Joins Go.ChangeShapes Go.WideShapes Go.RowKit Go.Deep
namespace Dt
section
variable {H : Type} {enc : TypeId × Value → H} {P : Program} {w : World} {base : Nat} {spare : Nat → Bool} {held : Bool}
theorem okWide_array {n : Nat} {e t : TypeId} {r : Reach} {b0 : Nat} {v : Value} (ht : P.underlying t = some (.array n e)) (h : Value.okWide P w r b0 t v) : ∃ cs, v = .agg cs ∧ cs.size = P.cellsOf t := by
  simp only [Value.okWide, ht] at h
  obtain ⟨cs, h1, h2, _⟩ := h
  exact ⟨cs, h1, h2⟩
/-- an array that came in, element by element -/
theorem trod_elems {n : Nat} {e t : TypeId} {fuel : Nat} {cs : List Value} {x : DataW H × List MemPlace} (ht : P.underlying t = some (.array n e))
    (h : DataW.trod enc P w base spare held fuel t cs = some x) (hf : Fits P t x.1) :
    ∃ m, fuel = m + 1 ∧ cs.length = P.cellsOf t ∧ ∀ i, i < n → ∃ y, DataW.trod enc P w base spare held m e ((cs.drop (i * P.cellsOf e)).take (P.cellsOf e)) = some y ∧ Fits P e y.1 := by
  obtain ⟨xs, m, hm, hx, hsz, hlen, hg⟩ := DataW.trod_array ht h
  refine ⟨m, hm, hsz, fun i hi => ?_⟩
  have h1 := hg i hi
  rw [List.getElem?_eq_getElem (by omega)] at h1
  refine ⟨_, h1, fun k hk => hf k ?_⟩
  rw [hx]
  simp only [DataW.weights, ht]
  exact weights_all (List.mem_map_of_mem (List.getElem_mem _)) k hk
end
end Dt
namespace Sp
open Dt
section
variable {H : Type} {enc : TypeId × Value → H} {w : World} {base : Nat} {spare : Nat → Bool} {held : Bool}
set_option maxRecDepth 100000 in
theorem open_ints3 {r : Reach} {b0 : Nat} {v : Value} {d : DataW H} {p : List MemPlace}
    (hv : Value.okWide Tryd.prog w r b0 44 v) (h : DataW.Trod enc Tryd.prog w base spare held 44 v d p) :
    ∃ a b c : Int, v = .agg #[.int .i64 a, .int .i64 b, .int .i64 c] := by
  obtain ⟨cs, rfl, hsz⟩ := okWide_array Tryd.underlying44 hv
  obtain ⟨fuel, hfu⟩ := h
  obtain ⟨xs, m, -, -, hl, hlen, hg⟩ := DataW.trod_array Tryd.underlying44 hfu
  have hC : Tryd.prog.cellsOf 44 = 3 := by kernel_rfl
  have hC1 : Tryd.prog.cellsOf 3 = 1 := by kernel_rfl
  rw [hC] at hsz
  rw [hC1] at hg
  obtain ⟨l⟩ := cs
  match l, hsz with
  | [c0, c1, c2], _ =>
    have h0 := hg 0 (by decide)
    have h1 := hg 1 (by decide)
    have h2 := hg 2 (by decide)
    rw [List.getElem?_eq_getElem (by omega)] at h0 h1 h2
    change DataW.trod enc Tryd.prog w base spare held m 3 [c0] = _ at h0
    change DataW.trod enc Tryd.prog w base spare held m 3 [c1] = _ at h1
    change DataW.trod enc Tryd.prog w base spare held m 3 [c2] = _ at h2
    obtain ⟨k0, e0, _, _⟩ := DataW.trod_int Tryd.underlying3 h0
    obtain ⟨k1, e1, _, _⟩ := DataW.trod_int Tryd.underlying3 h1
    obtain ⟨k2, e2, _, _⟩ := DataW.trod_int Tryd.underlying3 h2
    simp only [List.cons.injEq, and_true] at e0 e1 e2
    subst e0 e1 e2
    exact ⟨k0, k1, k2, rfl⟩
set_option maxRecDepth 100000 in
theorem open_data3 {r : Reach} {b0 : Nat} {v : Value} {d : DataW H} {p : List MemPlace}
    (hv : Value.okWide Tryd.prog w r b0 45 v) (h : DataW.Trod enc Tryd.prog w base spare held 45 v d p) (hf : Fits Tryd.prog 45 d) :
    ∃ (x y z : D) (e0 e1 e2 e3 e4 e5 e6 e7 e8 : Value), v = .agg #[.int .i64 x.k, .int .i64 x.n, .string x.s, e0, e1, e2, .int .i64 y.k, .int .i64 y.n, .string y.s, e3, e4, e5, .int .i64 z.k, .int .i64 z.n, .string z.s, e6, e7, e8] ∧ (Wf x ∧ Wf y ∧ Wf z) ∧ Rep (fun _ => True) w x e0 e1 e2 ∧ Rep (fun _ => True) w y e3 e4 e5 ∧ Rep (fun _ => True) w z e6 e7 e8 := by
  obtain ⟨cs, rfl, hsz⟩ := okWide_array Tryd.underlying45 hv
  obtain ⟨fuel, hfu⟩ := h
  obtain ⟨m, -, -, hg⟩ := trod_elems Tryd.underlying45 hfu hf
  have hC : Tryd.prog.cellsOf 45 = 18 := by kernel_rfl
  have hC6 : Tryd.prog.cellsOf 26 = 6 := by kernel_rfl
  rw [hC] at hsz
  rw [hC6] at hg
  obtain ⟨l⟩ := cs
  match l, hsz with
  | [c0, c1, c2, c3, c4, c5, c6, c7, c8, c9, c10, c11, c12, c13, c14, c15, c16, c17], _ =>
    obtain ⟨y0, h0, f0⟩ := hg 0 (by decide)
    obtain ⟨y1, h1, f1⟩ := hg 1 (by decide)
    obtain ⟨y2, h2, f2⟩ := hg 2 (by decide)
    change DataW.trod enc Tryd.prog w base spare held m 26 [c0, c1, c2, c3, c4, c5] = _ at h0
    change DataW.trod enc Tryd.prog w base spare held m 26 [c6, c7, c8, c9, c10, c11] = _ at h1
    change DataW.trod enc Tryd.prog w base spare held m 26 [c12, c13, c14, c15, c16, c17] = _ at h2
    obtain ⟨x, _, _, _, e0, wx, rx⟩ := open_fuel _ _ _ h0 f0
    obtain ⟨y, _, _, _, e1, wy, ry⟩ := open_fuel _ _ _ h1 f1
    obtain ⟨z, _, _, _, e2, wz, rz⟩ := open_fuel _ _ _ h2 f2
    simp only [List.cons.injEq, and_true] at e0 e1 e2
    obtain ⟨rfl, rfl, rfl, rfl, rfl, rfl⟩ := e0
    obtain ⟨rfl, rfl, rfl, rfl, rfl, rfl⟩ := e1
    obtain ⟨rfl, rfl, rfl, rfl, rfl, rfl⟩ := e2
    exact ⟨x, y, z, _, _, _, _, _, _, _, _, _, rfl, ⟨wx, wy, wz⟩, rx, ry, rz⟩
end
end Sp
end Go.Proofs.YtjbjgceblanhpaaDoor
