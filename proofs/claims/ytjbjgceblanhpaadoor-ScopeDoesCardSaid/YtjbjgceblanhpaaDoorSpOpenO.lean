/-
  What came in: a row of acts; three numbers, three data in an array.
-/
import Derived.Test.YtjbjgceblanhpaaDoorSpLaid
import Derived.Test.YtjbjgceblanhpaaDoorSpRow
namespace Go.Proofs.YtjbjgceblanhpaaDoor
open Go.Joins Go.ChangeShapes Go.WideShapes Go.RowKit Go.Deep
namespace Dt
section
variable {H : Type} {enc : TypeId × Value → H} {P : Program} {w : World} {base : Nat} {spare : Nat → Bool} {held : Bool}
/-- any field of a struct that came in -/
theorem trod_part {t : TypeId} {fs : Array Field} {fuel : Nat} {cs : List Value} {x : DataW H × List MemPlace} (hs : P.underlying t = some (.struct fs))
    (h : DataW.trod enc P w base spare held fuel t cs = some x) (hf : Fits P t x.1) :
    ∃ n, fuel = n + 1 ∧ cs.length = P.cellsOf t ∧ ∀ (i : Nat) (f : Field), fs[i]? = some f → ∃ y, DataW.trod enc P w base spare held n f.type ((cs.drop f.offset).take (P.cellsOf f.type)) = some y ∧ Fits P f.type y.1 := by
  obtain ⟨xs, n, hn, hx, hsz, hlen, hg⟩ := DataW.trod_struct hs h
  refine ⟨n, hn, hsz, fun i f hi => ?_⟩
  have hlt : i < xs.length := by rw [hlen]; exact (Array.getElem?_eq_some_iff.1 hi).1
  have h1 := hg i f hi
  rw [List.getElem?_eq_getElem hlt] at h1
  refine ⟨xs[i], h1, fun m hm => hf m ?_⟩
  rw [hx]
  simp only [DataW.weights, hs]
  refine DataW.weights_mem_each (j := i) (t := f.type) (d := xs[i].1) ?_ ?_ m hm
  · rw [List.getElem?_map, Array.getElem?_toList, hi]; rfl
  · rw [List.getElem?_map, List.getElem?_eq_getElem hlt]; rfl
end
end Dt
namespace Sp
open Dt
section
variable {H : Type} {enc : TypeId × Value → H} {w : World} {base : Nat} {spare : Nat → Bool} {held : Bool}
set_option maxRecDepth 100000 in
/-- an act that came in -/
theorem open_op {fuel : Nat} {cs : List Value} {y : DataW H × List MemPlace} (h : DataW.trod enc Tryd.prog w base spare held fuel 30 cs = some y) (hf : Fits Tryd.prog 30 y.1) :
    ∃ v : OV, cs = v.cells ∧ v.Good (fun _ => True) w := by
  have hC : Tryd.prog.cellsOf 30 = 16 := by kernel_rfl
  have hC6 : Tryd.prog.cellsOf 26 = 6 := by kernel_rfl
  have hC1 : Tryd.prog.cellsOf 3 = 1 := by kernel_rfl
  have hC8 : Tryd.prog.cellsOf 2 = 1 := by kernel_rfl
  obtain ⟨n, -, hlen, hg⟩ := trod_part Tryd.underlying30 h hf
  rw [hC] at hlen
  match cs, hlen with
  | [c0, c1, c2, c3, c4, c5, c6, c7, c8, c9, c10, c11, c12, c13, c14, c15], _ =>
    obtain ⟨y0, h0, -⟩ := hg 0 _ rfl
    obtain ⟨y1, h1, -⟩ := hg 1 _ rfl
    obtain ⟨y2, h2, -⟩ := hg 2 _ rfl
    obtain ⟨y3, h3, f3⟩ := hg 3 _ rfl
    obtain ⟨y4, h4, f4⟩ := hg 4 _ rfl
    obtain ⟨y5, h5, -⟩ := hg 5 _ rfl
    change DataW.trod enc Tryd.prog w base spare held n 3 (List.take (Tryd.prog.cellsOf 3) _) = some y0 at h0
    rw [hC1] at h0
    change DataW.trod enc Tryd.prog w base spare held n 3 [c0] = some y0 at h0
    change DataW.trod enc Tryd.prog w base spare held n 3 (List.take (Tryd.prog.cellsOf 3) _) = some y1 at h1
    rw [hC1] at h1
    change DataW.trod enc Tryd.prog w base spare held n 3 [c1] = some y1 at h1
    change DataW.trod enc Tryd.prog w base spare held n 3 (List.take (Tryd.prog.cellsOf 3) _) = some y2 at h2
    rw [hC1] at h2
    change DataW.trod enc Tryd.prog w base spare held n 3 [c2] = some y2 at h2
    change DataW.trod enc Tryd.prog w base spare held n 26 (List.take (Tryd.prog.cellsOf 26) _) = some y3 at h3
    rw [hC6] at h3
    change DataW.trod enc Tryd.prog w base spare held n 26 [c3, c4, c5, c6, c7, c8] = some y3 at h3
    change DataW.trod enc Tryd.prog w base spare held n 26 (List.take (Tryd.prog.cellsOf 26) _) = some y4 at h4
    rw [hC6] at h4
    change DataW.trod enc Tryd.prog w base spare held n 26 [c9, c10, c11, c12, c13, c14] = some y4 at h4
    change DataW.trod enc Tryd.prog w base spare held n 2 (List.take (Tryd.prog.cellsOf 2) _) = some y5 at h5
    rw [hC8] at h5
    change DataW.trod enc Tryd.prog w base spare held n 2 [c15] = some y5 at h5
    change Fits Tryd.prog 26 y3.1 at f3
    change Fits Tryd.prog 26 y4.1 at f4
    obtain ⟨k0, e0, _, _⟩ := DataW.trod_int Tryd.underlying3 h0
    obtain ⟨k1, e1, _, _⟩ := DataW.trod_int Tryd.underlying3 h1
    obtain ⟨k2, e2, _, _⟩ := DataW.trod_int Tryd.underlying3 h2
    obtain ⟨k5, e5, _, _⟩ := DataW.trod_int Tryd.underlying2 h5
    obtain ⟨x, vm, vl, vt, e3, hwx, hrx⟩ := open_fuel _ _ _ h3 f3
    obtain ⟨z, um, ul, ut, e4, hwz, hrz⟩ := open_fuel _ _ _ h4 f4
    simp only [List.cons.injEq, and_true] at e0 e1 e2 e3 e4 e5
    obtain ⟨rfl, rfl, rfl, rfl, rfl, rfl⟩ := e3
    obtain ⟨rfl, rfl, rfl, rfl, rfl, rfl⟩ := e4
    subst e0 e1 e2 e5
    exact ⟨⟨⟨k0, k1, k2, x, z, k5⟩, _, _, _, _, _, _⟩, rfl, ⟨hrx, hrz, hwx, hwz⟩⟩
set_option maxRecDepth 100000 in
theorem open_ops {r : Reach} {b0 : Nat} {v : Value} {d : DataW H} {p : List MemPlace}
    (hv : Value.okWide Tryd.prog w r b0 22 v) (h : DataW.Trod enc Tryd.prog w base spare held 22 v d p) (hf : Fits Tryd.prog 22 d) :
    ∃ (a : Option Addr) (c : Nat) (l : List O), v = .slice a l.length c ∧ InRow w a c l := by
  obtain ⟨fuel, hfu⟩ := h
  obtain ⟨a0, len0, cap0, rfl⟩ := okWide_slice Tryd.underlying22 hv
  rcases Dt.open_row Tryd.underlying22 hfu hf with h0 | ⟨a, len, cap, n, hn, hcs, hl, hb, hel⟩
  · have h0' : Value.slice a0 len0 cap0 = .slice none 0 0 := by simpa [Value.cells] using h0
    rw [h0']
    exact ⟨none, 0, [], rfl, ⟨⟨none, 0, rfl, Nat.le_refl _, fun h => absurd rfl h⟩, fun _ => rfl, by simp⟩⟩
  · have hcs' : Value.slice a0 len0 cap0 = .slice (some a) len cap := by simpa [Value.cells] using hcs
    rw [hcs']
    have hC : Tryd.prog.cellsOf 30 = 16 := by kernel_rfl
    have hB : Tryd.prog.bytesOf 30 = 240 := by kernel_rfl
    rw [hB] at hb
    rw [hC] at hel
    have hr : reachBytes = 140737488351232 := by decide
    obtain ⟨vs, hm, hq⟩ := gather (fun i (v : OV) => v.Good (fun _ => True) w ∧ ∀ j, j < 16 → w.cell? ((a.add (i * 16)).add j) = v.cells[j]?) len (fun i hi => by
      obtain ⟨cs', y, hc, ht, hfy⟩ := hel i hi
      obtain ⟨v, e0, hG⟩ := open_op ht hfy
      subst e0
      obtain ⟨_, _, hat⟩ := World.cells?_some hc
      exact ⟨v, hG, hat⟩)
    refine ⟨some a, cap, vs.map OV.x, by rw [List.length_map, hm], ⟨⟨some a, cap, rfl, by rw [List.length_map, hm]; exact hl, fun hne => ?_⟩, (fun h => by cases h), by rw [List.length_map]; omega⟩⟩
    have hne' : vs ≠ [] := fun e => hne (by rw [e]; rfl)
    have hpos : 0 < vs.length := List.length_pos_iff.2 hne'
    obtain ⟨b, off, spot⟩ := a
    have e0 := (hq 0 hpos).2 0 (by omega)
    rw [Nat.zero_mul] at e0
    have hsp : spot = none := by
      have e9 : (((⟨b, off, spot⟩ : Addr).add 0).add 0) = (⟨b, off, spot⟩ : Addr).add 0 := by unfold Addr.add; simp
      rw [e9] at e0
      exact spot_none (v := vs[0].cells[0]'(by show 0 < 16; omega)) e0 rfl
    subst hsp
    rw [add_none, add_none] at e0
    refine ⟨b, off, rfl, trivial, block_lt_of_cell (v := vs[0].cells[0]'(by show 0 < 16; omega)) e0, fun j hj => ?_⟩
    have hj' : j < vs.length := by rw [List.length_map] at hj; exact hj
    rw [List.getElem_map]
    obtain ⟨hG, h6⟩ := hq j hj'
    have cc : ∀ r, r < 16 → w.cell? ⟨b, off + j * 16 + r, none⟩ = vs[j].cells[r]? := fun r hr => by
      have := h6 r hr
      rw [add_none, add_none] at this
      exact this
    exact ⟨⟨cc 0 (by omega), cc 1 (by omega), cc 2 (by omega), cc 15 (by omega)⟩, ⟨_, _, _, ⟨cc 3 (by omega), cc 4 (by omega), cc 5 (by omega), cc 6 (by omega), cc 7 (by omega), cc 8 (by omega)⟩, hG.r1⟩, ⟨_, _, _, ⟨cc 9 (by omega), cc 10 (by omega), cc 11 (by omega), cc 12 (by omega), cc 13 (by omega), cc 14 (by omega)⟩, hG.r2⟩, hG.w1, hG.w2⟩
end
end Sp
end Go.Proofs.YtjbjgceblanhpaaDoor
