/-
  What came in: a program by value.
-/
import Derived.Test.YtlckjphnbfahgaaGreatDoorCdModel
import Derived.Test.YtlckjphnbfahgaaGreatDoorDtOpen
import Derived.Test.YtlckjphnbfahgaaGreatDoorPost
import Derived.Lib.SmallJoins
namespace Go.Proofs.YtlckjphnbfahgaaGreatDoor
open Go.Joins Go.ChangeShapes Go.WideShapes Go.RowKit Go.Deep
namespace Cd
open Dt
section
variable {H : Type} {enc : TypeId × Value → H} {P : Program} {w : World} {base : Nat} {spare : Nat → Bool} {held : Bool}
/-- any field of a struct that came in -/
theorem trod_part {t : TypeId} {fs : Array Field} {fuel : Nat} {cs : List Value} {x : DataW H × List MemPlace} (hs : P.underlying t = some (.struct fs))
    (h : DataW.trod enc P w base spare held fuel t cs = some x) (hf : Fits P t x.1) :
    ∃ n, fuel = n + 1 ∧ cs.length = P.cellsOf t ∧ ∀ (i : Nat) (f : Field), fs[i]? = some f → ∃ y, DataW.trod enc P w base spare held n f.type ((cs.drop f.offset).take (P.cellsOf f.type)) = some y ∧ Fits P f.type y.1 := by
  obtain ⟨xs, n, hn, hx, hsz, hlen, hg⟩ := DataW.trod_struct hs h
  refine ⟨n, hn, hsz, fun i f hi => ?_⟩
  have hlt : i < xs.length := by rw [hlen]; exact (Array.getElem?_eq_some_iff.1 hi).1
  have h1 := hg i f hi
  rw [List.getElem?_eq_getElem hlt] at h1
  refine ⟨xs[i], h1, fun m hm => hf m ?_⟩
  rw [hx]
  simp only [DataW.weights, hs]
  refine DataW.weights_mem_each (j := i) (t := f.type) (d := xs[i].1) ?_ ?_ m hm
  · rw [List.getElem?_map, Array.getElem?_toList, hi]; rfl
  · rw [List.getElem?_map, List.getElem?_eq_getElem hlt]; rfl
theorem i64_of {z : Int} (hz : (Lit.int .i64 z).wf = true) : I64 z := by
  have hz' : (decide (IntKind.i64.min ≤ z) && decide (z ≤ IntKind.i64.max)) = true := hz
  rw [show IntKind.i64.min = -9223372036854775808 by decide, show IntKind.i64.max = 9223372036854775807 by decide] at hz'
  simpa [I64] using hz'
set_option maxRecDepth 100000 in
theorem open_ins {fuel : Nat} {cs : List Value} {y : DataW H × List MemPlace} (h : DataW.trod enc Tryz.prog w base spare held fuel 55 cs = some y) (hf : Fits Tryz.prog 55 y.1) :
    ∃ x : Ins, cs = [.int .i64 x.o, .int .i64 x.a, .int .i64 x.b] ∧ I64 x.o ∧ I64 x.a ∧ I64 x.b := by
  have hC : Tryz.prog.cellsOf 55 = 3 := by kernel_rfl
  have hC1 : Tryz.prog.cellsOf 3 = 1 := by kernel_rfl
  obtain ⟨n, -, hlen, hg⟩ := trod_part Tryz.underlying55 h hf
  rw [hC] at hlen
  match cs, hlen with
  | [c0, c1, c2], _ =>
    obtain ⟨y0, h0, -⟩ := hg 0 _ rfl
    obtain ⟨y1, h1, -⟩ := hg 1 _ rfl
    obtain ⟨y2, h2, -⟩ := hg 2 _ rfl
    change DataW.trod enc Tryz.prog w base spare held n 3 (List.take (Tryz.prog.cellsOf 3) _) = some y0 at h0
    rw [hC1] at h0
    change DataW.trod enc Tryz.prog w base spare held n 3 [c0] = some y0 at h0
    change DataW.trod enc Tryz.prog w base spare held n 3 (List.take (Tryz.prog.cellsOf 3) _) = some y1 at h1
    rw [hC1] at h1
    change DataW.trod enc Tryz.prog w base spare held n 3 [c1] = some y1 at h1
    change DataW.trod enc Tryz.prog w base spare held n 3 (List.take (Tryz.prog.cellsOf 3) _) = some y2 at h2
    rw [hC1] at h2
    change DataW.trod enc Tryz.prog w base spare held n 3 [c2] = some y2 at h2
    obtain ⟨k0, e0, _, z0⟩ := DataW.trod_int Tryz.underlying3 h0
    obtain ⟨k1, e1, _, z1⟩ := DataW.trod_int Tryz.underlying3 h1
    obtain ⟨k2, e2, _, z2⟩ := DataW.trod_int Tryz.underlying3 h2
    simp only [List.cons.injEq, and_true] at e0 e1 e2
    subst e0 e1 e2
    exact ⟨⟨k0, k1, k2⟩, rfl, i64_of z0, i64_of z1, i64_of z2⟩
set_option maxRecDepth 100000 in
theorem open_insrow {fuel : Nat} {v : Value} {x : DataW H × List MemPlace} (h : DataW.trod enc Tryz.prog w base spare held fuel 45 [v] = some x) (hf : Fits Tryz.prog 45 x.1) :
    ∃ l : List Ins, InsRow (fun _ => True) w v l ∧ l.length ≤ 140737488355328 ∧ ∀ x ∈ l, I64 x.o ∧ I64 x.a ∧ I64 x.b := by
  rcases open_row Tryz.underlying45 h hf with h0 | ⟨a, len, cap, n, -, hcs, hl, hb, hel⟩
  · obtain rfl : v = .slice none 0 0 := by simpa using h0
    exact ⟨[], ⟨none, 0, rfl, Nat.le_refl _, fun h => absurd rfl h⟩, by simp, by simp⟩
  · obtain rfl : v = .slice (some a) len cap := by simpa using hcs
    have hC : Tryz.prog.cellsOf 55 = 3 := by kernel_rfl
    have hB : Tryz.prog.bytesOf 55 = 24 := by kernel_rfl
    rw [hB] at hb
    rw [hC] at hel
    have hr : reachBytes = 140737488351232 := by decide
    obtain ⟨m, hm, hq⟩ := gather (fun i (y : Ins) => (I64 y.o ∧ I64 y.a ∧ I64 y.b) ∧ ∀ j, j < 3 → w.cell? ((a.add (i * 3)).add j) = [Value.int .i64 y.o, .int .i64 y.a, .int .i64 y.b][j]?) len (fun i hi => by
      obtain ⟨cs', y, hc, ht, hfy⟩ := hel i hi
      obtain ⟨z, e0, hz⟩ := open_ins ht hfy
      subst e0
      obtain ⟨_, _, hat⟩ := World.cells?_some hc
      exact ⟨z, hz, hat⟩)
    refine ⟨m, ⟨some a, cap, by rw [hm], by omega, fun hn => ?_⟩, by omega, fun y hy => ?_⟩
    · have hpos : 0 < m.length := List.length_pos_iff.2 hn
      obtain ⟨b, off, spot⟩ := a
      have e0 := (hq 0 hpos).2 0 (by omega)
      rw [Nat.zero_mul] at e0
      have hsp : spot = none := by
        have e9 : (((⟨b, off, spot⟩ : Addr).add 0).add 0) = (⟨b, off, spot⟩ : Addr).add 0 := by unfold Addr.add; simp
        rw [e9] at e0
        exact spot_none e0 rfl
      subst hsp
      rw [add_none, add_none] at e0
      refine ⟨b, off, rfl, trivial, block_lt_of_cell e0, fun j hj => ?_⟩
      have h6 := (hq j hj).2
      refine ⟨?_, ?_, ?_⟩
      · have := h6 0 (by omega); rw [add_none, add_none] at this; exact this
      · have := h6 1 (by omega); rw [add_none, add_none] at this; exact this
      · have := h6 2 (by omega); rw [add_none, add_none] at this; exact this
    · obtain ⟨j, hj, rfl⟩ := List.getElem_of_mem hy
      exact (hq j hj).1
set_option maxRecDepth 100000 in
theorem open_names {fuel : Nat} {v : Value} {x : DataW H × List MemPlace} (h : DataW.trod enc Tryz.prog w base spare held fuel 24 [v] = some x) (hf : Fits Tryz.prog 24 x.1) :
    ∃ l : List ByteArray, NameRow (fun _ => True) w v l ∧ l.length ≤ 140737488355328 ∧ ∀ s ∈ l, s.size ≤ 140737488355328 := by
  rcases open_row Tryz.underlying24 h hf with h0 | ⟨a, len, cap, n, -, hcs, hl, hb, hel⟩
  · obtain rfl : v = .slice none 0 0 := by simpa using h0
    exact ⟨[], ⟨none, 0, rfl, Nat.le_refl _, fun h => absurd rfl h⟩, by simp, by simp⟩
  · obtain rfl : v = .slice (some a) len cap := by simpa using hcs
    have hC : Tryz.prog.cellsOf 9 = 1 := by kernel_rfl
    have hB : Tryz.prog.bytesOf 9 = 16 := by kernel_rfl
    rw [hB] at hb
    rw [hC] at hel
    have hr : reachBytes = 140737488351232 := by decide
    obtain ⟨m, hm, hq⟩ := gather (fun i (s : ByteArray) => w.cell? (a.add i) = some (.string s) ∧ s.size ≤ 140737488355328) len (fun i hi => by
      obtain ⟨cs', y, hc, ht, hfy⟩ := hel i hi
      obtain ⟨s, e2, hx2, hs⟩ := DataW.trod_string Tryz.underlying9 ht
      subst e2
      obtain ⟨_, _, hat⟩ := World.cells?_some hc
      have g0 := hat 0 (by omega)
      rw [Nat.mul_one] at g0
      have e9 : (a.add i).add 0 = a.add i := by unfold Addr.add; rw [if_pos rfl]
      rw [e9] at g0
      refine ⟨s, g0, ?_⟩
      have h9 := hfy s.data.toList.length (by rw [hx2]; simp [DataW.weights])
      have e9 : s.data.toList.length = s.size := by rw [Array.length_toList]; rfl
      omega)
    refine ⟨m, ⟨some a, cap, by rw [hm], by omega, fun hn => ?_⟩, by omega, fun y hy => ?_⟩
    · have hpos : 0 < m.length := List.length_pos_iff.2 hn
      obtain ⟨b, off, spot⟩ := a
      obtain rfl := spot_none (hq 0 hpos).1 rfl
      refine ⟨b, off, rfl, trivial, ?_, fun j hj => ?_⟩
      · have := (hq 0 hpos).1
        rw [add_none] at this
        exact block_lt_of_cell this
      · have := (hq j hj).1
        rw [add_none] at this
        exact this
    · obtain ⟨j, hj, rfl⟩ := List.getElem_of_mem hy
      exact (hq j hj).2
/-- what is known of a code that came in -/
def CWf (c : Code) : Prop := I64 c.params ∧ I64 c.rest ∧ I64 c.caps ∧ I64 c.max ∧ c.ins.length ≤ 140737488355328 ∧ ∀ x ∈ c.ins, I64 x.o ∧ I64 x.a ∧ I64 x.b
set_option maxRecDepth 100000 in
theorem open_code {fuel : Nat} {cs : List Value} {y : DataW H × List MemPlace} (h : DataW.trod enc Tryz.prog w base spare held fuel 47 cs = some y) (hf : Fits Tryz.prog 47 y.1) :
    ∃ (c : Code) (v : Value), cs = [.int .i64 c.params, .int .i64 c.rest, .int .i64 c.caps, .int .i64 c.max, v] ∧ InsRow (fun _ => True) w v c.ins ∧ CWf c := by
  have hC : Tryz.prog.cellsOf 47 = 5 := by kernel_rfl
  have hC1 : Tryz.prog.cellsOf 3 = 1 := by kernel_rfl
  have hC2 : Tryz.prog.cellsOf 45 = 1 := by kernel_rfl
  obtain ⟨n, -, hlen, hg⟩ := trod_part Tryz.underlying47 h hf
  rw [hC] at hlen
  match cs, hlen with
  | [c0, c1, c2, c3, c4], _ =>
    obtain ⟨y0, h0, -⟩ := hg 0 _ rfl
    obtain ⟨y1, h1, -⟩ := hg 1 _ rfl
    obtain ⟨y2, h2, -⟩ := hg 2 _ rfl
    obtain ⟨y3, h3, -⟩ := hg 3 _ rfl
    obtain ⟨y4, h4, f4⟩ := hg 4 _ rfl
    change DataW.trod enc Tryz.prog w base spare held n 3 (List.take (Tryz.prog.cellsOf 3) _) = some y0 at h0
    rw [hC1] at h0
    change DataW.trod enc Tryz.prog w base spare held n 3 [c0] = some y0 at h0
    change DataW.trod enc Tryz.prog w base spare held n 3 (List.take (Tryz.prog.cellsOf 3) _) = some y1 at h1
    rw [hC1] at h1
    change DataW.trod enc Tryz.prog w base spare held n 3 [c1] = some y1 at h1
    change DataW.trod enc Tryz.prog w base spare held n 3 (List.take (Tryz.prog.cellsOf 3) _) = some y2 at h2
    rw [hC1] at h2
    change DataW.trod enc Tryz.prog w base spare held n 3 [c2] = some y2 at h2
    change DataW.trod enc Tryz.prog w base spare held n 3 (List.take (Tryz.prog.cellsOf 3) _) = some y3 at h3
    rw [hC1] at h3
    change DataW.trod enc Tryz.prog w base spare held n 3 [c3] = some y3 at h3
    change DataW.trod enc Tryz.prog w base spare held n 45 (List.take (Tryz.prog.cellsOf 45) _) = some y4 at h4
    rw [hC2] at h4
    change DataW.trod enc Tryz.prog w base spare held n 45 [c4] = some y4 at h4
    change Fits Tryz.prog 45 y4.1 at f4
    obtain ⟨k0, e0, _, z0⟩ := DataW.trod_int Tryz.underlying3 h0
    obtain ⟨k1, e1, _, z1⟩ := DataW.trod_int Tryz.underlying3 h1
    obtain ⟨k2, e2, _, z2⟩ := DataW.trod_int Tryz.underlying3 h2
    obtain ⟨k3, e3, _, z3⟩ := DataW.trod_int Tryz.underlying3 h3
    obtain ⟨l, hl, hll, hlw⟩ := open_insrow h4 f4
    simp only [List.cons.injEq, and_true] at e0 e1 e2 e3
    subst e0 e1 e2 e3
    exact ⟨⟨k0, k1, k2, k3, l⟩, c4, rfl, hl, i64_of z0, i64_of z1, i64_of z2, i64_of z3, hll, hlw⟩
set_option maxRecDepth 100000 in
theorem open_codes {fuel : Nat} {v : Value} {x : DataW H × List MemPlace} (h : DataW.trod enc Tryz.prog w base spare held fuel 22 [v] = some x) (hf : Fits Tryz.prog 22 x.1) :
    ∃ l : List Code, CodeRow (fun _ => True) w v l ∧ l.length ≤ 140737488355328 ∧ ∀ c ∈ l, CWf c := by
  rcases open_row Tryz.underlying22 h hf with h0 | ⟨a, len, cap, n, -, hcs, hl, hb, hel⟩
  · obtain rfl : v = .slice none 0 0 := by simpa using h0
    exact ⟨[], ⟨none, 0, rfl, Nat.le_refl _, fun h => absurd rfl h⟩, by simp, by simp⟩
  · obtain rfl : v = .slice (some a) len cap := by simpa using hcs
    have hC : Tryz.prog.cellsOf 47 = 5 := by kernel_rfl
    have hB : Tryz.prog.bytesOf 47 = 56 := by kernel_rfl
    rw [hB] at hb
    rw [hC] at hel
    have hr : reachBytes = 140737488351232 := by decide
    obtain ⟨m, hm, hq⟩ := gather (fun i (y : Code) => CWf y ∧ ∃ vi, InsRow (fun _ => True) w vi y.ins ∧ ∀ j, j < 5 → w.cell? ((a.add (i * 5)).add j) = [Value.int .i64 y.params, .int .i64 y.rest, .int .i64 y.caps, .int .i64 y.max, vi][j]?) len (fun i hi => by
      obtain ⟨cs', y, hc, ht, hfy⟩ := hel i hi
      obtain ⟨z, vi, e0, hz, hw⟩ := open_code ht hfy
      subst e0
      obtain ⟨_, _, hat⟩ := World.cells?_some hc
      exact ⟨z, hw, vi, hz, hat⟩)
    refine ⟨m, ⟨some a, cap, by rw [hm], by omega, fun hn => ?_⟩, by omega, fun y hy => ?_⟩
    · have hpos : 0 < m.length := List.length_pos_iff.2 hn
      obtain ⟨b, off, spot⟩ := a
      obtain ⟨_, v0, _, h0⟩ := hq 0 hpos
      have e0 := h0 0 (by omega)
      rw [Nat.zero_mul] at e0
      have hsp : spot = none := by
        have e9 : (((⟨b, off, spot⟩ : Addr).add 0).add 0) = (⟨b, off, spot⟩ : Addr).add 0 := by unfold Addr.add; simp
        rw [e9] at e0
        exact spot_none e0 rfl
      subst hsp
      rw [add_none, add_none] at e0
      refine ⟨b, off, rfl, trivial, block_lt_of_cell e0, fun j hj => ?_⟩
      obtain ⟨_, vi, hv, h6⟩ := hq j hj
      refine ⟨?_, ?_, ?_, ?_, vi, ?_, hv⟩
      · have := h6 0 (by omega); rw [add_none, add_none] at this; exact this
      · have := h6 1 (by omega); rw [add_none, add_none] at this; exact this
      · have := h6 2 (by omega); rw [add_none, add_none] at this; exact this
      · have := h6 3 (by omega); rw [add_none, add_none] at this; exact this
      · have := h6 4 (by omega); rw [add_none, add_none] at this; exact this
    · obtain ⟨j, hj, rfl⟩ := List.getElem_of_mem hy
      exact (hq j hj).1
set_option maxRecDepth 100000 in
/-- a program that came in -/
theorem open_prog {r : Reach} {b0 : Nat} {v : Value} {d : DataW H} {p : List MemPlace}
    (hv : Value.okWide Tryz.prog w r b0 26 v) (h : DataW.Trod enc Tryz.prog w base spare held 26 v d p) (hf : Fits Tryz.prog 26 d) :
    ∃ (x : Prog) (vc vk vn : Value), v = .agg #[vc, vk, vn] ∧ PWf x ∧ PRep (fun _ => True) w x vc vk vn := by
  obtain ⟨cs, rfl, hsz⟩ := okWide_struct Tryz.underlying26 hv
  obtain ⟨fuel, hfu⟩ := h
  have hC : Tryz.prog.cellsOf 26 = 3 := by kernel_rfl
  have hC1 : Tryz.prog.cellsOf 22 = 1 := by kernel_rfl
  have hC2 : Tryz.prog.cellsOf 23 = 1 := by kernel_rfl
  have hC3 : Tryz.prog.cellsOf 24 = 1 := by kernel_rfl
  obtain ⟨n, -, hlen, hg⟩ := trod_part Tryz.underlying26 hfu hf
  rw [hC] at hlen
  obtain ⟨l⟩ := cs
  match l, hlen with
  | [c0, c1, c2], _ =>
    obtain ⟨y0, h0, f0⟩ := hg 0 _ rfl
    obtain ⟨y1, h1, f1⟩ := hg 1 _ rfl
    obtain ⟨y2, h2, f2⟩ := hg 2 _ rfl
    change DataW.trod enc Tryz.prog w base spare held n 22 (List.take (Tryz.prog.cellsOf 22) _) = some y0 at h0
    rw [hC1] at h0
    change DataW.trod enc Tryz.prog w base spare held n 22 [c0] = some y0 at h0
    change Fits Tryz.prog 22 y0.1 at f0
    change DataW.trod enc Tryz.prog w base spare held n 23 (List.take (Tryz.prog.cellsOf 23) _) = some y1 at h1
    rw [hC2] at h1
    change DataW.trod enc Tryz.prog w base spare held n 23 [c1] = some y1 at h1
    change Fits Tryz.prog 23 y1.1 at f1
    change DataW.trod enc Tryz.prog w base spare held n 24 (List.take (Tryz.prog.cellsOf 24) _) = some y2 at h2
    rw [hC3] at h2
    change DataW.trod enc Tryz.prog w base spare held n 24 [c2] = some y2 at h2
    change Fits Tryz.prog 24 y2.1 at f2
    obtain ⟨lc, hc, hcl, hcw⟩ := open_codes h0 f0
    obtain ⟨lk, hk, hkl, hkw⟩ := open_data h1 f1 (fun n' _ cs y => open_fuel n' cs y)
    obtain ⟨ln, hn, hnl, hnw⟩ := open_names h2 f2
    exact ⟨⟨lc, lk, ln⟩, c0, c1, c2, rfl, ⟨hcl, hkl, hnl, hkw, hnw, hcw⟩, ⟨hc, hk, hn⟩⟩
end
end Cd
end Go.Proofs.YtlckjphnbfahgaaGreatDoor
