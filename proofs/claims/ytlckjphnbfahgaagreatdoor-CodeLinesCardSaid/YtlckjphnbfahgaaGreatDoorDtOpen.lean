/-
  A datum that came in: what it is, how it lies.
-/
import Derived.Test.YtlckjphnbfahgaaGreatDoorDtOwnP
import Derived.Deep.Slices
import Derived.Deep.Fields
import Derived.SizedLaws
namespace Go.Proofs.YtlckjphnbfahgaaGreatDoor
open Go.ChangeShapes Go.WideShapes Go.RowKit Go.Deep
namespace Dt
section
variable {H : Type} {enc : TypeId × Value → H} {P : Program} {w : World} {base : Nat} {spare : Nat → Bool} {held : Bool}
theorem weights_all {e : TypeId} : ∀ {l : List (DataW H)} {d : DataW H}, d ∈ l → ∀ n ∈ d.weights P e, n ∈ DataW.weightsAll P e l
  | a :: l, d, hd, n, hn => by
    simp only [DataW.weightsAll, List.mem_append]
    rcases List.mem_cons.1 hd with rfl | hd
    · exact .inl hn
    · exact .inr (weights_all hd n hn)
/-- what is read fits -/
def Fits (P : Program) (t : TypeId) (d : DataW H) : Prop := ∀ n ∈ d.weights P t, n ≤ reachBytes
theorem trod_six {t : TypeId} {f0 f1 f2 f3 f4 f5 : Field} {fuel : Nat} {cs : List Value} {x : DataW H × List MemPlace} (hs : P.underlying t = some (.struct #[f0, f1, f2, f3, f4, f5])) (hone : oneCellFields P #[f0, f1, f2, f3, f4, f5] = true) (hC : P.cellsOf t = 6)
    (h : DataW.trod enc P w base spare held fuel t cs = some x) (hf : Fits P t x.1) :
    ∃ (v0 v1 v2 v3 v4 v5 : Value) (y0 y1 y2 y3 y4 y5 : DataW H × List MemPlace) (n : Nat), fuel = n + 1 ∧ cs = [v0, v1, v2, v3, v4, v5] ∧
      (DataW.trod enc P w base spare held n f0.type [v0] = some y0 ∧ Fits P f0.type y0.1) ∧ (DataW.trod enc P w base spare held n f1.type [v1] = some y1 ∧ Fits P f1.type y1.1) ∧ (DataW.trod enc P w base spare held n f2.type [v2] = some y2 ∧ Fits P f2.type y2.1) ∧ (DataW.trod enc P w base spare held n f3.type [v3] = some y3 ∧ Fits P f3.type y3.1) ∧ (DataW.trod enc P w base spare held n f4.type [v4] = some y4 ∧ Fits P f4.type y4.1) ∧ (DataW.trod enc P w base spare held n f5.type [v5] = some y5 ∧ Fits P f5.type y5.1) := by
  obtain ⟨xs, n, hn, hx, hsz, hlen, hg⟩ := DataW.trod_struct hs h
  match cs, hsz.trans hC with
  | [c0, c1, c2, c3, c4, c5], _ =>
    obtain ⟨o0, k0⟩ := hone_of hone 0 f0 rfl
    obtain ⟨o1, k1⟩ := hone_of hone 1 f1 rfl
    obtain ⟨o2, k2⟩ := hone_of hone 2 f2 rfl
    obtain ⟨o3, k3⟩ := hone_of hone 3 f3 rfl
    obtain ⟨o4, k4⟩ := hone_of hone 4 f4 rfl
    obtain ⟨o5, k5⟩ := hone_of hone 5 f5 rfl
    match xs, hlen with
    | [y0, y1, y2, y3, y4, y5], _ =>
      have hw : ∀ (i : Nat) (f : Field) (y : DataW H × List MemPlace), #[f0, f1, f2, f3, f4, f5][i]? = some f → [y0, y1, y2, y3, y4, y5][i]? = some y → Fits P f.type y.1 := by
        intro i f y h1 h2 m hm
        refine hf m ?_
        rw [hx]
        show m ∈ (DataW.agg ([y0, y1, y2, y3, y4, y5].map (·.1))).weights P t
        simp only [DataW.weights, hs]
        refine DataW.weights_mem_each (j := i) (t := f.type) (d := y.1) ?_ ?_ m hm
        · rw [List.getElem?_map, Array.getElem?_toList, h1]; rfl
        · rw [List.getElem?_map, h2]; rfl
      exact ⟨c0, c1, c2, c3, c4, c5, y0, y1, y2, y3, y4, y5, n, hn, rfl, ⟨by simpa [o0, k0] using hg 0 f0 rfl, hw 0 f0 y0 rfl rfl⟩, ⟨by simpa [o1, k1] using hg 1 f1 rfl, hw 1 f1 y1 rfl rfl⟩, ⟨by simpa [o2, k2] using hg 2 f2 rfl, hw 2 f2 y2 rfl rfl⟩, ⟨by simpa [o3, k3] using hg 3 f3 rfl, hw 3 f3 y3 rfl rfl⟩, ⟨by simpa [o4, k4] using hg 4 f4 rfl, hw 4 f4 y4 rfl rfl⟩, ⟨by simpa [o5, k5] using hg 5 f5 rfl, hw 5 f5 y5 rfl rfl⟩⟩
/-- a slice that came in -/
theorem open_row {t e : TypeId} {fuel : Nat} {cs : List Value} {x : DataW H × List MemPlace} (ht : P.underlying t = some (.slice e)) (h : DataW.trod enc P w base spare held fuel t cs = some x) (hf : Fits P t x.1) :
    (cs = [.slice none 0 0]) ∨ ∃ (a : Addr) (len cap n : Nat), fuel = n + 1 ∧ cs = [.slice (some a) len cap] ∧ len ≤ cap ∧ len * P.bytesOf e ≤ reachBytes ∧
      ∀ i, i < len → ∃ cs' y, w.cells? base (a.add (i * P.cellsOf e)) (P.cellsOf e) = some cs' ∧ DataW.trod enc P w base spare held n e cs' = some y ∧ Fits P e y.1 := by
  rcases DataW.trod_slice ht h with ⟨h0, _⟩ | ⟨a, len, cap, elems, rest, n, hn, hcs, hx, hb, hl, hm, hlen, hel, _, _⟩
  · exact .inl h0
  refine .inr ⟨a, len, cap, n, hn, hcs, hl, ?_, fun i hi => ?_⟩
  · have h9 := hf ((elems.length + rest.length) * P.bytesOf e) (by rw [hx]; simp [DataW.weights, ht])
    rw [hlen] at h9
    exact Nat.le_trans (Nat.mul_le_mul_right _ (Nat.le_add_right _ _)) h9
  · have h1 := hel i hi
    rw [List.getElem?_eq_getElem (by omega)] at h1
    obtain ⟨cs', h2, h3⟩ := Option.bind_eq_some_iff.1 h1
    refine ⟨cs', elems[i], h2, h3, fun m hm' => hf m ?_⟩
    rw [hx]
    simp only [DataW.weights, ht, List.mem_cons, List.mem_append]
    exact .inr (.inl (weights_all (List.mem_map_of_mem (List.getElem_mem _)) m hm'))
end
theorem cell_lt' {w : World} {b o : Nat} {v : Value} (h : w.cell? ⟨b, o, none⟩ = some v) : b < w.heap.size := block_lt_of_cell h
/-- a list out of what is so at each place -/
theorem gather {α : Type} (Q : Nat → α → Prop) : ∀ n, (∀ i, i < n → ∃ t, Q i t) → ∃ l : List α, l.length = n ∧ ∀ j, (h : j < l.length) → Q j l[j]
  | 0, _ => ⟨[], rfl, fun j h => absurd h (by simp)⟩
  | n + 1, h => by
    obtain ⟨l, hl, hq⟩ := gather Q n (fun i hi => h i (by omega))
    obtain ⟨t, ht⟩ := h n (by omega)
    refine ⟨l ++ [t], by simp [hl], fun j hj => ?_⟩
    by_cases e : j < l.length
    · rw [List.getElem_append_left e]; exact hq j e
    · have : j = l.length := by simp at hj; omega
      subst this
      rw [List.getElem_append_right (by omega)]
      simpa [hl] using ht
theorem add_none {b o i : Nat} : (⟨b, o, none⟩ : Addr).add i = ⟨b, o + i, none⟩ := by unfold Addr.add; split <;> simp_all
theorem spot_none {w : World} {b o : Nat} {spot : Option Nat} {i : Nat} {v : Value} (h : w.cell? ((⟨b, o, spot⟩ : Addr).add i) = some v) (hi : i = 0) : spot = none := by
  subst hi
  have := World.cell?_spot h
  simpa [Addr.add] using this
section
variable {H : Type} {enc : TypeId × Value → H} {w : World} {base : Nat} {spare : Nat → Bool} {held : Bool}
set_option maxRecDepth 100000 in
theorem open_ints {fuel : Nat} {v : Value} {x : DataW H × List MemPlace} (h : DataW.trod enc Tryz.prog w base spare held fuel 42 [v] = some x) (hf : Fits Tryz.prog 42 x.1) :
    ∃ m : List Int, IRow (fun _ => True) w v m ∧ m.length ≤ 140737488355328 ∧ ∀ y ∈ m, -9223372036854775808 ≤ y ∧ y ≤ 9223372036854775807 := by
  rcases open_row Tryz.underlying42 h hf with h0 | ⟨a, len, cap, n, -, hcs, hl, hb, hel⟩
  · obtain rfl : v = .slice none 0 0 := by simpa using h0
    exact ⟨[], ⟨none, 0, rfl, Nat.le_refl _, fun h => absurd rfl h⟩, by simp, by simp⟩
  · obtain rfl : v = .slice (some a) len cap := by simpa using hcs
    have hC : Tryz.prog.cellsOf 3 = 1 := by kernel_rfl
    have hB : Tryz.prog.bytesOf 3 = 8 := by kernel_rfl
    rw [hB] at hb
    rw [hC] at hel
    have hr : reachBytes = 140737488351232 := by decide
    obtain ⟨m, hm, hq⟩ := gather (fun i (y : Int) => w.cell? (a.add i) = some (.int .i64 y) ∧ -9223372036854775808 ≤ y ∧ y ≤ 9223372036854775807) len (fun i hi => by
      obtain ⟨cs', y, hc, ht, _⟩ := hel i hi
      obtain ⟨z, e0, _, hz⟩ := DataW.trod_int Tryz.underlying3 ht
      subst e0
      obtain ⟨_, _, hat⟩ := World.cells?_some hc
      have g0 := hat 0 (by omega)
      rw [Nat.mul_one] at g0
      have hz' : (decide (IntKind.i64.min ≤ z) && decide (z ≤ IntKind.i64.max)) = true := hz
      rw [show IntKind.i64.min = -9223372036854775808 by decide, show IntKind.i64.max = 9223372036854775807 by decide] at hz'
      simp only [Bool.and_eq_true, decide_eq_true_eq] at hz'
      refine ⟨z, ?_, hz'⟩
      have e9 : (a.add i).add 0 = a.add i := by unfold Addr.add; rw [if_pos rfl]
      rw [e9] at g0
      exact g0)
    refine ⟨m, ⟨some a, cap, by rw [hm], by omega, fun hn => ?_⟩, by omega, fun y hy => ?_⟩
    · have hpos : 0 < m.length := List.length_pos_iff.2 hn
      obtain ⟨b, off, spot⟩ := a
      obtain rfl := spot_none (hq 0 hpos).1 rfl
      refine ⟨b, off, rfl, trivial, ?_, fun j hj => ?_⟩
      · have := (hq 0 hpos).1
        rw [add_none] at this
        exact block_lt_of_cell this
      · have := (hq j hj).1
        rw [add_none] at this
        exact this
    · obtain ⟨j, hj, rfl⟩ := List.getElem_of_mem hy
      exact (hq j hj).2
theorem wfs_of {l : List D} (h : ∀ j, (hj : j < l.length) → Wf l[j]) : Wfs l := by
  induction l with
  | nil => rw [Wfs]; trivial
  | cons a l ih =>
    rw [Wfs]
    exact ⟨h 0 (by simp), ih (fun j hj => h (j + 1) (by simpa using hj))⟩
set_option maxRecDepth 100000 in
/-- a row of data, each of which may be opened -/
theorem open_data {fuel : Nat} {v : Value} {x : DataW H × List MemPlace} (h : DataW.trod enc Tryz.prog w base spare held fuel 23 [v] = some x) (hf : Fits Tryz.prog 23 x.1)
    (ih : ∀ n, n < fuel → ∀ cs y, DataW.trod enc Tryz.prog w base spare held n 52 cs = some y → Fits Tryz.prog 52 y.1 → ∃ (d : D) (vm vl vt : Value), cs = [.int .i64 d.k, .int .i64 d.n, .string d.s, vm, vl, vt] ∧ Wf d ∧ Rep (fun _ => True) w d vm vl vt) :
    ∃ l : List D, Row (fun _ => True) w v l ∧ l.length ≤ 140737488355328 ∧ Wfs l := by
  rcases open_row Tryz.underlying23 h hf with h0 | ⟨a, len, cap, n, hn, hcs, hl, hb, hel⟩
  · obtain rfl : v = .slice none 0 0 := by simpa using h0
    exact ⟨[], ⟨none, 0, rfl, Nat.le_refl _, fun h => absurd rfl h⟩, by simp, by rw [Wfs]; trivial⟩
  · obtain rfl : v = .slice (some a) len cap := by simpa using hcs
    have hC : Tryz.prog.cellsOf 52 = 6 := by kernel_rfl
    have hB : Tryz.prog.bytesOf 52 = 104 := by kernel_rfl
    rw [hB] at hb
    rw [hC] at hel
    have hr : reachBytes = 140737488351232 := by decide
    obtain ⟨l, hm, hq⟩ := gather (fun i (d : D) => Wf d ∧ ∃ vm vl vt, Rep (fun _ => True) w d vm vl vt ∧ ∀ j, j < 6 → w.cell? ((a.add (i * 6)).add j) = [Value.int .i64 d.k, .int .i64 d.n, .string d.s, vm, vl, vt][j]?) len (fun i hi => by
      obtain ⟨cs', y, hc, ht, hfy⟩ := hel i hi
      obtain ⟨d, vm, vl, vt, e0, hw, hr⟩ := ih n (by omega) cs' y ht hfy
      subst e0
      obtain ⟨_, _, hat⟩ := World.cells?_some hc
      exact ⟨d, hw, vm, vl, vt, hr, hat⟩)
    refine ⟨l, ⟨some a, cap, by rw [hm], by omega, fun hne => ?_⟩, by omega, wfs_of (fun j hj => (hq j hj).1)⟩
    have hpos : 0 < l.length := List.length_pos_iff.2 hne
    obtain ⟨b, off, spot⟩ := a
    obtain ⟨_, vm, vl, vt, _, h6⟩ := hq 0 hpos
    have e0 := h6 0 (by omega)
    rw [Nat.zero_mul] at e0
    have hsp : spot = none := by
      have e9 : (((⟨b, off, spot⟩ : Addr).add 0).add 0) = (⟨b, off, spot⟩ : Addr).add 0 := by unfold Addr.add; simp
      rw [e9] at e0
      exact spot_none e0 rfl
    subst hsp
    rw [add_none, add_none] at e0
    refine ⟨b, off, rfl, trivial, block_lt_of_cell e0, Reps.of (fun j hj => ?_)⟩
    obtain ⟨_, vm, vl, vt, hrep, h6⟩ := hq j hj
    refine ⟨vm, vl, vt, ⟨?_, ?_, ?_, ?_, ?_, ?_⟩, hrep⟩
    · have := h6 0 (by omega); rw [add_none, add_none] at this; exact this
    · have := h6 1 (by omega); rw [add_none, add_none] at this; exact this
    · have := h6 2 (by omega); rw [add_none, add_none] at this; exact this
    · have := h6 3 (by omega); rw [add_none, add_none] at this; exact this
    · have := h6 4 (by omega); rw [add_none, add_none] at this; exact this
    · have := h6 5 (by omega); rw [add_none, add_none] at this; exact this
set_option maxRecDepth 100000 in
/-- a datum that came in -/
theorem open_fuel : ∀ (fuel : Nat) (cs : List Value) (y : DataW H × List MemPlace), DataW.trod enc Tryz.prog w base spare held fuel 52 cs = some y → Fits Tryz.prog 52 y.1 → ∃ (d : D) (vm vl vt : Value), cs = [.int .i64 d.k, .int .i64 d.n, .string d.s, vm, vl, vt] ∧ Wf d ∧ Rep (fun _ => True) w d vm vl vt := by
  intro fuel
  induction fuel using Nat.strongRecOn with
  | _ fuel ih =>
    intro cs y h hf
    have hC : Tryz.prog.cellsOf 52 = 6 := by kernel_rfl
    obtain ⟨v0, v1, v2, v3, v4, v5, y0, y1, y2, y3, y4, y5, n, rfl, rfl, ⟨h0, _⟩, ⟨h1, _⟩, ⟨h2, f2⟩, ⟨h3, f3⟩, ⟨h4, f4⟩, ⟨h5, f5⟩⟩ := trod_six Tryz.underlying52 (by kernel_rfl) hC h hf
    obtain ⟨k, e0, _, _⟩ := DataW.trod_int Tryz.underlying3 h0
    obtain ⟨z, e1, _, hz⟩ := DataW.trod_int Tryz.underlying2 h1
    obtain ⟨s, e2, hx2, hs⟩ := DataW.trod_string Tryz.underlying9 h2
    obtain ⟨m, hm, hml, _⟩ := open_ints h3 f3
    have ih' : ∀ n', n' < n → ∀ cs y, DataW.trod enc Tryz.prog w base spare held n' 52 cs = some y → Fits Tryz.prog 52 y.1 → ∃ (d : D) (vm vl vt : Value), cs = [.int .i64 d.k, .int .i64 d.n, .string d.s, vm, vl, vt] ∧ Wf d ∧ Rep (fun _ => True) w d vm vl vt := fun n' hn => ih n' (by omega)
    obtain ⟨l, hl, hll, hlw⟩ := open_data h4 f4 ih'
    obtain ⟨t, ht, htl, htw⟩ := open_data h5 f5 ih'
    obtain rfl : v0 = .int .i64 k := by simpa using e0
    obtain rfl : v1 = .int .i64 z := by simpa using e1
    obtain rfl : v2 = .string s := by simpa using e2
    have hz' : (decide (IntKind.i64.min ≤ z) && decide (z ≤ IntKind.i64.max)) = true := hz
    rw [show IntKind.i64.min = -9223372036854775808 by decide, show IntKind.i64.max = 9223372036854775807 by decide] at hz'
    simp only [Bool.and_eq_true, decide_eq_true_eq] at hz'
    have hs2 : s.size ≤ 140737488355328 := by
      have hr : reachBytes = 140737488351232 := by decide
      have h9 := f2 s.data.toList.length (by rw [hx2]; simp [DataW.weights])
      have e9 : s.data.toList.length = s.size := by rw [Array.length_toList]; rfl
      omega
    refine ⟨.mk k z s m l t, v3, v4, v5, rfl, ?_, (rep_iff _ _ _ _ _ _).2 ⟨hm, hl, ht⟩⟩
    rw [Wf]
    exact ⟨hz', hs2, hml, hll, htl, hlw, htw⟩
end
end Dt
end Go.Proofs.YtlckjphnbfahgaaGreatDoor
