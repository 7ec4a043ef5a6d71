/-
  A row of acts that came in: its acts.
-/
import Derived.Test.YtihfflinkmceaaaTbLawA
import Derived.Test.YtihfflinkmceaaaPost
import Derived.Lib.SmallJoins
import Derived.Deep.Slices
import Derived.Deep.Fields
namespace Go.Proofs.Ytihfflinkmceaaa
open Go.Joins Go.ChangeShapes Go.WideShapes Go.RowKit Go.Deep
section
variable {H : Type} {enc : TypeId × Value → H} {P : Program} {w : World} {base : Nat} {spare : Nat → Bool} {held : Bool}
theorem trod_three {t : TypeId} {f0 f1 f2 : Field} {fuel : Nat} {cs : List Value} {x : DataW H × List MemPlace} (hs : P.underlying t = some (.struct #[f0, f1, f2])) (hone : oneCellFields P #[f0, f1, f2] = true) (hC : P.cellsOf t = 3)
    (h : DataW.trod enc P w base spare held fuel t cs = some x) :
    ∃ (v0 v1 v2 : Value) (y0 y1 y2 : DataW H × List MemPlace) (n : Nat), cs = [v0, v1, v2] ∧
      DataW.trod enc P w base spare held n f0.type [v0] = some y0 ∧ DataW.trod enc P w base spare held n f1.type [v1] = some y1 ∧ DataW.trod enc P w base spare held n f2.type [v2] = some y2 := by
  obtain ⟨xs, n, _, _, hsz, hlen, hg⟩ := DataW.trod_struct hs h
  match cs, hsz.trans hC with
  | [c0, c1, c2], _ =>
    obtain ⟨o0, k0⟩ := hone_of hone 0 f0 rfl
    obtain ⟨o1, k1⟩ := hone_of hone 1 f1 rfl
    obtain ⟨o2, k2⟩ := hone_of hone 2 f2 rfl
    match xs, hlen with
    | [y0, y1, y2], _ =>
      exact ⟨c0, c1, c2, y0, y1, y2, n, rfl, by simpa [o0, k0] using hg 0 f0 rfl, by simpa [o1, k1] using hg 1 f1 rfl, by simpa [o2, k2] using hg 2 f2 rfl⟩
end
namespace Tb
theorem cell_lt {w : World} {b o : Nat} {v : Value} (h : w.cell? ⟨b, o, none⟩ = some v) : b < w.heap.size := by
  apply Classical.byContradiction
  intro hh
  unfold World.cell? at h
  rw [Array.getElem?_eq_none (by show w.heap.size ≤ b; omega)] at h
  exact absurd h (by simp)
/-- a list out of what is so at each place -/
theorem gather {α : Type} (Q : Nat → α → Prop) : ∀ n, (∀ i, i < n → ∃ t, Q i t) → ∃ l : List α, l.length = n ∧ ∀ j, (h : j < l.length) → Q j l[j]
  | 0, _ => ⟨[], rfl, fun j h => absurd h (by simp)⟩
  | n + 1, h => by
    obtain ⟨l, hl, hq⟩ := gather Q n (fun i hi => h i (by omega))
    obtain ⟨t, ht⟩ := h n (by omega)
    refine ⟨l ++ [t], by simp [hl], fun j hj => ?_⟩
    by_cases e : j < l.length
    · rw [List.getElem_append_left e]; exact hq j e
    · have : j = l.length := by simp at hj; omega
      subst this
      rw [List.getElem_append_right (by omega)]
      simpa [hl] using ht
end Tb
set_option maxRecDepth 100000 in
theorem Tb.open_ops {H : Type} {enc : TypeId × Value → H} {w : World} {base : Nat} {spare : Nat → Bool} {held : Bool} {r : Reach} {b0 : Nat} {v : Value} {d : DataW H} {p : List MemPlace}
    (hv : Value.okWide Try.prog w r b0 22 v) (h : DataW.Trod enc Try.prog w base spare held 22 v d p) :
    ∃ l : List Tb.O, Tb.Row w v l := by
  obtain ⟨a0, len0, cap0, rfl⟩ := okWide_slice Try.underlying22 hv
  obtain ⟨fuel, hf⟩ := h
  rcases open_slice Try.underlying22 hf with ⟨hcs, _⟩ | ⟨a, len, cap, m, n, D, Pl, hcs, _, hl, _, hm, _, hi⟩
  · simp [Value.cells] at hcs
    obtain ⟨rfl, rfl, rfl⟩ := hcs
    exact ⟨[], ⟨none, 0, rfl, by simp, fun hn => absurd rfl hn⟩⟩
  · simp [Value.cells] at hcs
    obtain ⟨rfl, rfl, rfl⟩ := hcs
    have hC : Try.prog.cellsOf 33 = 3 := by kernel_rfl
    have hlm : len0 ≤ m := by rw [hm]; split <;> omega
    rw [hC] at hi
    obtain ⟨l, hll, hq⟩ := Tb.gather (fun i (t : Tb.O) => w.cell? (a.add (i * 3)) = some (.int .i64 t.d) ∧ w.cell? ((a.add (i * 3)).add 1) = some (.string t.s) ∧ w.cell? ((a.add (i * 3)).add 2) = some (.int .i64 t.n)) len0 (fun i hil => by
      obtain ⟨cs', hc, ht⟩ := hi i (by omega)
      obtain ⟨v0, v1, v2, y0, y1, y2, n', rfl, h0, h1, h2⟩ := trod_three Try.underlying33 (by kernel_rfl) hC ht
      obtain ⟨a0, e0, _, _⟩ := DataW.trod_int Try.underlying3 h0
      obtain ⟨a1, e1, _, _⟩ := DataW.trod_string Try.underlying9 h1
      obtain ⟨a2, e2, _, _⟩ := DataW.trod_int Try.underlying2 h2
      simp at e0 e1 e2
      subst e0 e1 e2
      obtain ⟨_, _, hat⟩ := World.cells?_some hc
      have g0 := hat 0 (by omega)
      exact ⟨⟨a0, a1, a2⟩, by simpa [Addr.add] using g0, hat 1 (by omega), hat 2 (by omega)⟩)
    refine ⟨l, some a, cap0, by rw [hll], by omega, fun hn => ?_⟩
    have hpos : 0 < l.length := List.length_pos_iff.2 hn
    obtain ⟨b, off, spot⟩ := a
    have hc := (hq 0 hpos).1
    have hspot : spot = none := by simpa [Addr.add] using World.cell?_spot hc
    subst hspot
    have hadd : ∀ i, (⟨b, off, none⟩ : Addr).add i = ⟨b, off + i, none⟩ := fun i => by unfold Addr.add; split <;> simp_all
    have hadd2 : ∀ o i, (⟨b, o, none⟩ : Addr).add i = ⟨b, o + i, none⟩ := fun o i => by unfold Addr.add; split <;> simp_all
    refine ⟨b, off, rfl, ?_, fun j hj => ?_⟩
    · rw [hadd] at hc
      exact Tb.cell_lt hc
    · obtain ⟨q0, q1, q2⟩ := hq j hj
      simp only [hadd2] at q0 q1 q2
      exact ⟨q0, q1, q2⟩
end Go.Proofs.Ytihfflinkmceaaa
