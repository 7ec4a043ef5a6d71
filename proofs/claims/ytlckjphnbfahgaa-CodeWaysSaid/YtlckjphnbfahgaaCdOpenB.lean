/-
  What came in: a row of truths.
-/
import Derived.Test.YtlckjphnbfahgaaCdOpen
import Derived.Test.YtlckjphnbfahgaaCdWaysW
namespace Go.Proofs.Ytlckjphnbfahgaa
open Go.Joins Go.ChangeShapes Go.WideShapes Go.RowKit Go.Deep
namespace Cd
open Dt
section
variable {H : Type} {enc : TypeId × Value → H} {P : Program} {w : World} {base : Nat} {spare : Nat → Bool} {held : Bool}
set_option maxRecDepth 100000 in
theorem open_bools {r : Reach} {b0 : Nat} {v : Value} {d : DataW H} {p : List MemPlace}
    (hv : Value.okWide Try.prog w r b0 36 v) (h0 : DataW.Trod enc Try.prog w base spare held 36 v d p) (hf : Fits Try.prog 36 d) :
    ∃ l : List Bool, BRow w v l := by
  obtain ⟨a0, len0, cap0, rfl⟩ := okWide_slice Try.underlying36 hv
  obtain ⟨fuel, hfu⟩ := h0
  have h : DataW.trod enc Try.prog w base spare held fuel 36 [.slice a0 len0 cap0] = some (d, p) := hfu
  rcases open_row Try.underlying36 h hf with h0 | ⟨a, len, cap, n, -, hcs, hl, hb, hel⟩
  · have e : Value.slice a0 len0 cap0 = .slice none 0 0 := by simpa using h0
    rw [e]
    exact ⟨[], ⟨none, 0, rfl, by simp, fun h => absurd rfl h⟩⟩
  · have e : Value.slice a0 len0 cap0 = .slice (some a) len cap := by simpa using hcs
    rw [e]
    have hC : Try.prog.cellsOf 4 = 1 := by kernel_rfl
    have hB : Try.prog.bytesOf 4 = 1 := by kernel_rfl
    rw [hB] at hb
    rw [hC] at hel
    have hr : reachBytes = 140737488351232 := by decide
    obtain ⟨m, hm, hq⟩ := gather (fun i (s : Bool) => w.cell? (a.add i) = some (.bool s)) len (fun i hi => by
      obtain ⟨cs', y, hc, ht, hfy⟩ := hel i hi
      obtain ⟨s, e2, -⟩ := DataW.trod_bool Try.underlying4 ht
      subst e2
      obtain ⟨_, _, hat⟩ := World.cells?_some hc
      have g0 := hat 0 (by omega)
      rw [Nat.mul_one] at g0
      have e9 : (a.add i).add 0 = a.add i := by unfold Addr.add; rw [if_pos rfl]
      rw [e9] at g0
      exact ⟨s, g0⟩)
    refine ⟨m, ⟨some a, cap, by rw [hm], by omega, fun hn => ?_⟩⟩
    have hpos : 0 < m.length := List.length_pos_iff.2 hn
    obtain ⟨b, off, spot⟩ := a
    obtain rfl := spot_none (hq 0 hpos) rfl
    refine ⟨b, off, rfl, ?_, fun j hj => ?_⟩
    · have := hq 0 hpos
      rw [add_none] at this
      exact block_lt_of_cell this
    · have := hq j hj
      rw [add_none] at this
      exact this
end
end Cd
theorem CodeWays_law {F : Nat → Prop} (p : Cd.Prog) (vc vk vn : Value) (k : Int) (vw : Value) (ways : List Bool) (w : World) (hp : Cd.PRep F w p vc vk vn) (hw : Cd.PWf p) (hk : (Lit.int .u8 k).wf = true) (hways : Cd.BRow w vw ways) :
    Calls Try.prog 4 #[.agg #[vc, vk, vn], .int .u8 k, vw] w fun e w' => e = .returned (.bool true) ∧ Below w.heap.size w w' := by
  have h := hk
  simp only [Lit.wf, IntKind.min, IntKind.max, IntKind.signed, IntKind.bits, Bool.and_eq_true] at h
  obtain ⟨j, rfl⟩ : ∃ j : Nat, k = (j : Int) := ⟨k.toNat, by simp at h; omega⟩
  exact CodeWays_walk p vc vk vn vw j ways w hp hw (by simp at h; omega) hways
end Go.Proofs.Ytlckjphnbfahgaa
