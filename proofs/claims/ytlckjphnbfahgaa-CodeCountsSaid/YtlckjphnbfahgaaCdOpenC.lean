/-
  What came in: an instruction; CodeCounts as it is called.
-/
import Derived.Test.YtlckjphnbfahgaaCdOpen
import Derived.Test.YtlckjphnbfahgaaCdCountsW
namespace Go.Proofs.Ytlckjphnbfahgaa
open Go.Joins Go.ChangeShapes Go.WideShapes Go.RowKit Go.Deep
namespace Cd
open Dt
section
variable {H : Type} {enc : TypeId × Value → H} {P : Program} {w : World} {base : Nat} {spare : Nat → Bool} {held : Bool}
set_option maxRecDepth 100000 in
theorem open_ins1 {r : Reach} {b0 : Nat} {v : Value} {d : DataW H} {p : List MemPlace}
    (hv : Value.okWide Try.prog w r b0 41 v) (h : DataW.Trod enc Try.prog w base spare held 41 v d p) (hf : Fits Try.prog 41 d) :
    ∃ x : Ins, v = .agg #[.int .i64 x.o, .int .i64 x.a, .int .i64 x.b] ∧ (I64 x.o ∧ I64 x.a ∧ I64 x.b) := by
  obtain ⟨cs, rfl, hsz⟩ := okWide_struct Try.underlying41 hv
  obtain ⟨fuel, hfu⟩ := h
  obtain ⟨l⟩ := cs
  obtain ⟨x, e, h1⟩ := open_ins hfu hf
  refine ⟨x, ?_, h1⟩
  have e2 : l = [.int .i64 x.o, .int .i64 x.a, .int .i64 x.b] := e
  rw [e2]
end
end Cd
theorem CodeCounts_law {F : Nat → Prop} (p : Cd.Prog) (vc vk vn : Value) (k by_ : Int) (x : Cd.Ins) (w : World) (hp : Cd.PRep F w p vc vk vn) (hw : Cd.PWf p) (hk : (Lit.int .u8 k).wf = true) (hb : (Lit.int .i8 by_).wf = true) (hx : Cd.I64 x.o ∧ Cd.I64 x.a ∧ Cd.I64 x.b) :
    Calls Try.prog 5 #[.agg #[vc, vk, vn], .int .u8 k, .int .i8 by_, .agg #[.int .i64 x.o, .int .i64 x.a, .int .i64 x.b]] w fun e w' => e = .returned (.bool true) ∧ Below w.heap.size w w' := by
  have h := hk
  simp only [Lit.wf, IntKind.min, IntKind.max, IntKind.signed, IntKind.bits, Bool.and_eq_true] at h
  have h2 := hb
  simp only [Lit.wf, IntKind.min, IntKind.max, IntKind.signed, IntKind.bits, Bool.and_eq_true] at h2
  obtain ⟨j, rfl⟩ : ∃ j : Nat, k = (j : Int) := ⟨k.toNat, by simp at h; omega⟩
  exact CodeCounts_walk p vc vk vn j by_ x w hp hw (by simp at h; omega) (by simp at h2; omega) hx
end Go.Proofs.Ytlckjphnbfahgaa
