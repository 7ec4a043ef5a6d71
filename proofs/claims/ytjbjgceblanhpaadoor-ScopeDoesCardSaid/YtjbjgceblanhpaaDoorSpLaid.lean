/-
  What came in: a datum by value; the library's tables.
-/
import Derived.Test.YtjbjgceblanhpaaDoorDtOpen
import Derived.Test.YtjbjgceblanhpaaDoorSpKey
import Derived.Test.YtjbjgceblanhpaaDoorRows
import Derived.Lib.SmallJoins
import Derived.Lib.LaidTab
import Derived.LaidMore
import Derived.Lay
namespace Go.Proofs.YtjbjgceblanhpaaDoor
open Go.Joins Go.ChangeShapes Go.WideShapes Go.RowKit Go.Deep
set_option maxRecDepth 100000 in
theorem Dt.open_value {H : Type} {enc : TypeId × Value → H} {w : World} {base : Nat} {spare : Nat → Bool} {held : Bool} {r : Reach} {b0 : Nat} {v : Value} {d : DataW H} {p : List MemPlace}
    (hv : Value.okWide Tryd.prog w r b0 26 v) (h : DataW.Trod enc Tryd.prog w base spare held 26 v d p) (hf : Dt.Fits Tryd.prog 26 d) :
    ∃ (x : Dt.D) (vm vl vt : Value), v = .agg #[.int .i64 x.k, .int .i64 x.n, .string x.s, vm, vl, vt] ∧ Dt.Wf x ∧ Dt.Rep (fun _ => True) w x vm vl vt := by
  obtain ⟨cs, rfl, hsz⟩ := okWide_struct Tryd.underlying26 hv
  obtain ⟨fuel, hfu⟩ := h
  obtain ⟨x, vm, vl, vt, e, hw, hr⟩ := Dt.open_fuel fuel _ _ hfu hf
  obtain ⟨l⟩ := cs
  have e' : l = [.int .i64 x.k, .int .i64 x.n, .string x.s, vm, vl, vt] := by simpa [Value.cells] using e
  subst e'
  exact ⟨x, vm, vl, vt, rfl, hw, hr⟩
namespace Sp
def laid : List (String × DataW Unit) := [("math/bits.deBruijn32tab", Rows.laid_math_bits_deBruijn32tab), ("math/bits.deBruijn64tab", Rows.laid_math_bits_deBruijn64tab), ("internal/strconv.uint64pow10", Rows.laid_internal_strconv_uint64pow10)]
set_option maxRecDepth 100000 in
theorem t10_of {W : World} (h : laidMetH Tryd.prog laid W) : T10 W := by
  rw [MakeChecks.laidMetH_plain _ _ _ (by kernel_rfl)] at h
  obtain ⟨ps, ⟨g1, t1, cs1, f1, p1, q1, _, _, _, _, ⟨g2, t2, cs2, f2, p2, q2, _, _, _, _, ⟨g3, t3, cs, fuel, p, q, hg, hty, hvar, hd, _, _⟩, _⟩, _⟩, _⟩ := h
  have hg0 : Tryd.prog.globalNamed "internal/strconv.uint64pow10" = some g3 := hg
  obtain rfl := Option.some.inj ((show Tryd.prog.globalNamed "internal/strconv.uint64pow10" = some 0 by kernel_rfl).symm.trans hg0)
  have hT : (Tryd.prog.globals[0]?).map (·.type) = some 128 := by kernel_rfl
  obtain rfl := Option.some.inj (hT.symm.trans hty)
  have e : (Rows.laid_internal_strconv_uint64pow10 : DataW Unit) = Lib.tabData .u64 Lib.pow10Tab := by kernel_rfl
  rw [e] at hd
  show Lib.TabIs _ _ _ _ _
  unfold Lib.TabIs
  rw [hvar, ← Lib.cells_of_tab Tryd.underlying128 Tryd.underlying113 (by kernel_rfl) (by kernel_rfl) hd]
end Sp
end Go.Proofs.YtjbjgceblanhpaaDoor
