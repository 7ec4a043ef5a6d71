/-
  TableMap's walk, at a row's arguments.
-/
import Derived.Test.YtihfflinkmceaaaTbMapW
import Derived.Test.YtihfflinkmceaaaTbOpen
namespace Go.Proofs.Ytihfflinkmceaaa
open Go.RowKit
theorem TableMap_law (sh : Int) (l : List Tb.O) (v : Value) (ask : ByteArray) (w : World) (h : (Lit.int .u8 sh).wf = true) (hv : Tb.Row w v l) (_hs : ask.size ≤ maxLen) :
    Calls Try.prog 3 #[.int .u8 sh, v, .string ask] w fun e w' => e = .returned (.bool true) ∧ Below w.heap.size w w' :=
  TableMap_walk sh l v ask w (bounds_u8 h).1 (bounds_u8 h).2 hv
end Go.Proofs.Ytihfflinkmceaaa
