/-
  TableShards' walk, at a row's arguments.
-/
import Derived.Test.YtihfflinkmceaaaTbShW
import Derived.Test.YtihfflinkmceaaaTbOpen
namespace Go.Proofs.Ytihfflinkmceaaa
open Go.RowKit
theorem TableShards_law (sa sb : Int) (l : List Tb.O) (v : Value) (w : World) (h : (Lit.int .u8 sa).wf = true) (h' : (Lit.int .u8 sb).wf = true) (hv : Tb.Row w v l) :
    Calls Try.prog 4 #[.int .u8 sa, .int .u8 sb, v] w fun e w' => e = .returned (.bool true) ∧ Below w.heap.size w w' :=
  TableShards_walk sa sb l v w (bounds_u8 h).1 (bounds_u8 h).2 (bounds_u8 h').1 (bounds_u8 h').2 hv
end Go.Proofs.Ytihfflinkmceaaa
