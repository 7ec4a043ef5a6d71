/-
  TableDoes' walk, at a row's arguments.
-/
import Derived.Test.YtihfflinkmceaaaTbDoesW
import Derived.Test.YtihfflinkmceaaaTbOpen
namespace Go.Proofs.Ytihfflinkmceaaa
open Go.RowKit
theorem TableDoes_law (sh : Int) (l : List Tb.O) (v : Value) (w : World) (_h : (Lit.int .i64 sh).wf = true) (hv : Tb.Row w v l) :
    Calls Try.prog 6 #[.int .i64 sh, v] w fun e w' => e = .returned (.bool true) ∧ Below w.heap.size w w' :=
  TableDoes_walk sh l v w hv
end Go.Proofs.Ytihfflinkmceaaa
