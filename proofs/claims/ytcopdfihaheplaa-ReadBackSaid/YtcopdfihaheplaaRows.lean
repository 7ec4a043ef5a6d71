/-
  NARROWER THAN 'FOR EVERY INPUT', by the rows' own cells (each row's printed sentence says how): ReadBack: loops · ReadPrints: loops.
  DERIVED. THE GIVEN ROWS OF THIS SEAT. 4 by the template 'for every input the law returns true; each argument reads behind the call as it read before'; 0 by the template 'total and deterministic' (their statements: YtcopdfihaheplaaTotals.lean).
  GIVEN WITH THE SEED: the statements are not yours to turn. If you find one false, say at which input.
  Laid BY PROGRAM, IN A SANDBOX (cutbox-rows.mjs): the forced cells as the released guide's own fill.sh prints them over the translation b8cfb97f6e92d62e… (all of the seat's roots in one cut). By AI agents, Wed Nov 11 2026. No macro, syntax, notation, axiom, sorry.
-/
import Derived.Test.YtcopdfihaheplaaChecked
import GoSem.Claim
import GoSem.ClaimJoined
import GoSem.ClaimMapViews
import Derived.JoinedTies
import Derived.KernelRfl
namespace Go.Proofs.Ytcopdfihaheplaa
/- THE CELL 'sum', in the pinned program and in every row, IS THE sha256 OF THE DUMP (.gsa) THAT YtcopdfihaheplaaProg.lean LOADS. Nothing in Lean hashes anything: it is a label: what it is worth is what the hold of that sum in a sandbox is worth. -/
noncomputable def Try.pinned : Pinned := { name := "ytcopdfihaheplaa", sum := "b8cfb97f6e92d62e2385fff2db530e1033c7c06633b1ed128ed3543f6588a36d", checked := Try.checked }
namespace Rows
def none {H : Type} : Left H := { results := [], args := [] }

/-- 'shuttlelaw04.ReadBack': WHATEVER THE INPUT: true; the input reads as it did. -/
def readBackSpec : ChangeSpec := { name := "readBack", fn := fun _ => fun
  | [d1, d2] => { results := [.lit (.bool true)], args := [d1, d2] }
  | _ => none }
def readBackRow : OpenClaim := { program := "ytcopdfihaheplaa", sum := "b8cfb97f6e92d62e2385fff2db530e1033c7c06633b1ed128ed3543f6588a36d", func := "shuttle/shuttlelaw04.ReadBack", spec := "readBack", inPlace := ["internal/bytealg.IndexByteString"], unfollowed := true, recurses := true, loops := true, apart := false }
def ReadBackSaid : Prop := readBackRow.holds Try.pinned (OpenSpec.ofChange readBackSpec)

/-- ITS FALSE NEIGHBOUR: 'it returns false'. Refute it at one input. -/
def readBackWrong : ChangeSpec := { name := "readBack", fn := fun _ => fun
  | [d1, d2] => { results := [.lit (.bool false)], args := [d1, d2] }
  | _ => none }
def ReadBackWrongFalsely : Prop := readBackRow.holds Try.pinned (OpenSpec.ofChange readBackWrong)

/-- 'shuttlelaw04.ReadRows': WHATEVER THE INPUT: true; the input reads as it did. -/
def readRowsSpec : ChangeSpec := { name := "readRows", fn := fun _ => fun
  | [d1, d2] => { results := [.lit (.bool true)], args := [d1, d2] }
  | _ => none }
def readRowsRow : OpenClaim := { program := "ytcopdfihaheplaa", sum := "b8cfb97f6e92d62e2385fff2db530e1033c7c06633b1ed128ed3543f6588a36d", func := "shuttle/shuttlelaw04.ReadRows", spec := "readRows", inPlace := ["internal/bytealg.IndexByteString"], unfollowed := true, recurses := true, apart := false }
def ReadRowsSaid : Prop := readRowsRow.holds Try.pinned (OpenSpec.ofChange readRowsSpec)

/-- ITS FALSE NEIGHBOUR: 'it returns false'. Refute it at one input. -/
def readRowsWrong : ChangeSpec := { name := "readRows", fn := fun _ => fun
  | [d1, d2] => { results := [.lit (.bool false)], args := [d1, d2] }
  | _ => none }
def ReadRowsWrongFalsely : Prop := readRowsRow.holds Try.pinned (OpenSpec.ofChange readRowsWrong)

/-- 'shuttlelaw04.ReadCut': WHATEVER THE INPUT: true; the input reads as it did. -/
def readCutSpec : ChangeSpec := { name := "readCut", fn := fun _ => fun
  | [d1, d2] => { results := [.lit (.bool true)], args := [d1, d2] }
  | _ => none }
def readCutRow : OpenClaim := { program := "ytcopdfihaheplaa", sum := "b8cfb97f6e92d62e2385fff2db530e1033c7c06633b1ed128ed3543f6588a36d", func := "shuttle/shuttlelaw04.ReadCut", spec := "readCut", inPlace := ["internal/bytealg.IndexByteString"], unfollowed := true, recurses := true, apart := false }
def ReadCutSaid : Prop := readCutRow.holds Try.pinned (OpenSpec.ofChange readCutSpec)

/-- ITS FALSE NEIGHBOUR: 'it returns false'. Refute it at one input. -/
def readCutWrong : ChangeSpec := { name := "readCut", fn := fun _ => fun
  | [d1, d2] => { results := [.lit (.bool false)], args := [d1, d2] }
  | _ => none }
def ReadCutWrongFalsely : Prop := readCutRow.holds Try.pinned (OpenSpec.ofChange readCutWrong)

/-- 'shuttlelaw04.ReadPrints': WHATEVER THE INPUT: true; the input reads as it did. -/
def readPrintsSpec : ChangeSpec := { name := "readPrints", fn := fun _ => fun
  | [d1, d2] => { results := [.lit (.bool true)], args := [d1, d2] }
  | _ => none }
def readPrintsRow : OpenClaim := { program := "ytcopdfihaheplaa", sum := "b8cfb97f6e92d62e2385fff2db530e1033c7c06633b1ed128ed3543f6588a36d", func := "shuttle/shuttlelaw04.ReadPrints", spec := "readPrints", inPlace := ["internal/bytealg.IndexByteString"], unfollowed := true, recurses := true, loops := true, apart := false }
def ReadPrintsSaid : Prop := readPrintsRow.holds Try.pinned (OpenSpec.ofChange readPrintsSpec)

/-- ITS FALSE NEIGHBOUR: 'it returns false'. Refute it at one input. -/
def readPrintsWrong : ChangeSpec := { name := "readPrints", fn := fun _ => fun
  | [d1, d2] => { results := [.lit (.bool false)], args := [d1, d2] }
  | _ => none }
def ReadPrintsWrongFalsely : Prop := readPrintsRow.holds Try.pinned (OpenSpec.ofChange readPrintsWrong)

/- THE SECOND FORM. 'bulk': how many values and letters a reading holds, each counted each time it is reached (what is shared counts as often as it is met; a slice's spare places count too). A statement '..UptoSaid' is the law's where the arguments, and the package variables that the reading takes, are together of bulk at most 1048576: NARROWER than '..Said'. Prove '..Said' where nothing that the law and all that it calls make is longer than what came in: it says more and counts as full. Else prove '..UptoSaid'. A law counts once. -/
mutual
def uptoBulk {H : Type} : DataW H → Nat
  | .lit (.string bytes) => bytes.length + 1
  | .lit _ => 1
  | .nil => 1
  | .ptr d => uptoBulk d + 1
  | .slice elems spare => uptoBulkAll elems + uptoBulkAll spare + 1
  | .agg parts => uptoBulkAll parts + 1
  | .iface _ d => uptoBulk d + 1
  | .map entries => uptoBulkEntries entries + 1
  | .held _ => 1
def uptoBulkAll {H : Type} : List (DataW H) → Nat
  | [] => 0
  | d :: r => uptoBulk d + uptoBulkAll r
def uptoBulkEntries {H : Type} : List (Lit × DataW H) → Nat
  | [] => 0
  | x :: r => uptoBulkEntry x + uptoBulkEntries r
def uptoBulkEntry {H : Type} : Lit × DataW H → Nat
  | (.string bytes, d) => bytes.length + uptoBulk d + 1
  | (_, d) => uptoBulk d + 1
 end
def uptoSmall : (H : Type) → List (DataW H) → Bool := fun _ ds => decide (uptoBulkAll ds ≤ 1048576)
def OpenSpec.upto (s : _root_.Go.ChangeSpec) : _root_.Go.OpenSpec := { _root_.Go.OpenSpec.ofChange s with cond := some uptoSmall }

/-- 'shuttlelaw04.ReadBack', WHERE WHAT IT READS IS OF BULK AT MOST 1048576: true; the input reads as it did. -/
def readBackUptoRow : OpenClaim := { program := "ytcopdfihaheplaa", sum := "b8cfb97f6e92d62e2385fff2db530e1033c7c06633b1ed128ed3543f6588a36d", func := "shuttle/shuttlelaw04.ReadBack", spec := "readBack", inPlace := ["internal/bytealg.IndexByteString"], unfollowed := true, recurses := true, loops := true, apart := false, narrowed := true }
def ReadBackUptoSaid : Prop := readBackUptoRow.holds Try.pinned (OpenSpec.upto readBackSpec)

/-- 'shuttlelaw04.ReadRows', WHERE WHAT IT READS IS OF BULK AT MOST 1048576: true; the input reads as it did. -/
def readRowsUptoRow : OpenClaim := { program := "ytcopdfihaheplaa", sum := "b8cfb97f6e92d62e2385fff2db530e1033c7c06633b1ed128ed3543f6588a36d", func := "shuttle/shuttlelaw04.ReadRows", spec := "readRows", inPlace := ["internal/bytealg.IndexByteString"], unfollowed := true, recurses := true, apart := false, narrowed := true }
def ReadRowsUptoSaid : Prop := readRowsUptoRow.holds Try.pinned (OpenSpec.upto readRowsSpec)

/-- 'shuttlelaw04.ReadCut', WHERE WHAT IT READS IS OF BULK AT MOST 1048576: true; the input reads as it did. -/
def readCutUptoRow : OpenClaim := { program := "ytcopdfihaheplaa", sum := "b8cfb97f6e92d62e2385fff2db530e1033c7c06633b1ed128ed3543f6588a36d", func := "shuttle/shuttlelaw04.ReadCut", spec := "readCut", inPlace := ["internal/bytealg.IndexByteString"], unfollowed := true, recurses := true, apart := false, narrowed := true }
def ReadCutUptoSaid : Prop := readCutUptoRow.holds Try.pinned (OpenSpec.upto readCutSpec)

/-- 'shuttlelaw04.ReadPrints', WHERE WHAT IT READS IS OF BULK AT MOST 1048576: true; the input reads as it did. -/
def readPrintsUptoRow : OpenClaim := { program := "ytcopdfihaheplaa", sum := "b8cfb97f6e92d62e2385fff2db530e1033c7c06633b1ed128ed3543f6588a36d", func := "shuttle/shuttlelaw04.ReadPrints", spec := "readPrints", inPlace := ["internal/bytealg.IndexByteString"], unfollowed := true, recurses := true, loops := true, apart := false, narrowed := true }
def ReadPrintsUptoSaid : Prop := readPrintsUptoRow.holds Try.pinned (OpenSpec.upto readPrintsSpec)

end Rows
end Go.Proofs.Ytcopdfihaheplaa
