/-
  NARROWER THAN 'FOR EVERY INPUT', by the rows' own cells (each row's printed sentence says how): CoreMay: loops · CoreAlike: loops · CoreWithin: loops · CoreNames: loops · CoreBack: loops.
  DERIVED. THE GIVEN ROWS OF THIS SEAT. 5 by the template 'for every input the law returns true; each argument reads behind the call as it read before'; 0 by the template 'total and deterministic' (their statements: YtfjmlfbohenmfaaGreatTotals.lean).
  GIVEN WITH THE SEED: the statements are not yours to turn. If you find one false, say at which input.
  Laid BY PROGRAM, IN A SANDBOX (cutbox-rows.mjs): the forced cells as the released guide's own fill.sh prints them over the translation 653f0a98a4d3eadf… (all of the seat's roots in one cut). By AI agents, Wed Nov 11 2026. No macro, syntax, notation, axiom, sorry.
-/
import Derived.Test.YtfjmlfbohenmfaaGreatChecked
import GoSem.Claim
import GoSem.ClaimJoined
import GoSem.ClaimMapViews
import Derived.JoinedTies
import Derived.KernelRfl
namespace Go.Proofs.YtfjmlfbohenmfaaGreat
/- THE CELL 'sum', in the pinned program and in every row, IS THE sha256 OF THE DUMP (.gsa) THAT YtfjmlfbohenmfaaGreatProg.lean LOADS. Nothing in Lean hashes anything: it is a label: what it is worth is what the hold of that sum in a sandbox is worth. -/
noncomputable def Tryz.pinned : Pinned := { name := "ytfjmlfbohenmfaagreat", sum := "653f0a98a4d3eadf1fe46874893250f236eb5a37bc30f74da74f3497da1a8e05", checked := Tryz.checked }
namespace Rows
def none {H : Type} : Left H := { results := [], args := [] }

/-- 'shuttlelaw07.CoreMay': WHATEVER THE INPUT: true; the input reads as it did. -/
def coreMaySpec : ChangeSpec := { name := "coreMay", fn := fun _ => fun
  | [d1, d2, d3] => { results := [.lit (.bool true)], args := [d1, d2, d3] }
  | _ => none }
def coreMayRow : OpenClaim := { program := "ytfjmlfbohenmfaagreat", sum := "653f0a98a4d3eadf1fe46874893250f236eb5a37bc30f74da74f3497da1a8e05", func := "shuttle/shuttlelaw07.CoreMay", spec := "coreMay", inPlace := ["internal/bytealg.IndexByteString"], unfollowed := true, recurses := true, loops := true, apart := false }
def CoreMaySaid : Prop := coreMayRow.holds Tryz.pinned (OpenSpec.ofChange coreMaySpec)

/-- ITS FALSE NEIGHBOUR: 'it returns false'. Refute it at one input. -/
def coreMayWrong : ChangeSpec := { name := "coreMay", fn := fun _ => fun
  | [d1, d2, d3] => { results := [.lit (.bool false)], args := [d1, d2, d3] }
  | _ => none }
def CoreMayWrongFalsely : Prop := coreMayRow.holds Tryz.pinned (OpenSpec.ofChange coreMayWrong)

/-- 'shuttlelaw07.CoreAlike': WHATEVER THE INPUT: true; the input reads as it did. -/
def coreAlikeSpec : ChangeSpec := { name := "coreAlike", fn := fun _ => fun
  | [d1, d2, d3] => { results := [.lit (.bool true)], args := [d1, d2, d3] }
  | _ => none }
def coreAlikeRow : OpenClaim := { program := "ytfjmlfbohenmfaagreat", sum := "653f0a98a4d3eadf1fe46874893250f236eb5a37bc30f74da74f3497da1a8e05", func := "shuttle/shuttlelaw07.CoreAlike", spec := "coreAlike", inPlace := ["internal/bytealg.IndexByteString"], unfollowed := true, recurses := true, loops := true, apart := false }
def CoreAlikeSaid : Prop := coreAlikeRow.holds Tryz.pinned (OpenSpec.ofChange coreAlikeSpec)

/-- ITS FALSE NEIGHBOUR: 'it returns false'. Refute it at one input. -/
def coreAlikeWrong : ChangeSpec := { name := "coreAlike", fn := fun _ => fun
  | [d1, d2, d3] => { results := [.lit (.bool false)], args := [d1, d2, d3] }
  | _ => none }
def CoreAlikeWrongFalsely : Prop := coreAlikeRow.holds Tryz.pinned (OpenSpec.ofChange coreAlikeWrong)

/-- 'shuttlelaw07.CoreWithin': WHATEVER THE INPUT: true; the input reads as it did. -/
def coreWithinSpec : ChangeSpec := { name := "coreWithin", fn := fun _ => fun
  | [d1, d2, d3] => { results := [.lit (.bool true)], args := [d1, d2, d3] }
  | _ => none }
def coreWithinRow : OpenClaim := { program := "ytfjmlfbohenmfaagreat", sum := "653f0a98a4d3eadf1fe46874893250f236eb5a37bc30f74da74f3497da1a8e05", func := "shuttle/shuttlelaw07.CoreWithin", spec := "coreWithin", inPlace := ["internal/bytealg.IndexByteString"], unfollowed := true, recurses := true, loops := true, apart := false }
def CoreWithinSaid : Prop := coreWithinRow.holds Tryz.pinned (OpenSpec.ofChange coreWithinSpec)

/-- ITS FALSE NEIGHBOUR: 'it returns false'. Refute it at one input. -/
def coreWithinWrong : ChangeSpec := { name := "coreWithin", fn := fun _ => fun
  | [d1, d2, d3] => { results := [.lit (.bool false)], args := [d1, d2, d3] }
  | _ => none }
def CoreWithinWrongFalsely : Prop := coreWithinRow.holds Tryz.pinned (OpenSpec.ofChange coreWithinWrong)

/-- 'shuttlelaw07.CoreNames': WHATEVER THE INPUT: true; the input reads as it did. -/
def coreNamesSpec : ChangeSpec := { name := "coreNames", fn := fun _ => fun
  | [d1, d2] => { results := [.lit (.bool true)], args := [d1, d2] }
  | _ => none }
def coreNamesRow : OpenClaim := { program := "ytfjmlfbohenmfaagreat", sum := "653f0a98a4d3eadf1fe46874893250f236eb5a37bc30f74da74f3497da1a8e05", func := "shuttle/shuttlelaw07.CoreNames", spec := "coreNames", inPlace := ["internal/bytealg.IndexByteString"], unfollowed := true, recurses := true, loops := true, apart := false }
def CoreNamesSaid : Prop := coreNamesRow.holds Tryz.pinned (OpenSpec.ofChange coreNamesSpec)

/-- ITS FALSE NEIGHBOUR: 'it returns false'. Refute it at one input. -/
def coreNamesWrong : ChangeSpec := { name := "coreNames", fn := fun _ => fun
  | [d1, d2] => { results := [.lit (.bool false)], args := [d1, d2] }
  | _ => none }
def CoreNamesWrongFalsely : Prop := coreNamesRow.holds Tryz.pinned (OpenSpec.ofChange coreNamesWrong)

/-- 'shuttlelaw07.CoreBack': WHATEVER THE INPUT: true; the input reads as it did. -/
def coreBackSpec : ChangeSpec := { name := "coreBack", fn := fun _ => fun
  | [d1, d2] => { results := [.lit (.bool true)], args := [d1, d2] }
  | _ => none }
def coreBackRow : OpenClaim := { program := "ytfjmlfbohenmfaagreat", sum := "653f0a98a4d3eadf1fe46874893250f236eb5a37bc30f74da74f3497da1a8e05", func := "shuttle/shuttlelaw07.CoreBack", spec := "coreBack", inPlace := ["internal/bytealg.IndexByteString"], unfollowed := true, recurses := true, loops := true, apart := false }
def CoreBackSaid : Prop := coreBackRow.holds Tryz.pinned (OpenSpec.ofChange coreBackSpec)

/-- ITS FALSE NEIGHBOUR: 'it returns false'. Refute it at one input. -/
def coreBackWrong : ChangeSpec := { name := "coreBack", fn := fun _ => fun
  | [d1, d2] => { results := [.lit (.bool false)], args := [d1, d2] }
  | _ => none }
def CoreBackWrongFalsely : Prop := coreBackRow.holds Tryz.pinned (OpenSpec.ofChange coreBackWrong)

/- THE SECOND FORM. 'bulk': how many values and letters a reading holds, each counted each time it is reached (what is shared counts as often as it is met; a slice's spare places count too). A statement '..UptoSaid' is the law's where the arguments, and the package variables that the reading takes, are together of bulk at most 1048576: NARROWER than '..Said'. Prove '..Said' where nothing that the law and all that it calls make is longer than what came in: it says more and counts as full. Else prove '..UptoSaid'. A law counts once. -/
mutual
def uptoBulk {H : Type} : DataW H → Nat
  | .lit (.string bytes) => bytes.length + 1
  | .lit _ => 1
  | .nil => 1
  | .ptr d => uptoBulk d + 1
  | .slice elems spare => uptoBulkAll elems + uptoBulkAll spare + 1
  | .agg parts => uptoBulkAll parts + 1
  | .iface _ d => uptoBulk d + 1
  | .map entries => uptoBulkEntries entries + 1
  | .held _ => 1
def uptoBulkAll {H : Type} : List (DataW H) → Nat
  | [] => 0
  | d :: r => uptoBulk d + uptoBulkAll r
def uptoBulkEntries {H : Type} : List (Lit × DataW H) → Nat
  | [] => 0
  | x :: r => uptoBulkEntry x + uptoBulkEntries r
def uptoBulkEntry {H : Type} : Lit × DataW H → Nat
  | (.string bytes, d) => bytes.length + uptoBulk d + 1
  | (_, d) => uptoBulk d + 1
 end
def uptoSmall : (H : Type) → List (DataW H) → Bool := fun _ ds => decide (uptoBulkAll ds ≤ 1048576)
def OpenSpec.upto (s : _root_.Go.ChangeSpec) : _root_.Go.OpenSpec := { _root_.Go.OpenSpec.ofChange s with cond := some uptoSmall }

/-- 'shuttlelaw07.CoreMay', WHERE WHAT IT READS IS OF BULK AT MOST 1048576: true; the input reads as it did. -/
def coreMayUptoRow : OpenClaim := { program := "ytfjmlfbohenmfaagreat", sum := "653f0a98a4d3eadf1fe46874893250f236eb5a37bc30f74da74f3497da1a8e05", func := "shuttle/shuttlelaw07.CoreMay", spec := "coreMay", inPlace := ["internal/bytealg.IndexByteString"], unfollowed := true, recurses := true, loops := true, apart := false, narrowed := true }
def CoreMayUptoSaid : Prop := coreMayUptoRow.holds Tryz.pinned (OpenSpec.upto coreMaySpec)

/-- 'shuttlelaw07.CoreAlike', WHERE WHAT IT READS IS OF BULK AT MOST 1048576: true; the input reads as it did. -/
def coreAlikeUptoRow : OpenClaim := { program := "ytfjmlfbohenmfaagreat", sum := "653f0a98a4d3eadf1fe46874893250f236eb5a37bc30f74da74f3497da1a8e05", func := "shuttle/shuttlelaw07.CoreAlike", spec := "coreAlike", inPlace := ["internal/bytealg.IndexByteString"], unfollowed := true, recurses := true, loops := true, apart := false, narrowed := true }
def CoreAlikeUptoSaid : Prop := coreAlikeUptoRow.holds Tryz.pinned (OpenSpec.upto coreAlikeSpec)

/-- 'shuttlelaw07.CoreWithin', WHERE WHAT IT READS IS OF BULK AT MOST 1048576: true; the input reads as it did. -/
def coreWithinUptoRow : OpenClaim := { program := "ytfjmlfbohenmfaagreat", sum := "653f0a98a4d3eadf1fe46874893250f236eb5a37bc30f74da74f3497da1a8e05", func := "shuttle/shuttlelaw07.CoreWithin", spec := "coreWithin", inPlace := ["internal/bytealg.IndexByteString"], unfollowed := true, recurses := true, loops := true, apart := false, narrowed := true }
def CoreWithinUptoSaid : Prop := coreWithinUptoRow.holds Tryz.pinned (OpenSpec.upto coreWithinSpec)

/-- 'shuttlelaw07.CoreNames', WHERE WHAT IT READS IS OF BULK AT MOST 1048576: true; the input reads as it did. -/
def coreNamesUptoRow : OpenClaim := { program := "ytfjmlfbohenmfaagreat", sum := "653f0a98a4d3eadf1fe46874893250f236eb5a37bc30f74da74f3497da1a8e05", func := "shuttle/shuttlelaw07.CoreNames", spec := "coreNames", inPlace := ["internal/bytealg.IndexByteString"], unfollowed := true, recurses := true, loops := true, apart := false, narrowed := true }
def CoreNamesUptoSaid : Prop := coreNamesUptoRow.holds Tryz.pinned (OpenSpec.upto coreNamesSpec)

/-- 'shuttlelaw07.CoreBack', WHERE WHAT IT READS IS OF BULK AT MOST 1048576: true; the input reads as it did. -/
def coreBackUptoRow : OpenClaim := { program := "ytfjmlfbohenmfaagreat", sum := "653f0a98a4d3eadf1fe46874893250f236eb5a37bc30f74da74f3497da1a8e05", func := "shuttle/shuttlelaw07.CoreBack", spec := "coreBack", inPlace := ["internal/bytealg.IndexByteString"], unfollowed := true, recurses := true, loops := true, apart := false, narrowed := true }
def CoreBackUptoSaid : Prop := coreBackUptoRow.holds Tryz.pinned (OpenSpec.upto coreBackSpec)

end Rows
end Go.Proofs.YtfjmlfbohenmfaaGreat
