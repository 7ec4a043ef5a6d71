/-
  No cell of these rows narrows 'for every input' (looked for: loops, veiled, ifaces, maps, wideKeys, modest, calm, conditions, laid).
  DERIVED. THE GIVEN ROWS OF THIS SEAT. 10 by the template 'for every input the law returns true; each argument reads behind the call as it read before'; 0 by the template 'total and deterministic' (their statements: YtdiadoahcaoinaaTotals.lean).
  GIVEN WITH THE SEED: the statements are not yours to turn. If you find one false, say at which input.
  Laid BY PROGRAM, IN A SANDBOX (cutbox-rows.mjs): the forced cells as the released guide's own fill.sh prints them over the translation 79f0a9e85bce7121… (all of the seat's roots in one cut). By AI agents, Wed Nov 11 2026. No macro, syntax, notation, axiom, sorry.
-/
import Derived.Test.YtdiadoahcaoinaaChecked
import GoSem.Claim
import GoSem.ClaimJoined
import GoSem.ClaimMapViews
import Derived.JoinedTies
import Derived.KernelRfl
namespace Go.Proofs.Ytdiadoahcaoinaa
/- THE CELL 'sum', in the pinned program and in every row, IS THE sha256 OF THE DUMP (.gsa) THAT YtdiadoahcaoinaaProg.lean LOADS. Nothing in Lean hashes anything: it is a label: what it is worth is what the hold of that sum in a sandbox is worth. -/
noncomputable def Try.pinned : Pinned := { name := "ytdiadoahcaoinaa", sum := "79f0a9e85bce7121f0f5256c1bb8d26a2ce0cab50c5a489450b574e68345891f", checked := Try.checked }
namespace Rows
def none {H : Type} : Left H := { results := [], args := [] }

/-- 'shuttlelaw01.FixDivides': WHATEVER THE INPUT: true; the input reads as it did. -/
def fixDividesSpec : ChangeSpec := { name := "fixDivides", fn := fun _ => fun
  | [d1, d2] => { results := [.lit (.bool true)], args := [d1, d2] }
  | _ => none }
def fixDividesRow : OpenClaim := { program := "ytdiadoahcaoinaa", sum := "79f0a9e85bce7121f0f5256c1bb8d26a2ce0cab50c5a489450b574e68345891f", func := "shuttle/shuttlelaw01.FixDivides", spec := "fixDivides", apart := false }
def FixDividesSaid : Prop := fixDividesRow.holds Try.pinned (OpenSpec.ofChange fixDividesSpec)

/-- ITS FALSE NEIGHBOUR: 'it returns false'. Refute it at one input. -/
def fixDividesWrong : ChangeSpec := { name := "fixDivides", fn := fun _ => fun
  | [d1, d2] => { results := [.lit (.bool false)], args := [d1, d2] }
  | _ => none }
def FixDividesWrongFalsely : Prop := fixDividesRow.holds Try.pinned (OpenSpec.ofChange fixDividesWrong)

/-- 'shuttlelaw01.FixSums': WHATEVER THE INPUT: true; the input reads as it did. -/
def fixSumsSpec : ChangeSpec := { name := "fixSums", fn := fun _ => fun
  | [d1, d2] => { results := [.lit (.bool true)], args := [d1, d2] }
  | _ => none }
def fixSumsRow : OpenClaim := { program := "ytdiadoahcaoinaa", sum := "79f0a9e85bce7121f0f5256c1bb8d26a2ce0cab50c5a489450b574e68345891f", func := "shuttle/shuttlelaw01.FixSums", spec := "fixSums", apart := false }
def FixSumsSaid : Prop := fixSumsRow.holds Try.pinned (OpenSpec.ofChange fixSumsSpec)

/-- ITS FALSE NEIGHBOUR: 'it returns false'. Refute it at one input. -/
def fixSumsWrong : ChangeSpec := { name := "fixSums", fn := fun _ => fun
  | [d1, d2] => { results := [.lit (.bool false)], args := [d1, d2] }
  | _ => none }
def FixSumsWrongFalsely : Prop := fixSumsRow.holds Try.pinned (OpenSpec.ofChange fixSumsWrong)

/-- 'shuttlelaw01.FixGreatest': WHATEVER THE INPUT: true; the input reads as it did. -/
def fixGreatestSpec : ChangeSpec := { name := "fixGreatest", fn := fun _ => fun
  | [d1, d2, d3] => { results := [.lit (.bool true)], args := [d1, d2, d3] }
  | _ => none }
def fixGreatestRow : OpenClaim := { program := "ytdiadoahcaoinaa", sum := "79f0a9e85bce7121f0f5256c1bb8d26a2ce0cab50c5a489450b574e68345891f", func := "shuttle/shuttlelaw01.FixGreatest", spec := "fixGreatest", apart := false }
def FixGreatestSaid : Prop := fixGreatestRow.holds Try.pinned (OpenSpec.ofChange fixGreatestSpec)

/-- ITS FALSE NEIGHBOUR: 'it returns false'. Refute it at one input. -/
def fixGreatestWrong : ChangeSpec := { name := "fixGreatest", fn := fun _ => fun
  | [d1, d2, d3] => { results := [.lit (.bool false)], args := [d1, d2, d3] }
  | _ => none }
def FixGreatestWrongFalsely : Prop := fixGreatestRow.holds Try.pinned (OpenSpec.ofChange fixGreatestWrong)

/-- 'shuttlelaw01.FixParts': WHATEVER THE INPUT: true; the input reads as it did. -/
def fixPartsSpec : ChangeSpec := { name := "fixParts", fn := fun _ => fun
  | [d1, d2] => { results := [.lit (.bool true)], args := [d1, d2] }
  | _ => none }
def fixPartsRow : OpenClaim := { program := "ytdiadoahcaoinaa", sum := "79f0a9e85bce7121f0f5256c1bb8d26a2ce0cab50c5a489450b574e68345891f", func := "shuttle/shuttlelaw01.FixParts", spec := "fixParts", apart := false }
def FixPartsSaid : Prop := fixPartsRow.holds Try.pinned (OpenSpec.ofChange fixPartsSpec)

/-- ITS FALSE NEIGHBOUR: 'it returns false'. Refute it at one input. -/
def fixPartsWrong : ChangeSpec := { name := "fixParts", fn := fun _ => fun
  | [d1, d2] => { results := [.lit (.bool false)], args := [d1, d2] }
  | _ => none }
def FixPartsWrongFalsely : Prop := fixPartsRow.holds Try.pinned (OpenSpec.ofChange fixPartsWrong)

/-- 'shuttlelaw01.FixTexts': WHATEVER THE INPUT: true; the input reads as it did. -/
def fixTextsSpec : ChangeSpec := { name := "fixTexts", fn := fun _ => fun
  | [d1, d2] => { results := [.lit (.bool true)], args := [d1, d2] }
  | _ => none }
def fixTextsRow : OpenClaim := { program := "ytdiadoahcaoinaa", sum := "79f0a9e85bce7121f0f5256c1bb8d26a2ce0cab50c5a489450b574e68345891f", func := "shuttle/shuttlelaw01.FixTexts", spec := "fixTexts", recurses := true, apart := false }
def FixTextsSaid : Prop := fixTextsRow.holds Try.pinned (OpenSpec.ofChange fixTextsSpec)

/-- ITS FALSE NEIGHBOUR: 'it returns false'. Refute it at one input. -/
def fixTextsWrong : ChangeSpec := { name := "fixTexts", fn := fun _ => fun
  | [d1, d2] => { results := [.lit (.bool false)], args := [d1, d2] }
  | _ => none }
def FixTextsWrongFalsely : Prop := fixTextsRow.holds Try.pinned (OpenSpec.ofChange fixTextsWrong)

/-- 'shuttlelaw01.FixBack': WHATEVER THE INPUT: true; the input reads as it did. -/
def fixBackSpec : ChangeSpec := { name := "fixBack", fn := fun _ => fun
  | [d1, d2] => { results := [.lit (.bool true)], args := [d1, d2] }
  | _ => none }
def fixBackRow : OpenClaim := { program := "ytdiadoahcaoinaa", sum := "79f0a9e85bce7121f0f5256c1bb8d26a2ce0cab50c5a489450b574e68345891f", func := "shuttle/shuttlelaw01.FixBack", spec := "fixBack", apart := false }
def FixBackSaid : Prop := fixBackRow.holds Try.pinned (OpenSpec.ofChange fixBackSpec)

/-- ITS FALSE NEIGHBOUR: 'it returns false'. Refute it at one input. -/
def fixBackWrong : ChangeSpec := { name := "fixBack", fn := fun _ => fun
  | [d1, d2] => { results := [.lit (.bool false)], args := [d1, d2] }
  | _ => none }
def FixBackWrongFalsely : Prop := fixBackRow.holds Try.pinned (OpenSpec.ofChange fixBackWrong)

/-- 'shuttlelaw01.FixRing': WHATEVER THE INPUT: true; the input reads as it did. -/
def fixRingSpec : ChangeSpec := { name := "fixRing", fn := fun _ => fun
  | [d1, d2, d3] => { results := [.lit (.bool true)], args := [d1, d2, d3] }
  | _ => none }
def fixRingRow : OpenClaim := { program := "ytdiadoahcaoinaa", sum := "79f0a9e85bce7121f0f5256c1bb8d26a2ce0cab50c5a489450b574e68345891f", func := "shuttle/shuttlelaw01.FixRing", spec := "fixRing", apart := false }
def FixRingSaid : Prop := fixRingRow.holds Try.pinned (OpenSpec.ofChange fixRingSpec)

/-- ITS FALSE NEIGHBOUR: 'it returns false'. Refute it at one input. -/
def fixRingWrong : ChangeSpec := { name := "fixRing", fn := fun _ => fun
  | [d1, d2, d3] => { results := [.lit (.bool false)], args := [d1, d2, d3] }
  | _ => none }
def FixRingWrongFalsely : Prop := fixRingRow.holds Try.pinned (OpenSpec.ofChange fixRingWrong)

/-- 'shuttlelaw01.FixLists': WHATEVER THE INPUT: true; the input reads as it did. -/
def fixListsSpec : ChangeSpec := { name := "fixLists", fn := fun _ => fun
  | [d] => { results := [.lit (.bool true)], args := [d] }
  | _ => none }
def fixListsRow : OpenClaim := { program := "ytdiadoahcaoinaa", sum := "79f0a9e85bce7121f0f5256c1bb8d26a2ce0cab50c5a489450b574e68345891f", func := "shuttle/shuttlelaw01.FixLists", spec := "fixLists", unfollowed := true, recurses := true, apart := false }
def FixListsSaid : Prop := fixListsRow.holds Try.pinned (OpenSpec.ofChange fixListsSpec)

/-- ITS FALSE NEIGHBOUR: 'it returns false'. Refute it at one input. -/
def fixListsWrong : ChangeSpec := { name := "fixLists", fn := fun _ => fun
  | [d] => { results := [.lit (.bool false)], args := [d] }
  | _ => none }
def FixListsWrongFalsely : Prop := fixListsRow.holds Try.pinned (OpenSpec.ofChange fixListsWrong)

/-- 'shuttlelaw01.FixProducts': WHATEVER THE INPUT: true; the input reads as it did. -/
def fixProductsSpec : ChangeSpec := { name := "fixProducts", fn := fun _ => fun
  | [d1, d2] => { results := [.lit (.bool true)], args := [d1, d2] }
  | _ => none }
def fixProductsRow : OpenClaim := { program := "ytdiadoahcaoinaa", sum := "79f0a9e85bce7121f0f5256c1bb8d26a2ce0cab50c5a489450b574e68345891f", func := "shuttle/shuttlelaw01.FixProducts", spec := "fixProducts", apart := false }
def FixProductsSaid : Prop := fixProductsRow.holds Try.pinned (OpenSpec.ofChange fixProductsSpec)

/-- ITS FALSE NEIGHBOUR: 'it returns false'. Refute it at one input. -/
def fixProductsWrong : ChangeSpec := { name := "fixProducts", fn := fun _ => fun
  | [d1, d2] => { results := [.lit (.bool false)], args := [d1, d2] }
  | _ => none }
def FixProductsWrongFalsely : Prop := fixProductsRow.holds Try.pinned (OpenSpec.ofChange fixProductsWrong)

/-- 'shuttlelaw01.FixPowers': WHATEVER THE INPUT: true; the input reads as it did. -/
def fixPowersSpec : ChangeSpec := { name := "fixPowers", fn := fun _ => fun
  | [d1, d2, d3] => { results := [.lit (.bool true)], args := [d1, d2, d3] }
  | _ => none }
def fixPowersRow : OpenClaim := { program := "ytdiadoahcaoinaa", sum := "79f0a9e85bce7121f0f5256c1bb8d26a2ce0cab50c5a489450b574e68345891f", func := "shuttle/shuttlelaw01.FixPowers", spec := "fixPowers", apart := false }
def FixPowersSaid : Prop := fixPowersRow.holds Try.pinned (OpenSpec.ofChange fixPowersSpec)

/-- ITS FALSE NEIGHBOUR: 'it returns false'. Refute it at one input. -/
def fixPowersWrong : ChangeSpec := { name := "fixPowers", fn := fun _ => fun
  | [d1, d2, d3] => { results := [.lit (.bool false)], args := [d1, d2, d3] }
  | _ => none }
def FixPowersWrongFalsely : Prop := fixPowersRow.holds Try.pinned (OpenSpec.ofChange fixPowersWrong)

/- THE SECOND FORM. 'bulk': how many values and letters a reading holds, each counted each time it is reached (what is shared counts as often as it is met; a slice's spare places count too). A statement '..UptoSaid' is the law's where the arguments, and the package variables that the reading takes, are together of bulk at most 1048576: NARROWER than '..Said'. Prove '..Said' where nothing that the law and all that it calls make is longer than what came in: it says more and counts as full. Else prove '..UptoSaid'. A law counts once. -/
mutual
def uptoBulk {H : Type} : DataW H → Nat
  | .lit (.string bytes) => bytes.length + 1
  | .lit _ => 1
  | .nil => 1
  | .ptr d => uptoBulk d + 1
  | .slice elems spare => uptoBulkAll elems + uptoBulkAll spare + 1
  | .agg parts => uptoBulkAll parts + 1
  | .iface _ d => uptoBulk d + 1
  | .map entries => uptoBulkEntries entries + 1
  | .held _ => 1
def uptoBulkAll {H : Type} : List (DataW H) → Nat
  | [] => 0
  | d :: r => uptoBulk d + uptoBulkAll r
def uptoBulkEntries {H : Type} : List (Lit × DataW H) → Nat
  | [] => 0
  | x :: r => uptoBulkEntry x + uptoBulkEntries r
def uptoBulkEntry {H : Type} : Lit × DataW H → Nat
  | (.string bytes, d) => bytes.length + uptoBulk d + 1
  | (_, d) => uptoBulk d + 1
 end
def uptoSmall : (H : Type) → List (DataW H) → Bool := fun _ ds => decide (uptoBulkAll ds ≤ 1048576)
def OpenSpec.upto (s : _root_.Go.ChangeSpec) : _root_.Go.OpenSpec := { _root_.Go.OpenSpec.ofChange s with cond := some uptoSmall }

/-- 'shuttlelaw01.FixDivides', WHERE WHAT IT READS IS OF BULK AT MOST 1048576: true; the input reads as it did. -/
def fixDividesUptoRow : OpenClaim := { program := "ytdiadoahcaoinaa", sum := "79f0a9e85bce7121f0f5256c1bb8d26a2ce0cab50c5a489450b574e68345891f", func := "shuttle/shuttlelaw01.FixDivides", spec := "fixDivides", apart := false, narrowed := true }
def FixDividesUptoSaid : Prop := fixDividesUptoRow.holds Try.pinned (OpenSpec.upto fixDividesSpec)

/-- 'shuttlelaw01.FixSums', WHERE WHAT IT READS IS OF BULK AT MOST 1048576: true; the input reads as it did. -/
def fixSumsUptoRow : OpenClaim := { program := "ytdiadoahcaoinaa", sum := "79f0a9e85bce7121f0f5256c1bb8d26a2ce0cab50c5a489450b574e68345891f", func := "shuttle/shuttlelaw01.FixSums", spec := "fixSums", apart := false, narrowed := true }
def FixSumsUptoSaid : Prop := fixSumsUptoRow.holds Try.pinned (OpenSpec.upto fixSumsSpec)

/-- 'shuttlelaw01.FixGreatest', WHERE WHAT IT READS IS OF BULK AT MOST 1048576: true; the input reads as it did. -/
def fixGreatestUptoRow : OpenClaim := { program := "ytdiadoahcaoinaa", sum := "79f0a9e85bce7121f0f5256c1bb8d26a2ce0cab50c5a489450b574e68345891f", func := "shuttle/shuttlelaw01.FixGreatest", spec := "fixGreatest", apart := false, narrowed := true }
def FixGreatestUptoSaid : Prop := fixGreatestUptoRow.holds Try.pinned (OpenSpec.upto fixGreatestSpec)

/-- 'shuttlelaw01.FixParts', WHERE WHAT IT READS IS OF BULK AT MOST 1048576: true; the input reads as it did. -/
def fixPartsUptoRow : OpenClaim := { program := "ytdiadoahcaoinaa", sum := "79f0a9e85bce7121f0f5256c1bb8d26a2ce0cab50c5a489450b574e68345891f", func := "shuttle/shuttlelaw01.FixParts", spec := "fixParts", apart := false, narrowed := true }
def FixPartsUptoSaid : Prop := fixPartsUptoRow.holds Try.pinned (OpenSpec.upto fixPartsSpec)

/-- 'shuttlelaw01.FixTexts', WHERE WHAT IT READS IS OF BULK AT MOST 1048576: true; the input reads as it did. -/
def fixTextsUptoRow : OpenClaim := { program := "ytdiadoahcaoinaa", sum := "79f0a9e85bce7121f0f5256c1bb8d26a2ce0cab50c5a489450b574e68345891f", func := "shuttle/shuttlelaw01.FixTexts", spec := "fixTexts", recurses := true, apart := false, narrowed := true }
def FixTextsUptoSaid : Prop := fixTextsUptoRow.holds Try.pinned (OpenSpec.upto fixTextsSpec)

/-- 'shuttlelaw01.FixBack', WHERE WHAT IT READS IS OF BULK AT MOST 1048576: true; the input reads as it did. -/
def fixBackUptoRow : OpenClaim := { program := "ytdiadoahcaoinaa", sum := "79f0a9e85bce7121f0f5256c1bb8d26a2ce0cab50c5a489450b574e68345891f", func := "shuttle/shuttlelaw01.FixBack", spec := "fixBack", apart := false, narrowed := true }
def FixBackUptoSaid : Prop := fixBackUptoRow.holds Try.pinned (OpenSpec.upto fixBackSpec)

/-- 'shuttlelaw01.FixRing', WHERE WHAT IT READS IS OF BULK AT MOST 1048576: true; the input reads as it did. -/
def fixRingUptoRow : OpenClaim := { program := "ytdiadoahcaoinaa", sum := "79f0a9e85bce7121f0f5256c1bb8d26a2ce0cab50c5a489450b574e68345891f", func := "shuttle/shuttlelaw01.FixRing", spec := "fixRing", apart := false, narrowed := true }
def FixRingUptoSaid : Prop := fixRingUptoRow.holds Try.pinned (OpenSpec.upto fixRingSpec)

/-- 'shuttlelaw01.FixLists', WHERE WHAT IT READS IS OF BULK AT MOST 1048576: true; the input reads as it did. -/
def fixListsUptoRow : OpenClaim := { program := "ytdiadoahcaoinaa", sum := "79f0a9e85bce7121f0f5256c1bb8d26a2ce0cab50c5a489450b574e68345891f", func := "shuttle/shuttlelaw01.FixLists", spec := "fixLists", unfollowed := true, recurses := true, apart := false, narrowed := true }
def FixListsUptoSaid : Prop := fixListsUptoRow.holds Try.pinned (OpenSpec.upto fixListsSpec)

/-- 'shuttlelaw01.FixProducts', WHERE WHAT IT READS IS OF BULK AT MOST 1048576: true; the input reads as it did. -/
def fixProductsUptoRow : OpenClaim := { program := "ytdiadoahcaoinaa", sum := "79f0a9e85bce7121f0f5256c1bb8d26a2ce0cab50c5a489450b574e68345891f", func := "shuttle/shuttlelaw01.FixProducts", spec := "fixProducts", apart := false, narrowed := true }
def FixProductsUptoSaid : Prop := fixProductsUptoRow.holds Try.pinned (OpenSpec.upto fixProductsSpec)

/-- 'shuttlelaw01.FixPowers', WHERE WHAT IT READS IS OF BULK AT MOST 1048576: true; the input reads as it did. -/
def fixPowersUptoRow : OpenClaim := { program := "ytdiadoahcaoinaa", sum := "79f0a9e85bce7121f0f5256c1bb8d26a2ce0cab50c5a489450b574e68345891f", func := "shuttle/shuttlelaw01.FixPowers", spec := "fixPowers", apart := false, narrowed := true }
def FixPowersUptoSaid : Prop := fixPowersUptoRow.holds Try.pinned (OpenSpec.upto fixPowersSpec)

end Rows
end Go.Proofs.Ytdiadoahcaoinaa
