/-
  DERIVED. GIVEN WITH THE SEED: THE CARDS: each row of YtjbjgceblanhpaaDoorRows.lean that lists a variable, with what it lists TIED to the program's text (the seventh form; the later family's looks); each row that meets fmt, with fmt's text TOLD by the authors' own Lean function (tested against real Go, not proved from fmt's source: count such statements apart). THE CARD IS WHAT COUNTS. Prove the row's statement (the work); the ties are given (YtjbjgceblanhpaaDoorTie.lean); close each card by the builder's one call (the guide's Derived/Test/ToyasCard.lean, 'card_holds'). Laid BY PROGRAM, IN A SANDBOX (cutbox-door.mjs). By AI agents, Wed Nov 11 2026. No macro, syntax, notation, axiom, sorry.
-/
import Derived.Test.YtjbjgceblanhpaaDoorRows
import GoSem.ClaimSeven
namespace Go.Proofs.YtjbjgceblanhpaaDoor
namespace Rows

/-- THE TIED CARD OF 'shuttlelaw05.ScopeInner'. -/
def scopeInnerCard : Claim7 := { stood := { row := scopeInnerRow, standIns := [], harness := (true, "f6eae7a79635be3d7e25425b5fc46bc7fc65349bd91dbd6f2fbb496595045089"), looks := true }, kinds := [], alts := [], laidByText := true, laidKinds := [.data, .data, .data], laidTests := true, laidLooks := .later }
def ScopeInnerCardSaid : Prop := Claim7.holds Tryd.pinned (.plain (OpenSpec.ofChange scopeInnerSpec)) scopeInnerCard

/-- THE TIED CARD OF 'shuttlelaw05.ScopeAlike'. -/
def scopeAlikeCard : Claim7 := { stood := { row := scopeAlikeRow, standIns := [], harness := (true, "f6eae7a79635be3d7e25425b5fc46bc7fc65349bd91dbd6f2fbb496595045089"), looks := true }, kinds := [], alts := [], laidByText := true, laidKinds := [.data, .data, .data], laidTests := true, laidLooks := .later }
def ScopeAlikeCardSaid : Prop := Claim7.holds Tryd.pinned (.plain (OpenSpec.ofChange scopeAlikeSpec)) scopeAlikeCard

/-- THE TIED CARD OF 'shuttlelaw05.ScopeMarks'. -/
def scopeMarksCard : Claim7 := { stood := { row := scopeMarksRow, standIns := [], harness := (true, "f6eae7a79635be3d7e25425b5fc46bc7fc65349bd91dbd6f2fbb496595045089"), looks := true }, kinds := [], alts := [], laidByText := true, laidKinds := [.data, .data, .data], laidTests := true, laidLooks := .later }
def ScopeMarksCardSaid : Prop := Claim7.holds Tryd.pinned (.plain (OpenSpec.ofChange scopeMarksSpec)) scopeMarksCard

/-- THE TIED CARD OF 'shuttlelaw05.ScopeDoes'. -/
def scopeDoesCard : Claim7 := { stood := { row := scopeDoesRow, standIns := [], harness := (true, "f6eae7a79635be3d7e25425b5fc46bc7fc65349bd91dbd6f2fbb496595045089"), looks := true }, kinds := [], alts := [], laidByText := true, laidKinds := [.data, .data, .data], laidTests := true, laidLooks := .later }
def ScopeDoesCardSaid : Prop := Claim7.holds Tryd.pinned (.plain (OpenSpec.ofChange scopeDoesSpec)) scopeDoesCard

/-- THE TIED CARD OF 'shuttlelaw05.ScopeNone'. -/
def scopeNoneCard : Claim7 := { stood := { row := scopeNoneRow, standIns := [], harness := (true, "f6eae7a79635be3d7e25425b5fc46bc7fc65349bd91dbd6f2fbb496595045089"), looks := true }, kinds := [], alts := [], laidByText := true, laidKinds := [.data, .data, .data], laidTests := true, laidLooks := .later }
def ScopeNoneCardSaid : Prop := Claim7.holds Tryd.pinned (.plain (OpenSpec.ofChange scopeNoneSpec)) scopeNoneCard

/-- THE SECOND FORM's CARD OF 'shuttlelaw05.ScopeInner'. -/
def scopeInnerUptoCard : Claim7 := { stood := { row := scopeInnerUptoRow, standIns := [], harness := (true, "f6eae7a79635be3d7e25425b5fc46bc7fc65349bd91dbd6f2fbb496595045089"), looks := true }, kinds := [], alts := [], laidByText := true, laidKinds := [.data, .data, .data], laidTests := true, laidLooks := .later }
def ScopeInnerUptoCardSaid : Prop := Claim7.holds Tryd.pinned (.plain (OpenSpec.upto scopeInnerSpec)) scopeInnerUptoCard

/-- THE SECOND FORM's CARD OF 'shuttlelaw05.ScopeAlike'. -/
def scopeAlikeUptoCard : Claim7 := { stood := { row := scopeAlikeUptoRow, standIns := [], harness := (true, "f6eae7a79635be3d7e25425b5fc46bc7fc65349bd91dbd6f2fbb496595045089"), looks := true }, kinds := [], alts := [], laidByText := true, laidKinds := [.data, .data, .data], laidTests := true, laidLooks := .later }
def ScopeAlikeUptoCardSaid : Prop := Claim7.holds Tryd.pinned (.plain (OpenSpec.upto scopeAlikeSpec)) scopeAlikeUptoCard

/-- THE SECOND FORM's CARD OF 'shuttlelaw05.ScopeMarks'. -/
def scopeMarksUptoCard : Claim7 := { stood := { row := scopeMarksUptoRow, standIns := [], harness := (true, "f6eae7a79635be3d7e25425b5fc46bc7fc65349bd91dbd6f2fbb496595045089"), looks := true }, kinds := [], alts := [], laidByText := true, laidKinds := [.data, .data, .data], laidTests := true, laidLooks := .later }
def ScopeMarksUptoCardSaid : Prop := Claim7.holds Tryd.pinned (.plain (OpenSpec.upto scopeMarksSpec)) scopeMarksUptoCard

/-- THE SECOND FORM's CARD OF 'shuttlelaw05.ScopeDoes'. -/
def scopeDoesUptoCard : Claim7 := { stood := { row := scopeDoesUptoRow, standIns := [], harness := (true, "f6eae7a79635be3d7e25425b5fc46bc7fc65349bd91dbd6f2fbb496595045089"), looks := true }, kinds := [], alts := [], laidByText := true, laidKinds := [.data, .data, .data], laidTests := true, laidLooks := .later }
def ScopeDoesUptoCardSaid : Prop := Claim7.holds Tryd.pinned (.plain (OpenSpec.upto scopeDoesSpec)) scopeDoesUptoCard

/-- THE SECOND FORM's CARD OF 'shuttlelaw05.ScopeNone'. -/
def scopeNoneUptoCard : Claim7 := { stood := { row := scopeNoneUptoRow, standIns := [], harness := (true, "f6eae7a79635be3d7e25425b5fc46bc7fc65349bd91dbd6f2fbb496595045089"), looks := true }, kinds := [], alts := [], laidByText := true, laidKinds := [.data, .data, .data], laidTests := true, laidLooks := .later }
def ScopeNoneUptoCardSaid : Prop := Claim7.holds Tryd.pinned (.plain (OpenSpec.upto scopeNoneSpec)) scopeNoneUptoCard
end Rows
end Go.Proofs.YtjbjgceblanhpaaDoor
