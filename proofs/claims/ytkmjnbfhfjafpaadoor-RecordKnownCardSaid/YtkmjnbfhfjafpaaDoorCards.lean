/-
  DERIVED. GIVEN WITH THE SEED: THE CARDS: each row of YtkmjnbfhfjafpaaDoorRows.lean that lists a variable, with what it lists TIED to the program's text (the seventh form; the later family's looks); each row that meets fmt, with fmt's text TOLD by the authors' own Lean function (tested against real Go, not proved from fmt's source: count such statements apart). THE CARD IS WHAT COUNTS. Prove the row's statement (the work); the ties are given (YtkmjnbfhfjafpaaDoorTie.lean); close each card by the builder's one call (the guide's Derived/Test/ToyasCard.lean, 'card_holds'). Laid BY PROGRAM, IN A SANDBOX (cutbox-door.mjs). By AI agents, Wed Nov 11 2026. No macro, syntax, notation, axiom, sorry.
-/
import Derived.Test.YtkmjnbfhfjafpaaDoorRows
import GoSem.ClaimSeven
namespace Go.Proofs.YtkmjnbfhfjafpaaDoor
namespace Rows

/-- THE TIED CARD OF 'sealerylaw17.RecordPuts'. -/
def recordPutsCard : Claim7 := { stood := { row := recordPutsRow, standIns := [], harness := (true, "4ba8e20b501212f83479a5fbafd66d7c534ff374a5d8ef2eec34ccaeedc5f6fd"), looks := false }, kinds := [], alts := [], laidByText := true, laidKinds := [.data, .pinned], laidTests := true, laidLooks := .later }
def RecordPutsCardSaid : Prop := Claim7.holds Tryd.pinned (.plain (OpenSpec.ofChange recordPutsSpec)) recordPutsCard

/-- THE TIED CARD OF 'sealerylaw17.RecordGets'. -/
def recordGetsCard : Claim7 := { stood := { row := recordGetsRow, standIns := [], harness := (true, "4ba8e20b501212f83479a5fbafd66d7c534ff374a5d8ef2eec34ccaeedc5f6fd"), looks := false }, kinds := [], alts := [], laidByText := true, laidKinds := [.data, .pinned], laidTests := true, laidLooks := .later }
def RecordGetsCardSaid : Prop := Claim7.holds Tryd.pinned (.plain (OpenSpec.ofChange recordGetsSpec)) recordGetsCard

/-- THE TIED CARD OF 'sealerylaw17.RecordBack'. -/
def recordBackCard : Claim7 := { stood := { row := recordBackRow, standIns := [], harness := (true, "4ba8e20b501212f83479a5fbafd66d7c534ff374a5d8ef2eec34ccaeedc5f6fd"), looks := false }, kinds := [], alts := [], laidByText := true, laidKinds := [.data, .pinned], laidTests := true, laidLooks := .later }
def RecordBackCardSaid : Prop := Claim7.holds Tryd.pinned (.plain (OpenSpec.ofChange recordBackSpec)) recordBackCard

/-- THE TIED CARD OF 'sealerylaw17.RecordCut'. -/
def recordCutCard : Claim7 := { stood := { row := recordCutRow, standIns := [], harness := (true, "4ba8e20b501212f83479a5fbafd66d7c534ff374a5d8ef2eec34ccaeedc5f6fd"), looks := false }, kinds := [], alts := [], laidByText := true, laidKinds := [.data, .pinned], laidTests := true, laidLooks := .later }
def RecordCutCardSaid : Prop := Claim7.holds Tryd.pinned (.plain (OpenSpec.ofChange recordCutSpec)) recordCutCard

/-- THE TIED CARD OF 'sealerylaw17.RecordFields'. -/
def recordFieldsCard : Claim7 := { stood := { row := recordFieldsRow, standIns := [], harness := (true, "4ba8e20b501212f83479a5fbafd66d7c534ff374a5d8ef2eec34ccaeedc5f6fd"), looks := false }, kinds := [], alts := [], laidByText := true, laidKinds := [.data, .pinned], laidTests := true, laidLooks := .later }
def RecordFieldsCardSaid : Prop := Claim7.holds Tryd.pinned (.plain (OpenSpec.ofChange recordFieldsSpec)) recordFieldsCard

/-- THE TIED CARD OF 'sealerylaw17.RecordKnown'. -/
def recordKnownCard : Claim7 := { stood := { row := recordKnownRow, standIns := [], harness := (true, "4ba8e20b501212f83479a5fbafd66d7c534ff374a5d8ef2eec34ccaeedc5f6fd"), looks := false }, kinds := [], alts := [], laidByText := true, laidKinds := [.data, .pinned], laidTests := true, laidLooks := .later }
def RecordKnownCardSaid : Prop := Claim7.holds Tryd.pinned (.plain (OpenSpec.ofChange recordKnownSpec)) recordKnownCard

/-- THE SECOND FORM's CARD OF 'sealerylaw17.RecordPuts'. -/
def recordPutsUptoCard : Claim7 := { stood := { row := recordPutsUptoRow, standIns := [], harness := (true, "4ba8e20b501212f83479a5fbafd66d7c534ff374a5d8ef2eec34ccaeedc5f6fd"), looks := false }, kinds := [], alts := [], laidByText := true, laidKinds := [.data, .pinned], laidTests := true, laidLooks := .later }
def RecordPutsUptoCardSaid : Prop := Claim7.holds Tryd.pinned (.plain (OpenSpec.upto recordPutsSpec)) recordPutsUptoCard

/-- THE SECOND FORM's CARD OF 'sealerylaw17.RecordGets'. -/
def recordGetsUptoCard : Claim7 := { stood := { row := recordGetsUptoRow, standIns := [], harness := (true, "4ba8e20b501212f83479a5fbafd66d7c534ff374a5d8ef2eec34ccaeedc5f6fd"), looks := false }, kinds := [], alts := [], laidByText := true, laidKinds := [.data, .pinned], laidTests := true, laidLooks := .later }
def RecordGetsUptoCardSaid : Prop := Claim7.holds Tryd.pinned (.plain (OpenSpec.upto recordGetsSpec)) recordGetsUptoCard

/-- THE SECOND FORM's CARD OF 'sealerylaw17.RecordBack'. -/
def recordBackUptoCard : Claim7 := { stood := { row := recordBackUptoRow, standIns := [], harness := (true, "4ba8e20b501212f83479a5fbafd66d7c534ff374a5d8ef2eec34ccaeedc5f6fd"), looks := false }, kinds := [], alts := [], laidByText := true, laidKinds := [.data, .pinned], laidTests := true, laidLooks := .later }
def RecordBackUptoCardSaid : Prop := Claim7.holds Tryd.pinned (.plain (OpenSpec.upto recordBackSpec)) recordBackUptoCard

/-- THE SECOND FORM's CARD OF 'sealerylaw17.RecordCut'. -/
def recordCutUptoCard : Claim7 := { stood := { row := recordCutUptoRow, standIns := [], harness := (true, "4ba8e20b501212f83479a5fbafd66d7c534ff374a5d8ef2eec34ccaeedc5f6fd"), looks := false }, kinds := [], alts := [], laidByText := true, laidKinds := [.data, .pinned], laidTests := true, laidLooks := .later }
def RecordCutUptoCardSaid : Prop := Claim7.holds Tryd.pinned (.plain (OpenSpec.upto recordCutSpec)) recordCutUptoCard

/-- THE SECOND FORM's CARD OF 'sealerylaw17.RecordFields'. -/
def recordFieldsUptoCard : Claim7 := { stood := { row := recordFieldsUptoRow, standIns := [], harness := (true, "4ba8e20b501212f83479a5fbafd66d7c534ff374a5d8ef2eec34ccaeedc5f6fd"), looks := false }, kinds := [], alts := [], laidByText := true, laidKinds := [.data, .pinned], laidTests := true, laidLooks := .later }
def RecordFieldsUptoCardSaid : Prop := Claim7.holds Tryd.pinned (.plain (OpenSpec.upto recordFieldsSpec)) recordFieldsUptoCard

/-- THE SECOND FORM's CARD OF 'sealerylaw17.RecordKnown'. -/
def recordKnownUptoCard : Claim7 := { stood := { row := recordKnownUptoRow, standIns := [], harness := (true, "4ba8e20b501212f83479a5fbafd66d7c534ff374a5d8ef2eec34ccaeedc5f6fd"), looks := false }, kinds := [], alts := [], laidByText := true, laidKinds := [.data, .pinned], laidTests := true, laidLooks := .later }
def RecordKnownUptoCardSaid : Prop := Claim7.holds Tryd.pinned (.plain (OpenSpec.upto recordKnownSpec)) recordKnownUptoCard
end Rows
end Go.Proofs.YtkmjnbfhfjafpaaDoor
