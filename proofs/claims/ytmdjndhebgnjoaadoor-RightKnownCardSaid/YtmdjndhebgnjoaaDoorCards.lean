/-
  DERIVED. GIVEN WITH THE SEED: THE CARDS: each row of YtmdjndhebgnjoaaDoorRows.lean that lists a variable, with what it lists TIED to the program's text (the seventh form; the later family's looks); each row that meets fmt, with fmt's text TOLD by the authors' own Lean function (tested against real Go, not proved from fmt's source: count such statements apart). THE CARD IS WHAT COUNTS. Prove the row's statement (the work); the ties are given (YtmdjndhebgnjoaaDoorTie.lean); close each card by the builder's one call (the guide's Derived/Test/ToyasCard.lean, 'card_holds'). Laid BY PROGRAM, IN A SANDBOX (cutbox-door.mjs). By AI agents, Wed Nov 11 2026. No macro, syntax, notation, axiom, sorry.
-/
import Derived.Test.YtmdjndhebgnjoaaDoorRows
import GoSem.ClaimSeven
namespace Go.Proofs.YtmdjndhebgnjoaaDoor
namespace Rows

/-- THE TIED CARD OF 'sealerylaw13.RightOrder'. -/
def rightOrderCard : Claim7 := { stood := { row := rightOrderRow, standIns := [], harness := (true, "6af7e12c29b2c72b550a90db01fbcb8416ed50cd74cb6bed804cadeede6e2291"), looks := false }, kinds := [], alts := [], laidByText := true, laidKinds := [.data, .pinned], laidTests := true, laidLooks := .later }
def RightOrderCardSaid : Prop := Claim7.holds Tryd.pinned (.plain (OpenSpec.ofChange rightOrderSpec)) rightOrderCard

/-- THE TIED CARD OF 'sealerylaw13.RightNames'. -/
def rightNamesCard : Claim7 := { stood := { row := rightNamesRow, standIns := [], harness := (true, "6af7e12c29b2c72b550a90db01fbcb8416ed50cd74cb6bed804cadeede6e2291"), looks := false }, kinds := [], alts := [], laidByText := true, laidKinds := [.data, .pinned], laidTests := true, laidLooks := .later }
def RightNamesCardSaid : Prop := Claim7.holds Tryd.pinned (.plain (OpenSpec.ofChange rightNamesSpec)) rightNamesCard

/-- THE TIED CARD OF 'sealerylaw13.RightGrants'. -/
def rightGrantsCard : Claim7 := { stood := { row := rightGrantsRow, standIns := [], harness := (true, "6af7e12c29b2c72b550a90db01fbcb8416ed50cd74cb6bed804cadeede6e2291"), looks := false }, kinds := [], alts := [], laidByText := true, laidKinds := [.data, .pinned], laidTests := true, laidLooks := .later }
def RightGrantsCardSaid : Prop := Claim7.holds Tryd.pinned (.plain (OpenSpec.ofChange rightGrantsSpec)) rightGrantsCard

/-- THE TIED CARD OF 'sealerylaw13.RightLess'. -/
def rightLessCard : Claim7 := { stood := { row := rightLessRow, standIns := [], harness := (true, "6af7e12c29b2c72b550a90db01fbcb8416ed50cd74cb6bed804cadeede6e2291"), looks := false }, kinds := [], alts := [], laidByText := true, laidKinds := [.data, .pinned], laidTests := true, laidLooks := .later }
def RightLessCardSaid : Prop := Claim7.holds Tryd.pinned (.plain (OpenSpec.ofChange rightLessSpec)) rightLessCard

/-- THE TIED CARD OF 'sealerylaw13.RightAdded'. -/
def rightAddedCard : Claim7 := { stood := { row := rightAddedRow, standIns := [], harness := (true, "6af7e12c29b2c72b550a90db01fbcb8416ed50cd74cb6bed804cadeede6e2291"), looks := false }, kinds := [], alts := [], laidByText := true, laidKinds := [.data, .pinned], laidTests := true, laidLooks := .later }
def RightAddedCardSaid : Prop := Claim7.holds Tryd.pinned (.plain (OpenSpec.ofChange rightAddedSpec)) rightAddedCard

/-- THE TIED CARD OF 'sealerylaw13.RightRules'. -/
def rightRulesCard : Claim7 := { stood := { row := rightRulesRow, standIns := [], harness := (true, "6af7e12c29b2c72b550a90db01fbcb8416ed50cd74cb6bed804cadeede6e2291"), looks := false }, kinds := [], alts := [], laidByText := true, laidKinds := [.data, .pinned], laidTests := true, laidLooks := .later }
def RightRulesCardSaid : Prop := Claim7.holds Tryd.pinned (.plain (OpenSpec.ofChange rightRulesSpec)) rightRulesCard

/-- THE TIED CARD OF 'sealerylaw13.RightKnown'. -/
def rightKnownCard : Claim7 := { stood := { row := rightKnownRow, standIns := [], harness := (true, "6af7e12c29b2c72b550a90db01fbcb8416ed50cd74cb6bed804cadeede6e2291"), looks := false }, kinds := [], alts := [], laidByText := true, laidKinds := [.data, .pinned], laidTests := true, laidLooks := .later }
def RightKnownCardSaid : Prop := Claim7.holds Tryd.pinned (.plain (OpenSpec.ofChange rightKnownSpec)) rightKnownCard

/-- THE SECOND FORM's CARD OF 'sealerylaw13.RightOrder'. -/
def rightOrderUptoCard : Claim7 := { stood := { row := rightOrderUptoRow, standIns := [], harness := (true, "6af7e12c29b2c72b550a90db01fbcb8416ed50cd74cb6bed804cadeede6e2291"), looks := false }, kinds := [], alts := [], laidByText := true, laidKinds := [.data, .pinned], laidTests := true, laidLooks := .later }
def RightOrderUptoCardSaid : Prop := Claim7.holds Tryd.pinned (.plain (OpenSpec.upto rightOrderSpec)) rightOrderUptoCard

/-- THE SECOND FORM's CARD OF 'sealerylaw13.RightNames'. -/
def rightNamesUptoCard : Claim7 := { stood := { row := rightNamesUptoRow, standIns := [], harness := (true, "6af7e12c29b2c72b550a90db01fbcb8416ed50cd74cb6bed804cadeede6e2291"), looks := false }, kinds := [], alts := [], laidByText := true, laidKinds := [.data, .pinned], laidTests := true, laidLooks := .later }
def RightNamesUptoCardSaid : Prop := Claim7.holds Tryd.pinned (.plain (OpenSpec.upto rightNamesSpec)) rightNamesUptoCard

/-- THE SECOND FORM's CARD OF 'sealerylaw13.RightGrants'. -/
def rightGrantsUptoCard : Claim7 := { stood := { row := rightGrantsUptoRow, standIns := [], harness := (true, "6af7e12c29b2c72b550a90db01fbcb8416ed50cd74cb6bed804cadeede6e2291"), looks := false }, kinds := [], alts := [], laidByText := true, laidKinds := [.data, .pinned], laidTests := true, laidLooks := .later }
def RightGrantsUptoCardSaid : Prop := Claim7.holds Tryd.pinned (.plain (OpenSpec.upto rightGrantsSpec)) rightGrantsUptoCard

/-- THE SECOND FORM's CARD OF 'sealerylaw13.RightLess'. -/
def rightLessUptoCard : Claim7 := { stood := { row := rightLessUptoRow, standIns := [], harness := (true, "6af7e12c29b2c72b550a90db01fbcb8416ed50cd74cb6bed804cadeede6e2291"), looks := false }, kinds := [], alts := [], laidByText := true, laidKinds := [.data, .pinned], laidTests := true, laidLooks := .later }
def RightLessUptoCardSaid : Prop := Claim7.holds Tryd.pinned (.plain (OpenSpec.upto rightLessSpec)) rightLessUptoCard

/-- THE SECOND FORM's CARD OF 'sealerylaw13.RightAdded'. -/
def rightAddedUptoCard : Claim7 := { stood := { row := rightAddedUptoRow, standIns := [], harness := (true, "6af7e12c29b2c72b550a90db01fbcb8416ed50cd74cb6bed804cadeede6e2291"), looks := false }, kinds := [], alts := [], laidByText := true, laidKinds := [.data, .pinned], laidTests := true, laidLooks := .later }
def RightAddedUptoCardSaid : Prop := Claim7.holds Tryd.pinned (.plain (OpenSpec.upto rightAddedSpec)) rightAddedUptoCard

/-- THE SECOND FORM's CARD OF 'sealerylaw13.RightRules'. -/
def rightRulesUptoCard : Claim7 := { stood := { row := rightRulesUptoRow, standIns := [], harness := (true, "6af7e12c29b2c72b550a90db01fbcb8416ed50cd74cb6bed804cadeede6e2291"), looks := false }, kinds := [], alts := [], laidByText := true, laidKinds := [.data, .pinned], laidTests := true, laidLooks := .later }
def RightRulesUptoCardSaid : Prop := Claim7.holds Tryd.pinned (.plain (OpenSpec.upto rightRulesSpec)) rightRulesUptoCard

/-- THE SECOND FORM's CARD OF 'sealerylaw13.RightKnown'. -/
def rightKnownUptoCard : Claim7 := { stood := { row := rightKnownUptoRow, standIns := [], harness := (true, "6af7e12c29b2c72b550a90db01fbcb8416ed50cd74cb6bed804cadeede6e2291"), looks := false }, kinds := [], alts := [], laidByText := true, laidKinds := [.data, .pinned], laidTests := true, laidLooks := .later }
def RightKnownUptoCardSaid : Prop := Claim7.holds Tryd.pinned (.plain (OpenSpec.upto rightKnownSpec)) rightKnownUptoCard
end Rows
end Go.Proofs.YtmdjndhebgnjoaaDoor
