/-
  DERIVED. GIVEN WITH THE SEED: THE CARDS: each row of YtjcpgjnogcmalaaDoorRows.lean that lists a variable, with what it lists TIED to the program's text (the seventh form; the later family's looks); each row that meets fmt, with fmt's text TOLD by the authors' own Lean function (tested against real Go, not proved from fmt's source: count such statements apart). THE CARD IS WHAT COUNTS. Prove the row's statement (the work); the ties are given (YtjcpgjnogcmalaaDoorTie.lean); close each card by the builder's one call (the guide's Derived/Test/ToyasCard.lean, 'card_holds'). Laid BY PROGRAM, IN A SANDBOX (cutbox-door.mjs). By AI agents, Wed Nov 11 2026. No macro, syntax, notation, axiom, sorry.
-/
import Derived.Test.YtjcpgjnogcmalaaDoorRows
import GoSem.ClaimSeven
namespace Go.Proofs.YtjcpgjnogcmalaaDoor
namespace Rows

/-- THE TIED CARD OF 'sealerylaw14.TokenVerifies'. -/
def tokenVerifiesCard : Claim7 := { stood := { row := tokenVerifiesRow, standIns := [], harness := (true, "3a2fda17dde41bc7df7b027128cd3c43e018305405b50efa7ebc00db7263ea39"), looks := false }, kinds := [], alts := [], laidByText := true, laidKinds := [.data, .data, .data, .pinned], laidTests := true, laidLooks := .later }
def TokenVerifiesCardSaid : Prop := Claim7.holds Tryd.pinned (.plain (OpenSpec.ofChange tokenVerifiesSpec)) tokenVerifiesCard

/-- THE TIED CARD OF 'sealerylaw14.TokenJust'. -/
def tokenJustCard : Claim7 := { stood := { row := tokenJustRow, standIns := [], harness := (true, "3a2fda17dde41bc7df7b027128cd3c43e018305405b50efa7ebc00db7263ea39"), looks := false }, kinds := [], alts := [], laidByText := true, laidKinds := [.data, .data, .data, .pinned], laidTests := true, laidLooks := .later }
def TokenJustCardSaid : Prop := Claim7.holds Tryd.pinned (.plain (OpenSpec.ofChange tokenJustSpec)) tokenJustCard

/-- THE TIED CARD OF 'sealerylaw14.TokenKnown'. -/
def tokenKnownCard : Claim7 := { stood := { row := tokenKnownRow, standIns := [], harness := (true, "3a2fda17dde41bc7df7b027128cd3c43e018305405b50efa7ebc00db7263ea39"), looks := false }, kinds := [], alts := [], laidByText := true, laidKinds := [.data, .data, .data, .pinned], laidTests := true, laidLooks := .later }
def TokenKnownCardSaid : Prop := Claim7.holds Tryd.pinned (.plain (OpenSpec.ofChange tokenKnownSpec)) tokenKnownCard

/-- THE TIED CARD OF 'sealerylaw14.TokenMade'. -/
def tokenMadeCard : Claim7 := { stood := { row := tokenMadeRow, standIns := [], harness := (true, "3a2fda17dde41bc7df7b027128cd3c43e018305405b50efa7ebc00db7263ea39"), looks := false }, kinds := [], alts := [], laidByText := true, laidKinds := [.data, .data, .data, .pinned], laidTests := true, laidLooks := .later }
def TokenMadeCardSaid : Prop := Claim7.holds Tryd.pinned (.plain (OpenSpec.ofChange tokenMadeSpec)) tokenMadeCard

/-- THE TIED CARD OF 'sealerylaw14.TokenBack'. -/
def tokenBackCard : Claim7 := { stood := { row := tokenBackRow, standIns := [], harness := (true, "3a2fda17dde41bc7df7b027128cd3c43e018305405b50efa7ebc00db7263ea39"), looks := false }, kinds := [], alts := [], laidByText := true, laidKinds := [.data, .data, .data, .pinned], laidTests := true, laidLooks := .later }
def TokenBackCardSaid : Prop := Claim7.holds Tryd.pinned (.plain (OpenSpec.ofChange tokenBackSpec)) tokenBackCard

/-- THE SECOND FORM's CARD OF 'sealerylaw14.TokenVerifies'. -/
def tokenVerifiesUptoCard : Claim7 := { stood := { row := tokenVerifiesUptoRow, standIns := [], harness := (true, "3a2fda17dde41bc7df7b027128cd3c43e018305405b50efa7ebc00db7263ea39"), looks := false }, kinds := [], alts := [], laidByText := true, laidKinds := [.data, .data, .data, .pinned], laidTests := true, laidLooks := .later }
def TokenVerifiesUptoCardSaid : Prop := Claim7.holds Tryd.pinned (.plain (OpenSpec.upto tokenVerifiesSpec)) tokenVerifiesUptoCard

/-- THE SECOND FORM's CARD OF 'sealerylaw14.TokenJust'. -/
def tokenJustUptoCard : Claim7 := { stood := { row := tokenJustUptoRow, standIns := [], harness := (true, "3a2fda17dde41bc7df7b027128cd3c43e018305405b50efa7ebc00db7263ea39"), looks := false }, kinds := [], alts := [], laidByText := true, laidKinds := [.data, .data, .data, .pinned], laidTests := true, laidLooks := .later }
def TokenJustUptoCardSaid : Prop := Claim7.holds Tryd.pinned (.plain (OpenSpec.upto tokenJustSpec)) tokenJustUptoCard

/-- THE SECOND FORM's CARD OF 'sealerylaw14.TokenKnown'. -/
def tokenKnownUptoCard : Claim7 := { stood := { row := tokenKnownUptoRow, standIns := [], harness := (true, "3a2fda17dde41bc7df7b027128cd3c43e018305405b50efa7ebc00db7263ea39"), looks := false }, kinds := [], alts := [], laidByText := true, laidKinds := [.data, .data, .data, .pinned], laidTests := true, laidLooks := .later }
def TokenKnownUptoCardSaid : Prop := Claim7.holds Tryd.pinned (.plain (OpenSpec.upto tokenKnownSpec)) tokenKnownUptoCard

/-- THE SECOND FORM's CARD OF 'sealerylaw14.TokenMade'. -/
def tokenMadeUptoCard : Claim7 := { stood := { row := tokenMadeUptoRow, standIns := [], harness := (true, "3a2fda17dde41bc7df7b027128cd3c43e018305405b50efa7ebc00db7263ea39"), looks := false }, kinds := [], alts := [], laidByText := true, laidKinds := [.data, .data, .data, .pinned], laidTests := true, laidLooks := .later }
def TokenMadeUptoCardSaid : Prop := Claim7.holds Tryd.pinned (.plain (OpenSpec.upto tokenMadeSpec)) tokenMadeUptoCard

/-- THE SECOND FORM's CARD OF 'sealerylaw14.TokenBack'. -/
def tokenBackUptoCard : Claim7 := { stood := { row := tokenBackUptoRow, standIns := [], harness := (true, "3a2fda17dde41bc7df7b027128cd3c43e018305405b50efa7ebc00db7263ea39"), looks := false }, kinds := [], alts := [], laidByText := true, laidKinds := [.data, .data, .data, .pinned], laidTests := true, laidLooks := .later }
def TokenBackUptoCardSaid : Prop := Claim7.holds Tryd.pinned (.plain (OpenSpec.upto tokenBackSpec)) tokenBackUptoCard
end Rows
end Go.Proofs.YtjcpgjnogcmalaaDoor
