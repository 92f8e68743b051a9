/-
  NARROWER THAN 'FOR EVERY INPUT', by the rows' own cells (each row's printed sentence says how): CommandPuts: laid · CommandAnswers: laid · CommandGets: laid · CommandBack: laid · CommandCut: laid · CommandKnown: laid.
  DERIVED. THE GIVEN ROWS OF THIS SEAT. 6 by the template 'for every input the law returns true; each argument reads behind the call as it read before'; 0 by the template 'total and deterministic' (their statements: YtgfhbachgniipaaGreatDoorTotals.lean).
  GIVEN WITH THE SEED: the statements are not yours to turn. If you find one false, say at which input.
  Laid BY PROGRAM, IN A SANDBOX (cutbox-rows.mjs): the forced cells as the released guide's own fill.sh prints them over the translation fe53d19aaf83d538… (all of the seat's roots in one cut). By AI agents, Wed Nov 11 2026. No macro, syntax, notation, axiom, sorry.
-/
import Derived.Test.YtgfhbachgniipaaGreatDoorChecked
import GoSem.PinnedTables
import GoSem.Claim
import GoSem.ClaimJoined
import GoSem.ClaimMapViews
import Derived.JoinedTies
import Derived.KernelRfl
namespace Go.Proofs.YtgfhbachgniipaaGreatDoor
/- THE CELL 'sum', in the pinned program and in every row, IS THE sha256 OF THE DUMP (.gsa) THAT YtgfhbachgniipaaGreatDoorProg.lean LOADS. Nothing in Lean hashes anything: it is a label: what it is worth is what the hold of that sum in a sandbox is worth. -/
noncomputable def Tryz.pinned : Pinned := { name := "ytgfhbachgniipaagreatdoor", sum := "fe53d19aaf83d538b3e262238b0e7769414cceb0179be859f4fc4700b9fb7865", checked := Tryz.checked }
namespace Rows
def none {H : Type} : Left H := { results := [], args := [] }

/- WHAT THE LISTED PACKAGE-LEVEL VARIABLES READ AS WHEN THE CALL BEGINS. Each datum BY PROGRAM (the guide's laid-datum.mjs) off the statement by which the dump's own 'gosem.cut.vars' lays the variable. In a bare row this is a premise. The card (YtgfhbachgniipaaGreatDoorCards.lean) ties it to the program's text. -/
def laid_unicode_utf8_acceptRanges {H : Type} : DataW H := .agg [.agg [.lit (.int .u8 128), .lit (.int .u8 191)], .agg [.lit (.int .u8 160), .lit (.int .u8 191)], .agg [.lit (.int .u8 128), .lit (.int .u8 159)], .agg [.lit (.int .u8 144), .lit (.int .u8 191)], .agg [.lit (.int .u8 128), .lit (.int .u8 143)], .agg [.lit (.int .u8 0), .lit (.int .u8 0)], .agg [.lit (.int .u8 0), .lit (.int .u8 0)], .agg [.lit (.int .u8 0), .lit (.int .u8 0)], .agg [.lit (.int .u8 0), .lit (.int .u8 0)], .agg [.lit (.int .u8 0), .lit (.int .u8 0)], .agg [.lit (.int .u8 0), .lit (.int .u8 0)], .agg [.lit (.int .u8 0), .lit (.int .u8 0)], .agg [.lit (.int .u8 0), .lit (.int .u8 0)], .agg [.lit (.int .u8 0), .lit (.int .u8 0)], .agg [.lit (.int .u8 0), .lit (.int .u8 0)], .agg [.lit (.int .u8 0), .lit (.int .u8 0)]]
def laid_sealery_command_of {H : Type} : DataW H := .agg [.lit (.int .u64 0), .lit (.int .u64 15), .lit (.int .u64 49), .lit (.int .u64 48), .lit (.int .u64 2), .lit (.int .u64 64), .lit (.int .u64 128), .lit (.int .u64 48), .lit (.int .u64 16)]
/-- One of Go's own tables, pinned by name: the form's constant. -/
def laid_unicode_utf8_first : DataW Unit := Go.Pinned.utf8First

/-- 'sealerylaw23.CommandPuts': WHATEVER THE INPUT: true; the input reads as it did. -/
def commandPutsSpec : ChangeSpec := { name := "commandPuts", fn := fun _ => fun
  | [d] => { results := [.lit (.bool true)], args := [d] }
  | _ => none }
def commandPutsRow : OpenClaim := { program := "ytgfhbachgniipaagreatdoor", sum := "fe53d19aaf83d538b3e262238b0e7769414cceb0179be859f4fc4700b9fb7865", func := "sealery/sealerylaw23.CommandPuts", spec := "commandPuts", inPlace := ["internal/bytealg.IndexByteString", "internal/bytealg.IndexString"], unfollowed := true, recurses := true, named := ["sealery/command.of", "unicode/utf8.first", "unicode/utf8.acceptRanges", "internal/bytealg.MaxLen"], apart := false, laid := [("unicode/utf8.acceptRanges", laid_unicode_utf8_acceptRanges), ("sealery/command.of", laid_sealery_command_of), ("unicode/utf8.first", laid_unicode_utf8_first)] }
def CommandPutsSaid : Prop := commandPutsRow.holds Tryz.pinned (OpenSpec.ofChange commandPutsSpec)

/-- ITS FALSE NEIGHBOUR: 'it returns false'. Refute it at one input. -/
def commandPutsWrong : ChangeSpec := { name := "commandPuts", fn := fun _ => fun
  | [d] => { results := [.lit (.bool false)], args := [d] }
  | _ => none }
def CommandPutsWrongFalsely : Prop := commandPutsRow.holds Tryz.pinned (OpenSpec.ofChange commandPutsWrong)

/-- 'sealerylaw23.CommandAnswers': WHATEVER THE INPUT: true; the input reads as it did. -/
def commandAnswersSpec : ChangeSpec := { name := "commandAnswers", fn := fun _ => fun
  | [d] => { results := [.lit (.bool true)], args := [d] }
  | _ => none }
def commandAnswersRow : OpenClaim := { program := "ytgfhbachgniipaagreatdoor", sum := "fe53d19aaf83d538b3e262238b0e7769414cceb0179be859f4fc4700b9fb7865", func := "sealery/sealerylaw23.CommandAnswers", spec := "commandAnswers", inPlace := ["internal/bytealg.IndexByteString", "internal/bytealg.IndexString"], unfollowed := true, recurses := true, named := ["sealery/command.of", "unicode/utf8.first", "unicode/utf8.acceptRanges", "internal/bytealg.MaxLen"], apart := false, laid := [("unicode/utf8.acceptRanges", laid_unicode_utf8_acceptRanges), ("sealery/command.of", laid_sealery_command_of), ("unicode/utf8.first", laid_unicode_utf8_first)] }
def CommandAnswersSaid : Prop := commandAnswersRow.holds Tryz.pinned (OpenSpec.ofChange commandAnswersSpec)

/-- ITS FALSE NEIGHBOUR: 'it returns false'. Refute it at one input. -/
def commandAnswersWrong : ChangeSpec := { name := "commandAnswers", fn := fun _ => fun
  | [d] => { results := [.lit (.bool false)], args := [d] }
  | _ => none }
def CommandAnswersWrongFalsely : Prop := commandAnswersRow.holds Tryz.pinned (OpenSpec.ofChange commandAnswersWrong)

/-- 'sealerylaw23.CommandGets': WHATEVER THE INPUT: true; the input reads as it did. -/
def commandGetsSpec : ChangeSpec := { name := "commandGets", fn := fun _ => fun
  | [d] => { results := [.lit (.bool true)], args := [d] }
  | _ => none }
def commandGetsRow : OpenClaim := { program := "ytgfhbachgniipaagreatdoor", sum := "fe53d19aaf83d538b3e262238b0e7769414cceb0179be859f4fc4700b9fb7865", func := "sealery/sealerylaw23.CommandGets", spec := "commandGets", inPlace := ["internal/bytealg.IndexByteString", "internal/bytealg.IndexString"], unfollowed := true, recurses := true, named := ["sealery/command.of", "unicode/utf8.first", "unicode/utf8.acceptRanges", "internal/bytealg.MaxLen"], apart := false, laid := [("unicode/utf8.acceptRanges", laid_unicode_utf8_acceptRanges), ("sealery/command.of", laid_sealery_command_of), ("unicode/utf8.first", laid_unicode_utf8_first)] }
def CommandGetsSaid : Prop := commandGetsRow.holds Tryz.pinned (OpenSpec.ofChange commandGetsSpec)

/-- ITS FALSE NEIGHBOUR: 'it returns false'. Refute it at one input. -/
def commandGetsWrong : ChangeSpec := { name := "commandGets", fn := fun _ => fun
  | [d] => { results := [.lit (.bool false)], args := [d] }
  | _ => none }
def CommandGetsWrongFalsely : Prop := commandGetsRow.holds Tryz.pinned (OpenSpec.ofChange commandGetsWrong)

/-- 'sealerylaw23.CommandBack': WHATEVER THE INPUT: true; the input reads as it did. -/
def commandBackSpec : ChangeSpec := { name := "commandBack", fn := fun _ => fun
  | [d1, d2, d3] => { results := [.lit (.bool true)], args := [d1, d2, d3] }
  | _ => none }
def commandBackRow : OpenClaim := { program := "ytgfhbachgniipaagreatdoor", sum := "fe53d19aaf83d538b3e262238b0e7769414cceb0179be859f4fc4700b9fb7865", func := "sealery/sealerylaw23.CommandBack", spec := "commandBack", inPlace := ["internal/bytealg.IndexByteString", "internal/bytealg.IndexString"], unfollowed := true, recurses := true, named := ["sealery/command.of", "unicode/utf8.first", "unicode/utf8.acceptRanges", "internal/bytealg.MaxLen"], apart := false, laid := [("unicode/utf8.acceptRanges", laid_unicode_utf8_acceptRanges), ("sealery/command.of", laid_sealery_command_of), ("unicode/utf8.first", laid_unicode_utf8_first)] }
def CommandBackSaid : Prop := commandBackRow.holds Tryz.pinned (OpenSpec.ofChange commandBackSpec)

/-- ITS FALSE NEIGHBOUR: 'it returns false'. Refute it at one input. -/
def commandBackWrong : ChangeSpec := { name := "commandBack", fn := fun _ => fun
  | [d1, d2, d3] => { results := [.lit (.bool false)], args := [d1, d2, d3] }
  | _ => none }
def CommandBackWrongFalsely : Prop := commandBackRow.holds Tryz.pinned (OpenSpec.ofChange commandBackWrong)

/-- 'sealerylaw23.CommandCut': WHATEVER THE INPUT: true; the input reads as it did. -/
def commandCutSpec : ChangeSpec := { name := "commandCut", fn := fun _ => fun
  | [d1, d2, d3, d4] => { results := [.lit (.bool true)], args := [d1, d2, d3, d4] }
  | _ => none }
def commandCutRow : OpenClaim := { program := "ytgfhbachgniipaagreatdoor", sum := "fe53d19aaf83d538b3e262238b0e7769414cceb0179be859f4fc4700b9fb7865", func := "sealery/sealerylaw23.CommandCut", spec := "commandCut", inPlace := ["internal/bytealg.IndexByteString", "internal/bytealg.IndexString"], unfollowed := true, recurses := true, named := ["sealery/command.of", "unicode/utf8.first", "unicode/utf8.acceptRanges", "internal/bytealg.MaxLen"], apart := false, laid := [("unicode/utf8.acceptRanges", laid_unicode_utf8_acceptRanges), ("sealery/command.of", laid_sealery_command_of), ("unicode/utf8.first", laid_unicode_utf8_first)] }
def CommandCutSaid : Prop := commandCutRow.holds Tryz.pinned (OpenSpec.ofChange commandCutSpec)

/-- ITS FALSE NEIGHBOUR: 'it returns false'. Refute it at one input. -/
def commandCutWrong : ChangeSpec := { name := "commandCut", fn := fun _ => fun
  | [d1, d2, d3, d4] => { results := [.lit (.bool false)], args := [d1, d2, d3, d4] }
  | _ => none }
def CommandCutWrongFalsely : Prop := commandCutRow.holds Tryz.pinned (OpenSpec.ofChange commandCutWrong)

/-- 'sealerylaw23.CommandKnown': WHATEVER THE INPUT: true; the input reads as it did. -/
def commandKnownSpec : ChangeSpec := { name := "commandKnown", fn := fun _ => fun
  | [] => { results := [.lit (.bool true)], args := [] }
  | _ => none }
def commandKnownRow : OpenClaim := { program := "ytgfhbachgniipaagreatdoor", sum := "fe53d19aaf83d538b3e262238b0e7769414cceb0179be859f4fc4700b9fb7865", func := "sealery/sealerylaw23.CommandKnown", spec := "commandKnown", inPlace := ["internal/bytealg.IndexByteString", "internal/bytealg.IndexString"], unfollowed := true, recurses := true, named := ["sealery/command.of", "unicode/utf8.first", "unicode/utf8.acceptRanges", "internal/bytealg.MaxLen"], apart := false, laid := [("unicode/utf8.acceptRanges", laid_unicode_utf8_acceptRanges), ("sealery/command.of", laid_sealery_command_of), ("unicode/utf8.first", laid_unicode_utf8_first)] }
def CommandKnownSaid : Prop := commandKnownRow.holds Tryz.pinned (OpenSpec.ofChange commandKnownSpec)

/-- ITS FALSE NEIGHBOUR: 'it returns false'. Refute it at one input. -/
def commandKnownWrong : ChangeSpec := { name := "commandKnown", fn := fun _ => fun
  | [] => { results := [.lit (.bool false)], args := [] }
  | _ => none }
def CommandKnownWrongFalsely : Prop := commandKnownRow.holds Tryz.pinned (OpenSpec.ofChange commandKnownWrong)

/- THE SECOND FORM. 'bulk': how many values and letters a reading holds, each counted each time it is reached (what is shared counts as often as it is met; a slice's spare places count too). A statement '..UptoSaid' is the law's where the arguments, and the package variables that the reading takes, are together of bulk at most 1048576: NARROWER than '..Said'. Prove '..Said' where nothing that the law and all that it calls make is longer than what came in: it says more and counts as full. Else prove '..UptoSaid'. A law counts once. -/
mutual
def uptoBulk {H : Type} : DataW H → Nat
  | .lit (.string bytes) => bytes.length + 1
  | .lit _ => 1
  | .nil => 1
  | .ptr d => uptoBulk d + 1
  | .slice elems spare => uptoBulkAll elems + uptoBulkAll spare + 1
  | .agg parts => uptoBulkAll parts + 1
  | .iface _ d => uptoBulk d + 1
  | .map entries => uptoBulkEntries entries + 1
  | .held _ => 1
def uptoBulkAll {H : Type} : List (DataW H) → Nat
  | [] => 0
  | d :: r => uptoBulk d + uptoBulkAll r
def uptoBulkEntries {H : Type} : List (Lit × DataW H) → Nat
  | [] => 0
  | x :: r => uptoBulkEntry x + uptoBulkEntries r
def uptoBulkEntry {H : Type} : Lit × DataW H → Nat
  | (.string bytes, d) => bytes.length + uptoBulk d + 1
  | (_, d) => uptoBulk d + 1
 end
def uptoSmall : (H : Type) → List (DataW H) → Bool := fun _ ds => decide (uptoBulkAll ds ≤ 1048576)
def OpenSpec.upto (s : _root_.Go.ChangeSpec) : _root_.Go.OpenSpec := { _root_.Go.OpenSpec.ofChange s with cond := some uptoSmall }

/-- 'sealerylaw23.CommandPuts', WHERE WHAT IT READS IS OF BULK AT MOST 1048576: true; the input reads as it did. -/
def commandPutsUptoRow : OpenClaim := { program := "ytgfhbachgniipaagreatdoor", sum := "fe53d19aaf83d538b3e262238b0e7769414cceb0179be859f4fc4700b9fb7865", func := "sealery/sealerylaw23.CommandPuts", spec := "commandPuts", inPlace := ["internal/bytealg.IndexByteString", "internal/bytealg.IndexString"], unfollowed := true, recurses := true, named := ["sealery/command.of", "unicode/utf8.first", "unicode/utf8.acceptRanges", "internal/bytealg.MaxLen"], apart := false, laid := [("unicode/utf8.acceptRanges", laid_unicode_utf8_acceptRanges), ("sealery/command.of", laid_sealery_command_of), ("unicode/utf8.first", laid_unicode_utf8_first)], narrowed := true }
def CommandPutsUptoSaid : Prop := commandPutsUptoRow.holds Tryz.pinned (OpenSpec.upto commandPutsSpec)

/-- 'sealerylaw23.CommandAnswers', WHERE WHAT IT READS IS OF BULK AT MOST 1048576: true; the input reads as it did. -/
def commandAnswersUptoRow : OpenClaim := { program := "ytgfhbachgniipaagreatdoor", sum := "fe53d19aaf83d538b3e262238b0e7769414cceb0179be859f4fc4700b9fb7865", func := "sealery/sealerylaw23.CommandAnswers", spec := "commandAnswers", inPlace := ["internal/bytealg.IndexByteString", "internal/bytealg.IndexString"], unfollowed := true, recurses := true, named := ["sealery/command.of", "unicode/utf8.first", "unicode/utf8.acceptRanges", "internal/bytealg.MaxLen"], apart := false, laid := [("unicode/utf8.acceptRanges", laid_unicode_utf8_acceptRanges), ("sealery/command.of", laid_sealery_command_of), ("unicode/utf8.first", laid_unicode_utf8_first)], narrowed := true }
def CommandAnswersUptoSaid : Prop := commandAnswersUptoRow.holds Tryz.pinned (OpenSpec.upto commandAnswersSpec)

/-- 'sealerylaw23.CommandGets', WHERE WHAT IT READS IS OF BULK AT MOST 1048576: true; the input reads as it did. -/
def commandGetsUptoRow : OpenClaim := { program := "ytgfhbachgniipaagreatdoor", sum := "fe53d19aaf83d538b3e262238b0e7769414cceb0179be859f4fc4700b9fb7865", func := "sealery/sealerylaw23.CommandGets", spec := "commandGets", inPlace := ["internal/bytealg.IndexByteString", "internal/bytealg.IndexString"], unfollowed := true, recurses := true, named := ["sealery/command.of", "unicode/utf8.first", "unicode/utf8.acceptRanges", "internal/bytealg.MaxLen"], apart := false, laid := [("unicode/utf8.acceptRanges", laid_unicode_utf8_acceptRanges), ("sealery/command.of", laid_sealery_command_of), ("unicode/utf8.first", laid_unicode_utf8_first)], narrowed := true }
def CommandGetsUptoSaid : Prop := commandGetsUptoRow.holds Tryz.pinned (OpenSpec.upto commandGetsSpec)

/-- 'sealerylaw23.CommandBack', WHERE WHAT IT READS IS OF BULK AT MOST 1048576: true; the input reads as it did. -/
def commandBackUptoRow : OpenClaim := { program := "ytgfhbachgniipaagreatdoor", sum := "fe53d19aaf83d538b3e262238b0e7769414cceb0179be859f4fc4700b9fb7865", func := "sealery/sealerylaw23.CommandBack", spec := "commandBack", inPlace := ["internal/bytealg.IndexByteString", "internal/bytealg.IndexString"], unfollowed := true, recurses := true, named := ["sealery/command.of", "unicode/utf8.first", "unicode/utf8.acceptRanges", "internal/bytealg.MaxLen"], apart := false, laid := [("unicode/utf8.acceptRanges", laid_unicode_utf8_acceptRanges), ("sealery/command.of", laid_sealery_command_of), ("unicode/utf8.first", laid_unicode_utf8_first)], narrowed := true }
def CommandBackUptoSaid : Prop := commandBackUptoRow.holds Tryz.pinned (OpenSpec.upto commandBackSpec)

/-- 'sealerylaw23.CommandCut', WHERE WHAT IT READS IS OF BULK AT MOST 1048576: true; the input reads as it did. -/
def commandCutUptoRow : OpenClaim := { program := "ytgfhbachgniipaagreatdoor", sum := "fe53d19aaf83d538b3e262238b0e7769414cceb0179be859f4fc4700b9fb7865", func := "sealery/sealerylaw23.CommandCut", spec := "commandCut", inPlace := ["internal/bytealg.IndexByteString", "internal/bytealg.IndexString"], unfollowed := true, recurses := true, named := ["sealery/command.of", "unicode/utf8.first", "unicode/utf8.acceptRanges", "internal/bytealg.MaxLen"], apart := false, laid := [("unicode/utf8.acceptRanges", laid_unicode_utf8_acceptRanges), ("sealery/command.of", laid_sealery_command_of), ("unicode/utf8.first", laid_unicode_utf8_first)], narrowed := true }
def CommandCutUptoSaid : Prop := commandCutUptoRow.holds Tryz.pinned (OpenSpec.upto commandCutSpec)

/-- 'sealerylaw23.CommandKnown', WHERE WHAT IT READS IS OF BULK AT MOST 1048576: true; the input reads as it did. -/
def commandKnownUptoRow : OpenClaim := { program := "ytgfhbachgniipaagreatdoor", sum := "fe53d19aaf83d538b3e262238b0e7769414cceb0179be859f4fc4700b9fb7865", func := "sealery/sealerylaw23.CommandKnown", spec := "commandKnown", inPlace := ["internal/bytealg.IndexByteString", "internal/bytealg.IndexString"], unfollowed := true, recurses := true, named := ["sealery/command.of", "unicode/utf8.first", "unicode/utf8.acceptRanges", "internal/bytealg.MaxLen"], apart := false, laid := [("unicode/utf8.acceptRanges", laid_unicode_utf8_acceptRanges), ("sealery/command.of", laid_sealery_command_of), ("unicode/utf8.first", laid_unicode_utf8_first)], narrowed := true }
def CommandKnownUptoSaid : Prop := commandKnownUptoRow.holds Tryz.pinned (OpenSpec.upto commandKnownSpec)

end Rows
end Go.Proofs.YtgfhbachgniipaaGreatDoor
