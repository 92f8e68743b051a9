/-
  NARROWER THAN 'FOR EVERY INPUT', by the rows' own cells (each row's printed sentence says how): RightOrder: laid · RightNames: laid · RightGrants: laid · RightLess: laid · RightAdded: laid · RightRules: laid · RightKnown: laid.
  DERIVED. THE GIVEN ROWS OF THIS SEAT. 7 by the template 'for every input the law returns true; each argument reads behind the call as it read before'; 0 by the template 'total and deterministic' (their statements: YtmdjndhebgnjoaaDoorTotals.lean).
  GIVEN WITH THE SEED: the statements are not yours to turn. If you find one false, say at which input.
  Laid BY PROGRAM, IN A SANDBOX (cutbox-rows.mjs): the forced cells as the released guide's own fill.sh prints them over the translation db48f32d90fbb5c1… (all of the seat's roots in one cut). By AI agents, Wed Nov 11 2026. No macro, syntax, notation, axiom, sorry.
-/
import Derived.Test.YtmdjndhebgnjoaaDoorChecked
import GoSem.PinnedTables
import GoSem.Claim
import GoSem.ClaimJoined
import GoSem.ClaimMapViews
import Derived.JoinedTies
import Derived.KernelRfl
namespace Go.Proofs.YtmdjndhebgnjoaaDoor
/- THE CELL 'sum', in the pinned program and in every row, IS THE sha256 OF THE DUMP (.gsa) THAT YtmdjndhebgnjoaaDoorProg.lean LOADS. Nothing in Lean hashes anything: it is a label: what it is worth is what the hold of that sum in a sandbox is worth. -/
noncomputable def Tryd.pinned : Pinned := { name := "ytmdjndhebgnjoaadoor", sum := "db48f32d90fbb5c1ca918e9a10b2e61eb304f0a056bf6bc650ba1a40f0914fd2", checked := Tryd.checked }
namespace Rows
def none {H : Type} : Left H := { results := [], args := [] }

/- WHAT THE LISTED PACKAGE-LEVEL VARIABLES READ AS WHEN THE CALL BEGINS. Each datum BY PROGRAM (the guide's laid-datum.mjs) off the statement by which the dump's own 'gosem.cut.vars' lays the variable. In a bare row this is a premise. The card (YtmdjndhebgnjoaaDoorCards.lean) ties it to the program's text. -/
def laid_unicode_utf8_acceptRanges {H : Type} : DataW H := .agg [.agg [.lit (.int .u8 128), .lit (.int .u8 191)], .agg [.lit (.int .u8 160), .lit (.int .u8 191)], .agg [.lit (.int .u8 128), .lit (.int .u8 159)], .agg [.lit (.int .u8 144), .lit (.int .u8 191)], .agg [.lit (.int .u8 128), .lit (.int .u8 143)], .agg [.lit (.int .u8 0), .lit (.int .u8 0)], .agg [.lit (.int .u8 0), .lit (.int .u8 0)], .agg [.lit (.int .u8 0), .lit (.int .u8 0)], .agg [.lit (.int .u8 0), .lit (.int .u8 0)], .agg [.lit (.int .u8 0), .lit (.int .u8 0)], .agg [.lit (.int .u8 0), .lit (.int .u8 0)], .agg [.lit (.int .u8 0), .lit (.int .u8 0)], .agg [.lit (.int .u8 0), .lit (.int .u8 0)], .agg [.lit (.int .u8 0), .lit (.int .u8 0)], .agg [.lit (.int .u8 0), .lit (.int .u8 0)], .agg [.lit (.int .u8 0), .lit (.int .u8 0)]]
/-- One of Go's own tables, pinned by name: the form's constant. -/
def laid_unicode_utf8_first : DataW Unit := Go.Pinned.utf8First

/-- 'sealerylaw13.RightOrder': WHATEVER THE INPUT: true; the input reads as it did. -/
def rightOrderSpec : ChangeSpec := { name := "rightOrder", fn := fun _ => fun
  | [d1, d2, d3, d4, d5] => { results := [.lit (.bool true)], args := [d1, d2, d3, d4, d5] }
  | _ => none }
def rightOrderRow : OpenClaim := { program := "ytmdjndhebgnjoaadoor", sum := "db48f32d90fbb5c1ca918e9a10b2e61eb304f0a056bf6bc650ba1a40f0914fd2", func := "sealery/sealerylaw13.RightOrder", spec := "rightOrder", inPlace := ["internal/bytealg.IndexByteString", "internal/bytealg.IndexString"], named := ["unicode/utf8.first", "unicode/utf8.acceptRanges", "internal/bytealg.MaxLen"], apart := false, laid := [("unicode/utf8.acceptRanges", laid_unicode_utf8_acceptRanges), ("unicode/utf8.first", laid_unicode_utf8_first)] }
def RightOrderSaid : Prop := rightOrderRow.holds Tryd.pinned (OpenSpec.ofChange rightOrderSpec)

/-- ITS FALSE NEIGHBOUR: 'it returns false'. Refute it at one input. -/
def rightOrderWrong : ChangeSpec := { name := "rightOrder", fn := fun _ => fun
  | [d1, d2, d3, d4, d5] => { results := [.lit (.bool false)], args := [d1, d2, d3, d4, d5] }
  | _ => none }
def RightOrderWrongFalsely : Prop := rightOrderRow.holds Tryd.pinned (OpenSpec.ofChange rightOrderWrong)

/-- 'sealerylaw13.RightNames': WHATEVER THE INPUT: true; the input reads as it did. -/
def rightNamesSpec : ChangeSpec := { name := "rightNames", fn := fun _ => fun
  | [d1, d2, d3, d4] => { results := [.lit (.bool true)], args := [d1, d2, d3, d4] }
  | _ => none }
def rightNamesRow : OpenClaim := { program := "ytmdjndhebgnjoaadoor", sum := "db48f32d90fbb5c1ca918e9a10b2e61eb304f0a056bf6bc650ba1a40f0914fd2", func := "sealery/sealerylaw13.RightNames", spec := "rightNames", inPlace := ["internal/bytealg.IndexByteString", "internal/bytealg.IndexString"], named := ["unicode/utf8.first", "unicode/utf8.acceptRanges", "internal/bytealg.MaxLen"], apart := false, laid := [("unicode/utf8.acceptRanges", laid_unicode_utf8_acceptRanges), ("unicode/utf8.first", laid_unicode_utf8_first)] }
def RightNamesSaid : Prop := rightNamesRow.holds Tryd.pinned (OpenSpec.ofChange rightNamesSpec)

/-- ITS FALSE NEIGHBOUR: 'it returns false'. Refute it at one input. -/
def rightNamesWrong : ChangeSpec := { name := "rightNames", fn := fun _ => fun
  | [d1, d2, d3, d4] => { results := [.lit (.bool false)], args := [d1, d2, d3, d4] }
  | _ => none }
def RightNamesWrongFalsely : Prop := rightNamesRow.holds Tryd.pinned (OpenSpec.ofChange rightNamesWrong)

/-- 'sealerylaw13.RightGrants': WHATEVER THE INPUT: true; the input reads as it did. -/
def rightGrantsSpec : ChangeSpec := { name := "rightGrants", fn := fun _ => fun
  | [d1, d2, d3, d4] => { results := [.lit (.bool true)], args := [d1, d2, d3, d4] }
  | _ => none }
def rightGrantsRow : OpenClaim := { program := "ytmdjndhebgnjoaadoor", sum := "db48f32d90fbb5c1ca918e9a10b2e61eb304f0a056bf6bc650ba1a40f0914fd2", func := "sealery/sealerylaw13.RightGrants", spec := "rightGrants", inPlace := ["internal/bytealg.IndexByteString", "internal/bytealg.IndexString"], named := ["unicode/utf8.first", "unicode/utf8.acceptRanges", "internal/bytealg.MaxLen"], apart := false, laid := [("unicode/utf8.acceptRanges", laid_unicode_utf8_acceptRanges), ("unicode/utf8.first", laid_unicode_utf8_first)] }
def RightGrantsSaid : Prop := rightGrantsRow.holds Tryd.pinned (OpenSpec.ofChange rightGrantsSpec)

/-- ITS FALSE NEIGHBOUR: 'it returns false'. Refute it at one input. -/
def rightGrantsWrong : ChangeSpec := { name := "rightGrants", fn := fun _ => fun
  | [d1, d2, d3, d4] => { results := [.lit (.bool false)], args := [d1, d2, d3, d4] }
  | _ => none }
def RightGrantsWrongFalsely : Prop := rightGrantsRow.holds Tryd.pinned (OpenSpec.ofChange rightGrantsWrong)

/-- 'sealerylaw13.RightLess': WHATEVER THE INPUT: true; the input reads as it did. -/
def rightLessSpec : ChangeSpec := { name := "rightLess", fn := fun _ => fun
  | [d1, d2, d3, d4, d5] => { results := [.lit (.bool true)], args := [d1, d2, d3, d4, d5] }
  | _ => none }
def rightLessRow : OpenClaim := { program := "ytmdjndhebgnjoaadoor", sum := "db48f32d90fbb5c1ca918e9a10b2e61eb304f0a056bf6bc650ba1a40f0914fd2", func := "sealery/sealerylaw13.RightLess", spec := "rightLess", inPlace := ["internal/bytealg.IndexByteString", "internal/bytealg.IndexString"], named := ["unicode/utf8.first", "unicode/utf8.acceptRanges", "internal/bytealg.MaxLen"], apart := false, laid := [("unicode/utf8.acceptRanges", laid_unicode_utf8_acceptRanges), ("unicode/utf8.first", laid_unicode_utf8_first)] }
def RightLessSaid : Prop := rightLessRow.holds Tryd.pinned (OpenSpec.ofChange rightLessSpec)

/-- ITS FALSE NEIGHBOUR: 'it returns false'. Refute it at one input. -/
def rightLessWrong : ChangeSpec := { name := "rightLess", fn := fun _ => fun
  | [d1, d2, d3, d4, d5] => { results := [.lit (.bool false)], args := [d1, d2, d3, d4, d5] }
  | _ => none }
def RightLessWrongFalsely : Prop := rightLessRow.holds Tryd.pinned (OpenSpec.ofChange rightLessWrong)

/-- 'sealerylaw13.RightAdded': WHATEVER THE INPUT: true; the input reads as it did. -/
def rightAddedSpec : ChangeSpec := { name := "rightAdded", fn := fun _ => fun
  | [d1, d2, d3, d4, d5] => { results := [.lit (.bool true)], args := [d1, d2, d3, d4, d5] }
  | _ => none }
def rightAddedRow : OpenClaim := { program := "ytmdjndhebgnjoaadoor", sum := "db48f32d90fbb5c1ca918e9a10b2e61eb304f0a056bf6bc650ba1a40f0914fd2", func := "sealery/sealerylaw13.RightAdded", spec := "rightAdded", inPlace := ["internal/bytealg.IndexByteString", "internal/bytealg.IndexString"], named := ["unicode/utf8.first", "unicode/utf8.acceptRanges", "internal/bytealg.MaxLen"], apart := false, laid := [("unicode/utf8.acceptRanges", laid_unicode_utf8_acceptRanges), ("unicode/utf8.first", laid_unicode_utf8_first)] }
def RightAddedSaid : Prop := rightAddedRow.holds Tryd.pinned (OpenSpec.ofChange rightAddedSpec)

/-- ITS FALSE NEIGHBOUR: 'it returns false'. Refute it at one input. -/
def rightAddedWrong : ChangeSpec := { name := "rightAdded", fn := fun _ => fun
  | [d1, d2, d3, d4, d5] => { results := [.lit (.bool false)], args := [d1, d2, d3, d4, d5] }
  | _ => none }
def RightAddedWrongFalsely : Prop := rightAddedRow.holds Tryd.pinned (OpenSpec.ofChange rightAddedWrong)

/-- 'sealerylaw13.RightRules': WHATEVER THE INPUT: true; the input reads as it did. -/
def rightRulesSpec : ChangeSpec := { name := "rightRules", fn := fun _ => fun
  | [d1, d2, d3] => { results := [.lit (.bool true)], args := [d1, d2, d3] }
  | _ => none }
def rightRulesRow : OpenClaim := { program := "ytmdjndhebgnjoaadoor", sum := "db48f32d90fbb5c1ca918e9a10b2e61eb304f0a056bf6bc650ba1a40f0914fd2", func := "sealery/sealerylaw13.RightRules", spec := "rightRules", inPlace := ["internal/bytealg.IndexByteString", "internal/bytealg.IndexString"], named := ["unicode/utf8.first", "unicode/utf8.acceptRanges", "internal/bytealg.MaxLen"], apart := false, laid := [("unicode/utf8.acceptRanges", laid_unicode_utf8_acceptRanges), ("unicode/utf8.first", laid_unicode_utf8_first)] }
def RightRulesSaid : Prop := rightRulesRow.holds Tryd.pinned (OpenSpec.ofChange rightRulesSpec)

/-- ITS FALSE NEIGHBOUR: 'it returns false'. Refute it at one input. -/
def rightRulesWrong : ChangeSpec := { name := "rightRules", fn := fun _ => fun
  | [d1, d2, d3] => { results := [.lit (.bool false)], args := [d1, d2, d3] }
  | _ => none }
def RightRulesWrongFalsely : Prop := rightRulesRow.holds Tryd.pinned (OpenSpec.ofChange rightRulesWrong)

/-- 'sealerylaw13.RightKnown': WHATEVER THE INPUT: true; the input reads as it did. -/
def rightKnownSpec : ChangeSpec := { name := "rightKnown", fn := fun _ => fun
  | [] => { results := [.lit (.bool true)], args := [] }
  | _ => none }
def rightKnownRow : OpenClaim := { program := "ytmdjndhebgnjoaadoor", sum := "db48f32d90fbb5c1ca918e9a10b2e61eb304f0a056bf6bc650ba1a40f0914fd2", func := "sealery/sealerylaw13.RightKnown", spec := "rightKnown", inPlace := ["internal/bytealg.IndexByteString", "internal/bytealg.IndexString"], named := ["unicode/utf8.first", "unicode/utf8.acceptRanges", "internal/bytealg.MaxLen"], apart := false, laid := [("unicode/utf8.acceptRanges", laid_unicode_utf8_acceptRanges), ("unicode/utf8.first", laid_unicode_utf8_first)] }
def RightKnownSaid : Prop := rightKnownRow.holds Tryd.pinned (OpenSpec.ofChange rightKnownSpec)

/-- ITS FALSE NEIGHBOUR: 'it returns false'. Refute it at one input. -/
def rightKnownWrong : ChangeSpec := { name := "rightKnown", fn := fun _ => fun
  | [] => { results := [.lit (.bool false)], args := [] }
  | _ => none }
def RightKnownWrongFalsely : Prop := rightKnownRow.holds Tryd.pinned (OpenSpec.ofChange rightKnownWrong)

/- THE SECOND FORM. 'bulk': how many values and letters a reading holds, each counted each time it is reached (what is shared counts as often as it is met; a slice's spare places count too). A statement '..UptoSaid' is the law's where the arguments, and the package variables that the reading takes, are together of bulk at most 1048576: NARROWER than '..Said'. Prove '..Said' where nothing that the law and all that it calls make is longer than what came in: it says more and counts as full. Else prove '..UptoSaid'. A law counts once. -/
mutual
def uptoBulk {H : Type} : DataW H → Nat
  | .lit (.string bytes) => bytes.length + 1
  | .lit _ => 1
  | .nil => 1
  | .ptr d => uptoBulk d + 1
  | .slice elems spare => uptoBulkAll elems + uptoBulkAll spare + 1
  | .agg parts => uptoBulkAll parts + 1
  | .iface _ d => uptoBulk d + 1
  | .map entries => uptoBulkEntries entries + 1
  | .held _ => 1
def uptoBulkAll {H : Type} : List (DataW H) → Nat
  | [] => 0
  | d :: r => uptoBulk d + uptoBulkAll r
def uptoBulkEntries {H : Type} : List (Lit × DataW H) → Nat
  | [] => 0
  | x :: r => uptoBulkEntry x + uptoBulkEntries r
def uptoBulkEntry {H : Type} : Lit × DataW H → Nat
  | (.string bytes, d) => bytes.length + uptoBulk d + 1
  | (_, d) => uptoBulk d + 1
 end
def uptoSmall : (H : Type) → List (DataW H) → Bool := fun _ ds => decide (uptoBulkAll ds ≤ 1048576)
def OpenSpec.upto (s : _root_.Go.ChangeSpec) : _root_.Go.OpenSpec := { _root_.Go.OpenSpec.ofChange s with cond := some uptoSmall }

/-- 'sealerylaw13.RightOrder', WHERE WHAT IT READS IS OF BULK AT MOST 1048576: true; the input reads as it did. -/
def rightOrderUptoRow : OpenClaim := { program := "ytmdjndhebgnjoaadoor", sum := "db48f32d90fbb5c1ca918e9a10b2e61eb304f0a056bf6bc650ba1a40f0914fd2", func := "sealery/sealerylaw13.RightOrder", spec := "rightOrder", inPlace := ["internal/bytealg.IndexByteString", "internal/bytealg.IndexString"], named := ["unicode/utf8.first", "unicode/utf8.acceptRanges", "internal/bytealg.MaxLen"], apart := false, laid := [("unicode/utf8.acceptRanges", laid_unicode_utf8_acceptRanges), ("unicode/utf8.first", laid_unicode_utf8_first)], narrowed := true }
def RightOrderUptoSaid : Prop := rightOrderUptoRow.holds Tryd.pinned (OpenSpec.upto rightOrderSpec)

/-- 'sealerylaw13.RightNames', WHERE WHAT IT READS IS OF BULK AT MOST 1048576: true; the input reads as it did. -/
def rightNamesUptoRow : OpenClaim := { program := "ytmdjndhebgnjoaadoor", sum := "db48f32d90fbb5c1ca918e9a10b2e61eb304f0a056bf6bc650ba1a40f0914fd2", func := "sealery/sealerylaw13.RightNames", spec := "rightNames", inPlace := ["internal/bytealg.IndexByteString", "internal/bytealg.IndexString"], named := ["unicode/utf8.first", "unicode/utf8.acceptRanges", "internal/bytealg.MaxLen"], apart := false, laid := [("unicode/utf8.acceptRanges", laid_unicode_utf8_acceptRanges), ("unicode/utf8.first", laid_unicode_utf8_first)], narrowed := true }
def RightNamesUptoSaid : Prop := rightNamesUptoRow.holds Tryd.pinned (OpenSpec.upto rightNamesSpec)

/-- 'sealerylaw13.RightGrants', WHERE WHAT IT READS IS OF BULK AT MOST 1048576: true; the input reads as it did. -/
def rightGrantsUptoRow : OpenClaim := { program := "ytmdjndhebgnjoaadoor", sum := "db48f32d90fbb5c1ca918e9a10b2e61eb304f0a056bf6bc650ba1a40f0914fd2", func := "sealery/sealerylaw13.RightGrants", spec := "rightGrants", inPlace := ["internal/bytealg.IndexByteString", "internal/bytealg.IndexString"], named := ["unicode/utf8.first", "unicode/utf8.acceptRanges", "internal/bytealg.MaxLen"], apart := false, laid := [("unicode/utf8.acceptRanges", laid_unicode_utf8_acceptRanges), ("unicode/utf8.first", laid_unicode_utf8_first)], narrowed := true }
def RightGrantsUptoSaid : Prop := rightGrantsUptoRow.holds Tryd.pinned (OpenSpec.upto rightGrantsSpec)

/-- 'sealerylaw13.RightLess', WHERE WHAT IT READS IS OF BULK AT MOST 1048576: true; the input reads as it did. -/
def rightLessUptoRow : OpenClaim := { program := "ytmdjndhebgnjoaadoor", sum := "db48f32d90fbb5c1ca918e9a10b2e61eb304f0a056bf6bc650ba1a40f0914fd2", func := "sealery/sealerylaw13.RightLess", spec := "rightLess", inPlace := ["internal/bytealg.IndexByteString", "internal/bytealg.IndexString"], named := ["unicode/utf8.first", "unicode/utf8.acceptRanges", "internal/bytealg.MaxLen"], apart := false, laid := [("unicode/utf8.acceptRanges", laid_unicode_utf8_acceptRanges), ("unicode/utf8.first", laid_unicode_utf8_first)], narrowed := true }
def RightLessUptoSaid : Prop := rightLessUptoRow.holds Tryd.pinned (OpenSpec.upto rightLessSpec)

/-- 'sealerylaw13.RightAdded', WHERE WHAT IT READS IS OF BULK AT MOST 1048576: true; the input reads as it did. -/
def rightAddedUptoRow : OpenClaim := { program := "ytmdjndhebgnjoaadoor", sum := "db48f32d90fbb5c1ca918e9a10b2e61eb304f0a056bf6bc650ba1a40f0914fd2", func := "sealery/sealerylaw13.RightAdded", spec := "rightAdded", inPlace := ["internal/bytealg.IndexByteString", "internal/bytealg.IndexString"], named := ["unicode/utf8.first", "unicode/utf8.acceptRanges", "internal/bytealg.MaxLen"], apart := false, laid := [("unicode/utf8.acceptRanges", laid_unicode_utf8_acceptRanges), ("unicode/utf8.first", laid_unicode_utf8_first)], narrowed := true }
def RightAddedUptoSaid : Prop := rightAddedUptoRow.holds Tryd.pinned (OpenSpec.upto rightAddedSpec)

/-- 'sealerylaw13.RightRules', WHERE WHAT IT READS IS OF BULK AT MOST 1048576: true; the input reads as it did. -/
def rightRulesUptoRow : OpenClaim := { program := "ytmdjndhebgnjoaadoor", sum := "db48f32d90fbb5c1ca918e9a10b2e61eb304f0a056bf6bc650ba1a40f0914fd2", func := "sealery/sealerylaw13.RightRules", spec := "rightRules", inPlace := ["internal/bytealg.IndexByteString", "internal/bytealg.IndexString"], named := ["unicode/utf8.first", "unicode/utf8.acceptRanges", "internal/bytealg.MaxLen"], apart := false, laid := [("unicode/utf8.acceptRanges", laid_unicode_utf8_acceptRanges), ("unicode/utf8.first", laid_unicode_utf8_first)], narrowed := true }
def RightRulesUptoSaid : Prop := rightRulesUptoRow.holds Tryd.pinned (OpenSpec.upto rightRulesSpec)

/-- 'sealerylaw13.RightKnown', WHERE WHAT IT READS IS OF BULK AT MOST 1048576: true; the input reads as it did. -/
def rightKnownUptoRow : OpenClaim := { program := "ytmdjndhebgnjoaadoor", sum := "db48f32d90fbb5c1ca918e9a10b2e61eb304f0a056bf6bc650ba1a40f0914fd2", func := "sealery/sealerylaw13.RightKnown", spec := "rightKnown", inPlace := ["internal/bytealg.IndexByteString", "internal/bytealg.IndexString"], named := ["unicode/utf8.first", "unicode/utf8.acceptRanges", "internal/bytealg.MaxLen"], apart := false, laid := [("unicode/utf8.acceptRanges", laid_unicode_utf8_acceptRanges), ("unicode/utf8.first", laid_unicode_utf8_first)], narrowed := true }
def RightKnownUptoSaid : Prop := rightKnownUptoRow.holds Tryd.pinned (OpenSpec.upto rightKnownSpec)

end Rows
end Go.Proofs.YtmdjndhebgnjoaaDoor
