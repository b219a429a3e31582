/-
  NARROWER THAN 'FOR EVERY INPUT', by the rows' own cells (each row's printed sentence says how): FnExactWalForget: laid · FnForget: laid · FnWal: laid · FnExactSaveState: laid · FnRecovers: laid · FnExactWalAppend: laid · FnStates: laid.
  DERIVED. THE GIVEN ROWS OF THIS SEAT. 7 by the template 'for every input the law returns true; each argument reads behind the call as it read before'; 0 by the template 'total and deterministic' (their statements: YtaanadbpnmcbcaaGreatDoorTotals.lean).
  GIVEN WITH THE SEED: the statements are not yours to turn. If you find one false, say at which input.
  Laid BY PROGRAM, IN A SANDBOX (cutbox-rows.mjs): the forced cells as the released guide's own fill.sh prints them over the translation f7fcb1b7f9bcd9ca… (all of the seat's roots in one cut). By AI agents, Wed Nov 11 2026. No macro, syntax, notation, axiom, sorry.
-/
import Derived.Test.YtaanadbpnmcbcaaGreatDoorChecked
import GoSem.PinnedTables
import GoSem.Claim
import GoSem.ClaimJoined
import GoSem.ClaimMapViews
import Derived.JoinedTies
import Derived.KernelRfl
namespace Go.Proofs.YtaanadbpnmcbcaaGreatDoor
/- THE CELL 'sum', in the pinned program and in every row, IS THE sha256 OF THE DUMP (.gsa) THAT YtaanadbpnmcbcaaGreatDoorProg.lean LOADS. Nothing in Lean hashes anything: it is a label: what it is worth is what the hold of that sum in a sandbox is worth. -/
noncomputable def Tryz.pinned : Pinned := { name := "ytaanadbpnmcbcaagreatdoor", sum := "f7fcb1b7f9bcd9ca9f8e9124b550d0b4c3c16b6ebb888701998ebfd4c545d607", checked := Tryz.checked }
namespace Rows
def none {H : Type} : Left H := { results := [], args := [] }

/- WHAT THE LISTED PACKAGE-LEVEL VARIABLES READ AS WHEN THE CALL BEGINS. Each datum BY PROGRAM (the guide's laid-datum.mjs) off the statement by which the dump's own 'gosem.cut.vars' lays the variable. In a bare row this is a premise. The card (YtaanadbpnmcbcaaGreatDoorCards.lean) ties it to the program's text. -/
def laid_unicode_utf8_acceptRanges {H : Type} : DataW H := .agg [.agg [.lit (.int .u8 128), .lit (.int .u8 191)], .agg [.lit (.int .u8 160), .lit (.int .u8 191)], .agg [.lit (.int .u8 128), .lit (.int .u8 159)], .agg [.lit (.int .u8 144), .lit (.int .u8 191)], .agg [.lit (.int .u8 128), .lit (.int .u8 143)], .agg [.lit (.int .u8 0), .lit (.int .u8 0)], .agg [.lit (.int .u8 0), .lit (.int .u8 0)], .agg [.lit (.int .u8 0), .lit (.int .u8 0)], .agg [.lit (.int .u8 0), .lit (.int .u8 0)], .agg [.lit (.int .u8 0), .lit (.int .u8 0)], .agg [.lit (.int .u8 0), .lit (.int .u8 0)], .agg [.lit (.int .u8 0), .lit (.int .u8 0)], .agg [.lit (.int .u8 0), .lit (.int .u8 0)], .agg [.lit (.int .u8 0), .lit (.int .u8 0)], .agg [.lit (.int .u8 0), .lit (.int .u8 0)], .agg [.lit (.int .u8 0), .lit (.int .u8 0)]]
/-- One of Go's own tables, pinned by name: the form's constant. -/
def laid_unicode_utf8_first : DataW Unit := Go.Pinned.utf8First

/-- 'laws.FnExactWalForget': WHATEVER THE INPUT: true; the input reads as it did. -/
def fnExactWalForgetSpec : ChangeSpec := { name := "fnExactWalForget", fn := fun _ => fun
  | [d1, d2] => { results := [.lit (.bool true)], args := [d1, d2] }
  | _ => none }
def fnExactWalForgetRow : OpenClaim := { program := "ytaanadbpnmcbcaagreatdoor", sum := "f7fcb1b7f9bcd9ca9f8e9124b550d0b4c3c16b6ebb888701998ebfd4c545d607", func := "loop.example/g00220/laws.FnExactWalForget", spec := "fnExactWalForget", inPlace := ["internal/bytealg.IndexByteString", "internal/bytealg.IndexString", "internal/bytealg.abigen_runtime_cmpstring", "slices.overlaps[loop.example/g00220/impl.File]"], unfollowed := true, recurses := true, named := ["unicode/utf8.first", "unicode/utf8.acceptRanges", "internal/bytealg.MaxLen"], apart := false, laid := [("unicode/utf8.acceptRanges", laid_unicode_utf8_acceptRanges), ("unicode/utf8.first", laid_unicode_utf8_first)] }
def FnExactWalForgetSaid : Prop := fnExactWalForgetRow.holds Tryz.pinned (OpenSpec.ofChange fnExactWalForgetSpec)

/-- ITS FALSE NEIGHBOUR: 'it returns false'. Refute it at one input. -/
def fnExactWalForgetWrong : ChangeSpec := { name := "fnExactWalForget", fn := fun _ => fun
  | [d1, d2] => { results := [.lit (.bool false)], args := [d1, d2] }
  | _ => none }
def FnExactWalForgetWrongFalsely : Prop := fnExactWalForgetRow.holds Tryz.pinned (OpenSpec.ofChange fnExactWalForgetWrong)

/-- 'laws.FnForget': WHATEVER THE INPUT: true; the input reads as it did. -/
def fnForgetSpec : ChangeSpec := { name := "fnForget", fn := fun _ => fun
  | [d1, d2] => { results := [.lit (.bool true)], args := [d1, d2] }
  | _ => none }
def fnForgetRow : OpenClaim := { program := "ytaanadbpnmcbcaagreatdoor", sum := "f7fcb1b7f9bcd9ca9f8e9124b550d0b4c3c16b6ebb888701998ebfd4c545d607", func := "loop.example/g00220/laws.FnForget", spec := "fnForget", inPlace := ["internal/bytealg.IndexByteString", "internal/bytealg.IndexString", "internal/bytealg.abigen_runtime_cmpstring", "slices.overlaps[loop.example/g00220/impl.File]"], unfollowed := true, recurses := true, named := ["unicode/utf8.first", "unicode/utf8.acceptRanges", "internal/bytealg.MaxLen"], apart := false, laid := [("unicode/utf8.acceptRanges", laid_unicode_utf8_acceptRanges), ("unicode/utf8.first", laid_unicode_utf8_first)] }
def FnForgetSaid : Prop := fnForgetRow.holds Tryz.pinned (OpenSpec.ofChange fnForgetSpec)

/-- ITS FALSE NEIGHBOUR: 'it returns false'. Refute it at one input. -/
def fnForgetWrong : ChangeSpec := { name := "fnForget", fn := fun _ => fun
  | [d1, d2] => { results := [.lit (.bool false)], args := [d1, d2] }
  | _ => none }
def FnForgetWrongFalsely : Prop := fnForgetRow.holds Tryz.pinned (OpenSpec.ofChange fnForgetWrong)

/-- 'laws.FnWal': WHATEVER THE INPUT: true; the input reads as it did. -/
def fnWalSpec : ChangeSpec := { name := "fnWal", fn := fun _ => fun
  | [d1, d2] => { results := [.lit (.bool true)], args := [d1, d2] }
  | _ => none }
def fnWalRow : OpenClaim := { program := "ytaanadbpnmcbcaagreatdoor", sum := "f7fcb1b7f9bcd9ca9f8e9124b550d0b4c3c16b6ebb888701998ebfd4c545d607", func := "loop.example/g00220/laws.FnWal", spec := "fnWal", inPlace := ["internal/bytealg.IndexByteString", "internal/bytealg.IndexString", "internal/bytealg.abigen_runtime_cmpstring", "slices.overlaps[loop.example/g00220/impl.File]"], unfollowed := true, recurses := true, named := ["unicode/utf8.first", "unicode/utf8.acceptRanges", "internal/bytealg.MaxLen"], apart := false, laid := [("unicode/utf8.acceptRanges", laid_unicode_utf8_acceptRanges), ("unicode/utf8.first", laid_unicode_utf8_first)] }
def FnWalSaid : Prop := fnWalRow.holds Tryz.pinned (OpenSpec.ofChange fnWalSpec)

/-- ITS FALSE NEIGHBOUR: 'it returns false'. Refute it at one input. -/
def fnWalWrong : ChangeSpec := { name := "fnWal", fn := fun _ => fun
  | [d1, d2] => { results := [.lit (.bool false)], args := [d1, d2] }
  | _ => none }
def FnWalWrongFalsely : Prop := fnWalRow.holds Tryz.pinned (OpenSpec.ofChange fnWalWrong)

/-- 'laws.FnExactSaveState': WHATEVER THE INPUT: true; the input reads as it did. -/
def fnExactSaveStateSpec : ChangeSpec := { name := "fnExactSaveState", fn := fun _ => fun
  | [d1, d2, d3] => { results := [.lit (.bool true)], args := [d1, d2, d3] }
  | _ => none }
def fnExactSaveStateRow : OpenClaim := { program := "ytaanadbpnmcbcaagreatdoor", sum := "f7fcb1b7f9bcd9ca9f8e9124b550d0b4c3c16b6ebb888701998ebfd4c545d607", func := "loop.example/g00220/laws.FnExactSaveState", spec := "fnExactSaveState", inPlace := ["internal/bytealg.IndexByteString", "internal/bytealg.IndexString", "internal/bytealg.abigen_runtime_cmpstring", "slices.overlaps[loop.example/g00220/impl.File]"], unfollowed := true, recurses := true, named := ["unicode/utf8.first", "unicode/utf8.acceptRanges", "internal/bytealg.MaxLen"], apart := false, laid := [("unicode/utf8.acceptRanges", laid_unicode_utf8_acceptRanges), ("unicode/utf8.first", laid_unicode_utf8_first)] }
def FnExactSaveStateSaid : Prop := fnExactSaveStateRow.holds Tryz.pinned (OpenSpec.ofChange fnExactSaveStateSpec)

/-- ITS FALSE NEIGHBOUR: 'it returns false'. Refute it at one input. -/
def fnExactSaveStateWrong : ChangeSpec := { name := "fnExactSaveState", fn := fun _ => fun
  | [d1, d2, d3] => { results := [.lit (.bool false)], args := [d1, d2, d3] }
  | _ => none }
def FnExactSaveStateWrongFalsely : Prop := fnExactSaveStateRow.holds Tryz.pinned (OpenSpec.ofChange fnExactSaveStateWrong)

/-- 'laws.FnRecovers': WHATEVER THE INPUT: true; the input reads as it did. -/
def fnRecoversSpec : ChangeSpec := { name := "fnRecovers", fn := fun _ => fun
  | [d1, d2] => { results := [.lit (.bool true)], args := [d1, d2] }
  | _ => none }
def fnRecoversRow : OpenClaim := { program := "ytaanadbpnmcbcaagreatdoor", sum := "f7fcb1b7f9bcd9ca9f8e9124b550d0b4c3c16b6ebb888701998ebfd4c545d607", func := "loop.example/g00220/laws.FnRecovers", spec := "fnRecovers", inPlace := ["internal/bytealg.IndexByteString", "internal/bytealg.IndexString", "internal/bytealg.abigen_runtime_cmpstring", "slices.overlaps[loop.example/g00220/impl.File]"], unfollowed := true, recurses := true, named := ["unicode/utf8.first", "unicode/utf8.acceptRanges", "internal/bytealg.MaxLen"], apart := false, laid := [("unicode/utf8.acceptRanges", laid_unicode_utf8_acceptRanges), ("unicode/utf8.first", laid_unicode_utf8_first)] }
def FnRecoversSaid : Prop := fnRecoversRow.holds Tryz.pinned (OpenSpec.ofChange fnRecoversSpec)

/-- ITS FALSE NEIGHBOUR: 'it returns false'. Refute it at one input. -/
def fnRecoversWrong : ChangeSpec := { name := "fnRecovers", fn := fun _ => fun
  | [d1, d2] => { results := [.lit (.bool false)], args := [d1, d2] }
  | _ => none }
def FnRecoversWrongFalsely : Prop := fnRecoversRow.holds Tryz.pinned (OpenSpec.ofChange fnRecoversWrong)

/-- 'laws.FnExactWalAppend': WHATEVER THE INPUT: true; the input reads as it did. -/
def fnExactWalAppendSpec : ChangeSpec := { name := "fnExactWalAppend", fn := fun _ => fun
  | [d1, d2] => { results := [.lit (.bool true)], args := [d1, d2] }
  | _ => none }
def fnExactWalAppendRow : OpenClaim := { program := "ytaanadbpnmcbcaagreatdoor", sum := "f7fcb1b7f9bcd9ca9f8e9124b550d0b4c3c16b6ebb888701998ebfd4c545d607", func := "loop.example/g00220/laws.FnExactWalAppend", spec := "fnExactWalAppend", inPlace := ["internal/bytealg.IndexByteString", "internal/bytealg.IndexString", "internal/bytealg.abigen_runtime_cmpstring", "slices.overlaps[loop.example/g00220/impl.File]"], unfollowed := true, recurses := true, named := ["unicode/utf8.first", "unicode/utf8.acceptRanges", "internal/bytealg.MaxLen"], apart := false, laid := [("unicode/utf8.acceptRanges", laid_unicode_utf8_acceptRanges), ("unicode/utf8.first", laid_unicode_utf8_first)] }
def FnExactWalAppendSaid : Prop := fnExactWalAppendRow.holds Tryz.pinned (OpenSpec.ofChange fnExactWalAppendSpec)

/-- ITS FALSE NEIGHBOUR: 'it returns false'. Refute it at one input. -/
def fnExactWalAppendWrong : ChangeSpec := { name := "fnExactWalAppend", fn := fun _ => fun
  | [d1, d2] => { results := [.lit (.bool false)], args := [d1, d2] }
  | _ => none }
def FnExactWalAppendWrongFalsely : Prop := fnExactWalAppendRow.holds Tryz.pinned (OpenSpec.ofChange fnExactWalAppendWrong)

/-- 'laws.FnStates': WHATEVER THE INPUT: true; the input reads as it did. -/
def fnStatesSpec : ChangeSpec := { name := "fnStates", fn := fun _ => fun
  | [d1, d2] => { results := [.lit (.bool true)], args := [d1, d2] }
  | _ => none }
def fnStatesRow : OpenClaim := { program := "ytaanadbpnmcbcaagreatdoor", sum := "f7fcb1b7f9bcd9ca9f8e9124b550d0b4c3c16b6ebb888701998ebfd4c545d607", func := "loop.example/g00220/laws.FnStates", spec := "fnStates", inPlace := ["internal/bytealg.IndexByteString", "internal/bytealg.IndexString", "internal/bytealg.abigen_runtime_cmpstring", "slices.overlaps[loop.example/g00220/impl.File]"], unfollowed := true, recurses := true, named := ["unicode/utf8.first", "unicode/utf8.acceptRanges", "internal/bytealg.MaxLen"], apart := false, laid := [("unicode/utf8.acceptRanges", laid_unicode_utf8_acceptRanges), ("unicode/utf8.first", laid_unicode_utf8_first)] }
def FnStatesSaid : Prop := fnStatesRow.holds Tryz.pinned (OpenSpec.ofChange fnStatesSpec)

/-- ITS FALSE NEIGHBOUR: 'it returns false'. Refute it at one input. -/
def fnStatesWrong : ChangeSpec := { name := "fnStates", fn := fun _ => fun
  | [d1, d2] => { results := [.lit (.bool false)], args := [d1, d2] }
  | _ => none }
def FnStatesWrongFalsely : Prop := fnStatesRow.holds Tryz.pinned (OpenSpec.ofChange fnStatesWrong)

/- THE SECOND FORM. 'bulk': how many values and letters a reading holds, each counted each time it is reached (what is shared counts as often as it is met; a slice's spare places count too). A statement '..UptoSaid' is the law's where the arguments, and the package variables that the reading takes, are together of bulk at most 1048576: NARROWER than '..Said'. Prove '..Said' where nothing that the law and all that it calls make is longer than what came in: it says more and counts as full. Else prove '..UptoSaid'. A law counts once. -/
mutual
def uptoBulk {H : Type} : DataW H → Nat
  | .lit (.string bytes) => bytes.length + 1
  | .lit _ => 1
  | .nil => 1
  | .ptr d => uptoBulk d + 1
  | .slice elems spare => uptoBulkAll elems + uptoBulkAll spare + 1
  | .agg parts => uptoBulkAll parts + 1
  | .iface _ d => uptoBulk d + 1
  | .map entries => uptoBulkEntries entries + 1
  | .held _ => 1
def uptoBulkAll {H : Type} : List (DataW H) → Nat
  | [] => 0
  | d :: r => uptoBulk d + uptoBulkAll r
def uptoBulkEntries {H : Type} : List (Lit × DataW H) → Nat
  | [] => 0
  | x :: r => uptoBulkEntry x + uptoBulkEntries r
def uptoBulkEntry {H : Type} : Lit × DataW H → Nat
  | (.string bytes, d) => bytes.length + uptoBulk d + 1
  | (_, d) => uptoBulk d + 1
 end
def uptoSmall : (H : Type) → List (DataW H) → Bool := fun _ ds => decide (uptoBulkAll ds ≤ 1048576)
def OpenSpec.upto (s : _root_.Go.ChangeSpec) : _root_.Go.OpenSpec := { _root_.Go.OpenSpec.ofChange s with cond := some uptoSmall }

/-- 'laws.FnExactWalForget', WHERE WHAT IT READS IS OF BULK AT MOST 1048576: true; the input reads as it did. -/
def fnExactWalForgetUptoRow : OpenClaim := { program := "ytaanadbpnmcbcaagreatdoor", sum := "f7fcb1b7f9bcd9ca9f8e9124b550d0b4c3c16b6ebb888701998ebfd4c545d607", func := "loop.example/g00220/laws.FnExactWalForget", spec := "fnExactWalForget", inPlace := ["internal/bytealg.IndexByteString", "internal/bytealg.IndexString", "internal/bytealg.abigen_runtime_cmpstring", "slices.overlaps[loop.example/g00220/impl.File]"], unfollowed := true, recurses := true, named := ["unicode/utf8.first", "unicode/utf8.acceptRanges", "internal/bytealg.MaxLen"], apart := false, laid := [("unicode/utf8.acceptRanges", laid_unicode_utf8_acceptRanges), ("unicode/utf8.first", laid_unicode_utf8_first)], narrowed := true }
def FnExactWalForgetUptoSaid : Prop := fnExactWalForgetUptoRow.holds Tryz.pinned (OpenSpec.upto fnExactWalForgetSpec)

/-- 'laws.FnForget', WHERE WHAT IT READS IS OF BULK AT MOST 1048576: true; the input reads as it did. -/
def fnForgetUptoRow : OpenClaim := { program := "ytaanadbpnmcbcaagreatdoor", sum := "f7fcb1b7f9bcd9ca9f8e9124b550d0b4c3c16b6ebb888701998ebfd4c545d607", func := "loop.example/g00220/laws.FnForget", spec := "fnForget", inPlace := ["internal/bytealg.IndexByteString", "internal/bytealg.IndexString", "internal/bytealg.abigen_runtime_cmpstring", "slices.overlaps[loop.example/g00220/impl.File]"], unfollowed := true, recurses := true, named := ["unicode/utf8.first", "unicode/utf8.acceptRanges", "internal/bytealg.MaxLen"], apart := false, laid := [("unicode/utf8.acceptRanges", laid_unicode_utf8_acceptRanges), ("unicode/utf8.first", laid_unicode_utf8_first)], narrowed := true }
def FnForgetUptoSaid : Prop := fnForgetUptoRow.holds Tryz.pinned (OpenSpec.upto fnForgetSpec)

/-- 'laws.FnWal', WHERE WHAT IT READS IS OF BULK AT MOST 1048576: true; the input reads as it did. -/
def fnWalUptoRow : OpenClaim := { program := "ytaanadbpnmcbcaagreatdoor", sum := "f7fcb1b7f9bcd9ca9f8e9124b550d0b4c3c16b6ebb888701998ebfd4c545d607", func := "loop.example/g00220/laws.FnWal", spec := "fnWal", inPlace := ["internal/bytealg.IndexByteString", "internal/bytealg.IndexString", "internal/bytealg.abigen_runtime_cmpstring", "slices.overlaps[loop.example/g00220/impl.File]"], unfollowed := true, recurses := true, named := ["unicode/utf8.first", "unicode/utf8.acceptRanges", "internal/bytealg.MaxLen"], apart := false, laid := [("unicode/utf8.acceptRanges", laid_unicode_utf8_acceptRanges), ("unicode/utf8.first", laid_unicode_utf8_first)], narrowed := true }
def FnWalUptoSaid : Prop := fnWalUptoRow.holds Tryz.pinned (OpenSpec.upto fnWalSpec)

/-- 'laws.FnExactSaveState', WHERE WHAT IT READS IS OF BULK AT MOST 1048576: true; the input reads as it did. -/
def fnExactSaveStateUptoRow : OpenClaim := { program := "ytaanadbpnmcbcaagreatdoor", sum := "f7fcb1b7f9bcd9ca9f8e9124b550d0b4c3c16b6ebb888701998ebfd4c545d607", func := "loop.example/g00220/laws.FnExactSaveState", spec := "fnExactSaveState", inPlace := ["internal/bytealg.IndexByteString", "internal/bytealg.IndexString", "internal/bytealg.abigen_runtime_cmpstring", "slices.overlaps[loop.example/g00220/impl.File]"], unfollowed := true, recurses := true, named := ["unicode/utf8.first", "unicode/utf8.acceptRanges", "internal/bytealg.MaxLen"], apart := false, laid := [("unicode/utf8.acceptRanges", laid_unicode_utf8_acceptRanges), ("unicode/utf8.first", laid_unicode_utf8_first)], narrowed := true }
def FnExactSaveStateUptoSaid : Prop := fnExactSaveStateUptoRow.holds Tryz.pinned (OpenSpec.upto fnExactSaveStateSpec)

/-- 'laws.FnRecovers', WHERE WHAT IT READS IS OF BULK AT MOST 1048576: true; the input reads as it did. -/
def fnRecoversUptoRow : OpenClaim := { program := "ytaanadbpnmcbcaagreatdoor", sum := "f7fcb1b7f9bcd9ca9f8e9124b550d0b4c3c16b6ebb888701998ebfd4c545d607", func := "loop.example/g00220/laws.FnRecovers", spec := "fnRecovers", inPlace := ["internal/bytealg.IndexByteString", "internal/bytealg.IndexString", "internal/bytealg.abigen_runtime_cmpstring", "slices.overlaps[loop.example/g00220/impl.File]"], unfollowed := true, recurses := true, named := ["unicode/utf8.first", "unicode/utf8.acceptRanges", "internal/bytealg.MaxLen"], apart := false, laid := [("unicode/utf8.acceptRanges", laid_unicode_utf8_acceptRanges), ("unicode/utf8.first", laid_unicode_utf8_first)], narrowed := true }
def FnRecoversUptoSaid : Prop := fnRecoversUptoRow.holds Tryz.pinned (OpenSpec.upto fnRecoversSpec)

/-- 'laws.FnExactWalAppend', WHERE WHAT IT READS IS OF BULK AT MOST 1048576: true; the input reads as it did. -/
def fnExactWalAppendUptoRow : OpenClaim := { program := "ytaanadbpnmcbcaagreatdoor", sum := "f7fcb1b7f9bcd9ca9f8e9124b550d0b4c3c16b6ebb888701998ebfd4c545d607", func := "loop.example/g00220/laws.FnExactWalAppend", spec := "fnExactWalAppend", inPlace := ["internal/bytealg.IndexByteString", "internal/bytealg.IndexString", "internal/bytealg.abigen_runtime_cmpstring", "slices.overlaps[loop.example/g00220/impl.File]"], unfollowed := true, recurses := true, named := ["unicode/utf8.first", "unicode/utf8.acceptRanges", "internal/bytealg.MaxLen"], apart := false, laid := [("unicode/utf8.acceptRanges", laid_unicode_utf8_acceptRanges), ("unicode/utf8.first", laid_unicode_utf8_first)], narrowed := true }
def FnExactWalAppendUptoSaid : Prop := fnExactWalAppendUptoRow.holds Tryz.pinned (OpenSpec.upto fnExactWalAppendSpec)

/-- 'laws.FnStates', WHERE WHAT IT READS IS OF BULK AT MOST 1048576: true; the input reads as it did. -/
def fnStatesUptoRow : OpenClaim := { program := "ytaanadbpnmcbcaagreatdoor", sum := "f7fcb1b7f9bcd9ca9f8e9124b550d0b4c3c16b6ebb888701998ebfd4c545d607", func := "loop.example/g00220/laws.FnStates", spec := "fnStates", inPlace := ["internal/bytealg.IndexByteString", "internal/bytealg.IndexString", "internal/bytealg.abigen_runtime_cmpstring", "slices.overlaps[loop.example/g00220/impl.File]"], unfollowed := true, recurses := true, named := ["unicode/utf8.first", "unicode/utf8.acceptRanges", "internal/bytealg.MaxLen"], apart := false, laid := [("unicode/utf8.acceptRanges", laid_unicode_utf8_acceptRanges), ("unicode/utf8.first", laid_unicode_utf8_first)], narrowed := true }
def FnStatesUptoSaid : Prop := fnStatesUptoRow.holds Tryz.pinned (OpenSpec.upto fnStatesSpec)

end Rows
end Go.Proofs.YtaanadbpnmcbcaaGreatDoor
