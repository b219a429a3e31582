/-
  No cell of these rows narrows 'for every input' (looked for: loops, veiled, ifaces, maps, wideKeys, modest, calm, conditions, laid).
  DERIVED. THE GIVEN ROWS OF THIS SEAT. 6 by the template 'for every input the law returns true; each argument reads behind the call as it read before'; 0 by the template 'total and deterministic' (their statements: YtdpjbeeokimnaaaTotals.lean).
  GIVEN WITH THE SEED: the statements are not yours to turn. If you find one false, say at which input.
  Laid BY PROGRAM, IN A SANDBOX (cutbox-rows.mjs): the forced cells as the released guide's own fill.sh prints them over the translation 190f539299d72994… (all of the seat's roots in one cut). By AI agents, Wed Nov 11 2026. No macro, syntax, notation, axiom, sorry.
-/
import Derived.Test.YtdpjbeeokimnaaaChecked
import GoSem.Claim
import GoSem.ClaimJoined
import GoSem.ClaimMapViews
import Derived.JoinedTies
import Derived.KernelRfl
namespace Go.Proofs.Ytdpjbeeokimnaaa
/- THE CELL 'sum', in the pinned program and in every row, IS THE sha256 OF THE DUMP (.gsa) THAT YtdpjbeeokimnaaaProg.lean LOADS. Nothing in Lean hashes anything: it is a label: what it is worth is what the hold of that sum in a sandbox is worth. -/
noncomputable def Try.pinned : Pinned := { name := "ytdpjbeeokimnaaa", sum := "190f539299d729946b3dfb4a4de8fff93fed437750cd07c76813eabb76a9d967", checked := Try.checked }
namespace Rows
def none {H : Type} : Left H := { results := [], args := [] }

/-- 'laws.FnCommands': WHATEVER THE INPUT: true; the input reads as it did. -/
def fnCommandsSpec : ChangeSpec := { name := "fnCommands", fn := fun _ => fun
  | [d] => { results := [.lit (.bool true)], args := [d] }
  | _ => none }
def fnCommandsRow : OpenClaim := { program := "ytdpjbeeokimnaaa", sum := "190f539299d729946b3dfb4a4de8fff93fed437750cd07c76813eabb76a9d967", func := "loop.example/g00220/laws.FnCommands", spec := "fnCommands", unfollowed := true, recurses := true, apart := false }
def FnCommandsSaid : Prop := fnCommandsRow.holds Try.pinned (OpenSpec.ofChange fnCommandsSpec)

/-- ITS FALSE NEIGHBOUR: 'it returns false'. Refute it at one input. -/
def fnCommandsWrong : ChangeSpec := { name := "fnCommands", fn := fun _ => fun
  | [d] => { results := [.lit (.bool false)], args := [d] }
  | _ => none }
def FnCommandsWrongFalsely : Prop := fnCommandsRow.holds Try.pinned (OpenSpec.ofChange fnCommandsWrong)

/-- 'laws.FnExactFoldRecords': WHATEVER THE INPUT: true; the input reads as it did. -/
def fnExactFoldRecordsSpec : ChangeSpec := { name := "fnExactFoldRecords", fn := fun _ => fun
  | [d] => { results := [.lit (.bool true)], args := [d] }
  | _ => none }
def fnExactFoldRecordsRow : OpenClaim := { program := "ytdpjbeeokimnaaa", sum := "190f539299d729946b3dfb4a4de8fff93fed437750cd07c76813eabb76a9d967", func := "loop.example/g00220/laws.FnExactFoldRecords", spec := "fnExactFoldRecords", unfollowed := true, recurses := true, apart := false }
def FnExactFoldRecordsSaid : Prop := fnExactFoldRecordsRow.holds Try.pinned (OpenSpec.ofChange fnExactFoldRecordsSpec)

/-- ITS FALSE NEIGHBOUR: 'it returns false'. Refute it at one input. -/
def fnExactFoldRecordsWrong : ChangeSpec := { name := "fnExactFoldRecords", fn := fun _ => fun
  | [d] => { results := [.lit (.bool false)], args := [d] }
  | _ => none }
def FnExactFoldRecordsWrongFalsely : Prop := fnExactFoldRecordsRow.holds Try.pinned (OpenSpec.ofChange fnExactFoldRecordsWrong)

/-- 'laws.FnExactCollision': WHATEVER THE INPUT: true; the input reads as it did. -/
def fnExactCollisionSpec : ChangeSpec := { name := "fnExactCollision", fn := fun _ => fun
  | [d1, d2, d3, d4, d5, d6] => { results := [.lit (.bool true)], args := [d1, d2, d3, d4, d5, d6] }
  | _ => none }
def fnExactCollisionRow : OpenClaim := { program := "ytdpjbeeokimnaaa", sum := "190f539299d729946b3dfb4a4de8fff93fed437750cd07c76813eabb76a9d967", func := "loop.example/g00220/laws.FnExactCollision", spec := "fnExactCollision", inPlace := ["internal/abi.NoEscape", "internal/bytealg.MakeNoZero"], unfollowed := true, recurses := true, apart := false }
def FnExactCollisionSaid : Prop := fnExactCollisionRow.holds Try.pinned (OpenSpec.ofChange fnExactCollisionSpec)

/-- ITS FALSE NEIGHBOUR: 'it returns false'. Refute it at one input. -/
def fnExactCollisionWrong : ChangeSpec := { name := "fnExactCollision", fn := fun _ => fun
  | [d1, d2, d3, d4, d5, d6] => { results := [.lit (.bool false)], args := [d1, d2, d3, d4, d5, d6] }
  | _ => none }
def FnExactCollisionWrongFalsely : Prop := fnExactCollisionRow.holds Try.pinned (OpenSpec.ofChange fnExactCollisionWrong)

/-- 'laws.FnExactCheckEntry': WHATEVER THE INPUT: true; the input reads as it did. -/
def fnExactCheckEntrySpec : ChangeSpec := { name := "fnExactCheckEntry", fn := fun _ => fun
  | [d1, d2, d3, d4] => { results := [.lit (.bool true)], args := [d1, d2, d3, d4] }
  | _ => none }
def fnExactCheckEntryRow : OpenClaim := { program := "ytdpjbeeokimnaaa", sum := "190f539299d729946b3dfb4a4de8fff93fed437750cd07c76813eabb76a9d967", func := "loop.example/g00220/laws.FnExactCheckEntry", spec := "fnExactCheckEntry", inPlace := ["internal/abi.NoEscape", "internal/bytealg.MakeNoZero"], unfollowed := true, recurses := true, apart := false }
def FnExactCheckEntrySaid : Prop := fnExactCheckEntryRow.holds Try.pinned (OpenSpec.ofChange fnExactCheckEntrySpec)

/-- ITS FALSE NEIGHBOUR: 'it returns false'. Refute it at one input. -/
def fnExactCheckEntryWrong : ChangeSpec := { name := "fnExactCheckEntry", fn := fun _ => fun
  | [d1, d2, d3, d4] => { results := [.lit (.bool false)], args := [d1, d2, d3, d4] }
  | _ => none }
def FnExactCheckEntryWrongFalsely : Prop := fnExactCheckEntryRow.holds Try.pinned (OpenSpec.ofChange fnExactCheckEntryWrong)

/-- 'laws.FnCollision': WHATEVER THE INPUT: true; the input reads as it did. -/
def fnCollisionSpec : ChangeSpec := { name := "fnCollision", fn := fun _ => fun
  | [d1, d2] => { results := [.lit (.bool true)], args := [d1, d2] }
  | _ => none }
def fnCollisionRow : OpenClaim := { program := "ytdpjbeeokimnaaa", sum := "190f539299d729946b3dfb4a4de8fff93fed437750cd07c76813eabb76a9d967", func := "loop.example/g00220/laws.FnCollision", spec := "fnCollision", inPlace := ["internal/abi.NoEscape", "internal/bytealg.MakeNoZero"], unfollowed := true, recurses := true, apart := false }
def FnCollisionSaid : Prop := fnCollisionRow.holds Try.pinned (OpenSpec.ofChange fnCollisionSpec)

/-- ITS FALSE NEIGHBOUR: 'it returns false'. Refute it at one input. -/
def fnCollisionWrong : ChangeSpec := { name := "fnCollision", fn := fun _ => fun
  | [d1, d2] => { results := [.lit (.bool false)], args := [d1, d2] }
  | _ => none }
def FnCollisionWrongFalsely : Prop := fnCollisionRow.holds Try.pinned (OpenSpec.ofChange fnCollisionWrong)

/-- 'laws.FnExactCheckValue': WHATEVER THE INPUT: true; the input reads as it did. -/
def fnExactCheckValueSpec : ChangeSpec := { name := "fnExactCheckValue", fn := fun _ => fun
  | [d1, d2, d3] => { results := [.lit (.bool true)], args := [d1, d2, d3] }
  | _ => none }
def fnExactCheckValueRow : OpenClaim := { program := "ytdpjbeeokimnaaa", sum := "190f539299d729946b3dfb4a4de8fff93fed437750cd07c76813eabb76a9d967", func := "loop.example/g00220/laws.FnExactCheckValue", spec := "fnExactCheckValue", inPlace := ["internal/abi.NoEscape", "internal/bytealg.MakeNoZero"], unfollowed := true, recurses := true, apart := false }
def FnExactCheckValueSaid : Prop := fnExactCheckValueRow.holds Try.pinned (OpenSpec.ofChange fnExactCheckValueSpec)

/-- ITS FALSE NEIGHBOUR: 'it returns false'. Refute it at one input. -/
def fnExactCheckValueWrong : ChangeSpec := { name := "fnExactCheckValue", fn := fun _ => fun
  | [d1, d2, d3] => { results := [.lit (.bool false)], args := [d1, d2, d3] }
  | _ => none }
def FnExactCheckValueWrongFalsely : Prop := fnExactCheckValueRow.holds Try.pinned (OpenSpec.ofChange fnExactCheckValueWrong)

/- THE SECOND FORM. 'bulk': how many values and letters a reading holds, each counted each time it is reached (what is shared counts as often as it is met; a slice's spare places count too). A statement '..UptoSaid' is the law's where the arguments, and the package variables that the reading takes, are together of bulk at most 1048576: NARROWER than '..Said'. Prove '..Said' where nothing that the law and all that it calls make is longer than what came in: it says more and counts as full. Else prove '..UptoSaid'. A law counts once. -/
mutual
def uptoBulk {H : Type} : DataW H → Nat
  | .lit (.string bytes) => bytes.length + 1
  | .lit _ => 1
  | .nil => 1
  | .ptr d => uptoBulk d + 1
  | .slice elems spare => uptoBulkAll elems + uptoBulkAll spare + 1
  | .agg parts => uptoBulkAll parts + 1
  | .iface _ d => uptoBulk d + 1
  | .map entries => uptoBulkEntries entries + 1
  | .held _ => 1
def uptoBulkAll {H : Type} : List (DataW H) → Nat
  | [] => 0
  | d :: r => uptoBulk d + uptoBulkAll r
def uptoBulkEntries {H : Type} : List (Lit × DataW H) → Nat
  | [] => 0
  | x :: r => uptoBulkEntry x + uptoBulkEntries r
def uptoBulkEntry {H : Type} : Lit × DataW H → Nat
  | (.string bytes, d) => bytes.length + uptoBulk d + 1
  | (_, d) => uptoBulk d + 1
 end
def uptoSmall : (H : Type) → List (DataW H) → Bool := fun _ ds => decide (uptoBulkAll ds ≤ 1048576)
def OpenSpec.upto (s : _root_.Go.ChangeSpec) : _root_.Go.OpenSpec := { _root_.Go.OpenSpec.ofChange s with cond := some uptoSmall }

/-- 'laws.FnCommands', WHERE WHAT IT READS IS OF BULK AT MOST 1048576: true; the input reads as it did. -/
def fnCommandsUptoRow : OpenClaim := { program := "ytdpjbeeokimnaaa", sum := "190f539299d729946b3dfb4a4de8fff93fed437750cd07c76813eabb76a9d967", func := "loop.example/g00220/laws.FnCommands", spec := "fnCommands", unfollowed := true, recurses := true, apart := false, narrowed := true }
def FnCommandsUptoSaid : Prop := fnCommandsUptoRow.holds Try.pinned (OpenSpec.upto fnCommandsSpec)

/-- 'laws.FnExactFoldRecords', WHERE WHAT IT READS IS OF BULK AT MOST 1048576: true; the input reads as it did. -/
def fnExactFoldRecordsUptoRow : OpenClaim := { program := "ytdpjbeeokimnaaa", sum := "190f539299d729946b3dfb4a4de8fff93fed437750cd07c76813eabb76a9d967", func := "loop.example/g00220/laws.FnExactFoldRecords", spec := "fnExactFoldRecords", unfollowed := true, recurses := true, apart := false, narrowed := true }
def FnExactFoldRecordsUptoSaid : Prop := fnExactFoldRecordsUptoRow.holds Try.pinned (OpenSpec.upto fnExactFoldRecordsSpec)

/-- 'laws.FnExactCollision', WHERE WHAT IT READS IS OF BULK AT MOST 1048576: true; the input reads as it did. -/
def fnExactCollisionUptoRow : OpenClaim := { program := "ytdpjbeeokimnaaa", sum := "190f539299d729946b3dfb4a4de8fff93fed437750cd07c76813eabb76a9d967", func := "loop.example/g00220/laws.FnExactCollision", spec := "fnExactCollision", inPlace := ["internal/abi.NoEscape", "internal/bytealg.MakeNoZero"], unfollowed := true, recurses := true, apart := false, narrowed := true }
def FnExactCollisionUptoSaid : Prop := fnExactCollisionUptoRow.holds Try.pinned (OpenSpec.upto fnExactCollisionSpec)

/-- 'laws.FnExactCheckEntry', WHERE WHAT IT READS IS OF BULK AT MOST 1048576: true; the input reads as it did. -/
def fnExactCheckEntryUptoRow : OpenClaim := { program := "ytdpjbeeokimnaaa", sum := "190f539299d729946b3dfb4a4de8fff93fed437750cd07c76813eabb76a9d967", func := "loop.example/g00220/laws.FnExactCheckEntry", spec := "fnExactCheckEntry", inPlace := ["internal/abi.NoEscape", "internal/bytealg.MakeNoZero"], unfollowed := true, recurses := true, apart := false, narrowed := true }
def FnExactCheckEntryUptoSaid : Prop := fnExactCheckEntryUptoRow.holds Try.pinned (OpenSpec.upto fnExactCheckEntrySpec)

/-- 'laws.FnCollision', WHERE WHAT IT READS IS OF BULK AT MOST 1048576: true; the input reads as it did. -/
def fnCollisionUptoRow : OpenClaim := { program := "ytdpjbeeokimnaaa", sum := "190f539299d729946b3dfb4a4de8fff93fed437750cd07c76813eabb76a9d967", func := "loop.example/g00220/laws.FnCollision", spec := "fnCollision", inPlace := ["internal/abi.NoEscape", "internal/bytealg.MakeNoZero"], unfollowed := true, recurses := true, apart := false, narrowed := true }
def FnCollisionUptoSaid : Prop := fnCollisionUptoRow.holds Try.pinned (OpenSpec.upto fnCollisionSpec)

/-- 'laws.FnExactCheckValue', WHERE WHAT IT READS IS OF BULK AT MOST 1048576: true; the input reads as it did. -/
def fnExactCheckValueUptoRow : OpenClaim := { program := "ytdpjbeeokimnaaa", sum := "190f539299d729946b3dfb4a4de8fff93fed437750cd07c76813eabb76a9d967", func := "loop.example/g00220/laws.FnExactCheckValue", spec := "fnExactCheckValue", inPlace := ["internal/abi.NoEscape", "internal/bytealg.MakeNoZero"], unfollowed := true, recurses := true, apart := false, narrowed := true }
def FnExactCheckValueUptoSaid : Prop := fnExactCheckValueUptoRow.holds Try.pinned (OpenSpec.upto fnExactCheckValueSpec)

end Rows
end Go.Proofs.Ytdpjbeeokimnaaa
