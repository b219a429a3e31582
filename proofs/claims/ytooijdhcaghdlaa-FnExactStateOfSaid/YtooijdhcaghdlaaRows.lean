/-
  NARROWER THAN 'FOR EVERY INPUT', by the rows' own cells (each row's printed sentence says how): FnExactStateOf: loops · FnExactProveEntry: loops · FnExactProveGrowth: loops.
  DERIVED. THE GIVEN ROWS OF THIS SEAT. 3 by the template 'for every input the law returns true; each argument reads behind the call as it read before'; 0 by the template 'total and deterministic' (their statements: YtooijdhcaghdlaaTotals.lean).
  GIVEN WITH THE SEED: the statements are not yours to turn. If you find one false, say at which input.
  Laid BY PROGRAM, IN A SANDBOX (cutbox-rows.mjs): the forced cells as the released guide's own fill.sh prints them over the translation c9a947d8e72583b4… (all of the seat's roots in one cut). By AI agents, Wed Nov 11 2026. No macro, syntax, notation, axiom, sorry.
-/
import Derived.Test.YtooijdhcaghdlaaChecked
import GoSem.Claim
import GoSem.ClaimJoined
import GoSem.ClaimMapViews
import Derived.JoinedTies
import Derived.KernelRfl
namespace Go.Proofs.Ytooijdhcaghdlaa
/- THE CELL 'sum', in the pinned program and in every row, IS THE sha256 OF THE DUMP (.gsa) THAT YtooijdhcaghdlaaProg.lean LOADS. Nothing in Lean hashes anything: it is a label: what it is worth is what the hold of that sum in a sandbox is worth. -/
noncomputable def Try.pinned : Pinned := { name := "ytooijdhcaghdlaa", sum := "c9a947d8e72583b421aea3f925ea50d23ee54f2b9dbacff4bd9d3fde5b311570", checked := Try.checked }
namespace Rows
def none {H : Type} : Left H := { results := [], args := [] }

/-- 'laws.FnExactStateOf': WHATEVER THE INPUT: true; the input reads as it did. -/
def fnExactStateOfSpec : ChangeSpec := { name := "fnExactStateOf", fn := fun _ => fun
  | [d] => { results := [.lit (.bool true)], args := [d] }
  | _ => none }
def fnExactStateOfRow : OpenClaim := { program := "ytooijdhcaghdlaa", sum := "c9a947d8e72583b421aea3f925ea50d23ee54f2b9dbacff4bd9d3fde5b311570", func := "loop.example/g00220/laws.FnExactStateOf", spec := "fnExactStateOf", inPlace := ["internal/abi.NoEscape", "internal/bytealg.MakeNoZero"], unfollowed := true, recurses := true, loops := true, apart := false }
def FnExactStateOfSaid : Prop := fnExactStateOfRow.holds Try.pinned (OpenSpec.ofChange fnExactStateOfSpec)

/-- ITS FALSE NEIGHBOUR: 'it returns false'. Refute it at one input. -/
def fnExactStateOfWrong : ChangeSpec := { name := "fnExactStateOf", fn := fun _ => fun
  | [d] => { results := [.lit (.bool false)], args := [d] }
  | _ => none }
def FnExactStateOfWrongFalsely : Prop := fnExactStateOfRow.holds Try.pinned (OpenSpec.ofChange fnExactStateOfWrong)

/-- 'laws.FnExactProveEntry': WHATEVER THE INPUT: true; the input reads as it did. -/
def fnExactProveEntrySpec : ChangeSpec := { name := "fnExactProveEntry", fn := fun _ => fun
  | [d1, d2] => { results := [.lit (.bool true)], args := [d1, d2] }
  | _ => none }
def fnExactProveEntryRow : OpenClaim := { program := "ytooijdhcaghdlaa", sum := "c9a947d8e72583b421aea3f925ea50d23ee54f2b9dbacff4bd9d3fde5b311570", func := "loop.example/g00220/laws.FnExactProveEntry", spec := "fnExactProveEntry", inPlace := ["internal/abi.NoEscape", "internal/bytealg.MakeNoZero"], unfollowed := true, recurses := true, loops := true, apart := false }
def FnExactProveEntrySaid : Prop := fnExactProveEntryRow.holds Try.pinned (OpenSpec.ofChange fnExactProveEntrySpec)

/-- ITS FALSE NEIGHBOUR: 'it returns false'. Refute it at one input. -/
def fnExactProveEntryWrong : ChangeSpec := { name := "fnExactProveEntry", fn := fun _ => fun
  | [d1, d2] => { results := [.lit (.bool false)], args := [d1, d2] }
  | _ => none }
def FnExactProveEntryWrongFalsely : Prop := fnExactProveEntryRow.holds Try.pinned (OpenSpec.ofChange fnExactProveEntryWrong)

/-- 'laws.FnExactProveGrowth': WHATEVER THE INPUT: true; the input reads as it did. -/
def fnExactProveGrowthSpec : ChangeSpec := { name := "fnExactProveGrowth", fn := fun _ => fun
  | [d1, d2] => { results := [.lit (.bool true)], args := [d1, d2] }
  | _ => none }
def fnExactProveGrowthRow : OpenClaim := { program := "ytooijdhcaghdlaa", sum := "c9a947d8e72583b421aea3f925ea50d23ee54f2b9dbacff4bd9d3fde5b311570", func := "loop.example/g00220/laws.FnExactProveGrowth", spec := "fnExactProveGrowth", inPlace := ["internal/abi.NoEscape", "internal/bytealg.MakeNoZero"], unfollowed := true, recurses := true, loops := true, apart := false }
def FnExactProveGrowthSaid : Prop := fnExactProveGrowthRow.holds Try.pinned (OpenSpec.ofChange fnExactProveGrowthSpec)

/-- ITS FALSE NEIGHBOUR: 'it returns false'. Refute it at one input. -/
def fnExactProveGrowthWrong : ChangeSpec := { name := "fnExactProveGrowth", fn := fun _ => fun
  | [d1, d2] => { results := [.lit (.bool false)], args := [d1, d2] }
  | _ => none }
def FnExactProveGrowthWrongFalsely : Prop := fnExactProveGrowthRow.holds Try.pinned (OpenSpec.ofChange fnExactProveGrowthWrong)

/- THE SECOND FORM. 'bulk': how many values and letters a reading holds, each counted each time it is reached (what is shared counts as often as it is met; a slice's spare places count too). A statement '..UptoSaid' is the law's where the arguments, and the package variables that the reading takes, are together of bulk at most 1048576: NARROWER than '..Said'. Prove '..Said' where nothing that the law and all that it calls make is longer than what came in: it says more and counts as full. Else prove '..UptoSaid'. A law counts once. -/
mutual
def uptoBulk {H : Type} : DataW H → Nat
  | .lit (.string bytes) => bytes.length + 1
  | .lit _ => 1
  | .nil => 1
  | .ptr d => uptoBulk d + 1
  | .slice elems spare => uptoBulkAll elems + uptoBulkAll spare + 1
  | .agg parts => uptoBulkAll parts + 1
  | .iface _ d => uptoBulk d + 1
  | .map entries => uptoBulkEntries entries + 1
  | .held _ => 1
def uptoBulkAll {H : Type} : List (DataW H) → Nat
  | [] => 0
  | d :: r => uptoBulk d + uptoBulkAll r
def uptoBulkEntries {H : Type} : List (Lit × DataW H) → Nat
  | [] => 0
  | x :: r => uptoBulkEntry x + uptoBulkEntries r
def uptoBulkEntry {H : Type} : Lit × DataW H → Nat
  | (.string bytes, d) => bytes.length + uptoBulk d + 1
  | (_, d) => uptoBulk d + 1
 end
def uptoSmall : (H : Type) → List (DataW H) → Bool := fun _ ds => decide (uptoBulkAll ds ≤ 1048576)
def OpenSpec.upto (s : _root_.Go.ChangeSpec) : _root_.Go.OpenSpec := { _root_.Go.OpenSpec.ofChange s with cond := some uptoSmall }

/-- 'laws.FnExactStateOf', WHERE WHAT IT READS IS OF BULK AT MOST 1048576: true; the input reads as it did. -/
def fnExactStateOfUptoRow : OpenClaim := { program := "ytooijdhcaghdlaa", sum := "c9a947d8e72583b421aea3f925ea50d23ee54f2b9dbacff4bd9d3fde5b311570", func := "loop.example/g00220/laws.FnExactStateOf", spec := "fnExactStateOf", inPlace := ["internal/abi.NoEscape", "internal/bytealg.MakeNoZero"], unfollowed := true, recurses := true, loops := true, apart := false, narrowed := true }
def FnExactStateOfUptoSaid : Prop := fnExactStateOfUptoRow.holds Try.pinned (OpenSpec.upto fnExactStateOfSpec)

/-- 'laws.FnExactProveEntry', WHERE WHAT IT READS IS OF BULK AT MOST 1048576: true; the input reads as it did. -/
def fnExactProveEntryUptoRow : OpenClaim := { program := "ytooijdhcaghdlaa", sum := "c9a947d8e72583b421aea3f925ea50d23ee54f2b9dbacff4bd9d3fde5b311570", func := "loop.example/g00220/laws.FnExactProveEntry", spec := "fnExactProveEntry", inPlace := ["internal/abi.NoEscape", "internal/bytealg.MakeNoZero"], unfollowed := true, recurses := true, loops := true, apart := false, narrowed := true }
def FnExactProveEntryUptoSaid : Prop := fnExactProveEntryUptoRow.holds Try.pinned (OpenSpec.upto fnExactProveEntrySpec)

/-- 'laws.FnExactProveGrowth', WHERE WHAT IT READS IS OF BULK AT MOST 1048576: true; the input reads as it did. -/
def fnExactProveGrowthUptoRow : OpenClaim := { program := "ytooijdhcaghdlaa", sum := "c9a947d8e72583b421aea3f925ea50d23ee54f2b9dbacff4bd9d3fde5b311570", func := "loop.example/g00220/laws.FnExactProveGrowth", spec := "fnExactProveGrowth", inPlace := ["internal/abi.NoEscape", "internal/bytealg.MakeNoZero"], unfollowed := true, recurses := true, loops := true, apart := false, narrowed := true }
def FnExactProveGrowthUptoSaid : Prop := fnExactProveGrowthUptoRow.holds Try.pinned (OpenSpec.upto fnExactProveGrowthSpec)

end Rows
end Go.Proofs.Ytooijdhcaghdlaa
