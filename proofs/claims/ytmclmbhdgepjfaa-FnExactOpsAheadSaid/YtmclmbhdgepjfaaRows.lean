/-
  No cell of these rows narrows 'for every input' (looked for: loops, veiled, ifaces, maps, wideKeys, modest, calm, conditions, laid).
  DERIVED. THE GIVEN ROWS OF THIS SEAT. 12 by the template 'for every input the law returns true; each argument reads behind the call as it read before'; 0 by the template 'total and deterministic' (their statements: YtmclmbhdgepjfaaTotals.lean).
  GIVEN WITH THE SEED: the statements are not yours to turn. If you find one false, say at which input.
  Laid BY PROGRAM, IN A SANDBOX (cutbox-rows.mjs): the forced cells as the released guide's own fill.sh prints them over the translation b25b1c2b9e643687… (all of the seat's roots in one cut). By AI agents, Wed Nov 11 2026. No macro, syntax, notation, axiom, sorry.
-/
import Derived.Test.YtmclmbhdgepjfaaChecked
import GoSem.Claim
import GoSem.ClaimJoined
import GoSem.ClaimMapViews
import Derived.JoinedTies
import Derived.KernelRfl
namespace Go.Proofs.Ytmclmbhdgepjfaa
/- THE CELL 'sum', in the pinned program and in every row, IS THE sha256 OF THE DUMP (.gsa) THAT YtmclmbhdgepjfaaProg.lean LOADS. Nothing in Lean hashes anything: it is a label: what it is worth is what the hold of that sum in a sandbox is worth. -/
noncomputable def Try.pinned : Pinned := { name := "ytmclmbhdgepjfaa", sum := "b25b1c2b9e643687c2f333a14ed6e6c6dbd1508cc76693dc875a0ead7404e2e6", checked := Try.checked }
namespace Rows
def none {H : Type} : Left H := { results := [], args := [] }

/-- 'laws.FnExactTrustOK': WHATEVER THE INPUT: true; the input reads as it did. -/
def fnExactTrustOKSpec : ChangeSpec := { name := "fnExactTrustOK", fn := fun _ => fun
  | [d] => { results := [.lit (.bool true)], args := [d] }
  | _ => none }
def fnExactTrustOKRow : OpenClaim := { program := "ytmclmbhdgepjfaa", sum := "b25b1c2b9e643687c2f333a14ed6e6c6dbd1508cc76693dc875a0ead7404e2e6", func := "loop.example/g00220/laws.FnExactTrustOK", spec := "fnExactTrustOK", unfollowed := true, recurses := true, apart := false }
def FnExactTrustOKSaid : Prop := fnExactTrustOKRow.holds Try.pinned (OpenSpec.ofChange fnExactTrustOKSpec)

/-- ITS FALSE NEIGHBOUR: 'it returns false'. Refute it at one input. -/
def fnExactTrustOKWrong : ChangeSpec := { name := "fnExactTrustOK", fn := fun _ => fun
  | [d] => { results := [.lit (.bool false)], args := [d] }
  | _ => none }
def FnExactTrustOKWrongFalsely : Prop := fnExactTrustOKRow.holds Try.pinned (OpenSpec.ofChange fnExactTrustOKWrong)

/-- 'laws.FnExactOpsOK': WHATEVER THE INPUT: true; the input reads as it did. -/
def fnExactOpsOKSpec : ChangeSpec := { name := "fnExactOpsOK", fn := fun _ => fun
  | [d] => { results := [.lit (.bool true)], args := [d] }
  | _ => none }
def fnExactOpsOKRow : OpenClaim := { program := "ytmclmbhdgepjfaa", sum := "b25b1c2b9e643687c2f333a14ed6e6c6dbd1508cc76693dc875a0ead7404e2e6", func := "loop.example/g00220/laws.FnExactOpsOK", spec := "fnExactOpsOK", unfollowed := true, recurses := true, apart := false }
def FnExactOpsOKSaid : Prop := fnExactOpsOKRow.holds Try.pinned (OpenSpec.ofChange fnExactOpsOKSpec)

/-- ITS FALSE NEIGHBOUR: 'it returns false'. Refute it at one input. -/
def fnExactOpsOKWrong : ChangeSpec := { name := "fnExactOpsOK", fn := fun _ => fun
  | [d] => { results := [.lit (.bool false)], args := [d] }
  | _ => none }
def FnExactOpsOKWrongFalsely : Prop := fnExactOpsOKRow.holds Try.pinned (OpenSpec.ofChange fnExactOpsOKWrong)

/-- 'laws.FnExactNewIssuer': WHATEVER THE INPUT: true; the input reads as it did. -/
def fnExactNewIssuerSpec : ChangeSpec := { name := "fnExactNewIssuer", fn := fun _ => fun
  | [d] => { results := [.lit (.bool true)], args := [d] }
  | _ => none }
def fnExactNewIssuerRow : OpenClaim := { program := "ytmclmbhdgepjfaa", sum := "b25b1c2b9e643687c2f333a14ed6e6c6dbd1508cc76693dc875a0ead7404e2e6", func := "loop.example/g00220/laws.FnExactNewIssuer", spec := "fnExactNewIssuer", unfollowed := true, recurses := true, apart := false }
def FnExactNewIssuerSaid : Prop := fnExactNewIssuerRow.holds Try.pinned (OpenSpec.ofChange fnExactNewIssuerSpec)

/-- ITS FALSE NEIGHBOUR: 'it returns false'. Refute it at one input. -/
def fnExactNewIssuerWrong : ChangeSpec := { name := "fnExactNewIssuer", fn := fun _ => fun
  | [d] => { results := [.lit (.bool false)], args := [d] }
  | _ => none }
def FnExactNewIssuerWrongFalsely : Prop := fnExactNewIssuerRow.holds Try.pinned (OpenSpec.ofChange fnExactNewIssuerWrong)

/-- 'laws.FnExactReadCommand': WHATEVER THE INPUT: true; the input reads as it did. -/
def fnExactReadCommandSpec : ChangeSpec := { name := "fnExactReadCommand", fn := fun _ => fun
  | [d] => { results := [.lit (.bool true)], args := [d] }
  | _ => none }
def fnExactReadCommandRow : OpenClaim := { program := "ytmclmbhdgepjfaa", sum := "b25b1c2b9e643687c2f333a14ed6e6c6dbd1508cc76693dc875a0ead7404e2e6", func := "loop.example/g00220/laws.FnExactReadCommand", spec := "fnExactReadCommand", apart := false }
def FnExactReadCommandSaid : Prop := fnExactReadCommandRow.holds Try.pinned (OpenSpec.ofChange fnExactReadCommandSpec)

/-- ITS FALSE NEIGHBOUR: 'it returns false'. Refute it at one input. -/
def fnExactReadCommandWrong : ChangeSpec := { name := "fnExactReadCommand", fn := fun _ => fun
  | [d] => { results := [.lit (.bool false)], args := [d] }
  | _ => none }
def FnExactReadCommandWrongFalsely : Prop := fnExactReadCommandRow.holds Try.pinned (OpenSpec.ofChange fnExactReadCommandWrong)

/-- 'laws.FnExactIssuerOK': WHATEVER THE INPUT: true; the input reads as it did. -/
def fnExactIssuerOKSpec : ChangeSpec := { name := "fnExactIssuerOK", fn := fun _ => fun
  | [d] => { results := [.lit (.bool true)], args := [d] }
  | _ => none }
def fnExactIssuerOKRow : OpenClaim := { program := "ytmclmbhdgepjfaa", sum := "b25b1c2b9e643687c2f333a14ed6e6c6dbd1508cc76693dc875a0ead7404e2e6", func := "loop.example/g00220/laws.FnExactIssuerOK", spec := "fnExactIssuerOK", unfollowed := true, recurses := true, apart := false }
def FnExactIssuerOKSaid : Prop := fnExactIssuerOKRow.holds Try.pinned (OpenSpec.ofChange fnExactIssuerOKSpec)

/-- ITS FALSE NEIGHBOUR: 'it returns false'. Refute it at one input. -/
def fnExactIssuerOKWrong : ChangeSpec := { name := "fnExactIssuerOK", fn := fun _ => fun
  | [d] => { results := [.lit (.bool false)], args := [d] }
  | _ => none }
def FnExactIssuerOKWrongFalsely : Prop := fnExactIssuerOKRow.holds Try.pinned (OpenSpec.ofChange fnExactIssuerOKWrong)

/-- 'laws.FnExactReadEntry': WHATEVER THE INPUT: true; the input reads as it did. -/
def fnExactReadEntrySpec : ChangeSpec := { name := "fnExactReadEntry", fn := fun _ => fun
  | [d] => { results := [.lit (.bool true)], args := [d] }
  | _ => none }
def fnExactReadEntryRow : OpenClaim := { program := "ytmclmbhdgepjfaa", sum := "b25b1c2b9e643687c2f333a14ed6e6c6dbd1508cc76693dc875a0ead7404e2e6", func := "loop.example/g00220/laws.FnExactReadEntry", spec := "fnExactReadEntry", unfollowed := true, recurses := true, apart := false }
def FnExactReadEntrySaid : Prop := fnExactReadEntryRow.holds Try.pinned (OpenSpec.ofChange fnExactReadEntrySpec)

/-- ITS FALSE NEIGHBOUR: 'it returns false'. Refute it at one input. -/
def fnExactReadEntryWrong : ChangeSpec := { name := "fnExactReadEntry", fn := fun _ => fun
  | [d] => { results := [.lit (.bool false)], args := [d] }
  | _ => none }
def FnExactReadEntryWrongFalsely : Prop := fnExactReadEntryRow.holds Try.pinned (OpenSpec.ofChange fnExactReadEntryWrong)

/-- 'laws.FnExactProjected': WHATEVER THE INPUT: true; the input reads as it did. -/
def fnExactProjectedSpec : ChangeSpec := { name := "fnExactProjected", fn := fun _ => fun
  | [d1, d2, d3] => { results := [.lit (.bool true)], args := [d1, d2, d3] }
  | _ => none }
def fnExactProjectedRow : OpenClaim := { program := "ytmclmbhdgepjfaa", sum := "b25b1c2b9e643687c2f333a14ed6e6c6dbd1508cc76693dc875a0ead7404e2e6", func := "loop.example/g00220/laws.FnExactProjected", spec := "fnExactProjected", unfollowed := true, recurses := true, apart := false }
def FnExactProjectedSaid : Prop := fnExactProjectedRow.holds Try.pinned (OpenSpec.ofChange fnExactProjectedSpec)

/-- ITS FALSE NEIGHBOUR: 'it returns false'. Refute it at one input. -/
def fnExactProjectedWrong : ChangeSpec := { name := "fnExactProjected", fn := fun _ => fun
  | [d1, d2, d3] => { results := [.lit (.bool false)], args := [d1, d2, d3] }
  | _ => none }
def FnExactProjectedWrongFalsely : Prop := fnExactProjectedRow.holds Try.pinned (OpenSpec.ofChange fnExactProjectedWrong)

/-- 'laws.FnExactOpsAhead': WHATEVER THE INPUT: true; the input reads as it did. -/
def fnExactOpsAheadSpec : ChangeSpec := { name := "fnExactOpsAhead", fn := fun _ => fun
  | [d] => { results := [.lit (.bool true)], args := [d] }
  | _ => none }
def fnExactOpsAheadRow : OpenClaim := { program := "ytmclmbhdgepjfaa", sum := "b25b1c2b9e643687c2f333a14ed6e6c6dbd1508cc76693dc875a0ead7404e2e6", func := "loop.example/g00220/laws.FnExactOpsAhead", spec := "fnExactOpsAhead", unfollowed := true, recurses := true, apart := false }
def FnExactOpsAheadSaid : Prop := fnExactOpsAheadRow.holds Try.pinned (OpenSpec.ofChange fnExactOpsAheadSpec)

/-- ITS FALSE NEIGHBOUR: 'it returns false'. Refute it at one input. -/
def fnExactOpsAheadWrong : ChangeSpec := { name := "fnExactOpsAhead", fn := fun _ => fun
  | [d] => { results := [.lit (.bool false)], args := [d] }
  | _ => none }
def FnExactOpsAheadWrongFalsely : Prop := fnExactOpsAheadRow.holds Try.pinned (OpenSpec.ofChange fnExactOpsAheadWrong)

/-- 'laws.FnExactOrderLegal': WHATEVER THE INPUT: true; the input reads as it did. -/
def fnExactOrderLegalSpec : ChangeSpec := { name := "fnExactOrderLegal", fn := fun _ => fun
  | [d1, d2] => { results := [.lit (.bool true)], args := [d1, d2] }
  | _ => none }
def fnExactOrderLegalRow : OpenClaim := { program := "ytmclmbhdgepjfaa", sum := "b25b1c2b9e643687c2f333a14ed6e6c6dbd1508cc76693dc875a0ead7404e2e6", func := "loop.example/g00220/laws.FnExactOrderLegal", spec := "fnExactOrderLegal", unfollowed := true, recurses := true, apart := false }
def FnExactOrderLegalSaid : Prop := fnExactOrderLegalRow.holds Try.pinned (OpenSpec.ofChange fnExactOrderLegalSpec)

/-- ITS FALSE NEIGHBOUR: 'it returns false'. Refute it at one input. -/
def fnExactOrderLegalWrong : ChangeSpec := { name := "fnExactOrderLegal", fn := fun _ => fun
  | [d1, d2] => { results := [.lit (.bool false)], args := [d1, d2] }
  | _ => none }
def FnExactOrderLegalWrongFalsely : Prop := fnExactOrderLegalRow.holds Try.pinned (OpenSpec.ofChange fnExactOrderLegalWrong)

/-- 'laws.FnWeaker': WHATEVER THE INPUT: true; the input reads as it did. -/
def fnWeakerSpec : ChangeSpec := { name := "fnWeaker", fn := fun _ => fun
  | [d1, d2] => { results := [.lit (.bool true)], args := [d1, d2] }
  | _ => none }
def fnWeakerRow : OpenClaim := { program := "ytmclmbhdgepjfaa", sum := "b25b1c2b9e643687c2f333a14ed6e6c6dbd1508cc76693dc875a0ead7404e2e6", func := "loop.example/g00220/laws.FnWeaker", spec := "fnWeaker", unfollowed := true, recurses := true, apart := false }
def FnWeakerSaid : Prop := fnWeakerRow.holds Try.pinned (OpenSpec.ofChange fnWeakerSpec)

/-- ITS FALSE NEIGHBOUR: 'it returns false'. Refute it at one input. -/
def fnWeakerWrong : ChangeSpec := { name := "fnWeaker", fn := fun _ => fun
  | [d1, d2] => { results := [.lit (.bool false)], args := [d1, d2] }
  | _ => none }
def FnWeakerWrongFalsely : Prop := fnWeakerRow.holds Try.pinned (OpenSpec.ofChange fnWeakerWrong)

/-- 'laws.FnOrders': WHATEVER THE INPUT: true; the input reads as it did. -/
def fnOrdersSpec : ChangeSpec := { name := "fnOrders", fn := fun _ => fun
  | [d] => { results := [.lit (.bool true)], args := [d] }
  | _ => none }
def fnOrdersRow : OpenClaim := { program := "ytmclmbhdgepjfaa", sum := "b25b1c2b9e643687c2f333a14ed6e6c6dbd1508cc76693dc875a0ead7404e2e6", func := "loop.example/g00220/laws.FnOrders", spec := "fnOrders", unfollowed := true, recurses := true, apart := false }
def FnOrdersSaid : Prop := fnOrdersRow.holds Try.pinned (OpenSpec.ofChange fnOrdersSpec)

/-- ITS FALSE NEIGHBOUR: 'it returns false'. Refute it at one input. -/
def fnOrdersWrong : ChangeSpec := { name := "fnOrders", fn := fun _ => fun
  | [d] => { results := [.lit (.bool false)], args := [d] }
  | _ => none }
def FnOrdersWrongFalsely : Prop := fnOrdersRow.holds Try.pinned (OpenSpec.ofChange fnOrdersWrong)

/-- 'laws.FnExactLinearOrder': WHATEVER THE INPUT: true; the input reads as it did. -/
def fnExactLinearOrderSpec : ChangeSpec := { name := "fnExactLinearOrder", fn := fun _ => fun
  | [d] => { results := [.lit (.bool true)], args := [d] }
  | _ => none }
def fnExactLinearOrderRow : OpenClaim := { program := "ytmclmbhdgepjfaa", sum := "b25b1c2b9e643687c2f333a14ed6e6c6dbd1508cc76693dc875a0ead7404e2e6", func := "loop.example/g00220/laws.FnExactLinearOrder", spec := "fnExactLinearOrder", unfollowed := true, recurses := true, apart := false }
def FnExactLinearOrderSaid : Prop := fnExactLinearOrderRow.holds Try.pinned (OpenSpec.ofChange fnExactLinearOrderSpec)

/-- ITS FALSE NEIGHBOUR: 'it returns false'. Refute it at one input. -/
def fnExactLinearOrderWrong : ChangeSpec := { name := "fnExactLinearOrder", fn := fun _ => fun
  | [d] => { results := [.lit (.bool false)], args := [d] }
  | _ => none }
def FnExactLinearOrderWrongFalsely : Prop := fnExactLinearOrderRow.holds Try.pinned (OpenSpec.ofChange fnExactLinearOrderWrong)

/- THE SECOND FORM. 'bulk': how many values and letters a reading holds, each counted each time it is reached (what is shared counts as often as it is met; a slice's spare places count too). A statement '..UptoSaid' is the law's where the arguments, and the package variables that the reading takes, are together of bulk at most 1048576: NARROWER than '..Said'. Prove '..Said' where nothing that the law and all that it calls make is longer than what came in: it says more and counts as full. Else prove '..UptoSaid'. A law counts once. -/
mutual
def uptoBulk {H : Type} : DataW H → Nat
  | .lit (.string bytes) => bytes.length + 1
  | .lit _ => 1
  | .nil => 1
  | .ptr d => uptoBulk d + 1
  | .slice elems spare => uptoBulkAll elems + uptoBulkAll spare + 1
  | .agg parts => uptoBulkAll parts + 1
  | .iface _ d => uptoBulk d + 1
  | .map entries => uptoBulkEntries entries + 1
  | .held _ => 1
def uptoBulkAll {H : Type} : List (DataW H) → Nat
  | [] => 0
  | d :: r => uptoBulk d + uptoBulkAll r
def uptoBulkEntries {H : Type} : List (Lit × DataW H) → Nat
  | [] => 0
  | x :: r => uptoBulkEntry x + uptoBulkEntries r
def uptoBulkEntry {H : Type} : Lit × DataW H → Nat
  | (.string bytes, d) => bytes.length + uptoBulk d + 1
  | (_, d) => uptoBulk d + 1
 end
def uptoSmall : (H : Type) → List (DataW H) → Bool := fun _ ds => decide (uptoBulkAll ds ≤ 1048576)
def OpenSpec.upto (s : _root_.Go.ChangeSpec) : _root_.Go.OpenSpec := { _root_.Go.OpenSpec.ofChange s with cond := some uptoSmall }

/-- 'laws.FnExactTrustOK', WHERE WHAT IT READS IS OF BULK AT MOST 1048576: true; the input reads as it did. -/
def fnExactTrustOKUptoRow : OpenClaim := { program := "ytmclmbhdgepjfaa", sum := "b25b1c2b9e643687c2f333a14ed6e6c6dbd1508cc76693dc875a0ead7404e2e6", func := "loop.example/g00220/laws.FnExactTrustOK", spec := "fnExactTrustOK", unfollowed := true, recurses := true, apart := false, narrowed := true }
def FnExactTrustOKUptoSaid : Prop := fnExactTrustOKUptoRow.holds Try.pinned (OpenSpec.upto fnExactTrustOKSpec)

/-- 'laws.FnExactOpsOK', WHERE WHAT IT READS IS OF BULK AT MOST 1048576: true; the input reads as it did. -/
def fnExactOpsOKUptoRow : OpenClaim := { program := "ytmclmbhdgepjfaa", sum := "b25b1c2b9e643687c2f333a14ed6e6c6dbd1508cc76693dc875a0ead7404e2e6", func := "loop.example/g00220/laws.FnExactOpsOK", spec := "fnExactOpsOK", unfollowed := true, recurses := true, apart := false, narrowed := true }
def FnExactOpsOKUptoSaid : Prop := fnExactOpsOKUptoRow.holds Try.pinned (OpenSpec.upto fnExactOpsOKSpec)

/-- 'laws.FnExactNewIssuer', WHERE WHAT IT READS IS OF BULK AT MOST 1048576: true; the input reads as it did. -/
def fnExactNewIssuerUptoRow : OpenClaim := { program := "ytmclmbhdgepjfaa", sum := "b25b1c2b9e643687c2f333a14ed6e6c6dbd1508cc76693dc875a0ead7404e2e6", func := "loop.example/g00220/laws.FnExactNewIssuer", spec := "fnExactNewIssuer", unfollowed := true, recurses := true, apart := false, narrowed := true }
def FnExactNewIssuerUptoSaid : Prop := fnExactNewIssuerUptoRow.holds Try.pinned (OpenSpec.upto fnExactNewIssuerSpec)

/-- 'laws.FnExactReadCommand', WHERE WHAT IT READS IS OF BULK AT MOST 1048576: true; the input reads as it did. -/
def fnExactReadCommandUptoRow : OpenClaim := { program := "ytmclmbhdgepjfaa", sum := "b25b1c2b9e643687c2f333a14ed6e6c6dbd1508cc76693dc875a0ead7404e2e6", func := "loop.example/g00220/laws.FnExactReadCommand", spec := "fnExactReadCommand", apart := false, narrowed := true }
def FnExactReadCommandUptoSaid : Prop := fnExactReadCommandUptoRow.holds Try.pinned (OpenSpec.upto fnExactReadCommandSpec)

/-- 'laws.FnExactIssuerOK', WHERE WHAT IT READS IS OF BULK AT MOST 1048576: true; the input reads as it did. -/
def fnExactIssuerOKUptoRow : OpenClaim := { program := "ytmclmbhdgepjfaa", sum := "b25b1c2b9e643687c2f333a14ed6e6c6dbd1508cc76693dc875a0ead7404e2e6", func := "loop.example/g00220/laws.FnExactIssuerOK", spec := "fnExactIssuerOK", unfollowed := true, recurses := true, apart := false, narrowed := true }
def FnExactIssuerOKUptoSaid : Prop := fnExactIssuerOKUptoRow.holds Try.pinned (OpenSpec.upto fnExactIssuerOKSpec)

/-- 'laws.FnExactReadEntry', WHERE WHAT IT READS IS OF BULK AT MOST 1048576: true; the input reads as it did. -/
def fnExactReadEntryUptoRow : OpenClaim := { program := "ytmclmbhdgepjfaa", sum := "b25b1c2b9e643687c2f333a14ed6e6c6dbd1508cc76693dc875a0ead7404e2e6", func := "loop.example/g00220/laws.FnExactReadEntry", spec := "fnExactReadEntry", unfollowed := true, recurses := true, apart := false, narrowed := true }
def FnExactReadEntryUptoSaid : Prop := fnExactReadEntryUptoRow.holds Try.pinned (OpenSpec.upto fnExactReadEntrySpec)

/-- 'laws.FnExactProjected', WHERE WHAT IT READS IS OF BULK AT MOST 1048576: true; the input reads as it did. -/
def fnExactProjectedUptoRow : OpenClaim := { program := "ytmclmbhdgepjfaa", sum := "b25b1c2b9e643687c2f333a14ed6e6c6dbd1508cc76693dc875a0ead7404e2e6", func := "loop.example/g00220/laws.FnExactProjected", spec := "fnExactProjected", unfollowed := true, recurses := true, apart := false, narrowed := true }
def FnExactProjectedUptoSaid : Prop := fnExactProjectedUptoRow.holds Try.pinned (OpenSpec.upto fnExactProjectedSpec)

/-- 'laws.FnExactOpsAhead', WHERE WHAT IT READS IS OF BULK AT MOST 1048576: true; the input reads as it did. -/
def fnExactOpsAheadUptoRow : OpenClaim := { program := "ytmclmbhdgepjfaa", sum := "b25b1c2b9e643687c2f333a14ed6e6c6dbd1508cc76693dc875a0ead7404e2e6", func := "loop.example/g00220/laws.FnExactOpsAhead", spec := "fnExactOpsAhead", unfollowed := true, recurses := true, apart := false, narrowed := true }
def FnExactOpsAheadUptoSaid : Prop := fnExactOpsAheadUptoRow.holds Try.pinned (OpenSpec.upto fnExactOpsAheadSpec)

/-- 'laws.FnExactOrderLegal', WHERE WHAT IT READS IS OF BULK AT MOST 1048576: true; the input reads as it did. -/
def fnExactOrderLegalUptoRow : OpenClaim := { program := "ytmclmbhdgepjfaa", sum := "b25b1c2b9e643687c2f333a14ed6e6c6dbd1508cc76693dc875a0ead7404e2e6", func := "loop.example/g00220/laws.FnExactOrderLegal", spec := "fnExactOrderLegal", unfollowed := true, recurses := true, apart := false, narrowed := true }
def FnExactOrderLegalUptoSaid : Prop := fnExactOrderLegalUptoRow.holds Try.pinned (OpenSpec.upto fnExactOrderLegalSpec)

/-- 'laws.FnWeaker', WHERE WHAT IT READS IS OF BULK AT MOST 1048576: true; the input reads as it did. -/
def fnWeakerUptoRow : OpenClaim := { program := "ytmclmbhdgepjfaa", sum := "b25b1c2b9e643687c2f333a14ed6e6c6dbd1508cc76693dc875a0ead7404e2e6", func := "loop.example/g00220/laws.FnWeaker", spec := "fnWeaker", unfollowed := true, recurses := true, apart := false, narrowed := true }
def FnWeakerUptoSaid : Prop := fnWeakerUptoRow.holds Try.pinned (OpenSpec.upto fnWeakerSpec)

/-- 'laws.FnOrders', WHERE WHAT IT READS IS OF BULK AT MOST 1048576: true; the input reads as it did. -/
def fnOrdersUptoRow : OpenClaim := { program := "ytmclmbhdgepjfaa", sum := "b25b1c2b9e643687c2f333a14ed6e6c6dbd1508cc76693dc875a0ead7404e2e6", func := "loop.example/g00220/laws.FnOrders", spec := "fnOrders", unfollowed := true, recurses := true, apart := false, narrowed := true }
def FnOrdersUptoSaid : Prop := fnOrdersUptoRow.holds Try.pinned (OpenSpec.upto fnOrdersSpec)

/-- 'laws.FnExactLinearOrder', WHERE WHAT IT READS IS OF BULK AT MOST 1048576: true; the input reads as it did. -/
def fnExactLinearOrderUptoRow : OpenClaim := { program := "ytmclmbhdgepjfaa", sum := "b25b1c2b9e643687c2f333a14ed6e6c6dbd1508cc76693dc875a0ead7404e2e6", func := "loop.example/g00220/laws.FnExactLinearOrder", spec := "fnExactLinearOrder", unfollowed := true, recurses := true, apart := false, narrowed := true }
def FnExactLinearOrderUptoSaid : Prop := fnExactLinearOrderUptoRow.holds Try.pinned (OpenSpec.upto fnExactLinearOrderSpec)

end Rows
end Go.Proofs.Ytmclmbhdgepjfaa
