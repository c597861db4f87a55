/-
  No cell of these rows narrows 'for every input' (looked for: loops, veiled, ifaces, maps, wideKeys, modest, calm, conditions, laid).
  DERIVED. THE GIVEN ROWS OF THIS SEAT. 17 by the template 'for every input the law returns true; each argument reads behind the call as it read before'; 0 by the template 'total and deterministic' (their statements: YtdjbjldmlfhigaaTotals.lean).
  GIVEN WITH THE SEED: the statements are not yours to turn. If you find one false, say at which input.
  Laid BY PROGRAM, IN A SANDBOX (cutbox-rows.mjs): the forced cells as the released guide's own fill.sh prints them over the translation ecb9b911be6c45fd… (all of the seat's roots in one cut). By AI agents, Wed Nov 11 2026. No macro, syntax, notation, axiom, sorry.
-/
import Derived.Test.YtdjbjldmlfhigaaChecked
import GoSem.Claim
import GoSem.ClaimJoined
import GoSem.ClaimMapViews
import Derived.JoinedTies
import Derived.KernelRfl
namespace Go.Proofs.Ytdjbjldmlfhigaa
/- THE CELL 'sum', in the pinned program and in every row, IS THE sha256 OF THE DUMP (.gsa) THAT YtdjbjldmlfhigaaProg.lean LOADS. Nothing in Lean hashes anything: it is a label: what it is worth is what the hold of that sum in a sandbox is worth. -/
noncomputable def Try.pinned : Pinned := { name := "ytdjbjldmlfhigaa", sum := "ecb9b911be6c45fd1f9f446c1d44f45f8455b8fc28c2e57d876ba94766d706e8", checked := Try.checked }
namespace Rows
def none {H : Type} : Left H := { results := [], args := [] }

/-- 'laws.FnExactIsBusy': WHATEVER THE INPUT: true; the input reads as it did. -/
def fnExactIsBusySpec : ChangeSpec := { name := "fnExactIsBusy", fn := fun _ => fun
  | [d] => { results := [.lit (.bool true)], args := [d] }
  | _ => none }
def fnExactIsBusyRow : OpenClaim := { program := "ytdjbjldmlfhigaa", sum := "ecb9b911be6c45fd1f9f446c1d44f45f8455b8fc28c2e57d876ba94766d706e8", func := "loop.example/portmapper/laws.FnExactIsBusy", spec := "fnExactIsBusy", apart := false }
def FnExactIsBusySaid : Prop := fnExactIsBusyRow.holds Try.pinned (OpenSpec.ofChange fnExactIsBusySpec)

/-- ITS FALSE NEIGHBOUR: 'it returns false'. Refute it at one input. -/
def fnExactIsBusyWrong : ChangeSpec := { name := "fnExactIsBusy", fn := fun _ => fun
  | [d] => { results := [.lit (.bool false)], args := [d] }
  | _ => none }
def FnExactIsBusyWrongFalsely : Prop := fnExactIsBusyRow.holds Try.pinned (OpenSpec.ofChange fnExactIsBusyWrong)

/-- 'laws.FnExactHoldFor': WHATEVER THE INPUT: true; the input reads as it did. -/
def fnExactHoldForSpec : ChangeSpec := { name := "fnExactHoldFor", fn := fun _ => fun
  | [d1, d2] => { results := [.lit (.bool true)], args := [d1, d2] }
  | _ => none }
def fnExactHoldForRow : OpenClaim := { program := "ytdjbjldmlfhigaa", sum := "ecb9b911be6c45fd1f9f446c1d44f45f8455b8fc28c2e57d876ba94766d706e8", func := "loop.example/portmapper/laws.FnExactHoldFor", spec := "fnExactHoldFor", apart := false }
def FnExactHoldForSaid : Prop := fnExactHoldForRow.holds Try.pinned (OpenSpec.ofChange fnExactHoldForSpec)

/-- ITS FALSE NEIGHBOUR: 'it returns false'. Refute it at one input. -/
def fnExactHoldForWrong : ChangeSpec := { name := "fnExactHoldFor", fn := fun _ => fun
  | [d1, d2] => { results := [.lit (.bool false)], args := [d1, d2] }
  | _ => none }
def FnExactHoldForWrongFalsely : Prop := fnExactHoldForRow.holds Try.pinned (OpenSpec.ofChange fnExactHoldForWrong)

/-- 'laws.FnIsBusy': WHATEVER THE INPUT: true; the input reads as it did. -/
def fnIsBusySpec : ChangeSpec := { name := "fnIsBusy", fn := fun _ => fun
  | [d] => { results := [.lit (.bool true)], args := [d] }
  | _ => none }
def fnIsBusyRow : OpenClaim := { program := "ytdjbjldmlfhigaa", sum := "ecb9b911be6c45fd1f9f446c1d44f45f8455b8fc28c2e57d876ba94766d706e8", func := "loop.example/portmapper/laws.FnIsBusy", spec := "fnIsBusy", apart := false }
def FnIsBusySaid : Prop := fnIsBusyRow.holds Try.pinned (OpenSpec.ofChange fnIsBusySpec)

/-- ITS FALSE NEIGHBOUR: 'it returns false'. Refute it at one input. -/
def fnIsBusyWrong : ChangeSpec := { name := "fnIsBusy", fn := fun _ => fun
  | [d] => { results := [.lit (.bool false)], args := [d] }
  | _ => none }
def FnIsBusyWrongFalsely : Prop := fnIsBusyRow.holds Try.pinned (OpenSpec.ofChange fnIsBusyWrong)

/-- 'laws.FnExactValidPlan': WHATEVER THE INPUT: true; the input reads as it did. -/
def fnExactValidPlanSpec : ChangeSpec := { name := "fnExactValidPlan", fn := fun _ => fun
  | [d] => { results := [.lit (.bool true)], args := [d] }
  | _ => none }
def fnExactValidPlanRow : OpenClaim := { program := "ytdjbjldmlfhigaa", sum := "ecb9b911be6c45fd1f9f446c1d44f45f8455b8fc28c2e57d876ba94766d706e8", func := "loop.example/portmapper/laws.FnExactValidPlan", spec := "fnExactValidPlan", apart := false }
def FnExactValidPlanSaid : Prop := fnExactValidPlanRow.holds Try.pinned (OpenSpec.ofChange fnExactValidPlanSpec)

/-- ITS FALSE NEIGHBOUR: 'it returns false'. Refute it at one input. -/
def fnExactValidPlanWrong : ChangeSpec := { name := "fnExactValidPlan", fn := fun _ => fun
  | [d] => { results := [.lit (.bool false)], args := [d] }
  | _ => none }
def FnExactValidPlanWrongFalsely : Prop := fnExactValidPlanRow.holds Try.pinned (OpenSpec.ofChange fnExactValidPlanWrong)

/-- 'laws.FnIsBusyHold': WHATEVER THE INPUT: true; the input reads as it did. -/
def fnIsBusyHoldSpec : ChangeSpec := { name := "fnIsBusyHold", fn := fun _ => fun
  | [d] => { results := [.lit (.bool true)], args := [d] }
  | _ => none }
def fnIsBusyHoldRow : OpenClaim := { program := "ytdjbjldmlfhigaa", sum := "ecb9b911be6c45fd1f9f446c1d44f45f8455b8fc28c2e57d876ba94766d706e8", func := "loop.example/portmapper/laws.FnIsBusyHold", spec := "fnIsBusyHold", apart := false }
def FnIsBusyHoldSaid : Prop := fnIsBusyHoldRow.holds Try.pinned (OpenSpec.ofChange fnIsBusyHoldSpec)

/-- ITS FALSE NEIGHBOUR: 'it returns false'. Refute it at one input. -/
def fnIsBusyHoldWrong : ChangeSpec := { name := "fnIsBusyHold", fn := fun _ => fun
  | [d] => { results := [.lit (.bool false)], args := [d] }
  | _ => none }
def FnIsBusyHoldWrongFalsely : Prop := fnIsBusyHoldRow.holds Try.pinned (OpenSpec.ofChange fnIsBusyHoldWrong)

/-- 'laws.FnExactOwnerOf': WHATEVER THE INPUT: true; the input reads as it did. -/
def fnExactOwnerOfSpec : ChangeSpec := { name := "fnExactOwnerOf", fn := fun _ => fun
  | [d1, d2] => { results := [.lit (.bool true)], args := [d1, d2] }
  | _ => none }
def fnExactOwnerOfRow : OpenClaim := { program := "ytdjbjldmlfhigaa", sum := "ecb9b911be6c45fd1f9f446c1d44f45f8455b8fc28c2e57d876ba94766d706e8", func := "loop.example/portmapper/laws.FnExactOwnerOf", spec := "fnExactOwnerOf", apart := false }
def FnExactOwnerOfSaid : Prop := fnExactOwnerOfRow.holds Try.pinned (OpenSpec.ofChange fnExactOwnerOfSpec)

/-- ITS FALSE NEIGHBOUR: 'it returns false'. Refute it at one input. -/
def fnExactOwnerOfWrong : ChangeSpec := { name := "fnExactOwnerOf", fn := fun _ => fun
  | [d1, d2] => { results := [.lit (.bool false)], args := [d1, d2] }
  | _ => none }
def FnExactOwnerOfWrongFalsely : Prop := fnExactOwnerOfRow.holds Try.pinned (OpenSpec.ofChange fnExactOwnerOfWrong)

/-- 'laws.FnHoldFor': WHATEVER THE INPUT: true; the input reads as it did. -/
def fnHoldForSpec : ChangeSpec := { name := "fnHoldFor", fn := fun _ => fun
  | [d] => { results := [.lit (.bool true)], args := [d] }
  | _ => none }
def fnHoldForRow : OpenClaim := { program := "ytdjbjldmlfhigaa", sum := "ecb9b911be6c45fd1f9f446c1d44f45f8455b8fc28c2e57d876ba94766d706e8", func := "loop.example/portmapper/laws.FnHoldFor", spec := "fnHoldFor", apart := false }
def FnHoldForSaid : Prop := fnHoldForRow.holds Try.pinned (OpenSpec.ofChange fnHoldForSpec)

/-- ITS FALSE NEIGHBOUR: 'it returns false'. Refute it at one input. -/
def fnHoldForWrong : ChangeSpec := { name := "fnHoldFor", fn := fun _ => fun
  | [d] => { results := [.lit (.bool false)], args := [d] }
  | _ => none }
def FnHoldForWrongFalsely : Prop := fnHoldForRow.holds Try.pinned (OpenSpec.ofChange fnHoldForWrong)

/-- 'laws.FnHoldForMore': WHATEVER THE INPUT: true; the input reads as it did. -/
def fnHoldForMoreSpec : ChangeSpec := { name := "fnHoldForMore", fn := fun _ => fun
  | [d] => { results := [.lit (.bool true)], args := [d] }
  | _ => none }
def fnHoldForMoreRow : OpenClaim := { program := "ytdjbjldmlfhigaa", sum := "ecb9b911be6c45fd1f9f446c1d44f45f8455b8fc28c2e57d876ba94766d706e8", func := "loop.example/portmapper/laws.FnHoldForMore", spec := "fnHoldForMore", apart := false }
def FnHoldForMoreSaid : Prop := fnHoldForMoreRow.holds Try.pinned (OpenSpec.ofChange fnHoldForMoreSpec)

/-- ITS FALSE NEIGHBOUR: 'it returns false'. Refute it at one input. -/
def fnHoldForMoreWrong : ChangeSpec := { name := "fnHoldForMore", fn := fun _ => fun
  | [d] => { results := [.lit (.bool false)], args := [d] }
  | _ => none }
def FnHoldForMoreWrongFalsely : Prop := fnHoldForMoreRow.holds Try.pinned (OpenSpec.ofChange fnHoldForMoreWrong)

/-- 'laws.FnHoldForBusy': WHATEVER THE INPUT: true; the input reads as it did. -/
def fnHoldForBusySpec : ChangeSpec := { name := "fnHoldForBusy", fn := fun _ => fun
  | [d] => { results := [.lit (.bool true)], args := [d] }
  | _ => none }
def fnHoldForBusyRow : OpenClaim := { program := "ytdjbjldmlfhigaa", sum := "ecb9b911be6c45fd1f9f446c1d44f45f8455b8fc28c2e57d876ba94766d706e8", func := "loop.example/portmapper/laws.FnHoldForBusy", spec := "fnHoldForBusy", apart := false }
def FnHoldForBusySaid : Prop := fnHoldForBusyRow.holds Try.pinned (OpenSpec.ofChange fnHoldForBusySpec)

/-- ITS FALSE NEIGHBOUR: 'it returns false'. Refute it at one input. -/
def fnHoldForBusyWrong : ChangeSpec := { name := "fnHoldForBusy", fn := fun _ => fun
  | [d] => { results := [.lit (.bool false)], args := [d] }
  | _ => none }
def FnHoldForBusyWrongFalsely : Prop := fnHoldForBusyRow.holds Try.pinned (OpenSpec.ofChange fnHoldForBusyWrong)

/-- 'laws.FnExactBlockOf': WHATEVER THE INPUT: true; the input reads as it did. -/
def fnExactBlockOfSpec : ChangeSpec := { name := "fnExactBlockOf", fn := fun _ => fun
  | [d1, d2] => { results := [.lit (.bool true)], args := [d1, d2] }
  | _ => none }
def fnExactBlockOfRow : OpenClaim := { program := "ytdjbjldmlfhigaa", sum := "ecb9b911be6c45fd1f9f446c1d44f45f8455b8fc28c2e57d876ba94766d706e8", func := "loop.example/portmapper/laws.FnExactBlockOf", spec := "fnExactBlockOf", apart := false }
def FnExactBlockOfSaid : Prop := fnExactBlockOfRow.holds Try.pinned (OpenSpec.ofChange fnExactBlockOfSpec)

/-- ITS FALSE NEIGHBOUR: 'it returns false'. Refute it at one input. -/
def fnExactBlockOfWrong : ChangeSpec := { name := "fnExactBlockOf", fn := fun _ => fun
  | [d1, d2] => { results := [.lit (.bool false)], args := [d1, d2] }
  | _ => none }
def FnExactBlockOfWrongFalsely : Prop := fnExactBlockOfRow.holds Try.pinned (OpenSpec.ofChange fnExactBlockOfWrong)

/-- 'laws.FnValidPlan': WHATEVER THE INPUT: true; the input reads as it did. -/
def fnValidPlanSpec : ChangeSpec := { name := "fnValidPlan", fn := fun _ => fun
  | [d] => { results := [.lit (.bool true)], args := [d] }
  | _ => none }
def fnValidPlanRow : OpenClaim := { program := "ytdjbjldmlfhigaa", sum := "ecb9b911be6c45fd1f9f446c1d44f45f8455b8fc28c2e57d876ba94766d706e8", func := "loop.example/portmapper/laws.FnValidPlan", spec := "fnValidPlan", apart := false }
def FnValidPlanSaid : Prop := fnValidPlanRow.holds Try.pinned (OpenSpec.ofChange fnValidPlanSpec)

/-- ITS FALSE NEIGHBOUR: 'it returns false'. Refute it at one input. -/
def fnValidPlanWrong : ChangeSpec := { name := "fnValidPlan", fn := fun _ => fun
  | [d] => { results := [.lit (.bool false)], args := [d] }
  | _ => none }
def FnValidPlanWrongFalsely : Prop := fnValidPlanRow.holds Try.pinned (OpenSpec.ofChange fnValidPlanWrong)

/-- 'laws.FnValidReport': WHATEVER THE INPUT: true; the input reads as it did. -/
def fnValidReportSpec : ChangeSpec := { name := "fnValidReport", fn := fun _ => fun
  | [d] => { results := [.lit (.bool true)], args := [d] }
  | _ => none }
def fnValidReportRow : OpenClaim := { program := "ytdjbjldmlfhigaa", sum := "ecb9b911be6c45fd1f9f446c1d44f45f8455b8fc28c2e57d876ba94766d706e8", func := "loop.example/portmapper/laws.FnValidReport", spec := "fnValidReport", apart := false }
def FnValidReportSaid : Prop := fnValidReportRow.holds Try.pinned (OpenSpec.ofChange fnValidReportSpec)

/-- ITS FALSE NEIGHBOUR: 'it returns false'. Refute it at one input. -/
def fnValidReportWrong : ChangeSpec := { name := "fnValidReport", fn := fun _ => fun
  | [d] => { results := [.lit (.bool false)], args := [d] }
  | _ => none }
def FnValidReportWrongFalsely : Prop := fnValidReportRow.holds Try.pinned (OpenSpec.ofChange fnValidReportWrong)

/-- 'laws.FnExactValidReport': WHATEVER THE INPUT: true; the input reads as it did. -/
def fnExactValidReportSpec : ChangeSpec := { name := "fnExactValidReport", fn := fun _ => fun
  | [d] => { results := [.lit (.bool true)], args := [d] }
  | _ => none }
def fnExactValidReportRow : OpenClaim := { program := "ytdjbjldmlfhigaa", sum := "ecb9b911be6c45fd1f9f446c1d44f45f8455b8fc28c2e57d876ba94766d706e8", func := "loop.example/portmapper/laws.FnExactValidReport", spec := "fnExactValidReport", apart := false }
def FnExactValidReportSaid : Prop := fnExactValidReportRow.holds Try.pinned (OpenSpec.ofChange fnExactValidReportSpec)

/-- ITS FALSE NEIGHBOUR: 'it returns false'. Refute it at one input. -/
def fnExactValidReportWrong : ChangeSpec := { name := "fnExactValidReport", fn := fun _ => fun
  | [d] => { results := [.lit (.bool false)], args := [d] }
  | _ => none }
def FnExactValidReportWrongFalsely : Prop := fnExactValidReportRow.holds Try.pinned (OpenSpec.ofChange fnExactValidReportWrong)

/-- 'laws.FnReportOfCut': WHATEVER THE INPUT: true; the input reads as it did. -/
def fnReportOfCutSpec : ChangeSpec := { name := "fnReportOfCut", fn := fun _ => fun
  | [d] => { results := [.lit (.bool true)], args := [d] }
  | _ => none }
def fnReportOfCutRow : OpenClaim := { program := "ytdjbjldmlfhigaa", sum := "ecb9b911be6c45fd1f9f446c1d44f45f8455b8fc28c2e57d876ba94766d706e8", func := "loop.example/portmapper/laws.FnReportOfCut", spec := "fnReportOfCut", apart := false }
def FnReportOfCutSaid : Prop := fnReportOfCutRow.holds Try.pinned (OpenSpec.ofChange fnReportOfCutSpec)

/-- ITS FALSE NEIGHBOUR: 'it returns false'. Refute it at one input. -/
def fnReportOfCutWrong : ChangeSpec := { name := "fnReportOfCut", fn := fun _ => fun
  | [d] => { results := [.lit (.bool false)], args := [d] }
  | _ => none }
def FnReportOfCutWrongFalsely : Prop := fnReportOfCutRow.holds Try.pinned (OpenSpec.ofChange fnReportOfCutWrong)

/-- 'laws.FnReportOfShort': WHATEVER THE INPUT: true; the input reads as it did. -/
def fnReportOfShortSpec : ChangeSpec := { name := "fnReportOfShort", fn := fun _ => fun
  | [d] => { results := [.lit (.bool true)], args := [d] }
  | _ => none }
def fnReportOfShortRow : OpenClaim := { program := "ytdjbjldmlfhigaa", sum := "ecb9b911be6c45fd1f9f446c1d44f45f8455b8fc28c2e57d876ba94766d706e8", func := "loop.example/portmapper/laws.FnReportOfShort", spec := "fnReportOfShort", apart := false }
def FnReportOfShortSaid : Prop := fnReportOfShortRow.holds Try.pinned (OpenSpec.ofChange fnReportOfShortSpec)

/-- ITS FALSE NEIGHBOUR: 'it returns false'. Refute it at one input. -/
def fnReportOfShortWrong : ChangeSpec := { name := "fnReportOfShort", fn := fun _ => fun
  | [d] => { results := [.lit (.bool false)], args := [d] }
  | _ => none }
def FnReportOfShortWrongFalsely : Prop := fnReportOfShortRow.holds Try.pinned (OpenSpec.ofChange fnReportOfShortWrong)

/-- 'laws.FnReportOf': WHATEVER THE INPUT: true; the input reads as it did. -/
def fnReportOfSpec : ChangeSpec := { name := "fnReportOf", fn := fun _ => fun
  | [d] => { results := [.lit (.bool true)], args := [d] }
  | _ => none }
def fnReportOfRow : OpenClaim := { program := "ytdjbjldmlfhigaa", sum := "ecb9b911be6c45fd1f9f446c1d44f45f8455b8fc28c2e57d876ba94766d706e8", func := "loop.example/portmapper/laws.FnReportOf", spec := "fnReportOf", apart := false }
def FnReportOfSaid : Prop := fnReportOfRow.holds Try.pinned (OpenSpec.ofChange fnReportOfSpec)

/-- ITS FALSE NEIGHBOUR: 'it returns false'. Refute it at one input. -/
def fnReportOfWrong : ChangeSpec := { name := "fnReportOf", fn := fun _ => fun
  | [d] => { results := [.lit (.bool false)], args := [d] }
  | _ => none }
def FnReportOfWrongFalsely : Prop := fnReportOfRow.holds Try.pinned (OpenSpec.ofChange fnReportOfWrong)

/-- 'laws.FnExactReportOf': WHATEVER THE INPUT: true; the input reads as it did. -/
def fnExactReportOfSpec : ChangeSpec := { name := "fnExactReportOf", fn := fun _ => fun
  | [d1, d2, d3] => { results := [.lit (.bool true)], args := [d1, d2, d3] }
  | _ => none }
def fnExactReportOfRow : OpenClaim := { program := "ytdjbjldmlfhigaa", sum := "ecb9b911be6c45fd1f9f446c1d44f45f8455b8fc28c2e57d876ba94766d706e8", func := "loop.example/portmapper/laws.FnExactReportOf", spec := "fnExactReportOf", apart := false }
def FnExactReportOfSaid : Prop := fnExactReportOfRow.holds Try.pinned (OpenSpec.ofChange fnExactReportOfSpec)

/-- ITS FALSE NEIGHBOUR: 'it returns false'. Refute it at one input. -/
def fnExactReportOfWrong : ChangeSpec := { name := "fnExactReportOf", fn := fun _ => fun
  | [d1, d2, d3] => { results := [.lit (.bool false)], args := [d1, d2, d3] }
  | _ => none }
def FnExactReportOfWrongFalsely : Prop := fnExactReportOfRow.holds Try.pinned (OpenSpec.ofChange fnExactReportOfWrong)

/- THE SECOND FORM. 'bulk': how many values and letters a reading holds, each counted each time it is reached (what is shared counts as often as it is met; a slice's spare places count too). A statement '..UptoSaid' is the law's where the arguments, and the package variables that the reading takes, are together of bulk at most 1048576: NARROWER than '..Said'. Prove '..Said' where nothing that the law and all that it calls make is longer than what came in: it says more and counts as full. Else prove '..UptoSaid'. A law counts once. -/
mutual
def uptoBulk {H : Type} : DataW H → Nat
  | .lit (.string bytes) => bytes.length + 1
  | .lit _ => 1
  | .nil => 1
  | .ptr d => uptoBulk d + 1
  | .slice elems spare => uptoBulkAll elems + uptoBulkAll spare + 1
  | .agg parts => uptoBulkAll parts + 1
  | .iface _ d => uptoBulk d + 1
  | .map entries => uptoBulkEntries entries + 1
  | .held _ => 1
def uptoBulkAll {H : Type} : List (DataW H) → Nat
  | [] => 0
  | d :: r => uptoBulk d + uptoBulkAll r
def uptoBulkEntries {H : Type} : List (Lit × DataW H) → Nat
  | [] => 0
  | x :: r => uptoBulkEntry x + uptoBulkEntries r
def uptoBulkEntry {H : Type} : Lit × DataW H → Nat
  | (.string bytes, d) => bytes.length + uptoBulk d + 1
  | (_, d) => uptoBulk d + 1
 end
def uptoSmall : (H : Type) → List (DataW H) → Bool := fun _ ds => decide (uptoBulkAll ds ≤ 1048576)
def OpenSpec.upto (s : _root_.Go.ChangeSpec) : _root_.Go.OpenSpec := { _root_.Go.OpenSpec.ofChange s with cond := some uptoSmall }

/-- 'laws.FnExactIsBusy', WHERE WHAT IT READS IS OF BULK AT MOST 1048576: true; the input reads as it did. -/
def fnExactIsBusyUptoRow : OpenClaim := { program := "ytdjbjldmlfhigaa", sum := "ecb9b911be6c45fd1f9f446c1d44f45f8455b8fc28c2e57d876ba94766d706e8", func := "loop.example/portmapper/laws.FnExactIsBusy", spec := "fnExactIsBusy", apart := false, narrowed := true }
def FnExactIsBusyUptoSaid : Prop := fnExactIsBusyUptoRow.holds Try.pinned (OpenSpec.upto fnExactIsBusySpec)

/-- 'laws.FnExactHoldFor', WHERE WHAT IT READS IS OF BULK AT MOST 1048576: true; the input reads as it did. -/
def fnExactHoldForUptoRow : OpenClaim := { program := "ytdjbjldmlfhigaa", sum := "ecb9b911be6c45fd1f9f446c1d44f45f8455b8fc28c2e57d876ba94766d706e8", func := "loop.example/portmapper/laws.FnExactHoldFor", spec := "fnExactHoldFor", apart := false, narrowed := true }
def FnExactHoldForUptoSaid : Prop := fnExactHoldForUptoRow.holds Try.pinned (OpenSpec.upto fnExactHoldForSpec)

/-- 'laws.FnIsBusy', WHERE WHAT IT READS IS OF BULK AT MOST 1048576: true; the input reads as it did. -/
def fnIsBusyUptoRow : OpenClaim := { program := "ytdjbjldmlfhigaa", sum := "ecb9b911be6c45fd1f9f446c1d44f45f8455b8fc28c2e57d876ba94766d706e8", func := "loop.example/portmapper/laws.FnIsBusy", spec := "fnIsBusy", apart := false, narrowed := true }
def FnIsBusyUptoSaid : Prop := fnIsBusyUptoRow.holds Try.pinned (OpenSpec.upto fnIsBusySpec)

/-- 'laws.FnExactValidPlan', WHERE WHAT IT READS IS OF BULK AT MOST 1048576: true; the input reads as it did. -/
def fnExactValidPlanUptoRow : OpenClaim := { program := "ytdjbjldmlfhigaa", sum := "ecb9b911be6c45fd1f9f446c1d44f45f8455b8fc28c2e57d876ba94766d706e8", func := "loop.example/portmapper/laws.FnExactValidPlan", spec := "fnExactValidPlan", apart := false, narrowed := true }
def FnExactValidPlanUptoSaid : Prop := fnExactValidPlanUptoRow.holds Try.pinned (OpenSpec.upto fnExactValidPlanSpec)

/-- 'laws.FnIsBusyHold', WHERE WHAT IT READS IS OF BULK AT MOST 1048576: true; the input reads as it did. -/
def fnIsBusyHoldUptoRow : OpenClaim := { program := "ytdjbjldmlfhigaa", sum := "ecb9b911be6c45fd1f9f446c1d44f45f8455b8fc28c2e57d876ba94766d706e8", func := "loop.example/portmapper/laws.FnIsBusyHold", spec := "fnIsBusyHold", apart := false, narrowed := true }
def FnIsBusyHoldUptoSaid : Prop := fnIsBusyHoldUptoRow.holds Try.pinned (OpenSpec.upto fnIsBusyHoldSpec)

/-- 'laws.FnExactOwnerOf', WHERE WHAT IT READS IS OF BULK AT MOST 1048576: true; the input reads as it did. -/
def fnExactOwnerOfUptoRow : OpenClaim := { program := "ytdjbjldmlfhigaa", sum := "ecb9b911be6c45fd1f9f446c1d44f45f8455b8fc28c2e57d876ba94766d706e8", func := "loop.example/portmapper/laws.FnExactOwnerOf", spec := "fnExactOwnerOf", apart := false, narrowed := true }
def FnExactOwnerOfUptoSaid : Prop := fnExactOwnerOfUptoRow.holds Try.pinned (OpenSpec.upto fnExactOwnerOfSpec)

/-- 'laws.FnHoldFor', WHERE WHAT IT READS IS OF BULK AT MOST 1048576: true; the input reads as it did. -/
def fnHoldForUptoRow : OpenClaim := { program := "ytdjbjldmlfhigaa", sum := "ecb9b911be6c45fd1f9f446c1d44f45f8455b8fc28c2e57d876ba94766d706e8", func := "loop.example/portmapper/laws.FnHoldFor", spec := "fnHoldFor", apart := false, narrowed := true }
def FnHoldForUptoSaid : Prop := fnHoldForUptoRow.holds Try.pinned (OpenSpec.upto fnHoldForSpec)

/-- 'laws.FnHoldForMore', WHERE WHAT IT READS IS OF BULK AT MOST 1048576: true; the input reads as it did. -/
def fnHoldForMoreUptoRow : OpenClaim := { program := "ytdjbjldmlfhigaa", sum := "ecb9b911be6c45fd1f9f446c1d44f45f8455b8fc28c2e57d876ba94766d706e8", func := "loop.example/portmapper/laws.FnHoldForMore", spec := "fnHoldForMore", apart := false, narrowed := true }
def FnHoldForMoreUptoSaid : Prop := fnHoldForMoreUptoRow.holds Try.pinned (OpenSpec.upto fnHoldForMoreSpec)

/-- 'laws.FnHoldForBusy', WHERE WHAT IT READS IS OF BULK AT MOST 1048576: true; the input reads as it did. -/
def fnHoldForBusyUptoRow : OpenClaim := { program := "ytdjbjldmlfhigaa", sum := "ecb9b911be6c45fd1f9f446c1d44f45f8455b8fc28c2e57d876ba94766d706e8", func := "loop.example/portmapper/laws.FnHoldForBusy", spec := "fnHoldForBusy", apart := false, narrowed := true }
def FnHoldForBusyUptoSaid : Prop := fnHoldForBusyUptoRow.holds Try.pinned (OpenSpec.upto fnHoldForBusySpec)

/-- 'laws.FnExactBlockOf', WHERE WHAT IT READS IS OF BULK AT MOST 1048576: true; the input reads as it did. -/
def fnExactBlockOfUptoRow : OpenClaim := { program := "ytdjbjldmlfhigaa", sum := "ecb9b911be6c45fd1f9f446c1d44f45f8455b8fc28c2e57d876ba94766d706e8", func := "loop.example/portmapper/laws.FnExactBlockOf", spec := "fnExactBlockOf", apart := false, narrowed := true }
def FnExactBlockOfUptoSaid : Prop := fnExactBlockOfUptoRow.holds Try.pinned (OpenSpec.upto fnExactBlockOfSpec)

/-- 'laws.FnValidPlan', WHERE WHAT IT READS IS OF BULK AT MOST 1048576: true; the input reads as it did. -/
def fnValidPlanUptoRow : OpenClaim := { program := "ytdjbjldmlfhigaa", sum := "ecb9b911be6c45fd1f9f446c1d44f45f8455b8fc28c2e57d876ba94766d706e8", func := "loop.example/portmapper/laws.FnValidPlan", spec := "fnValidPlan", apart := false, narrowed := true }
def FnValidPlanUptoSaid : Prop := fnValidPlanUptoRow.holds Try.pinned (OpenSpec.upto fnValidPlanSpec)

/-- 'laws.FnValidReport', WHERE WHAT IT READS IS OF BULK AT MOST 1048576: true; the input reads as it did. -/
def fnValidReportUptoRow : OpenClaim := { program := "ytdjbjldmlfhigaa", sum := "ecb9b911be6c45fd1f9f446c1d44f45f8455b8fc28c2e57d876ba94766d706e8", func := "loop.example/portmapper/laws.FnValidReport", spec := "fnValidReport", apart := false, narrowed := true }
def FnValidReportUptoSaid : Prop := fnValidReportUptoRow.holds Try.pinned (OpenSpec.upto fnValidReportSpec)

/-- 'laws.FnExactValidReport', WHERE WHAT IT READS IS OF BULK AT MOST 1048576: true; the input reads as it did. -/
def fnExactValidReportUptoRow : OpenClaim := { program := "ytdjbjldmlfhigaa", sum := "ecb9b911be6c45fd1f9f446c1d44f45f8455b8fc28c2e57d876ba94766d706e8", func := "loop.example/portmapper/laws.FnExactValidReport", spec := "fnExactValidReport", apart := false, narrowed := true }
def FnExactValidReportUptoSaid : Prop := fnExactValidReportUptoRow.holds Try.pinned (OpenSpec.upto fnExactValidReportSpec)

/-- 'laws.FnReportOfCut', WHERE WHAT IT READS IS OF BULK AT MOST 1048576: true; the input reads as it did. -/
def fnReportOfCutUptoRow : OpenClaim := { program := "ytdjbjldmlfhigaa", sum := "ecb9b911be6c45fd1f9f446c1d44f45f8455b8fc28c2e57d876ba94766d706e8", func := "loop.example/portmapper/laws.FnReportOfCut", spec := "fnReportOfCut", apart := false, narrowed := true }
def FnReportOfCutUptoSaid : Prop := fnReportOfCutUptoRow.holds Try.pinned (OpenSpec.upto fnReportOfCutSpec)

/-- 'laws.FnReportOfShort', WHERE WHAT IT READS IS OF BULK AT MOST 1048576: true; the input reads as it did. -/
def fnReportOfShortUptoRow : OpenClaim := { program := "ytdjbjldmlfhigaa", sum := "ecb9b911be6c45fd1f9f446c1d44f45f8455b8fc28c2e57d876ba94766d706e8", func := "loop.example/portmapper/laws.FnReportOfShort", spec := "fnReportOfShort", apart := false, narrowed := true }
def FnReportOfShortUptoSaid : Prop := fnReportOfShortUptoRow.holds Try.pinned (OpenSpec.upto fnReportOfShortSpec)

/-- 'laws.FnReportOf', WHERE WHAT IT READS IS OF BULK AT MOST 1048576: true; the input reads as it did. -/
def fnReportOfUptoRow : OpenClaim := { program := "ytdjbjldmlfhigaa", sum := "ecb9b911be6c45fd1f9f446c1d44f45f8455b8fc28c2e57d876ba94766d706e8", func := "loop.example/portmapper/laws.FnReportOf", spec := "fnReportOf", apart := false, narrowed := true }
def FnReportOfUptoSaid : Prop := fnReportOfUptoRow.holds Try.pinned (OpenSpec.upto fnReportOfSpec)

/-- 'laws.FnExactReportOf', WHERE WHAT IT READS IS OF BULK AT MOST 1048576: true; the input reads as it did. -/
def fnExactReportOfUptoRow : OpenClaim := { program := "ytdjbjldmlfhigaa", sum := "ecb9b911be6c45fd1f9f446c1d44f45f8455b8fc28c2e57d876ba94766d706e8", func := "loop.example/portmapper/laws.FnExactReportOf", spec := "fnExactReportOf", apart := false, narrowed := true }
def FnExactReportOfUptoSaid : Prop := fnExactReportOfUptoRow.holds Try.pinned (OpenSpec.upto fnExactReportOfSpec)

end Rows
end Go.Proofs.Ytdjbjldmlfhigaa
