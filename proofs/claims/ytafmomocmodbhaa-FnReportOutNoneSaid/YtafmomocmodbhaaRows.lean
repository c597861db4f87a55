/-
  No cell of these rows narrows 'for every input' (looked for: loops, veiled, ifaces, maps, wideKeys, modest, calm, conditions, laid).
  DERIVED. THE GIVEN ROWS OF THIS SEAT. 9 by the template 'for every input the law returns true; each argument reads behind the call as it read before'; 0 by the template 'total and deterministic' (their statements: YtafmomocmodbhaaTotals.lean).
  GIVEN WITH THE SEED: the statements are not yours to turn. If you find one false, say at which input.
  Laid BY PROGRAM, IN A SANDBOX (cutbox-rows.mjs): the forced cells as the released guide's own fill.sh prints them over the translation a56b467df19130e2… (all of the seat's roots in one cut). By AI agents, Wed Nov 11 2026. No macro, syntax, notation, axiom, sorry.
-/
import Derived.Test.YtafmomocmodbhaaChecked
import GoSem.Claim
import GoSem.ClaimJoined
import GoSem.ClaimMapViews
import Derived.JoinedTies
import Derived.KernelRfl
namespace Go.Proofs.Ytafmomocmodbhaa
/- THE CELL 'sum', in the pinned program and in every row, IS THE sha256 OF THE DUMP (.gsa) THAT YtafmomocmodbhaaProg.lean LOADS. Nothing in Lean hashes anything: it is a label: what it is worth is what the hold of that sum in a sandbox is worth. -/
noncomputable def Try.pinned : Pinned := { name := "ytafmomocmodbhaa", sum := "a56b467df19130e225164d464159ac0226a9b26702c3622486d5e2e0811676b7", checked := Try.checked }
namespace Rows
def none {H : Type} : Left H := { results := [], args := [] }

/-- 'laws.FnExactWayOf': WHATEVER THE INPUT: true; the input reads as it did. -/
def fnExactWayOfSpec : ChangeSpec := { name := "fnExactWayOf", fn := fun _ => fun
  | [d1, d2] => { results := [.lit (.bool true)], args := [d1, d2] }
  | _ => none }
def fnExactWayOfRow : OpenClaim := { program := "ytafmomocmodbhaa", sum := "a56b467df19130e225164d464159ac0226a9b26702c3622486d5e2e0811676b7", func := "loop.example/portmapper/laws.FnExactWayOf", spec := "fnExactWayOf", unfollowed := true, recurses := true, apart := false }
def FnExactWayOfSaid : Prop := fnExactWayOfRow.holds Try.pinned (OpenSpec.ofChange fnExactWayOfSpec)

/-- ITS FALSE NEIGHBOUR: 'it returns false'. Refute it at one input. -/
def fnExactWayOfWrong : ChangeSpec := { name := "fnExactWayOf", fn := fun _ => fun
  | [d1, d2] => { results := [.lit (.bool false)], args := [d1, d2] }
  | _ => none }
def FnExactWayOfWrongFalsely : Prop := fnExactWayOfRow.holds Try.pinned (OpenSpec.ofChange fnExactWayOfWrong)

/-- 'laws.FnTickGateStep': WHATEVER THE INPUT: true; the input reads as it did. -/
def fnTickGateStepSpec : ChangeSpec := { name := "fnTickGateStep", fn := fun _ => fun
  | [d] => { results := [.lit (.bool true)], args := [d] }
  | _ => none }
def fnTickGateStepRow : OpenClaim := { program := "ytafmomocmodbhaa", sum := "a56b467df19130e225164d464159ac0226a9b26702c3622486d5e2e0811676b7", func := "loop.example/portmapper/laws.FnTickGateStep", spec := "fnTickGateStep", unfollowed := true, recurses := true, apart := false }
def FnTickGateStepSaid : Prop := fnTickGateStepRow.holds Try.pinned (OpenSpec.ofChange fnTickGateStepSpec)

/-- ITS FALSE NEIGHBOUR: 'it returns false'. Refute it at one input. -/
def fnTickGateStepWrong : ChangeSpec := { name := "fnTickGateStep", fn := fun _ => fun
  | [d] => { results := [.lit (.bool false)], args := [d] }
  | _ => none }
def FnTickGateStepWrongFalsely : Prop := fnTickGateStepRow.holds Try.pinned (OpenSpec.ofChange fnTickGateStepWrong)

/-- 'laws.FnReportOutNone': WHATEVER THE INPUT: true; the input reads as it did. -/
def fnReportOutNoneSpec : ChangeSpec := { name := "fnReportOutNone", fn := fun _ => fun
  | [d] => { results := [.lit (.bool true)], args := [d] }
  | _ => none }
def fnReportOutNoneRow : OpenClaim := { program := "ytafmomocmodbhaa", sum := "a56b467df19130e225164d464159ac0226a9b26702c3622486d5e2e0811676b7", func := "loop.example/portmapper/laws.FnReportOutNone", spec := "fnReportOutNone", unfollowed := true, recurses := true, apart := false }
def FnReportOutNoneSaid : Prop := fnReportOutNoneRow.holds Try.pinned (OpenSpec.ofChange fnReportOutNoneSpec)

/-- ITS FALSE NEIGHBOUR: 'it returns false'. Refute it at one input. -/
def fnReportOutNoneWrong : ChangeSpec := { name := "fnReportOutNone", fn := fun _ => fun
  | [d] => { results := [.lit (.bool false)], args := [d] }
  | _ => none }
def FnReportOutNoneWrongFalsely : Prop := fnReportOutNoneRow.holds Try.pinned (OpenSpec.ofChange fnReportOutNoneWrong)

/-- 'laws.FnWayOfData': WHATEVER THE INPUT: true; the input reads as it did. -/
def fnWayOfDataSpec : ChangeSpec := { name := "fnWayOfData", fn := fun _ => fun
  | [d] => { results := [.lit (.bool true)], args := [d] }
  | _ => none }
def fnWayOfDataRow : OpenClaim := { program := "ytafmomocmodbhaa", sum := "a56b467df19130e225164d464159ac0226a9b26702c3622486d5e2e0811676b7", func := "loop.example/portmapper/laws.FnWayOfData", spec := "fnWayOfData", unfollowed := true, recurses := true, apart := false }
def FnWayOfDataSaid : Prop := fnWayOfDataRow.holds Try.pinned (OpenSpec.ofChange fnWayOfDataSpec)

/-- ITS FALSE NEIGHBOUR: 'it returns false'. Refute it at one input. -/
def fnWayOfDataWrong : ChangeSpec := { name := "fnWayOfData", fn := fun _ => fun
  | [d] => { results := [.lit (.bool false)], args := [d] }
  | _ => none }
def FnWayOfDataWrongFalsely : Prop := fnWayOfDataRow.holds Try.pinned (OpenSpec.ofChange fnWayOfDataWrong)

/-- 'laws.FnWayOf': WHATEVER THE INPUT: true; the input reads as it did. -/
def fnWayOfSpec : ChangeSpec := { name := "fnWayOf", fn := fun _ => fun
  | [d] => { results := [.lit (.bool true)], args := [d] }
  | _ => none }
def fnWayOfRow : OpenClaim := { program := "ytafmomocmodbhaa", sum := "a56b467df19130e225164d464159ac0226a9b26702c3622486d5e2e0811676b7", func := "loop.example/portmapper/laws.FnWayOf", spec := "fnWayOf", unfollowed := true, recurses := true, apart := false }
def FnWayOfSaid : Prop := fnWayOfRow.holds Try.pinned (OpenSpec.ofChange fnWayOfSpec)

/-- ITS FALSE NEIGHBOUR: 'it returns false'. Refute it at one input. -/
def fnWayOfWrong : ChangeSpec := { name := "fnWayOf", fn := fun _ => fun
  | [d] => { results := [.lit (.bool false)], args := [d] }
  | _ => none }
def FnWayOfWrongFalsely : Prop := fnWayOfRow.holds Try.pinned (OpenSpec.ofChange fnWayOfWrong)

/-- 'laws.FnReportIn': WHATEVER THE INPUT: true; the input reads as it did. -/
def fnReportInSpec : ChangeSpec := { name := "fnReportIn", fn := fun _ => fun
  | [d] => { results := [.lit (.bool true)], args := [d] }
  | _ => none }
def fnReportInRow : OpenClaim := { program := "ytafmomocmodbhaa", sum := "a56b467df19130e225164d464159ac0226a9b26702c3622486d5e2e0811676b7", func := "loop.example/portmapper/laws.FnReportIn", spec := "fnReportIn", unfollowed := true, recurses := true, apart := false }
def FnReportInSaid : Prop := fnReportInRow.holds Try.pinned (OpenSpec.ofChange fnReportInSpec)

/-- ITS FALSE NEIGHBOUR: 'it returns false'. Refute it at one input. -/
def fnReportInWrong : ChangeSpec := { name := "fnReportIn", fn := fun _ => fun
  | [d] => { results := [.lit (.bool false)], args := [d] }
  | _ => none }
def FnReportInWrongFalsely : Prop := fnReportInRow.holds Try.pinned (OpenSpec.ofChange fnReportInWrong)

/-- 'laws.FnReportInNone': WHATEVER THE INPUT: true; the input reads as it did. -/
def fnReportInNoneSpec : ChangeSpec := { name := "fnReportInNone", fn := fun _ => fun
  | [d] => { results := [.lit (.bool true)], args := [d] }
  | _ => none }
def fnReportInNoneRow : OpenClaim := { program := "ytafmomocmodbhaa", sum := "a56b467df19130e225164d464159ac0226a9b26702c3622486d5e2e0811676b7", func := "loop.example/portmapper/laws.FnReportInNone", spec := "fnReportInNone", unfollowed := true, recurses := true, apart := false }
def FnReportInNoneSaid : Prop := fnReportInNoneRow.holds Try.pinned (OpenSpec.ofChange fnReportInNoneSpec)

/-- ITS FALSE NEIGHBOUR: 'it returns false'. Refute it at one input. -/
def fnReportInNoneWrong : ChangeSpec := { name := "fnReportInNone", fn := fun _ => fun
  | [d] => { results := [.lit (.bool false)], args := [d] }
  | _ => none }
def FnReportInNoneWrongFalsely : Prop := fnReportInNoneRow.holds Try.pinned (OpenSpec.ofChange fnReportInNoneWrong)

/-- 'laws.FnReportOut': WHATEVER THE INPUT: true; the input reads as it did. -/
def fnReportOutSpec : ChangeSpec := { name := "fnReportOut", fn := fun _ => fun
  | [d] => { results := [.lit (.bool true)], args := [d] }
  | _ => none }
def fnReportOutRow : OpenClaim := { program := "ytafmomocmodbhaa", sum := "a56b467df19130e225164d464159ac0226a9b26702c3622486d5e2e0811676b7", func := "loop.example/portmapper/laws.FnReportOut", spec := "fnReportOut", unfollowed := true, recurses := true, apart := false }
def FnReportOutSaid : Prop := fnReportOutRow.holds Try.pinned (OpenSpec.ofChange fnReportOutSpec)

/-- ITS FALSE NEIGHBOUR: 'it returns false'. Refute it at one input. -/
def fnReportOutWrong : ChangeSpec := { name := "fnReportOut", fn := fun _ => fun
  | [d] => { results := [.lit (.bool false)], args := [d] }
  | _ => none }
def FnReportOutWrongFalsely : Prop := fnReportOutRow.holds Try.pinned (OpenSpec.ofChange fnReportOutWrong)

/-- 'laws.FnExactTickGate': WHATEVER THE INPUT: true; the input reads as it did. -/
def fnExactTickGateSpec : ChangeSpec := { name := "fnExactTickGate", fn := fun _ => fun
  | [d1, d2] => { results := [.lit (.bool true)], args := [d1, d2] }
  | _ => none }
def fnExactTickGateRow : OpenClaim := { program := "ytafmomocmodbhaa", sum := "a56b467df19130e225164d464159ac0226a9b26702c3622486d5e2e0811676b7", func := "loop.example/portmapper/laws.FnExactTickGate", spec := "fnExactTickGate", unfollowed := true, recurses := true, apart := false }
def FnExactTickGateSaid : Prop := fnExactTickGateRow.holds Try.pinned (OpenSpec.ofChange fnExactTickGateSpec)

/-- ITS FALSE NEIGHBOUR: 'it returns false'. Refute it at one input. -/
def fnExactTickGateWrong : ChangeSpec := { name := "fnExactTickGate", fn := fun _ => fun
  | [d1, d2] => { results := [.lit (.bool false)], args := [d1, d2] }
  | _ => none }
def FnExactTickGateWrongFalsely : Prop := fnExactTickGateRow.holds Try.pinned (OpenSpec.ofChange fnExactTickGateWrong)

/- THE SECOND FORM. 'bulk': how many values and letters a reading holds, each counted each time it is reached (what is shared counts as often as it is met; a slice's spare places count too). A statement '..UptoSaid' is the law's where the arguments, and the package variables that the reading takes, are together of bulk at most 1048576: NARROWER than '..Said'. Prove '..Said' where nothing that the law and all that it calls make is longer than what came in: it says more and counts as full. Else prove '..UptoSaid'. A law counts once. -/
mutual
def uptoBulk {H : Type} : DataW H → Nat
  | .lit (.string bytes) => bytes.length + 1
  | .lit _ => 1
  | .nil => 1
  | .ptr d => uptoBulk d + 1
  | .slice elems spare => uptoBulkAll elems + uptoBulkAll spare + 1
  | .agg parts => uptoBulkAll parts + 1
  | .iface _ d => uptoBulk d + 1
  | .map entries => uptoBulkEntries entries + 1
  | .held _ => 1
def uptoBulkAll {H : Type} : List (DataW H) → Nat
  | [] => 0
  | d :: r => uptoBulk d + uptoBulkAll r
def uptoBulkEntries {H : Type} : List (Lit × DataW H) → Nat
  | [] => 0
  | x :: r => uptoBulkEntry x + uptoBulkEntries r
def uptoBulkEntry {H : Type} : Lit × DataW H → Nat
  | (.string bytes, d) => bytes.length + uptoBulk d + 1
  | (_, d) => uptoBulk d + 1
 end
def uptoSmall : (H : Type) → List (DataW H) → Bool := fun _ ds => decide (uptoBulkAll ds ≤ 1048576)
def OpenSpec.upto (s : _root_.Go.ChangeSpec) : _root_.Go.OpenSpec := { _root_.Go.OpenSpec.ofChange s with cond := some uptoSmall }

/-- 'laws.FnExactWayOf', WHERE WHAT IT READS IS OF BULK AT MOST 1048576: true; the input reads as it did. -/
def fnExactWayOfUptoRow : OpenClaim := { program := "ytafmomocmodbhaa", sum := "a56b467df19130e225164d464159ac0226a9b26702c3622486d5e2e0811676b7", func := "loop.example/portmapper/laws.FnExactWayOf", spec := "fnExactWayOf", unfollowed := true, recurses := true, apart := false, narrowed := true }
def FnExactWayOfUptoSaid : Prop := fnExactWayOfUptoRow.holds Try.pinned (OpenSpec.upto fnExactWayOfSpec)

/-- 'laws.FnTickGateStep', WHERE WHAT IT READS IS OF BULK AT MOST 1048576: true; the input reads as it did. -/
def fnTickGateStepUptoRow : OpenClaim := { program := "ytafmomocmodbhaa", sum := "a56b467df19130e225164d464159ac0226a9b26702c3622486d5e2e0811676b7", func := "loop.example/portmapper/laws.FnTickGateStep", spec := "fnTickGateStep", unfollowed := true, recurses := true, apart := false, narrowed := true }
def FnTickGateStepUptoSaid : Prop := fnTickGateStepUptoRow.holds Try.pinned (OpenSpec.upto fnTickGateStepSpec)

/-- 'laws.FnReportOutNone', WHERE WHAT IT READS IS OF BULK AT MOST 1048576: true; the input reads as it did. -/
def fnReportOutNoneUptoRow : OpenClaim := { program := "ytafmomocmodbhaa", sum := "a56b467df19130e225164d464159ac0226a9b26702c3622486d5e2e0811676b7", func := "loop.example/portmapper/laws.FnReportOutNone", spec := "fnReportOutNone", unfollowed := true, recurses := true, apart := false, narrowed := true }
def FnReportOutNoneUptoSaid : Prop := fnReportOutNoneUptoRow.holds Try.pinned (OpenSpec.upto fnReportOutNoneSpec)

/-- 'laws.FnWayOfData', WHERE WHAT IT READS IS OF BULK AT MOST 1048576: true; the input reads as it did. -/
def fnWayOfDataUptoRow : OpenClaim := { program := "ytafmomocmodbhaa", sum := "a56b467df19130e225164d464159ac0226a9b26702c3622486d5e2e0811676b7", func := "loop.example/portmapper/laws.FnWayOfData", spec := "fnWayOfData", unfollowed := true, recurses := true, apart := false, narrowed := true }
def FnWayOfDataUptoSaid : Prop := fnWayOfDataUptoRow.holds Try.pinned (OpenSpec.upto fnWayOfDataSpec)

/-- 'laws.FnWayOf', WHERE WHAT IT READS IS OF BULK AT MOST 1048576: true; the input reads as it did. -/
def fnWayOfUptoRow : OpenClaim := { program := "ytafmomocmodbhaa", sum := "a56b467df19130e225164d464159ac0226a9b26702c3622486d5e2e0811676b7", func := "loop.example/portmapper/laws.FnWayOf", spec := "fnWayOf", unfollowed := true, recurses := true, apart := false, narrowed := true }
def FnWayOfUptoSaid : Prop := fnWayOfUptoRow.holds Try.pinned (OpenSpec.upto fnWayOfSpec)

/-- 'laws.FnReportIn', WHERE WHAT IT READS IS OF BULK AT MOST 1048576: true; the input reads as it did. -/
def fnReportInUptoRow : OpenClaim := { program := "ytafmomocmodbhaa", sum := "a56b467df19130e225164d464159ac0226a9b26702c3622486d5e2e0811676b7", func := "loop.example/portmapper/laws.FnReportIn", spec := "fnReportIn", unfollowed := true, recurses := true, apart := false, narrowed := true }
def FnReportInUptoSaid : Prop := fnReportInUptoRow.holds Try.pinned (OpenSpec.upto fnReportInSpec)

/-- 'laws.FnReportInNone', WHERE WHAT IT READS IS OF BULK AT MOST 1048576: true; the input reads as it did. -/
def fnReportInNoneUptoRow : OpenClaim := { program := "ytafmomocmodbhaa", sum := "a56b467df19130e225164d464159ac0226a9b26702c3622486d5e2e0811676b7", func := "loop.example/portmapper/laws.FnReportInNone", spec := "fnReportInNone", unfollowed := true, recurses := true, apart := false, narrowed := true }
def FnReportInNoneUptoSaid : Prop := fnReportInNoneUptoRow.holds Try.pinned (OpenSpec.upto fnReportInNoneSpec)

/-- 'laws.FnReportOut', WHERE WHAT IT READS IS OF BULK AT MOST 1048576: true; the input reads as it did. -/
def fnReportOutUptoRow : OpenClaim := { program := "ytafmomocmodbhaa", sum := "a56b467df19130e225164d464159ac0226a9b26702c3622486d5e2e0811676b7", func := "loop.example/portmapper/laws.FnReportOut", spec := "fnReportOut", unfollowed := true, recurses := true, apart := false, narrowed := true }
def FnReportOutUptoSaid : Prop := fnReportOutUptoRow.holds Try.pinned (OpenSpec.upto fnReportOutSpec)

/-- 'laws.FnExactTickGate', WHERE WHAT IT READS IS OF BULK AT MOST 1048576: true; the input reads as it did. -/
def fnExactTickGateUptoRow : OpenClaim := { program := "ytafmomocmodbhaa", sum := "a56b467df19130e225164d464159ac0226a9b26702c3622486d5e2e0811676b7", func := "loop.example/portmapper/laws.FnExactTickGate", spec := "fnExactTickGate", unfollowed := true, recurses := true, apart := false, narrowed := true }
def FnExactTickGateUptoSaid : Prop := fnExactTickGateUptoRow.holds Try.pinned (OpenSpec.upto fnExactTickGateSpec)

end Rows
end Go.Proofs.Ytafmomocmodbhaa
