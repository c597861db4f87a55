/-
  No cell of these rows narrows 'for every input' (looked for: loops, veiled, ifaces, maps, wideKeys, modest, calm, conditions, laid).
  DERIVED. THE GIVEN ROWS OF THIS SEAT. 12 by the template 'for every input the law returns true; each argument reads behind the call as it read before'; 0 by the template 'total and deterministic' (their statements: YtppdcglnopoocaaGreatTotals.lean).
  GIVEN WITH THE SEED: the statements are not yours to turn. If you find one false, say at which input.
  Laid BY PROGRAM, IN A SANDBOX (cutbox-rows.mjs): the forced cells as the released guide's own fill.sh prints them over the translation 64df87434c4ad525… (all of the seat's roots in one cut). By AI agents, Wed Nov 11 2026. No macro, syntax, notation, axiom, sorry.
-/
import Derived.Test.YtppdcglnopoocaaGreatChecked
import GoSem.Claim
import GoSem.ClaimJoined
import GoSem.ClaimMapViews
import Derived.JoinedTies
import Derived.KernelRfl
namespace Go.Proofs.YtppdcglnopoocaaGreat
/- THE CELL 'sum', in the pinned program and in every row, IS THE sha256 OF THE DUMP (.gsa) THAT YtppdcglnopoocaaGreatProg.lean LOADS. Nothing in Lean hashes anything: it is a label: what it is worth is what the hold of that sum in a sandbox is worth. -/
noncomputable def Tryz.pinned : Pinned := { name := "ytppdcglnopoocaagreat", sum := "64df87434c4ad5257e5119cec895118be6cef45fb2a620df27b4f317cf84d138", checked := Tryz.checked }
namespace Rows
def none {H : Type} : Left H := { results := [], args := [] }

/-- 'laws.FnSendOutTick': WHATEVER THE INPUT: true; the input reads as it did. -/
def fnSendOutTickSpec : ChangeSpec := { name := "fnSendOutTick", fn := fun _ => fun
  | [d] => { results := [.lit (.bool true)], args := [d] }
  | _ => none }
def fnSendOutTickRow : OpenClaim := { program := "ytppdcglnopoocaagreat", sum := "64df87434c4ad5257e5119cec895118be6cef45fb2a620df27b4f317cf84d138", func := "loop.example/portmapper/laws.FnSendOutTick", spec := "fnSendOutTick", unfollowed := true, recurses := true, apart := false }
def FnSendOutTickSaid : Prop := fnSendOutTickRow.holds Tryz.pinned (OpenSpec.ofChange fnSendOutTickSpec)

/-- ITS FALSE NEIGHBOUR: 'it returns false'. Refute it at one input. -/
def fnSendOutTickWrong : ChangeSpec := { name := "fnSendOutTick", fn := fun _ => fun
  | [d] => { results := [.lit (.bool false)], args := [d] }
  | _ => none }
def FnSendOutTickWrongFalsely : Prop := fnSendOutTickRow.holds Tryz.pinned (OpenSpec.ofChange fnSendOutTickWrong)

/-- 'laws.FnPassBetweenBack': WHATEVER THE INPUT: true; the input reads as it did. -/
def fnPassBetweenBackSpec : ChangeSpec := { name := "fnPassBetweenBack", fn := fun _ => fun
  | [d] => { results := [.lit (.bool true)], args := [d] }
  | _ => none }
def fnPassBetweenBackRow : OpenClaim := { program := "ytppdcglnopoocaagreat", sum := "64df87434c4ad5257e5119cec895118be6cef45fb2a620df27b4f317cf84d138", func := "loop.example/portmapper/laws.FnPassBetweenBack", spec := "fnPassBetweenBack", unfollowed := true, recurses := true, apart := false }
def FnPassBetweenBackSaid : Prop := fnPassBetweenBackRow.holds Tryz.pinned (OpenSpec.ofChange fnPassBetweenBackSpec)

/-- ITS FALSE NEIGHBOUR: 'it returns false'. Refute it at one input. -/
def fnPassBetweenBackWrong : ChangeSpec := { name := "fnPassBetweenBack", fn := fun _ => fun
  | [d] => { results := [.lit (.bool false)], args := [d] }
  | _ => none }
def FnPassBetweenBackWrongFalsely : Prop := fnPassBetweenBackRow.holds Tryz.pinned (OpenSpec.ofChange fnPassBetweenBackWrong)

/-- 'laws.FnReceiveInAnswer': WHATEVER THE INPUT: true; the input reads as it did. -/
def fnReceiveInAnswerSpec : ChangeSpec := { name := "fnReceiveInAnswer", fn := fun _ => fun
  | [d] => { results := [.lit (.bool true)], args := [d] }
  | _ => none }
def fnReceiveInAnswerRow : OpenClaim := { program := "ytppdcglnopoocaagreat", sum := "64df87434c4ad5257e5119cec895118be6cef45fb2a620df27b4f317cf84d138", func := "loop.example/portmapper/laws.FnReceiveInAnswer", spec := "fnReceiveInAnswer", unfollowed := true, recurses := true, apart := false }
def FnReceiveInAnswerSaid : Prop := fnReceiveInAnswerRow.holds Tryz.pinned (OpenSpec.ofChange fnReceiveInAnswerSpec)

/-- ITS FALSE NEIGHBOUR: 'it returns false'. Refute it at one input. -/
def fnReceiveInAnswerWrong : ChangeSpec := { name := "fnReceiveInAnswer", fn := fun _ => fun
  | [d] => { results := [.lit (.bool false)], args := [d] }
  | _ => none }
def FnReceiveInAnswerWrongFalsely : Prop := fnReceiveInAnswerRow.holds Tryz.pinned (OpenSpec.ofChange fnReceiveInAnswerWrong)

/-- 'laws.FnPassBetween': WHATEVER THE INPUT: true; the input reads as it did. -/
def fnPassBetweenSpec : ChangeSpec := { name := "fnPassBetween", fn := fun _ => fun
  | [d] => { results := [.lit (.bool true)], args := [d] }
  | _ => none }
def fnPassBetweenRow : OpenClaim := { program := "ytppdcglnopoocaagreat", sum := "64df87434c4ad5257e5119cec895118be6cef45fb2a620df27b4f317cf84d138", func := "loop.example/portmapper/laws.FnPassBetween", spec := "fnPassBetween", unfollowed := true, recurses := true, apart := false }
def FnPassBetweenSaid : Prop := fnPassBetweenRow.holds Tryz.pinned (OpenSpec.ofChange fnPassBetweenSpec)

/-- ITS FALSE NEIGHBOUR: 'it returns false'. Refute it at one input. -/
def fnPassBetweenWrong : ChangeSpec := { name := "fnPassBetween", fn := fun _ => fun
  | [d] => { results := [.lit (.bool false)], args := [d] }
  | _ => none }
def FnPassBetweenWrongFalsely : Prop := fnPassBetweenRow.holds Tryz.pinned (OpenSpec.ofChange fnPassBetweenWrong)

/-- 'laws.FnPassBetweenSend': WHATEVER THE INPUT: true; the input reads as it did. -/
def fnPassBetweenSendSpec : ChangeSpec := { name := "fnPassBetweenSend", fn := fun _ => fun
  | [d] => { results := [.lit (.bool true)], args := [d] }
  | _ => none }
def fnPassBetweenSendRow : OpenClaim := { program := "ytppdcglnopoocaagreat", sum := "64df87434c4ad5257e5119cec895118be6cef45fb2a620df27b4f317cf84d138", func := "loop.example/portmapper/laws.FnPassBetweenSend", spec := "fnPassBetweenSend", unfollowed := true, recurses := true, apart := false }
def FnPassBetweenSendSaid : Prop := fnPassBetweenSendRow.holds Tryz.pinned (OpenSpec.ofChange fnPassBetweenSendSpec)

/-- ITS FALSE NEIGHBOUR: 'it returns false'. Refute it at one input. -/
def fnPassBetweenSendWrong : ChangeSpec := { name := "fnPassBetweenSend", fn := fun _ => fun
  | [d] => { results := [.lit (.bool false)], args := [d] }
  | _ => none }
def FnPassBetweenSendWrongFalsely : Prop := fnPassBetweenSendRow.holds Tryz.pinned (OpenSpec.ofChange fnPassBetweenSendWrong)

/-- 'laws.FnWayOfNone': WHATEVER THE INPUT: true; the input reads as it did. -/
def fnWayOfNoneSpec : ChangeSpec := { name := "fnWayOfNone", fn := fun _ => fun
  | [d] => { results := [.lit (.bool true)], args := [d] }
  | _ => none }
def fnWayOfNoneRow : OpenClaim := { program := "ytppdcglnopoocaagreat", sum := "64df87434c4ad5257e5119cec895118be6cef45fb2a620df27b4f317cf84d138", func := "loop.example/portmapper/laws.FnWayOfNone", spec := "fnWayOfNone", unfollowed := true, recurses := true, apart := false }
def FnWayOfNoneSaid : Prop := fnWayOfNoneRow.holds Tryz.pinned (OpenSpec.ofChange fnWayOfNoneSpec)

/-- ITS FALSE NEIGHBOUR: 'it returns false'. Refute it at one input. -/
def fnWayOfNoneWrong : ChangeSpec := { name := "fnWayOfNone", fn := fun _ => fun
  | [d] => { results := [.lit (.bool false)], args := [d] }
  | _ => none }
def FnWayOfNoneWrongFalsely : Prop := fnWayOfNoneRow.holds Tryz.pinned (OpenSpec.ofChange fnWayOfNoneWrong)

/-- 'laws.FnExactSendOut': WHATEVER THE INPUT: true; the input reads as it did. -/
def fnExactSendOutSpec : ChangeSpec := { name := "fnExactSendOut", fn := fun _ => fun
  | [d1, d2] => { results := [.lit (.bool true)], args := [d1, d2] }
  | _ => none }
def fnExactSendOutRow : OpenClaim := { program := "ytppdcglnopoocaagreat", sum := "64df87434c4ad5257e5119cec895118be6cef45fb2a620df27b4f317cf84d138", func := "loop.example/portmapper/laws.FnExactSendOut", spec := "fnExactSendOut", unfollowed := true, recurses := true, apart := false }
def FnExactSendOutSaid : Prop := fnExactSendOutRow.holds Tryz.pinned (OpenSpec.ofChange fnExactSendOutSpec)

/-- ITS FALSE NEIGHBOUR: 'it returns false'. Refute it at one input. -/
def fnExactSendOutWrong : ChangeSpec := { name := "fnExactSendOut", fn := fun _ => fun
  | [d1, d2] => { results := [.lit (.bool false)], args := [d1, d2] }
  | _ => none }
def FnExactSendOutWrongFalsely : Prop := fnExactSendOutRow.holds Tryz.pinned (OpenSpec.ofChange fnExactSendOutWrong)

/-- 'laws.FnForward': WHATEVER THE INPUT: true; the input reads as it did. -/
def fnForwardSpec : ChangeSpec := { name := "fnForward", fn := fun _ => fun
  | [d] => { results := [.lit (.bool true)], args := [d] }
  | _ => none }
def fnForwardRow : OpenClaim := { program := "ytppdcglnopoocaagreat", sum := "64df87434c4ad5257e5119cec895118be6cef45fb2a620df27b4f317cf84d138", func := "loop.example/portmapper/laws.FnForward", spec := "fnForward", unfollowed := true, recurses := true, apart := false }
def FnForwardSaid : Prop := fnForwardRow.holds Tryz.pinned (OpenSpec.ofChange fnForwardSpec)

/-- ITS FALSE NEIGHBOUR: 'it returns false'. Refute it at one input. -/
def fnForwardWrong : ChangeSpec := { name := "fnForward", fn := fun _ => fun
  | [d] => { results := [.lit (.bool false)], args := [d] }
  | _ => none }
def FnForwardWrongFalsely : Prop := fnForwardRow.holds Tryz.pinned (OpenSpec.ofChange fnForwardWrong)

/-- 'laws.FnForwardTwice': WHATEVER THE INPUT: true; the input reads as it did. -/
def fnForwardTwiceSpec : ChangeSpec := { name := "fnForwardTwice", fn := fun _ => fun
  | [d] => { results := [.lit (.bool true)], args := [d] }
  | _ => none }
def fnForwardTwiceRow : OpenClaim := { program := "ytppdcglnopoocaagreat", sum := "64df87434c4ad5257e5119cec895118be6cef45fb2a620df27b4f317cf84d138", func := "loop.example/portmapper/laws.FnForwardTwice", spec := "fnForwardTwice", unfollowed := true, recurses := true, apart := false }
def FnForwardTwiceSaid : Prop := fnForwardTwiceRow.holds Tryz.pinned (OpenSpec.ofChange fnForwardTwiceSpec)

/-- ITS FALSE NEIGHBOUR: 'it returns false'. Refute it at one input. -/
def fnForwardTwiceWrong : ChangeSpec := { name := "fnForwardTwice", fn := fun _ => fun
  | [d] => { results := [.lit (.bool false)], args := [d] }
  | _ => none }
def FnForwardTwiceWrongFalsely : Prop := fnForwardTwiceRow.holds Tryz.pinned (OpenSpec.ofChange fnForwardTwiceWrong)

/-- 'laws.FnForwardValid': WHATEVER THE INPUT: true; the input reads as it did. -/
def fnForwardValidSpec : ChangeSpec := { name := "fnForwardValid", fn := fun _ => fun
  | [d] => { results := [.lit (.bool true)], args := [d] }
  | _ => none }
def fnForwardValidRow : OpenClaim := { program := "ytppdcglnopoocaagreat", sum := "64df87434c4ad5257e5119cec895118be6cef45fb2a620df27b4f317cf84d138", func := "loop.example/portmapper/laws.FnForwardValid", spec := "fnForwardValid", unfollowed := true, recurses := true, apart := false }
def FnForwardValidSaid : Prop := fnForwardValidRow.holds Tryz.pinned (OpenSpec.ofChange fnForwardValidSpec)

/-- ITS FALSE NEIGHBOUR: 'it returns false'. Refute it at one input. -/
def fnForwardValidWrong : ChangeSpec := { name := "fnForwardValid", fn := fun _ => fun
  | [d] => { results := [.lit (.bool false)], args := [d] }
  | _ => none }
def FnForwardValidWrongFalsely : Prop := fnForwardValidRow.holds Tryz.pinned (OpenSpec.ofChange fnForwardValidWrong)

/-- 'laws.FnExactPassBetween': WHATEVER THE INPUT: true; the input reads as it did. -/
def fnExactPassBetweenSpec : ChangeSpec := { name := "fnExactPassBetween", fn := fun _ => fun
  | [d1, d2] => { results := [.lit (.bool true)], args := [d1, d2] }
  | _ => none }
def fnExactPassBetweenRow : OpenClaim := { program := "ytppdcglnopoocaagreat", sum := "64df87434c4ad5257e5119cec895118be6cef45fb2a620df27b4f317cf84d138", func := "loop.example/portmapper/laws.FnExactPassBetween", spec := "fnExactPassBetween", unfollowed := true, recurses := true, apart := false }
def FnExactPassBetweenSaid : Prop := fnExactPassBetweenRow.holds Tryz.pinned (OpenSpec.ofChange fnExactPassBetweenSpec)

/-- ITS FALSE NEIGHBOUR: 'it returns false'. Refute it at one input. -/
def fnExactPassBetweenWrong : ChangeSpec := { name := "fnExactPassBetween", fn := fun _ => fun
  | [d1, d2] => { results := [.lit (.bool false)], args := [d1, d2] }
  | _ => none }
def FnExactPassBetweenWrongFalsely : Prop := fnExactPassBetweenRow.holds Tryz.pinned (OpenSpec.ofChange fnExactPassBetweenWrong)

/-- 'laws.FnExactForward': WHATEVER THE INPUT: true; the input reads as it did. -/
def fnExactForwardSpec : ChangeSpec := { name := "fnExactForward", fn := fun _ => fun
  | [d1, d2] => { results := [.lit (.bool true)], args := [d1, d2] }
  | _ => none }
def fnExactForwardRow : OpenClaim := { program := "ytppdcglnopoocaagreat", sum := "64df87434c4ad5257e5119cec895118be6cef45fb2a620df27b4f317cf84d138", func := "loop.example/portmapper/laws.FnExactForward", spec := "fnExactForward", unfollowed := true, recurses := true, apart := false }
def FnExactForwardSaid : Prop := fnExactForwardRow.holds Tryz.pinned (OpenSpec.ofChange fnExactForwardSpec)

/-- ITS FALSE NEIGHBOUR: 'it returns false'. Refute it at one input. -/
def fnExactForwardWrong : ChangeSpec := { name := "fnExactForward", fn := fun _ => fun
  | [d1, d2] => { results := [.lit (.bool false)], args := [d1, d2] }
  | _ => none }
def FnExactForwardWrongFalsely : Prop := fnExactForwardRow.holds Tryz.pinned (OpenSpec.ofChange fnExactForwardWrong)

/- THE SECOND FORM. 'bulk': how many values and letters a reading holds, each counted each time it is reached (what is shared counts as often as it is met; a slice's spare places count too). A statement '..UptoSaid' is the law's where the arguments, and the package variables that the reading takes, are together of bulk at most 1048576: NARROWER than '..Said'. Prove '..Said' where nothing that the law and all that it calls make is longer than what came in: it says more and counts as full. Else prove '..UptoSaid'. A law counts once. -/
mutual
def uptoBulk {H : Type} : DataW H → Nat
  | .lit (.string bytes) => bytes.length + 1
  | .lit _ => 1
  | .nil => 1
  | .ptr d => uptoBulk d + 1
  | .slice elems spare => uptoBulkAll elems + uptoBulkAll spare + 1
  | .agg parts => uptoBulkAll parts + 1
  | .iface _ d => uptoBulk d + 1
  | .map entries => uptoBulkEntries entries + 1
  | .held _ => 1
def uptoBulkAll {H : Type} : List (DataW H) → Nat
  | [] => 0
  | d :: r => uptoBulk d + uptoBulkAll r
def uptoBulkEntries {H : Type} : List (Lit × DataW H) → Nat
  | [] => 0
  | x :: r => uptoBulkEntry x + uptoBulkEntries r
def uptoBulkEntry {H : Type} : Lit × DataW H → Nat
  | (.string bytes, d) => bytes.length + uptoBulk d + 1
  | (_, d) => uptoBulk d + 1
 end
def uptoSmall : (H : Type) → List (DataW H) → Bool := fun _ ds => decide (uptoBulkAll ds ≤ 1048576)
def OpenSpec.upto (s : _root_.Go.ChangeSpec) : _root_.Go.OpenSpec := { _root_.Go.OpenSpec.ofChange s with cond := some uptoSmall }

/-- 'laws.FnSendOutTick', WHERE WHAT IT READS IS OF BULK AT MOST 1048576: true; the input reads as it did. -/
def fnSendOutTickUptoRow : OpenClaim := { program := "ytppdcglnopoocaagreat", sum := "64df87434c4ad5257e5119cec895118be6cef45fb2a620df27b4f317cf84d138", func := "loop.example/portmapper/laws.FnSendOutTick", spec := "fnSendOutTick", unfollowed := true, recurses := true, apart := false, narrowed := true }
def FnSendOutTickUptoSaid : Prop := fnSendOutTickUptoRow.holds Tryz.pinned (OpenSpec.upto fnSendOutTickSpec)

/-- 'laws.FnPassBetweenBack', WHERE WHAT IT READS IS OF BULK AT MOST 1048576: true; the input reads as it did. -/
def fnPassBetweenBackUptoRow : OpenClaim := { program := "ytppdcglnopoocaagreat", sum := "64df87434c4ad5257e5119cec895118be6cef45fb2a620df27b4f317cf84d138", func := "loop.example/portmapper/laws.FnPassBetweenBack", spec := "fnPassBetweenBack", unfollowed := true, recurses := true, apart := false, narrowed := true }
def FnPassBetweenBackUptoSaid : Prop := fnPassBetweenBackUptoRow.holds Tryz.pinned (OpenSpec.upto fnPassBetweenBackSpec)

/-- 'laws.FnReceiveInAnswer', WHERE WHAT IT READS IS OF BULK AT MOST 1048576: true; the input reads as it did. -/
def fnReceiveInAnswerUptoRow : OpenClaim := { program := "ytppdcglnopoocaagreat", sum := "64df87434c4ad5257e5119cec895118be6cef45fb2a620df27b4f317cf84d138", func := "loop.example/portmapper/laws.FnReceiveInAnswer", spec := "fnReceiveInAnswer", unfollowed := true, recurses := true, apart := false, narrowed := true }
def FnReceiveInAnswerUptoSaid : Prop := fnReceiveInAnswerUptoRow.holds Tryz.pinned (OpenSpec.upto fnReceiveInAnswerSpec)

/-- 'laws.FnPassBetween', WHERE WHAT IT READS IS OF BULK AT MOST 1048576: true; the input reads as it did. -/
def fnPassBetweenUptoRow : OpenClaim := { program := "ytppdcglnopoocaagreat", sum := "64df87434c4ad5257e5119cec895118be6cef45fb2a620df27b4f317cf84d138", func := "loop.example/portmapper/laws.FnPassBetween", spec := "fnPassBetween", unfollowed := true, recurses := true, apart := false, narrowed := true }
def FnPassBetweenUptoSaid : Prop := fnPassBetweenUptoRow.holds Tryz.pinned (OpenSpec.upto fnPassBetweenSpec)

/-- 'laws.FnPassBetweenSend', WHERE WHAT IT READS IS OF BULK AT MOST 1048576: true; the input reads as it did. -/
def fnPassBetweenSendUptoRow : OpenClaim := { program := "ytppdcglnopoocaagreat", sum := "64df87434c4ad5257e5119cec895118be6cef45fb2a620df27b4f317cf84d138", func := "loop.example/portmapper/laws.FnPassBetweenSend", spec := "fnPassBetweenSend", unfollowed := true, recurses := true, apart := false, narrowed := true }
def FnPassBetweenSendUptoSaid : Prop := fnPassBetweenSendUptoRow.holds Tryz.pinned (OpenSpec.upto fnPassBetweenSendSpec)

/-- 'laws.FnWayOfNone', WHERE WHAT IT READS IS OF BULK AT MOST 1048576: true; the input reads as it did. -/
def fnWayOfNoneUptoRow : OpenClaim := { program := "ytppdcglnopoocaagreat", sum := "64df87434c4ad5257e5119cec895118be6cef45fb2a620df27b4f317cf84d138", func := "loop.example/portmapper/laws.FnWayOfNone", spec := "fnWayOfNone", unfollowed := true, recurses := true, apart := false, narrowed := true }
def FnWayOfNoneUptoSaid : Prop := fnWayOfNoneUptoRow.holds Tryz.pinned (OpenSpec.upto fnWayOfNoneSpec)

/-- 'laws.FnExactSendOut', WHERE WHAT IT READS IS OF BULK AT MOST 1048576: true; the input reads as it did. -/
def fnExactSendOutUptoRow : OpenClaim := { program := "ytppdcglnopoocaagreat", sum := "64df87434c4ad5257e5119cec895118be6cef45fb2a620df27b4f317cf84d138", func := "loop.example/portmapper/laws.FnExactSendOut", spec := "fnExactSendOut", unfollowed := true, recurses := true, apart := false, narrowed := true }
def FnExactSendOutUptoSaid : Prop := fnExactSendOutUptoRow.holds Tryz.pinned (OpenSpec.upto fnExactSendOutSpec)

/-- 'laws.FnForward', WHERE WHAT IT READS IS OF BULK AT MOST 1048576: true; the input reads as it did. -/
def fnForwardUptoRow : OpenClaim := { program := "ytppdcglnopoocaagreat", sum := "64df87434c4ad5257e5119cec895118be6cef45fb2a620df27b4f317cf84d138", func := "loop.example/portmapper/laws.FnForward", spec := "fnForward", unfollowed := true, recurses := true, apart := false, narrowed := true }
def FnForwardUptoSaid : Prop := fnForwardUptoRow.holds Tryz.pinned (OpenSpec.upto fnForwardSpec)

/-- 'laws.FnForwardTwice', WHERE WHAT IT READS IS OF BULK AT MOST 1048576: true; the input reads as it did. -/
def fnForwardTwiceUptoRow : OpenClaim := { program := "ytppdcglnopoocaagreat", sum := "64df87434c4ad5257e5119cec895118be6cef45fb2a620df27b4f317cf84d138", func := "loop.example/portmapper/laws.FnForwardTwice", spec := "fnForwardTwice", unfollowed := true, recurses := true, apart := false, narrowed := true }
def FnForwardTwiceUptoSaid : Prop := fnForwardTwiceUptoRow.holds Tryz.pinned (OpenSpec.upto fnForwardTwiceSpec)

/-- 'laws.FnForwardValid', WHERE WHAT IT READS IS OF BULK AT MOST 1048576: true; the input reads as it did. -/
def fnForwardValidUptoRow : OpenClaim := { program := "ytppdcglnopoocaagreat", sum := "64df87434c4ad5257e5119cec895118be6cef45fb2a620df27b4f317cf84d138", func := "loop.example/portmapper/laws.FnForwardValid", spec := "fnForwardValid", unfollowed := true, recurses := true, apart := false, narrowed := true }
def FnForwardValidUptoSaid : Prop := fnForwardValidUptoRow.holds Tryz.pinned (OpenSpec.upto fnForwardValidSpec)

/-- 'laws.FnExactPassBetween', WHERE WHAT IT READS IS OF BULK AT MOST 1048576: true; the input reads as it did. -/
def fnExactPassBetweenUptoRow : OpenClaim := { program := "ytppdcglnopoocaagreat", sum := "64df87434c4ad5257e5119cec895118be6cef45fb2a620df27b4f317cf84d138", func := "loop.example/portmapper/laws.FnExactPassBetween", spec := "fnExactPassBetween", unfollowed := true, recurses := true, apart := false, narrowed := true }
def FnExactPassBetweenUptoSaid : Prop := fnExactPassBetweenUptoRow.holds Tryz.pinned (OpenSpec.upto fnExactPassBetweenSpec)

/-- 'laws.FnExactForward', WHERE WHAT IT READS IS OF BULK AT MOST 1048576: true; the input reads as it did. -/
def fnExactForwardUptoRow : OpenClaim := { program := "ytppdcglnopoocaagreat", sum := "64df87434c4ad5257e5119cec895118be6cef45fb2a620df27b4f317cf84d138", func := "loop.example/portmapper/laws.FnExactForward", spec := "fnExactForward", unfollowed := true, recurses := true, apart := false, narrowed := true }
def FnExactForwardUptoSaid : Prop := fnExactForwardUptoRow.holds Tryz.pinned (OpenSpec.upto fnExactForwardSpec)

end Rows
end Go.Proofs.YtppdcglnopoocaaGreat
