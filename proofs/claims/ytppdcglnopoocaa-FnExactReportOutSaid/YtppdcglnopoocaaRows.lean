/-
  No cell of these rows narrows 'for every input' (looked for: loops, veiled, ifaces, maps, wideKeys, modest, calm, conditions, laid).
  DERIVED. THE GIVEN ROWS OF THIS SEAT. 14 by the template 'for every input the law returns true; each argument reads behind the call as it read before'; 0 by the template 'total and deterministic' (their statements: YtppdcglnopoocaaTotals.lean).
  GIVEN WITH THE SEED: the statements are not yours to turn. If you find one false, say at which input.
  Laid BY PROGRAM, IN A SANDBOX (cutbox-rows.mjs): the forced cells as the released guide's own fill.sh prints them over the translation 9970a5821d2ecf9c… (all of the seat's roots in one cut). By AI agents, Wed Nov 11 2026. No macro, syntax, notation, axiom, sorry.
-/
import Derived.Test.YtppdcglnopoocaaChecked
import GoSem.Claim
import GoSem.ClaimJoined
import GoSem.ClaimMapViews
import Derived.JoinedTies
import Derived.KernelRfl
namespace Go.Proofs.Ytppdcglnopoocaa
/- THE CELL 'sum', in the pinned program and in every row, IS THE sha256 OF THE DUMP (.gsa) THAT YtppdcglnopoocaaProg.lean LOADS. Nothing in Lean hashes anything: it is a label: what it is worth is what the hold of that sum in a sandbox is worth. -/
noncomputable def Try.pinned : Pinned := { name := "ytppdcglnopoocaa", sum := "9970a5821d2ecf9cea0c648dd5cee0d6397652f8f62dd95a450395c28edf6ee3", checked := Try.checked }
namespace Rows
def none {H : Type} : Left H := { results := [], args := [] }

/-- 'laws.FnReceiveInFilter': WHATEVER THE INPUT: true; the input reads as it did. -/
def fnReceiveInFilterSpec : ChangeSpec := { name := "fnReceiveInFilter", fn := fun _ => fun
  | [d] => { results := [.lit (.bool true)], args := [d] }
  | _ => none }
def fnReceiveInFilterRow : OpenClaim := { program := "ytppdcglnopoocaa", sum := "9970a5821d2ecf9cea0c648dd5cee0d6397652f8f62dd95a450395c28edf6ee3", func := "loop.example/portmapper/laws.FnReceiveInFilter", spec := "fnReceiveInFilter", unfollowed := true, recurses := true, apart := false }
def FnReceiveInFilterSaid : Prop := fnReceiveInFilterRow.holds Try.pinned (OpenSpec.ofChange fnReceiveInFilterSpec)

/-- ITS FALSE NEIGHBOUR: 'it returns false'. Refute it at one input. -/
def fnReceiveInFilterWrong : ChangeSpec := { name := "fnReceiveInFilter", fn := fun _ => fun
  | [d] => { results := [.lit (.bool false)], args := [d] }
  | _ => none }
def FnReceiveInFilterWrongFalsely : Prop := fnReceiveInFilterRow.holds Try.pinned (OpenSpec.ofChange fnReceiveInFilterWrong)

/-- 'laws.FnReceiveIn': WHATEVER THE INPUT: true; the input reads as it did. -/
def fnReceiveInSpec : ChangeSpec := { name := "fnReceiveIn", fn := fun _ => fun
  | [d] => { results := [.lit (.bool true)], args := [d] }
  | _ => none }
def fnReceiveInRow : OpenClaim := { program := "ytppdcglnopoocaa", sum := "9970a5821d2ecf9cea0c648dd5cee0d6397652f8f62dd95a450395c28edf6ee3", func := "loop.example/portmapper/laws.FnReceiveIn", spec := "fnReceiveIn", unfollowed := true, recurses := true, apart := false }
def FnReceiveInSaid : Prop := fnReceiveInRow.holds Try.pinned (OpenSpec.ofChange fnReceiveInSpec)

/-- ITS FALSE NEIGHBOUR: 'it returns false'. Refute it at one input. -/
def fnReceiveInWrong : ChangeSpec := { name := "fnReceiveIn", fn := fun _ => fun
  | [d] => { results := [.lit (.bool false)], args := [d] }
  | _ => none }
def FnReceiveInWrongFalsely : Prop := fnReceiveInRow.holds Try.pinned (OpenSpec.ofChange fnReceiveInWrong)

/-- 'laws.FnSendOutContact': WHATEVER THE INPUT: true; the input reads as it did. -/
def fnSendOutContactSpec : ChangeSpec := { name := "fnSendOutContact", fn := fun _ => fun
  | [d] => { results := [.lit (.bool true)], args := [d] }
  | _ => none }
def fnSendOutContactRow : OpenClaim := { program := "ytppdcglnopoocaa", sum := "9970a5821d2ecf9cea0c648dd5cee0d6397652f8f62dd95a450395c28edf6ee3", func := "loop.example/portmapper/laws.FnSendOutContact", spec := "fnSendOutContact", unfollowed := true, recurses := true, apart := false }
def FnSendOutContactSaid : Prop := fnSendOutContactRow.holds Try.pinned (OpenSpec.ofChange fnSendOutContactSpec)

/-- ITS FALSE NEIGHBOUR: 'it returns false'. Refute it at one input. -/
def fnSendOutContactWrong : ChangeSpec := { name := "fnSendOutContact", fn := fun _ => fun
  | [d] => { results := [.lit (.bool false)], args := [d] }
  | _ => none }
def FnSendOutContactWrongFalsely : Prop := fnSendOutContactRow.holds Try.pinned (OpenSpec.ofChange fnSendOutContactWrong)

/-- 'laws.FnSendOutEnds': WHATEVER THE INPUT: true; the input reads as it did. -/
def fnSendOutEndsSpec : ChangeSpec := { name := "fnSendOutEnds", fn := fun _ => fun
  | [d] => { results := [.lit (.bool true)], args := [d] }
  | _ => none }
def fnSendOutEndsRow : OpenClaim := { program := "ytppdcglnopoocaa", sum := "9970a5821d2ecf9cea0c648dd5cee0d6397652f8f62dd95a450395c28edf6ee3", func := "loop.example/portmapper/laws.FnSendOutEnds", spec := "fnSendOutEnds", unfollowed := true, recurses := true, apart := false }
def FnSendOutEndsSaid : Prop := fnSendOutEndsRow.holds Try.pinned (OpenSpec.ofChange fnSendOutEndsSpec)

/-- ITS FALSE NEIGHBOUR: 'it returns false'. Refute it at one input. -/
def fnSendOutEndsWrong : ChangeSpec := { name := "fnSendOutEnds", fn := fun _ => fun
  | [d] => { results := [.lit (.bool false)], args := [d] }
  | _ => none }
def FnSendOutEndsWrongFalsely : Prop := fnSendOutEndsRow.holds Try.pinned (OpenSpec.ofChange fnSendOutEndsWrong)

/-- 'laws.FnSendOutTwice': WHATEVER THE INPUT: true; the input reads as it did. -/
def fnSendOutTwiceSpec : ChangeSpec := { name := "fnSendOutTwice", fn := fun _ => fun
  | [d] => { results := [.lit (.bool true)], args := [d] }
  | _ => none }
def fnSendOutTwiceRow : OpenClaim := { program := "ytppdcglnopoocaa", sum := "9970a5821d2ecf9cea0c648dd5cee0d6397652f8f62dd95a450395c28edf6ee3", func := "loop.example/portmapper/laws.FnSendOutTwice", spec := "fnSendOutTwice", unfollowed := true, recurses := true, apart := false }
def FnSendOutTwiceSaid : Prop := fnSendOutTwiceRow.holds Try.pinned (OpenSpec.ofChange fnSendOutTwiceSpec)

/-- ITS FALSE NEIGHBOUR: 'it returns false'. Refute it at one input. -/
def fnSendOutTwiceWrong : ChangeSpec := { name := "fnSendOutTwice", fn := fun _ => fun
  | [d] => { results := [.lit (.bool false)], args := [d] }
  | _ => none }
def FnSendOutTwiceWrongFalsely : Prop := fnSendOutTwiceRow.holds Try.pinned (OpenSpec.ofChange fnSendOutTwiceWrong)

/-- 'laws.FnSendOut': WHATEVER THE INPUT: true; the input reads as it did. -/
def fnSendOutSpec : ChangeSpec := { name := "fnSendOut", fn := fun _ => fun
  | [d] => { results := [.lit (.bool true)], args := [d] }
  | _ => none }
def fnSendOutRow : OpenClaim := { program := "ytppdcglnopoocaa", sum := "9970a5821d2ecf9cea0c648dd5cee0d6397652f8f62dd95a450395c28edf6ee3", func := "loop.example/portmapper/laws.FnSendOut", spec := "fnSendOut", unfollowed := true, recurses := true, apart := false }
def FnSendOutSaid : Prop := fnSendOutRow.holds Try.pinned (OpenSpec.ofChange fnSendOutSpec)

/-- ITS FALSE NEIGHBOUR: 'it returns false'. Refute it at one input. -/
def fnSendOutWrong : ChangeSpec := { name := "fnSendOut", fn := fun _ => fun
  | [d] => { results := [.lit (.bool false)], args := [d] }
  | _ => none }
def FnSendOutWrongFalsely : Prop := fnSendOutRow.holds Try.pinned (OpenSpec.ofChange fnSendOutWrong)

/-- 'laws.FnExactReportIn': WHATEVER THE INPUT: true; the input reads as it did. -/
def fnExactReportInSpec : ChangeSpec := { name := "fnExactReportIn", fn := fun _ => fun
  | [d1, d2] => { results := [.lit (.bool true)], args := [d1, d2] }
  | _ => none }
def fnExactReportInRow : OpenClaim := { program := "ytppdcglnopoocaa", sum := "9970a5821d2ecf9cea0c648dd5cee0d6397652f8f62dd95a450395c28edf6ee3", func := "loop.example/portmapper/laws.FnExactReportIn", spec := "fnExactReportIn", unfollowed := true, recurses := true, apart := false }
def FnExactReportInSaid : Prop := fnExactReportInRow.holds Try.pinned (OpenSpec.ofChange fnExactReportInSpec)

/-- ITS FALSE NEIGHBOUR: 'it returns false'. Refute it at one input. -/
def fnExactReportInWrong : ChangeSpec := { name := "fnExactReportIn", fn := fun _ => fun
  | [d1, d2] => { results := [.lit (.bool false)], args := [d1, d2] }
  | _ => none }
def FnExactReportInWrongFalsely : Prop := fnExactReportInRow.holds Try.pinned (OpenSpec.ofChange fnExactReportInWrong)

/-- 'laws.FnReceiveInNone': WHATEVER THE INPUT: true; the input reads as it did. -/
def fnReceiveInNoneSpec : ChangeSpec := { name := "fnReceiveInNone", fn := fun _ => fun
  | [d] => { results := [.lit (.bool true)], args := [d] }
  | _ => none }
def fnReceiveInNoneRow : OpenClaim := { program := "ytppdcglnopoocaa", sum := "9970a5821d2ecf9cea0c648dd5cee0d6397652f8f62dd95a450395c28edf6ee3", func := "loop.example/portmapper/laws.FnReceiveInNone", spec := "fnReceiveInNone", unfollowed := true, recurses := true, apart := false }
def FnReceiveInNoneSaid : Prop := fnReceiveInNoneRow.holds Try.pinned (OpenSpec.ofChange fnReceiveInNoneSpec)

/-- ITS FALSE NEIGHBOUR: 'it returns false'. Refute it at one input. -/
def fnReceiveInNoneWrong : ChangeSpec := { name := "fnReceiveInNone", fn := fun _ => fun
  | [d] => { results := [.lit (.bool false)], args := [d] }
  | _ => none }
def FnReceiveInNoneWrongFalsely : Prop := fnReceiveInNoneRow.holds Try.pinned (OpenSpec.ofChange fnReceiveInNoneWrong)

/-- 'laws.FnReportOutReceive': WHATEVER THE INPUT: true; the input reads as it did. -/
def fnReportOutReceiveSpec : ChangeSpec := { name := "fnReportOutReceive", fn := fun _ => fun
  | [d] => { results := [.lit (.bool true)], args := [d] }
  | _ => none }
def fnReportOutReceiveRow : OpenClaim := { program := "ytppdcglnopoocaa", sum := "9970a5821d2ecf9cea0c648dd5cee0d6397652f8f62dd95a450395c28edf6ee3", func := "loop.example/portmapper/laws.FnReportOutReceive", spec := "fnReportOutReceive", unfollowed := true, recurses := true, apart := false }
def FnReportOutReceiveSaid : Prop := fnReportOutReceiveRow.holds Try.pinned (OpenSpec.ofChange fnReportOutReceiveSpec)

/-- ITS FALSE NEIGHBOUR: 'it returns false'. Refute it at one input. -/
def fnReportOutReceiveWrong : ChangeSpec := { name := "fnReportOutReceive", fn := fun _ => fun
  | [d] => { results := [.lit (.bool false)], args := [d] }
  | _ => none }
def FnReportOutReceiveWrongFalsely : Prop := fnReportOutReceiveRow.holds Try.pinned (OpenSpec.ofChange fnReportOutReceiveWrong)

/-- 'laws.FnExactReportOut': WHATEVER THE INPUT: true; the input reads as it did. -/
def fnExactReportOutSpec : ChangeSpec := { name := "fnExactReportOut", fn := fun _ => fun
  | [d1, d2] => { results := [.lit (.bool true)], args := [d1, d2] }
  | _ => none }
def fnExactReportOutRow : OpenClaim := { program := "ytppdcglnopoocaa", sum := "9970a5821d2ecf9cea0c648dd5cee0d6397652f8f62dd95a450395c28edf6ee3", func := "loop.example/portmapper/laws.FnExactReportOut", spec := "fnExactReportOut", unfollowed := true, recurses := true, apart := false }
def FnExactReportOutSaid : Prop := fnExactReportOutRow.holds Try.pinned (OpenSpec.ofChange fnExactReportOutSpec)

/-- ITS FALSE NEIGHBOUR: 'it returns false'. Refute it at one input. -/
def fnExactReportOutWrong : ChangeSpec := { name := "fnExactReportOut", fn := fun _ => fun
  | [d1, d2] => { results := [.lit (.bool false)], args := [d1, d2] }
  | _ => none }
def FnExactReportOutWrongFalsely : Prop := fnExactReportOutRow.holds Try.pinned (OpenSpec.ofChange fnExactReportOutWrong)

/-- 'laws.FnSendOutFull': WHATEVER THE INPUT: true; the input reads as it did. -/
def fnSendOutFullSpec : ChangeSpec := { name := "fnSendOutFull", fn := fun _ => fun
  | [d] => { results := [.lit (.bool true)], args := [d] }
  | _ => none }
def fnSendOutFullRow : OpenClaim := { program := "ytppdcglnopoocaa", sum := "9970a5821d2ecf9cea0c648dd5cee0d6397652f8f62dd95a450395c28edf6ee3", func := "loop.example/portmapper/laws.FnSendOutFull", spec := "fnSendOutFull", unfollowed := true, recurses := true, apart := false }
def FnSendOutFullSaid : Prop := fnSendOutFullRow.holds Try.pinned (OpenSpec.ofChange fnSendOutFullSpec)

/-- ITS FALSE NEIGHBOUR: 'it returns false'. Refute it at one input. -/
def fnSendOutFullWrong : ChangeSpec := { name := "fnSendOutFull", fn := fun _ => fun
  | [d] => { results := [.lit (.bool false)], args := [d] }
  | _ => none }
def FnSendOutFullWrongFalsely : Prop := fnSendOutFullRow.holds Try.pinned (OpenSpec.ofChange fnSendOutFullWrong)

/-- 'laws.FnReportInSend': WHATEVER THE INPUT: true; the input reads as it did. -/
def fnReportInSendSpec : ChangeSpec := { name := "fnReportInSend", fn := fun _ => fun
  | [d] => { results := [.lit (.bool true)], args := [d] }
  | _ => none }
def fnReportInSendRow : OpenClaim := { program := "ytppdcglnopoocaa", sum := "9970a5821d2ecf9cea0c648dd5cee0d6397652f8f62dd95a450395c28edf6ee3", func := "loop.example/portmapper/laws.FnReportInSend", spec := "fnReportInSend", unfollowed := true, recurses := true, apart := false }
def FnReportInSendSaid : Prop := fnReportInSendRow.holds Try.pinned (OpenSpec.ofChange fnReportInSendSpec)

/-- ITS FALSE NEIGHBOUR: 'it returns false'. Refute it at one input. -/
def fnReportInSendWrong : ChangeSpec := { name := "fnReportInSend", fn := fun _ => fun
  | [d] => { results := [.lit (.bool false)], args := [d] }
  | _ => none }
def FnReportInSendWrongFalsely : Prop := fnReportInSendRow.holds Try.pinned (OpenSpec.ofChange fnReportInSendWrong)

/-- 'laws.FnSendOutAnswer': WHATEVER THE INPUT: true; the input reads as it did. -/
def fnSendOutAnswerSpec : ChangeSpec := { name := "fnSendOutAnswer", fn := fun _ => fun
  | [d] => { results := [.lit (.bool true)], args := [d] }
  | _ => none }
def fnSendOutAnswerRow : OpenClaim := { program := "ytppdcglnopoocaa", sum := "9970a5821d2ecf9cea0c648dd5cee0d6397652f8f62dd95a450395c28edf6ee3", func := "loop.example/portmapper/laws.FnSendOutAnswer", spec := "fnSendOutAnswer", unfollowed := true, recurses := true, apart := false }
def FnSendOutAnswerSaid : Prop := fnSendOutAnswerRow.holds Try.pinned (OpenSpec.ofChange fnSendOutAnswerSpec)

/-- ITS FALSE NEIGHBOUR: 'it returns false'. Refute it at one input. -/
def fnSendOutAnswerWrong : ChangeSpec := { name := "fnSendOutAnswer", fn := fun _ => fun
  | [d] => { results := [.lit (.bool false)], args := [d] }
  | _ => none }
def FnSendOutAnswerWrongFalsely : Prop := fnSendOutAnswerRow.holds Try.pinned (OpenSpec.ofChange fnSendOutAnswerWrong)

/-- 'laws.FnExactReceiveIn': WHATEVER THE INPUT: true; the input reads as it did. -/
def fnExactReceiveInSpec : ChangeSpec := { name := "fnExactReceiveIn", fn := fun _ => fun
  | [d1, d2] => { results := [.lit (.bool true)], args := [d1, d2] }
  | _ => none }
def fnExactReceiveInRow : OpenClaim := { program := "ytppdcglnopoocaa", sum := "9970a5821d2ecf9cea0c648dd5cee0d6397652f8f62dd95a450395c28edf6ee3", func := "loop.example/portmapper/laws.FnExactReceiveIn", spec := "fnExactReceiveIn", unfollowed := true, recurses := true, apart := false }
def FnExactReceiveInSaid : Prop := fnExactReceiveInRow.holds Try.pinned (OpenSpec.ofChange fnExactReceiveInSpec)

/-- ITS FALSE NEIGHBOUR: 'it returns false'. Refute it at one input. -/
def fnExactReceiveInWrong : ChangeSpec := { name := "fnExactReceiveIn", fn := fun _ => fun
  | [d1, d2] => { results := [.lit (.bool false)], args := [d1, d2] }
  | _ => none }
def FnExactReceiveInWrongFalsely : Prop := fnExactReceiveInRow.holds Try.pinned (OpenSpec.ofChange fnExactReceiveInWrong)

/- THE SECOND FORM. 'bulk': how many values and letters a reading holds, each counted each time it is reached (what is shared counts as often as it is met; a slice's spare places count too). A statement '..UptoSaid' is the law's where the arguments, and the package variables that the reading takes, are together of bulk at most 1048576: NARROWER than '..Said'. Prove '..Said' where nothing that the law and all that it calls make is longer than what came in: it says more and counts as full. Else prove '..UptoSaid'. A law counts once. -/
mutual
def uptoBulk {H : Type} : DataW H → Nat
  | .lit (.string bytes) => bytes.length + 1
  | .lit _ => 1
  | .nil => 1
  | .ptr d => uptoBulk d + 1
  | .slice elems spare => uptoBulkAll elems + uptoBulkAll spare + 1
  | .agg parts => uptoBulkAll parts + 1
  | .iface _ d => uptoBulk d + 1
  | .map entries => uptoBulkEntries entries + 1
  | .held _ => 1
def uptoBulkAll {H : Type} : List (DataW H) → Nat
  | [] => 0
  | d :: r => uptoBulk d + uptoBulkAll r
def uptoBulkEntries {H : Type} : List (Lit × DataW H) → Nat
  | [] => 0
  | x :: r => uptoBulkEntry x + uptoBulkEntries r
def uptoBulkEntry {H : Type} : Lit × DataW H → Nat
  | (.string bytes, d) => bytes.length + uptoBulk d + 1
  | (_, d) => uptoBulk d + 1
 end
def uptoSmall : (H : Type) → List (DataW H) → Bool := fun _ ds => decide (uptoBulkAll ds ≤ 1048576)
def OpenSpec.upto (s : _root_.Go.ChangeSpec) : _root_.Go.OpenSpec := { _root_.Go.OpenSpec.ofChange s with cond := some uptoSmall }

/-- 'laws.FnReceiveInFilter', WHERE WHAT IT READS IS OF BULK AT MOST 1048576: true; the input reads as it did. -/
def fnReceiveInFilterUptoRow : OpenClaim := { program := "ytppdcglnopoocaa", sum := "9970a5821d2ecf9cea0c648dd5cee0d6397652f8f62dd95a450395c28edf6ee3", func := "loop.example/portmapper/laws.FnReceiveInFilter", spec := "fnReceiveInFilter", unfollowed := true, recurses := true, apart := false, narrowed := true }
def FnReceiveInFilterUptoSaid : Prop := fnReceiveInFilterUptoRow.holds Try.pinned (OpenSpec.upto fnReceiveInFilterSpec)

/-- 'laws.FnReceiveIn', WHERE WHAT IT READS IS OF BULK AT MOST 1048576: true; the input reads as it did. -/
def fnReceiveInUptoRow : OpenClaim := { program := "ytppdcglnopoocaa", sum := "9970a5821d2ecf9cea0c648dd5cee0d6397652f8f62dd95a450395c28edf6ee3", func := "loop.example/portmapper/laws.FnReceiveIn", spec := "fnReceiveIn", unfollowed := true, recurses := true, apart := false, narrowed := true }
def FnReceiveInUptoSaid : Prop := fnReceiveInUptoRow.holds Try.pinned (OpenSpec.upto fnReceiveInSpec)

/-- 'laws.FnSendOutContact', WHERE WHAT IT READS IS OF BULK AT MOST 1048576: true; the input reads as it did. -/
def fnSendOutContactUptoRow : OpenClaim := { program := "ytppdcglnopoocaa", sum := "9970a5821d2ecf9cea0c648dd5cee0d6397652f8f62dd95a450395c28edf6ee3", func := "loop.example/portmapper/laws.FnSendOutContact", spec := "fnSendOutContact", unfollowed := true, recurses := true, apart := false, narrowed := true }
def FnSendOutContactUptoSaid : Prop := fnSendOutContactUptoRow.holds Try.pinned (OpenSpec.upto fnSendOutContactSpec)

/-- 'laws.FnSendOutEnds', WHERE WHAT IT READS IS OF BULK AT MOST 1048576: true; the input reads as it did. -/
def fnSendOutEndsUptoRow : OpenClaim := { program := "ytppdcglnopoocaa", sum := "9970a5821d2ecf9cea0c648dd5cee0d6397652f8f62dd95a450395c28edf6ee3", func := "loop.example/portmapper/laws.FnSendOutEnds", spec := "fnSendOutEnds", unfollowed := true, recurses := true, apart := false, narrowed := true }
def FnSendOutEndsUptoSaid : Prop := fnSendOutEndsUptoRow.holds Try.pinned (OpenSpec.upto fnSendOutEndsSpec)

/-- 'laws.FnSendOutTwice', WHERE WHAT IT READS IS OF BULK AT MOST 1048576: true; the input reads as it did. -/
def fnSendOutTwiceUptoRow : OpenClaim := { program := "ytppdcglnopoocaa", sum := "9970a5821d2ecf9cea0c648dd5cee0d6397652f8f62dd95a450395c28edf6ee3", func := "loop.example/portmapper/laws.FnSendOutTwice", spec := "fnSendOutTwice", unfollowed := true, recurses := true, apart := false, narrowed := true }
def FnSendOutTwiceUptoSaid : Prop := fnSendOutTwiceUptoRow.holds Try.pinned (OpenSpec.upto fnSendOutTwiceSpec)

/-- 'laws.FnSendOut', WHERE WHAT IT READS IS OF BULK AT MOST 1048576: true; the input reads as it did. -/
def fnSendOutUptoRow : OpenClaim := { program := "ytppdcglnopoocaa", sum := "9970a5821d2ecf9cea0c648dd5cee0d6397652f8f62dd95a450395c28edf6ee3", func := "loop.example/portmapper/laws.FnSendOut", spec := "fnSendOut", unfollowed := true, recurses := true, apart := false, narrowed := true }
def FnSendOutUptoSaid : Prop := fnSendOutUptoRow.holds Try.pinned (OpenSpec.upto fnSendOutSpec)

/-- 'laws.FnExactReportIn', WHERE WHAT IT READS IS OF BULK AT MOST 1048576: true; the input reads as it did. -/
def fnExactReportInUptoRow : OpenClaim := { program := "ytppdcglnopoocaa", sum := "9970a5821d2ecf9cea0c648dd5cee0d6397652f8f62dd95a450395c28edf6ee3", func := "loop.example/portmapper/laws.FnExactReportIn", spec := "fnExactReportIn", unfollowed := true, recurses := true, apart := false, narrowed := true }
def FnExactReportInUptoSaid : Prop := fnExactReportInUptoRow.holds Try.pinned (OpenSpec.upto fnExactReportInSpec)

/-- 'laws.FnReceiveInNone', WHERE WHAT IT READS IS OF BULK AT MOST 1048576: true; the input reads as it did. -/
def fnReceiveInNoneUptoRow : OpenClaim := { program := "ytppdcglnopoocaa", sum := "9970a5821d2ecf9cea0c648dd5cee0d6397652f8f62dd95a450395c28edf6ee3", func := "loop.example/portmapper/laws.FnReceiveInNone", spec := "fnReceiveInNone", unfollowed := true, recurses := true, apart := false, narrowed := true }
def FnReceiveInNoneUptoSaid : Prop := fnReceiveInNoneUptoRow.holds Try.pinned (OpenSpec.upto fnReceiveInNoneSpec)

/-- 'laws.FnReportOutReceive', WHERE WHAT IT READS IS OF BULK AT MOST 1048576: true; the input reads as it did. -/
def fnReportOutReceiveUptoRow : OpenClaim := { program := "ytppdcglnopoocaa", sum := "9970a5821d2ecf9cea0c648dd5cee0d6397652f8f62dd95a450395c28edf6ee3", func := "loop.example/portmapper/laws.FnReportOutReceive", spec := "fnReportOutReceive", unfollowed := true, recurses := true, apart := false, narrowed := true }
def FnReportOutReceiveUptoSaid : Prop := fnReportOutReceiveUptoRow.holds Try.pinned (OpenSpec.upto fnReportOutReceiveSpec)

/-- 'laws.FnExactReportOut', WHERE WHAT IT READS IS OF BULK AT MOST 1048576: true; the input reads as it did. -/
def fnExactReportOutUptoRow : OpenClaim := { program := "ytppdcglnopoocaa", sum := "9970a5821d2ecf9cea0c648dd5cee0d6397652f8f62dd95a450395c28edf6ee3", func := "loop.example/portmapper/laws.FnExactReportOut", spec := "fnExactReportOut", unfollowed := true, recurses := true, apart := false, narrowed := true }
def FnExactReportOutUptoSaid : Prop := fnExactReportOutUptoRow.holds Try.pinned (OpenSpec.upto fnExactReportOutSpec)

/-- 'laws.FnSendOutFull', WHERE WHAT IT READS IS OF BULK AT MOST 1048576: true; the input reads as it did. -/
def fnSendOutFullUptoRow : OpenClaim := { program := "ytppdcglnopoocaa", sum := "9970a5821d2ecf9cea0c648dd5cee0d6397652f8f62dd95a450395c28edf6ee3", func := "loop.example/portmapper/laws.FnSendOutFull", spec := "fnSendOutFull", unfollowed := true, recurses := true, apart := false, narrowed := true }
def FnSendOutFullUptoSaid : Prop := fnSendOutFullUptoRow.holds Try.pinned (OpenSpec.upto fnSendOutFullSpec)

/-- 'laws.FnReportInSend', WHERE WHAT IT READS IS OF BULK AT MOST 1048576: true; the input reads as it did. -/
def fnReportInSendUptoRow : OpenClaim := { program := "ytppdcglnopoocaa", sum := "9970a5821d2ecf9cea0c648dd5cee0d6397652f8f62dd95a450395c28edf6ee3", func := "loop.example/portmapper/laws.FnReportInSend", spec := "fnReportInSend", unfollowed := true, recurses := true, apart := false, narrowed := true }
def FnReportInSendUptoSaid : Prop := fnReportInSendUptoRow.holds Try.pinned (OpenSpec.upto fnReportInSendSpec)

/-- 'laws.FnSendOutAnswer', WHERE WHAT IT READS IS OF BULK AT MOST 1048576: true; the input reads as it did. -/
def fnSendOutAnswerUptoRow : OpenClaim := { program := "ytppdcglnopoocaa", sum := "9970a5821d2ecf9cea0c648dd5cee0d6397652f8f62dd95a450395c28edf6ee3", func := "loop.example/portmapper/laws.FnSendOutAnswer", spec := "fnSendOutAnswer", unfollowed := true, recurses := true, apart := false, narrowed := true }
def FnSendOutAnswerUptoSaid : Prop := fnSendOutAnswerUptoRow.holds Try.pinned (OpenSpec.upto fnSendOutAnswerSpec)

/-- 'laws.FnExactReceiveIn', WHERE WHAT IT READS IS OF BULK AT MOST 1048576: true; the input reads as it did. -/
def fnExactReceiveInUptoRow : OpenClaim := { program := "ytppdcglnopoocaa", sum := "9970a5821d2ecf9cea0c648dd5cee0d6397652f8f62dd95a450395c28edf6ee3", func := "loop.example/portmapper/laws.FnExactReceiveIn", spec := "fnExactReceiveIn", unfollowed := true, recurses := true, apart := false, narrowed := true }
def FnExactReceiveInUptoSaid : Prop := fnExactReceiveInUptoRow.holds Try.pinned (OpenSpec.upto fnExactReceiveInSpec)

end Rows
end Go.Proofs.Ytppdcglnopoocaa
