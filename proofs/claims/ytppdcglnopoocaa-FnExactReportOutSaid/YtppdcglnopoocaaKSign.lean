/- Plain facts of the seat's own start: the word behind the main's sum is 'cut'; so it may be entered, lifts nothing, and is made as a cut. By parts: the kernel run over the whole row of roots outgrows its memory. No condition. -/
import Derived.Test.YtppdcglnopoocaaRows
import Derived.WalkKit
import Derived.ProofKit
namespace Go.Proofs.Ytppdcglnopoocaa
set_option linter.unusedVariables false
set_option linter.unusedSimpArgs false
open Go.RowKit

theorem words_word (r : List Char) : ∀ h : List Char, (∀ c ∈ h, c ≠ Char.ofNat 32) → wordsSigns (h ++ Char.ofNat 32 :: r) = h :: wordsSigns r
  | [], _ => rfl
  | c :: h, hh => by
    have ih := words_word r h (fun x hx => hh x (List.mem_cons_of_mem _ hx))
    rw [List.cons_append, wordsSigns.eq_3 _ _ (fun hc => hh c List.mem_cons_self hc), ih]

theorem stripCut (ws : List (List Char)) : stripLifts liftWords ("cut".toList :: ws) = ([], "cut".toList :: ws) := by
  kernel_rfl

theorem make_of (P : Program) (ws : List (List Char)) (h : behindMainWord (wordsSigns P.initOrder.toList) = "cut".toList :: ws) : P.make = some .cut := by
  unfold Program.make
  rw [h]
  simp only []
  rw [if_neg (by decide +kernel), if_pos]
  have : ("cut".toList == "cut".toList) = true := by decide +kernel
  rw [this]; rfl

theorem enter_of (P : Program) (ws : List (List Char)) (h : behindMainWord (wordsSigns P.initOrder.toList) = "cut".toList :: ws) :
    P.mayEnter = ((false || !P.laysLater) && (false || !P.bearsReflect) && P.doorFits []) := by
  unfold Program.mayEnter
  rw [h]
  simp only [stripCut]
  rw [show ("cut".toList == "gc".toList) = false by decide +kernel, show ("cut".toList == "spec".toList) = false by decide +kernel, show ("cut".toList == "carried".toList) = false by decide +kernel]
  simp

theorem lifts_of (P : Program) (ws : List (List Char)) (h : behindMainWord (wordsSigns P.initOrder.toList) = "cut".toList :: ws) : P.liftsFinal = false := by
  unfold Program.liftsFinal Program.headLifts
  rw [h]
  simp only [stripCut]
  rw [show (("cut".toList :: ws).head? == some "carried".toList) = false by kernel_rfl]
  simp

def sHead : List Char := [104, 97, 114, 110, 101, 115, 115].map Char.ofNat
def sSum : List Char := [100, 50, 57, 97, 56, 48, 54, 52, 102, 56, 55, 102, 50, 100, 54, 57, 57, 55, 98, 53, 53, 53, 56, 54, 56, 54, 100, 101, 101, 55, 102, 50, 102, 97, 102, 100, 50, 56, 48, 55, 102, 100, 100, 50, 56, 51, 98, 50, 51, 49, 55, 98, 50, 97, 49, 101, 50, 53, 99, 99, 56, 50, 50, 101].map Char.ofNat
def sCut : List Char := [99, 117, 116].map Char.ofNat
def sRest : List Char := [97, 116, 32, 108, 111, 111, 112, 46, 101, 120, 97, 109, 112, 108, 101, 47, 112, 111, 114, 116, 109, 97, 112, 112, 101, 114, 47, 108, 97, 119, 115, 46, 70, 110, 82, 101, 99, 101, 105, 118, 101, 73, 110, 70, 105, 108, 116, 101, 114, 32, 108, 111, 111, 112, 46, 101, 120, 97, 109, 112, 108, 101, 47, 112, 111, 114, 116, 109, 97, 112, 112, 101, 114, 47, 108, 97, 119, 115, 46, 70, 110, 82, 101, 99, 101, 105, 118, 101, 73, 110, 32, 108, 111, 111, 112, 46, 101, 120, 97, 109, 112, 108, 101, 47, 112, 111, 114, 116, 109, 97, 112, 112, 101, 114, 47, 108, 97, 119, 115, 46, 70, 110, 83, 101, 110, 100, 79, 117, 116, 67, 111, 110, 116, 97, 99, 116, 32, 108, 111, 111, 112, 46, 101, 120, 97, 109, 112, 108, 101, 47, 112, 111, 114, 116, 109, 97, 112, 112, 101, 114, 47, 108, 97, 119, 115, 46, 70, 110, 83, 101, 110, 100, 79, 117, 116, 69, 110, 100, 115, 32, 108, 111, 111, 112, 46, 101, 120, 97, 109, 112, 108, 101, 47, 112, 111, 114, 116, 109, 97, 112, 112, 101, 114, 47, 108, 97, 119, 115, 46, 70, 110, 83, 101, 110, 100, 79, 117, 116, 84, 119, 105, 99, 101, 32, 108, 111, 111, 112, 46, 101, 120, 97, 109, 112, 108, 101, 47, 112, 111, 114, 116, 109, 97, 112, 112, 101, 114, 47, 108, 97, 119, 115, 46, 70, 110, 83, 101, 110, 100, 79, 117, 116, 32, 108, 111, 111, 112, 46, 101, 120, 97, 109, 112, 108, 101, 47, 112, 111, 114, 116, 109, 97, 112, 112, 101, 114, 47, 108, 97, 119, 115, 46, 70, 110, 69, 120, 97, 99, 116, 82, 101, 112, 111, 114, 116, 73, 110, 32, 108, 111, 111, 112, 46, 101, 120, 97, 109, 112, 108, 101, 47, 112, 111, 114, 116, 109, 97, 112, 112, 101, 114, 47, 108, 97, 119, 115, 46, 70, 110, 82, 101, 99, 101, 105, 118, 101, 73, 110, 78, 111, 110, 101, 32, 108, 111, 111, 112, 46, 101, 120, 97, 109, 112, 108, 101, 47, 112, 111, 114, 116, 109, 97, 112, 112, 101, 114, 47, 108, 97, 119, 115, 46, 70, 110, 82, 101, 112, 111, 114, 116, 79, 117, 116, 82, 101, 99, 101, 105, 118, 101, 32, 108, 111, 111, 112, 46, 101, 120, 97, 109, 112, 108, 101, 47, 112, 111, 114, 116, 109, 97, 112, 112, 101, 114, 47, 108, 97, 119, 115, 46, 70, 110, 69, 120, 97, 99, 116, 82, 101, 112, 111, 114, 116, 79, 117, 116, 32, 108, 111, 111, 112, 46, 101, 120, 97, 109, 112, 108, 101, 47, 112, 111, 114, 116, 109, 97, 112, 112, 101, 114, 47, 108, 97, 119, 115, 46, 70, 110, 83, 101, 110, 100, 79, 117, 116, 70, 117, 108, 108, 32, 108, 111, 111, 112, 46, 101, 120, 97, 109, 112, 108, 101, 47, 112, 111, 114, 116, 109, 97, 112, 112, 101, 114, 47, 108, 97, 119, 115, 46, 70, 110, 82, 101, 112, 111, 114, 116, 73, 110, 83, 101, 110, 100, 32, 108, 111, 111, 112, 46, 101, 120, 97, 109, 112, 108, 101, 47, 112, 111, 114, 116, 109, 97, 112, 112, 101, 114, 47, 108, 97, 119, 115, 46, 70, 110, 83, 101, 110, 100, 79, 117, 116, 65, 110, 115, 119, 101, 114, 32, 108, 111, 111, 112, 46, 101, 120, 97, 109, 112, 108, 101, 47, 112, 111, 114, 116, 109, 97, 112, 112, 101, 114, 47, 108, 97, 119, 115, 46, 70, 110, 69, 120, 97, 99, 116, 82, 101, 99, 101, 105, 118, 101, 73, 110].map Char.ofNat

theorem sOrder : Try.prog.initOrder = String.ofList (sHead ++ Char.ofNat 32 :: (sSum ++ Char.ofNat 32 :: (sCut ++ Char.ofNat 32 :: sRest))) := by kernel_rfl

theorem sMain (ws : List (List Char)) : behindMainWord (sHead :: sSum :: sCut :: ws) = "cut".toList :: ws := by kernel_rfl

theorem sWords : behindMainWord (wordsSigns Try.prog.initOrder.toList) = "cut".toList :: wordsSigns sRest := by
  rw [sOrder, String.toList_ofList, words_word _ _ (by decide +kernel), words_word _ _ (by decide +kernel), words_word _ _ (by decide +kernel), sMain]

theorem sLater : Try.prog.laysLater = false := by kernel_rfl
theorem sReflect : Try.prog.bearsReflect = false := by kernel_rfl
theorem sDoor : Try.prog.doorFits [] = true := by kernel_rfl
theorem sEnter : Try.prog.mayEnter = true := by rw [enter_of _ _ sWords, sLater, sReflect, sDoor]; rfl
theorem sLifts : Try.prog.liftsFinal = false := lifts_of _ _ sWords
theorem sMake : Try.prog.make = some .cut := make_of _ _ sWords
theorem sLaid : laidOutB Try.prog = true := by kernel_rfl
theorem sKeys : Try.prog.plainKeys = true := by kernel_rfl
theorem sHeard : Try.prog.stopsHeard = true := by kernel_rfl

end Go.Proofs.Ytppdcglnopoocaa
