/- Plain facts of the seat's own start: the word behind the main's sum is 'cut'; so it may be entered, lifts nothing, and is made as a cut. By parts: the kernel run over the whole row of roots outgrows its memory. No condition. -/
import Derived.Test.YtppdcglnopoocaaGreatRows
import Derived.WalkKit
import Derived.ProofKit
namespace Go.Proofs.YtppdcglnopoocaaGreat
set_option linter.unusedVariables false
set_option linter.unusedSimpArgs false
open Go.RowKit

theorem words_word (r : List Char) : ∀ h : List Char, (∀ c ∈ h, c ≠ Char.ofNat 32) → wordsSigns (h ++ Char.ofNat 32 :: r) = h :: wordsSigns r
  | [], _ => rfl
  | c :: h, hh => by
    have ih := words_word r h (fun x hx => hh x (List.mem_cons_of_mem _ hx))
    rw [List.cons_append, wordsSigns.eq_3 _ _ (fun hc => hh c List.mem_cons_self hc), ih]

theorem stripCut (ws : List (List Char)) : stripLifts liftWords ("cut".toList :: ws) = ([], "cut".toList :: ws) := by
  kernel_rfl

theorem make_of (P : Program) (ws : List (List Char)) (h : behindMainWord (wordsSigns P.initOrder.toList) = "cut".toList :: ws) : P.make = some .cut := by
  unfold Program.make
  rw [h]
  simp only []
  rw [if_neg (by decide +kernel), if_pos]
  have : ("cut".toList == "cut".toList) = true := by decide +kernel
  rw [this]; rfl

theorem enter_of (P : Program) (ws : List (List Char)) (h : behindMainWord (wordsSigns P.initOrder.toList) = "cut".toList :: ws) :
    P.mayEnter = ((false || !P.laysLater) && (false || !P.bearsReflect) && P.doorFits []) := by
  unfold Program.mayEnter
  rw [h]
  simp only [stripCut]
  rw [show ("cut".toList == "gc".toList) = false by decide +kernel, show ("cut".toList == "spec".toList) = false by decide +kernel, show ("cut".toList == "carried".toList) = false by decide +kernel]
  simp

theorem lifts_of (P : Program) (ws : List (List Char)) (h : behindMainWord (wordsSigns P.initOrder.toList) = "cut".toList :: ws) : P.liftsFinal = false := by
  unfold Program.liftsFinal Program.headLifts
  rw [h]
  simp only [stripCut]
  rw [show (("cut".toList :: ws).head? == some "carried".toList) = false by kernel_rfl]
  simp

def sHead : List Char := [104, 97, 114, 110, 101, 115, 115].map Char.ofNat
def sSum : List Char := [99, 97, 52, 99, 53, 49, 51, 55, 49, 53, 54, 56, 55, 101, 99, 99, 56, 101, 49, 102, 101, 51, 102, 55, 100, 51, 57, 48, 99, 49, 98, 54, 53, 50, 97, 50, 48, 98, 50, 97, 101, 53, 97, 51, 56, 101, 51, 51, 102, 55, 55, 99, 57, 51, 98, 56, 54, 48, 55, 56, 101, 97, 49, 98].map Char.ofNat
def sCut : List Char := [99, 117, 116].map Char.ofNat
def sRest : List Char := [97, 116, 32, 108, 111, 111, 112, 46, 101, 120, 97, 109, 112, 108, 101, 47, 112, 111, 114, 116, 109, 97, 112, 112, 101, 114, 47, 108, 97, 119, 115, 46, 70, 110, 83, 101, 110, 100, 79, 117, 116, 84, 105, 99, 107, 32, 108, 111, 111, 112, 46, 101, 120, 97, 109, 112, 108, 101, 47, 112, 111, 114, 116, 109, 97, 112, 112, 101, 114, 47, 108, 97, 119, 115, 46, 70, 110, 80, 97, 115, 115, 66, 101, 116, 119, 101, 101, 110, 66, 97, 99, 107, 32, 108, 111, 111, 112, 46, 101, 120, 97, 109, 112, 108, 101, 47, 112, 111, 114, 116, 109, 97, 112, 112, 101, 114, 47, 108, 97, 119, 115, 46, 70, 110, 82, 101, 99, 101, 105, 118, 101, 73, 110, 65, 110, 115, 119, 101, 114, 32, 108, 111, 111, 112, 46, 101, 120, 97, 109, 112, 108, 101, 47, 112, 111, 114, 116, 109, 97, 112, 112, 101, 114, 47, 108, 97, 119, 115, 46, 70, 110, 80, 97, 115, 115, 66, 101, 116, 119, 101, 101, 110, 32, 108, 111, 111, 112, 46, 101, 120, 97, 109, 112, 108, 101, 47, 112, 111, 114, 116, 109, 97, 112, 112, 101, 114, 47, 108, 97, 119, 115, 46, 70, 110, 80, 97, 115, 115, 66, 101, 116, 119, 101, 101, 110, 83, 101, 110, 100, 32, 108, 111, 111, 112, 46, 101, 120, 97, 109, 112, 108, 101, 47, 112, 111, 114, 116, 109, 97, 112, 112, 101, 114, 47, 108, 97, 119, 115, 46, 70, 110, 87, 97, 121, 79, 102, 78, 111, 110, 101, 32, 108, 111, 111, 112, 46, 101, 120, 97, 109, 112, 108, 101, 47, 112, 111, 114, 116, 109, 97, 112, 112, 101, 114, 47, 108, 97, 119, 115, 46, 70, 110, 69, 120, 97, 99, 116, 83, 101, 110, 100, 79, 117, 116, 32, 108, 111, 111, 112, 46, 101, 120, 97, 109, 112, 108, 101, 47, 112, 111, 114, 116, 109, 97, 112, 112, 101, 114, 47, 108, 97, 119, 115, 46, 70, 110, 70, 111, 114, 119, 97, 114, 100, 32, 108, 111, 111, 112, 46, 101, 120, 97, 109, 112, 108, 101, 47, 112, 111, 114, 116, 109, 97, 112, 112, 101, 114, 47, 108, 97, 119, 115, 46, 70, 110, 70, 111, 114, 119, 97, 114, 100, 84, 119, 105, 99, 101, 32, 108, 111, 111, 112, 46, 101, 120, 97, 109, 112, 108, 101, 47, 112, 111, 114, 116, 109, 97, 112, 112, 101, 114, 47, 108, 97, 119, 115, 46, 70, 110, 70, 111, 114, 119, 97, 114, 100, 86, 97, 108, 105, 100, 32, 108, 111, 111, 112, 46, 101, 120, 97, 109, 112, 108, 101, 47, 112, 111, 114, 116, 109, 97, 112, 112, 101, 114, 47, 108, 97, 119, 115, 46, 70, 110, 69, 120, 97, 99, 116, 80, 97, 115, 115, 66, 101, 116, 119, 101, 101, 110, 32, 108, 111, 111, 112, 46, 101, 120, 97, 109, 112, 108, 101, 47, 112, 111, 114, 116, 109, 97, 112, 112, 101, 114, 47, 108, 97, 119, 115, 46, 70, 110, 69, 120, 97, 99, 116, 70, 111, 114, 119, 97, 114, 100].map Char.ofNat

theorem sOrder : Tryz.prog.initOrder = String.ofList (sHead ++ Char.ofNat 32 :: (sSum ++ Char.ofNat 32 :: (sCut ++ Char.ofNat 32 :: sRest))) := by kernel_rfl

theorem sMain (ws : List (List Char)) : behindMainWord (sHead :: sSum :: sCut :: ws) = "cut".toList :: ws := by kernel_rfl

theorem sWords : behindMainWord (wordsSigns Tryz.prog.initOrder.toList) = "cut".toList :: wordsSigns sRest := by
  rw [sOrder, String.toList_ofList, words_word _ _ (by decide +kernel), words_word _ _ (by decide +kernel), words_word _ _ (by decide +kernel), sMain]

theorem sLater : Tryz.prog.laysLater = false := by kernel_rfl
theorem sReflect : Tryz.prog.bearsReflect = false := by kernel_rfl
theorem sDoor : Tryz.prog.doorFits [] = true := by kernel_rfl
theorem sEnter : Tryz.prog.mayEnter = true := by rw [enter_of _ _ sWords, sLater, sReflect, sDoor]; rfl
theorem sLifts : Tryz.prog.liftsFinal = false := lifts_of _ _ sWords
theorem sMake : Tryz.prog.make = some .cut := make_of _ _ sWords
theorem sLaid : laidOutB Tryz.prog = true := by kernel_rfl
theorem sKeys : Tryz.prog.plainKeys = true := by kernel_rfl
theorem sHeard : Tryz.prog.stopsHeard = true := by kernel_rfl

end Go.Proofs.YtppdcglnopoocaaGreat
