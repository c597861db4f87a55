/- Contracts: states of flows that are held; the generators for them. -/
import Derived.Test.YtafmomocmodbhaaReader
namespace Go.Proofs.Ytafmomocmodbhaa
open Go.RowKit

def busy (s : Int) : Bool := inR s 1 5
def holdFor (s h : Int) : Int := if inR s 0 6 && inR h 1 500 then (if s = 3 then h else if s = 0 ∨ s = 6 then 1 else (h + 3) / 4) else -1

end Go.Proofs.Ytafmomocmodbhaa
