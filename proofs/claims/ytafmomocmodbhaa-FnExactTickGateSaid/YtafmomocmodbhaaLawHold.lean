/- The laws on states of flows that are held, walked: each returns true; nothing that was there turns. -/
import Derived.Test.YtafmomocmodbhaaHold
namespace Go.Proofs.Ytafmomocmodbhaa
open Go.RowKit

theorem holdFor_bd {s h : Int} (h0 : 0 ≤ h) (h1 : h ≤ 501) : -1 ≤ holdFor s h ∧ holdFor s h ≤ 501 := by
  unfold holdFor
  split
  · split
    · omega
    · split <;> omega
  · omega
/-- Bytes that came in. -/
structure Code (w : World) (a : Option Addr) (n c : Nat) : Prop where
  ex : ∃ zs, Sl encU 1 w a n c zs ∧ ∀ z ∈ zs, 0 ≤ z ∧ z ≤ 255
end Go.Proofs.Ytafmomocmodbhaa
