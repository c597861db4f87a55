/- Facts carried over the marks that exact laws write; lengths of what steps give. No condition. -/
import Derived.Test.YtppdcglnopoocaaKk
import Derived.Test.YtppdcglnopoocaaKf
import Derived.Test.YtppdcglnopoocaaKb
import Derived.Test.YtppdcglnopoocaaKd
namespace Go.Proofs.Ytppdcglnopoocaa
set_option linter.unusedVariables false
set_option linter.unusedSimpArgs false
open Go.RowKit

theorem Blk.mark {w w' : World} {b : Nat} {T : TypeId} {cs : Array Value} {a : Option Addr} (h : Blk w b T cs) (hg : w.grownBy w' (a.map (·.block))) (hne : ∀ x, a = some x → b ≠ x.block) : Blk w' b T cs :=
  h.grown hg (row_ne hne)
theorem Sl.mark {α : Type} {enc : α → List Value} {k : Nat} {w w' : World} {A a : Option Addr} {n c : Nat} {L : List α} (h : Sl enc k w A n c L) (hg : w.grownBy w' (a.map (·.block)))
    (hne : 0 < n → ∀ x y, A = some x → a = some y → x.block ≠ y.block) : Sl enc k w' A n c L :=
  h.keep hg.size fun _ _ hn e hb => hg.block _ hb (row_ne fun y hy => hne hn _ y e hy)
theorem Ow.mark {α : Type} {E : TypeId} {enc : α → List Value} {k base : Nat} {w w' : World} {A a : Option Addr} {n c : Nat} {L : List α} (h : Ow E enc k base w A n c L) (hg : w.grownBy w' (a.map (·.block)))
    (hne : ∀ x y, A = some x → a = some y → x.block ≠ y.block) : Ow E enc k base w' A n c L :=
  h.keep fun x e hb => hg.block _ hb (row_ne fun y hy => hne x y e hy)
theorem Ext.mark {u w w' : World} {a : Option Addr} (h : Ext u w) (hg : w.grownBy w' (a.map (·.block))) (hne : ∀ x, a = some x → u.heap.size ≤ x.block) : Ext u w' :=
  h.grown hg fun g e => by
    cases a with
    | none => cases e
    | some x => have := hne x rfl; simp at e; omega
theorem lens_of {r : Option (PktD × GateD)} (h : ∀ q g, r = some (q, g) → validTable g.table = true ∧ validContacts g.cons = true ∧ q.data.length ≤ 12) : (rP r).data.length ≤ 1000 ∧ (rG r).table.length ≤ 1000 ∧ (rG r).cons.length ≤ 1000 := by
  cases r with
  | none => simp [rP, rG, pkN, gtN]
  | some x =>
    obtain ⟨q, g⟩ := x
    obtain ⟨a, b, c⟩ := h q g rfl
    have := table_len a
    have := cons_len b
    simp only [rP, rG]
    omega
end Go.Proofs.Ytppdcglnopoocaa
