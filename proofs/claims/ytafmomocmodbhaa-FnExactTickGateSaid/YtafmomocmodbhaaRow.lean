/- Rows that grow by append, as slices that read as lists. -/
import Derived.Test.YtafmomocmodbhaaSlMC
namespace Go.Proofs.Ytafmomocmodbhaa
open Go.RowKit

theorem Ext.ext {a b c : World} (h : Ext a b) (k : Ext b c) : Ext a c := h.trans k
theorem row_ne {a : Option Addr} {b : Nat} (h : ∀ x, a = some x → b ≠ x.block) : some b ≠ a.map (·.block) := by
  cases a with
  | none => simp
  | some x => have := h x rfl; simpa using this
/-- A slice with all of a new row behind it: append may go on in it. -/
def OwR {α : Type} (E : TypeId) (enc : α → List Value) (k base : Nat) (w : World) (a : Option Addr) (n c : Nat) (L : List α) : Prop := w.ownsRow base E k (.slice a n c) n (L.flatMap enc)
section
variable {α : Type} {E : TypeId} {enc : α → List Value} {k base : Nat} {w w' : World} {a : Option Addr} {n c : Nat} {L : List α}
theorem OwR.ext (h : OwR E enc k base w a n c L) (hx : Ext w w') : OwR E enc k base w' a n c L := World.ownsRow.kept h hx (by cases hv : (Value.slice a n c).ownBlock <;> simp)
theorem OwR.ow (h : OwR E enc k base w a n c L) (hk : ∀ x, (enc x).length = k) (h0 : 0 < k) : Ow E enc k base w a n c L := Ow.of_row h hk h0
theorem OwR.nil (w : World) : OwR E enc k base w none 0 0 [] := World.ownsRow_nil _ _ _ _
theorem OwR.empty (w : World) (base : Nat) {b : Nat} (hb : b = w.heap.size) (h : base ≤ w.heap.size) : OwR E enc k base (w.alloc (.cells #[] E)) (some ⟨b, 0, none⟩) 0 0 [] := own_empty w base hb h
theorem OwR.lt (h : OwR E enc k base w a n c L) : ∀ x, a = some x → base ≤ x.block ∧ x.block < w.heap.size := fun x e => World.ownsRow.lt h x.block (by subst e; rfl)
theorem OwR.rebase (h : OwR E enc k base w a n c L) {b' : Nat} (hb : b' ≤ base) : OwR E enc k b' w a n c L := by
  refine ⟨h.1, ?_⟩
  rcases h.2 with h0 | ⟨g, cap, cur, e, hg, r⟩
  · exact .inl h0
  · exact .inr ⟨g, cap, cur, e, Nat.le_trans hb hg, r⟩
theorem OwR.keep (h : OwR E enc k base w a n c L) {row : Option Nat} (hg : w.grownBy w' row) (hne : ∀ x, a = some x → some x.block ≠ row) : OwR E enc k base w' a n c L := by
  refine World.ownsRow.kept h hg ?_
  cases a with
  | none => exact .inl rfl
  | some x => exact .inr (hne x rfl)
theorem OwR.setC (h : OwR E enc k base w a n c L) {p : Addr} (hp : ∀ x, a = some x → x.block ≠ p.block) (u : Value) : OwR E enc k base (w.setCell p u) a n c L :=
  h.keep (row := some p.block) ⟨rfl, rfl, rfl, by simp [World.setCell], fun i _ hne => Below.heap_setCell w p u i (fun e => hne (by rw [e]))⟩ (fun x e e2 => hp x e (by injection e2))
theorem Sl.lit1 (w : World) (T : TypeId) (x : α) (cs : Array Value) (hcs : cs.toList = enc x) {b : Nat} (hb : b = w.heap.size) : Sl enc k (w.alloc (.cells cs T)) (some ⟨b, 0, none⟩) 1 1 [x] := by
  refine ⟨rfl, Nat.le_refl _, by omega, (fun e => by cases e), fun _ => ⟨b, 0, rfl, by simp [hb], fun i y hy j u hu => ?_⟩⟩
  have hi : i = 0 := by
    have := (List.getElem?_eq_some_iff.1 hy).1
    simp at this; omega
  subst hi
  simp at hy
  subst hy
  subst hb
  have h := (Blk.new w T cs).cells (0 + (0 * k + j))
  rw [h, ← Array.getElem?_toList, hcs]
  simpa using hu
end
theorem wpList_append_ow {P : Program} {t E : TypeId} {k bytes : Nat} {α : Type} {enc : α → List Value} {ops : Array Oper} {rest : List Oper} {o : Oper} {a : Act} {Q : Exit → Act → World → Prop} (w : World) (hgd : o.guard = none) (s x : Operand) 
    (ho : o.op = .call { callee := .builtin .append, args := #[s, x], argTypes := #[t, t] }) (hE : EI P t E k bytes) (hk : ∀ x, (enc x).length = k) (h1 : ∀ x, ∀ u ∈ enc x, u.oneCell' = true) (hby : bytes ≤ 1024)
    (base : Nat) (a0 : Option Addr) (n c0 : Nat) (L0 : List α) (hs : a.eval s = .slice a0 n c0) (hown : OwR E enc k base w a0 n c0 L0)
    (A : Option Addr) (m c : Nat) (L : List α) (hx : a.eval x = .slice A m c) (hsl : Sl enc k w A m c L) (hn : n + m ≤ 2000000) (hbase : base ≤ w.heap.size)
    (h : ∀ a' c' w', OwR E enc k base w' a' (n + m) c' (L0 ++ L) → (∀ u, Ext u w → u.heap.size ≤ base → Ext u w') → w.grownBy w' (a0.map (·.block)) → wpList P ops Q rest (a.put o.dst (.slice a' (n + m) c')) w') : wpList P ops Q (o :: rest) a w := by
  refine wpList_append_sl w hgd s x ho hE hk h1 base (.slice a0 n c0) n (L0.flatMap enc) hs hown A m c L hx hsl (by simp only [maxLen]; omega) (Nat.le_trans (Nat.mul_le_mul hn hby) (by omega)) hbase ?_
  intro a' c' w' h2 h3 _
  refine h a' c' w' (by unfold OwR; rw [List.flatMap_append]; exact h2) (fun u hu hb => hu.grown h3 fun g e => ?_) (by cases a0 <;> exact h3)
  have := (World.ownsRow.lt hown g e).1
  omega
theorem filt_keep {α : Type} [Inhabited α] {p : α → Bool} {L : List α} {k : Nat} (hk : k < L.length) (h : p (nth L k) = true) : (L.take (k + 1)).filter p = (L.take k).filter p ++ [nth L k] := by
  rw [take_succ hk, List.filter_append]
  simp [h]
theorem filt_drop {α : Type} [Inhabited α] {p : α → Bool} {L : List α} {k : Nat} (hk : k < L.length) (h : p (nth L k) = false) : (L.take (k + 1)).filter p = (L.take k).filter p := by
  rw [take_succ hk, List.filter_append]
  simp [h]
end Go.Proofs.Ytafmomocmodbhaa
