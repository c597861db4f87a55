/- The words, laws and contracts that the claims of this seat share: group a. No condition. -/
import Derived.WalkKit
import Derived.WalkSpells
import Derived.WalkLawsBesides
import Derived.Deep.Draws
import Derived.Laws.OwnMore
import Derived.Deep.AppendLies
import Derived.Lib.Hide
import Derived.Below
import Derived.OrdersHeld
import Derived.RegionTactic
import Derived.Test.YtppdcglnopoocaaRows
import Derived.StillTactics
import Derived.BigQuiet
import Derived.Deep.QuietTactic
import Derived.Deep.RegionHeld3
import Derived.Deep.RegionWith
/- Words on memory that all proofs of this seat use: a world that is another one with new blocks (Ext), one with one further block turned (RExt), a slice that reads as a list (Sl), a slice that owns a new row (Ow). No condition. -/
namespace Go.Proofs.Ytppdcglnopoocaa
set_option linter.unusedVariables false
set_option linter.unusedSimpArgs false
open Go.RowKit

theorem useE {P Q : Prop} (_f : P → Q) (h : P) : P := h
/-- w' is w with new blocks behind it; nothing that was there has turned. -/
def Ext (w w' : World) : Prop := w.grownBy w' none
/-- The same, but block B may have turned. -/
def RExt (B : Nat) (w w' : World) : Prop := w.grownBy w' (some B)

theorem Ext.refl (w : World) : Ext w w := ⟨rfl, rfl, rfl, Nat.le_refl _, fun _ _ _ => rfl⟩
theorem Ext.size {a b : World} (h : Ext a b) : a.heap.size ≤ b.heap.size := World.grownBy.size h
theorem Ext.block {a b : World} (h : Ext a b) (k : Nat) (hk : k < a.heap.size) : b.heap[k]? = a.heap[k]? := World.grownBy.block h k hk (by simp)
theorem Ext.trans {a b c : World} (h : Ext a b) (k : Ext b c) : Ext a c :=
  ⟨(World.grownBy.os k).trans (World.grownBy.os h), (World.grownBy.tape k).trans (World.grownBy.tape h), (World.grownBy.output k).trans (World.grownBy.output h), Nat.le_trans h.size k.size,
    fun i hi _ => (k.block i (Nat.lt_of_lt_of_le hi h.size)).trans (h.block i hi)⟩
theorem Ext.alloc {a b : World} (h : Ext a b) (o : Obj) : Ext a (b.alloc o) :=
  h.trans ⟨rfl, rfl, rfl, by simp, fun i hi _ => Below.heap_alloc b o i hi⟩
theorem Ext.drewN {a b : World} (h : Ext a b) (n : Nat) : Ext a (b.drewN n) := h.trans ⟨rfl, rfl, rfl, Nat.le_refl _, fun _ _ _ => rfl⟩
theorem Ext.drew {a b : World} (h : Ext a b) : Ext a b.drew := h.drewN 1
theorem Ext.grown {a b c : World} (h : Ext a b) {row : Option Nat} (k : b.grownBy c row) (hr : ∀ g, row = some g → a.heap.size ≤ g) : Ext a c :=
  ⟨k.os.trans (World.grownBy.os h), k.tape.trans (World.grownBy.tape h), k.output.trans (World.grownBy.output h), Nat.le_trans h.size k.size,
    fun i hi _ => (k.block i (Nat.lt_of_lt_of_le hi h.size) (fun e => by have := hr i e.symm; omega)).trans (h.block i hi)⟩
theorem Ext.setCell {a b : World} (h : Ext a b) {p : Addr} (hp : a.heap.size ≤ p.block) (u : Value) : Ext a (b.setCell p u) :=
  h.grown (row := some p.block) ⟨rfl, rfl, rfl, by simp [World.setCell], fun i _ hne => Below.heap_setCell b p u i (fun e => hne (by rw [e]))⟩ (fun g hg => by injection hg with hg; omega)
theorem Ext.cells {a b : World} (h : Ext a b) : ∀ k o, k < a.heap.size → b.cell? ⟨k, o, none⟩ = a.cell? ⟨k, o, none⟩ :=
  fun k _ hk => World.cell?_of_block (h.block k hk)
theorem Ext.frozens {a b : World} (h : Ext a b) : ∀ k o, k < a.heap.size → b.frozen? ⟨k, o, none⟩ = a.frozen? ⟨k, o, none⟩ :=
  fun k _ hk => World.frozen?_of_block (h.block k hk)
theorem Ext.below {a b : World} (h : Ext a b) : Below a.heap.size a b :=
  ⟨World.grownBy.os h, World.grownBy.tape h, World.grownBy.output h, h.size, h.block⟩
theorem Ext.of_below {a b : World} (h : Below a.heap.size a b) : Ext a b :=
  ⟨h.os, h.tape, h.output, h.size, fun k hk _ => h.block k hk⟩

theorem RExt.refl (B : Nat) (w : World) : RExt B w w := ⟨rfl, rfl, rfl, Nat.le_refl _, fun _ _ _ => rfl⟩
theorem RExt.size {B : Nat} {a b : World} (h : RExt B a b) : a.heap.size ≤ b.heap.size := World.grownBy.size h
theorem RExt.block {B : Nat} {a b : World} (h : RExt B a b) (k : Nat) (hk : k < a.heap.size) (hne : k ≠ B) : b.heap[k]? = a.heap[k]? :=
  World.grownBy.block h k hk (by simpa using hne)
theorem RExt.of_ext {a b : World} (h : Ext a b) (B : Nat) : RExt B a b :=
  ⟨World.grownBy.os h, World.grownBy.tape h, World.grownBy.output h, h.size, fun i hi _ => h.block i hi⟩
theorem RExt.trans {B : Nat} {a b c : World} (h : RExt B a b) (k : RExt B b c) : RExt B a c :=
  ⟨(World.grownBy.os k).trans (World.grownBy.os h), (World.grownBy.tape k).trans (World.grownBy.tape h), (World.grownBy.output k).trans (World.grownBy.output h), Nat.le_trans h.size k.size,
    fun i hi hne => (World.grownBy.block k i (Nat.lt_of_lt_of_le hi h.size) hne).trans (World.grownBy.block h i hi hne)⟩
theorem RExt.ext {B : Nat} {a b c : World} (h : RExt B a b) (k : Ext b c) : RExt B a c := h.trans (.of_ext k B)
theorem RExt.alloc {B : Nat} {a b : World} (h : RExt B a b) (o : Obj) : RExt B a (b.alloc o) := h.ext ((Ext.refl b).alloc o)
theorem RExt.drewN {B : Nat} {a b : World} (h : RExt B a b) (n : Nat) : RExt B a (b.drewN n) := h.ext ((Ext.refl b).drewN n)
theorem RExt.drew {B : Nat} {a b : World} (h : RExt B a b) : RExt B a b.drew := h.drewN 1
theorem RExt.setCell {B : Nat} {a b : World} (h : RExt B a b) {p : Addr} (hp : p.block = B ∨ a.heap.size ≤ p.block) (u : Value) : RExt B a (b.setCell p u) :=
  ⟨show b.os = a.os from World.grownBy.os h, show b.tape = a.tape from World.grownBy.tape h, show b.output = a.output from World.grownBy.output h, by simpa [World.setCell] using h.size,
    fun i hi hne => (Below.heap_setCell b p u i (by
      rintro rfl
      rcases hp with hp | hp
      · exact hne (by rw [hp])
      · omega)).trans (World.grownBy.block h i hi hne)⟩
theorem RExt.cells {B : Nat} {a b : World} (h : RExt B a b) : ∀ k o, k < a.heap.size → k ≠ B → b.cell? ⟨k, o, none⟩ = a.cell? ⟨k, o, none⟩ :=
  fun k _ hk hne => World.cell?_of_block (h.block k hk hne)
/-- A block that a call's own caller made before the call, read behind the call. -/
theorem RExt.cellsFrom {B : Nat} {a b : World} (h : RExt B a b) {n : Nat} (hB : B < n) : ∀ k o, n ≤ k → k < a.heap.size → b.cell? ⟨k, o, none⟩ = a.cell? ⟨k, o, none⟩ :=
  fun k _ hn hk => World.cell?_of_block (h.block k hk (by omega))
theorem RExt.frozensFrom {B : Nat} {a b : World} (h : RExt B a b) {n : Nat} (hB : B < n) : ∀ k o, n ≤ k → k < a.heap.size → b.frozen? ⟨k, o, none⟩ = a.frozen? ⟨k, o, none⟩ :=
  fun k _ hn hk => World.frozen?_of_block (h.block k hk (by omega))
theorem RExt.frozens {B : Nat} {a b : World} (h : RExt B a b) : ∀ k o, k < a.heap.size → k ≠ B → b.frozen? ⟨k, o, none⟩ = a.frozen? ⟨k, o, none⟩ :=
  fun k _ hk hne => World.frozen?_of_block (h.block k hk hne)
/-- If the block that may have turned is new, nothing has turned. -/
theorem RExt.new {B : Nat} {a b c : World} (h : Ext a b) (k : RExt B b c) (hB : a.heap.size ≤ B) : Ext a c :=
  h.grown k (fun g hg => by injection hg with hg; omega)

/-- Block b is just these cells, none of them frozen. -/
def Blk (w : World) (b : Nat) (T : TypeId) (cs : Array Value) : Prop := w.heap[b]? = some (.cells cs T (0, 0))
section
variable {w w' : World} {b : Nat} {T : TypeId} {cs : Array Value}
theorem Blk.lt (h : Blk w b T cs) : b < w.heap.size := (Array.getElem?_eq_some_iff.1 h).1
theorem Blk.cells (h : Blk w b T cs) : ∀ o, w.cell? ⟨b, o, none⟩ = cs[o]? := fun o => cell_of_row w b o cs T (0, 0) h
theorem Blk.frozens (h : Blk w b T cs) : ∀ o, w.frozen? ⟨b, o, none⟩ = false := fun o => frozen_of_row w b o cs T h
theorem Blk.new (w : World) (T : TypeId) (cs : Array Value) : Blk (w.alloc (.cells cs T)) w.heap.size T cs := heap_alloc_new w _
theorem Blk.newAt (w : World) (T : TypeId) (cs : Array Value) (hb : b = w.heap.size) : Blk (w.alloc (.cells cs T)) b T cs := by subst hb; exact heap_alloc_new w _
theorem Blk.ext (h : Blk w b T cs) (hx : Ext w w') : Blk w' b T cs := (hx.block b h.lt).trans h
theorem Blk.rext {B : Nat} (h : Blk w b T cs) (hx : RExt B w w') (hne : b ≠ B) : Blk w' b T cs := (hx.block b h.lt hne).trans h
theorem Blk.alloc (h : Blk w b T cs) (o : Obj) : Blk (w.alloc o) b T cs := h.ext ((Ext.refl w).alloc o)
theorem Blk.drewN (h : Blk w b T cs) (n : Nat) : Blk (w.drewN n) b T cs := h
theorem Blk.drew (h : Blk w b T cs) : Blk w.drew b T cs := h
theorem Blk.far (h : Blk w b T cs) {p : Addr} (hp : b ≠ p.block) (u : Value) : Blk (w.setCell p u) b T cs := (Below.heap_setCell w p u b hp).trans h
theorem Blk.set (h : Blk w b T cs) (i : Nat) (u : Value) : Blk (w.setCell ⟨b, i, none⟩ u) b T (cs.setIfInBounds i u) := heap_setCell_same w b i cs T u h
theorem Blk.grown {row : Option Nat} (h : Blk w b T cs) (hg : w.grownBy w' row) (hne : some b ≠ row) : Blk w' b T cs := (hg.block b h.lt hne).trans h
end

/-- A slice value that reads as a list: element i lies in the k cells from i * k on. -/
structure Sl {α : Type} (enc : α → List Value) (k : Nat) (w : World) (a : Option Addr) (n c : Nat) (L : List α) : Prop where
  len : L.length = n
  le : n ≤ c
  max : c ≤ 9223372036854775807
  nil : a = none → c = 0
  at_ : 0 < n → ∃ b off, a = some ⟨b, off, none⟩ ∧ b < w.heap.size ∧
    ∀ i x, L[i]? = some x → ∀ j u, (enc x)[j]? = some u → w.cell? ⟨b, off + (i * k + j), none⟩ = some u

section
variable {α : Type} {enc : α → List Value} {k : Nat} {w w' : World} {a : Option Addr} {n c : Nat} {L : List α}
theorem Sl.keep (h : Sl enc k w a n c L) (hs : w.heap.size ≤ w'.heap.size)
    (hc : ∀ b off, 0 < n → a = some ⟨b, off, none⟩ → b < w.heap.size → w'.heap[b]? = w.heap[b]?) : Sl enc k w' a n c L :=
  ⟨h.len, h.le, h.max, h.nil, fun hn => by
    obtain ⟨b, off, e, hb, hh⟩ := h.at_ hn
    exact ⟨b, off, e, by omega, fun i x hx j u hu => (World.cell?_of_block (hc b off hn e hb)).trans (hh i x hx j u hu)⟩⟩
theorem Sl.ext (h : Sl enc k w a n c L) (hx : Ext w w') : Sl enc k w' a n c L := h.keep hx.size fun b _ _ _ hb => hx.block b hb
theorem Sl.rext {B : Nat} (h : Sl enc k w a n c L) (hx : RExt B w w') (hne : ∀ x, a = some x → x.block ≠ B) : Sl enc k w' a n c L :=
  h.keep hx.size fun b _ _ e hb => hx.block b hb (hne _ e)
theorem Sl.setCell (h : Sl enc k w a n c L) {p : Addr} (hne : ∀ x, a = some x → x.block ≠ p.block) (u : Value) : Sl enc k (w.setCell p u) a n c L :=
  h.keep (by simp [World.setCell]) fun b _ _ e _ => Below.heap_setCell w p u b (hne _ e)
theorem Sl.setFar (h : Sl enc k w a n c L) {p : Addr} (hne : 0 < n → ∀ x, a = some x → x.block ≠ p.block) (u : Value) : Sl enc k (w.setCell p u) a n c L :=
  h.keep (by simp [World.setCell]) fun b _ hn e _ => Below.heap_setCell w p u b (hne hn _ e)
theorem Sl.rextFar {B : Nat} (h : Sl enc k w a n c L) (hx : RExt B w w') (hne : 0 < n → ∀ x, a = some x → x.block ≠ B) : Sl enc k w' a n c L :=
  h.keep hx.size fun b _ hn e hb => hx.block b hb (hne hn _ e)
theorem Sl.lt (h : Sl enc k w a n c L) (hn : 0 < n) : ∀ x, a = some x → x.block < w.heap.size := by
  intro x hx
  obtain ⟨b, off, e, hb, _⟩ := h.at_ hn
  rw [hx] at e; injection e with e; subst e; exact hb
theorem Sl.alloc (h : Sl enc k w a n c L) (o : Obj) : Sl enc k (w.alloc o) a n c L := h.ext ((Ext.refl w).alloc o)
theorem Sl.drewN (h : Sl enc k w a n c L) (m : Nat) : Sl enc k (w.drewN m) a n c L := h.ext ((Ext.refl w).drewN m)
theorem Sl.drew (h : Sl enc k w a n c L) : Sl enc k w.drew a n c L := h.drewN 1
theorem Sl.nils (w : World) : Sl enc k w none 0 0 [] := ⟨rfl, Nat.le_refl _, by omega, fun _ => rfl, fun h => absurd h (by omega)⟩
theorem Sl.zero (h : Sl enc k w a 0 c L) : L = [] := List.eq_nil_of_length_eq_zero h.len
/-- The empty one, or one with an address. -/
theorem Sl.form (h : Sl enc k w a n c L) : (n = 0 ∧ L = []) ∨ (0 < n ∧ ∃ b off, a = some ⟨b, off, none⟩ ∧ b < w.heap.size ∧
    ∀ i x, L[i]? = some x → ∀ j u, (enc x)[j]? = some u → w.cell? ⟨b, off + (i * k + j), none⟩ = some u) := by
  rcases Nat.eq_zero_or_pos n with h0 | h0
  · subst h0; exact .inl ⟨rfl, h.zero⟩
  · exact .inr ⟨h0, h.at_ h0⟩
/-- The first m of its elements. -/
theorem Sl.take (h : Sl enc k w a n c L) {m c' : Nat} (hm : m ≤ n) (hc : m ≤ c') (hc' : c' ≤ c) : Sl enc k w a m c' (L.take m) :=
  ⟨by rw [List.length_take, h.len]; omega, hc, by have := h.max; omega, fun e => by have := h.nil e; omega, fun hn => by
    obtain ⟨b, off, e, hb, hh⟩ := h.at_ (by omega)
    refine ⟨b, off, e, hb, fun i x hx j u hu => hh i x ?_ j u hu⟩
    rw [List.getElem?_take] at hx
    split at hx
    · exact hx
    · cases hx⟩
end

/-- A slice of the call's own: it lies at the head of an unfrozen row from block base on, or is nil. -/
def Ow {α : Type} (E : TypeId) (enc : α → List Value) (k : Nat) (base : Nat) (w : World) (a : Option Addr) (n c : Nat) (L : List α) : Prop :=
  L.length = n ∧ ((a = none ∧ n = 0 ∧ c = 0) ∨
    ∃ g cur, a = some ⟨g, 0, none⟩ ∧ base ≤ g ∧ w.heap[g]? = some (.cells cur E (0, 0)) ∧ n ≤ c ∧ c ≤ 9223372036854775807 ∧ c * k ≤ cur.size ∧ cur.toList.take (n * k) = L.flatMap enc)

theorem flat_len {α : Type} {enc : α → List Value} {k : Nat} (hk : ∀ x, (enc x).length = k) : ∀ L : List α, (L.flatMap enc).length = L.length * k
  | [] => by simp
  | x :: L => by rw [List.flatMap_cons, List.length_append, hk, flat_len hk L, List.length_cons, Nat.add_mul]; omega
theorem flat_at {α : Type} {enc : α → List Value} {k : Nat} (hk : ∀ x, (enc x).length = k) : ∀ (L : List α) (i : Nat) (x : α), L[i]? = some x → ∀ (j : Nat) (u : Value), (enc x)[j]? = some u → (L.flatMap enc)[i * k + j]? = some u
  | [], i, x, hx, _, _, _ => by simp at hx
  | y :: L, 0, x, hx, j, u, hu => by
    simp only [List.getElem?_cons_zero, Option.some.injEq] at hx
    subst hx
    rw [List.flatMap_cons, Nat.zero_mul, Nat.zero_add, List.getElem?_append_left (List.getElem?_eq_some_iff.1 hu).1]
    exact hu
  | y :: L, i + 1, x, hx, j, u, hu => by
    rw [List.flatMap_cons, List.getElem?_append_right (by rw [hk, Nat.add_mul]; omega), hk]
    have := flat_at hk L i x (by simpa using hx) j u hu
    rw [← this]
    congr 1
    rw [Nat.add_mul]; omega

section
variable {α : Type} {E : TypeId} {enc : α → List Value} {k base : Nat} {w w' : World} {a : Option Addr} {n c : Nat} {L : List α}
theorem Ow.sl (h : Ow E enc k base w a n c L) (hk : ∀ x, (enc x).length = k) : Sl enc k w a n c L := by
  obtain ⟨hl, ⟨rfl, hn, rfl⟩ | ⟨g, cur, rfl, hb, hg, hnc, hcm, hcs, ht⟩⟩ := h
  · exact ⟨hl, by omega, by omega, fun _ => rfl, fun h => by omega⟩
  · refine ⟨hl, hnc, hcm, (fun e => by cases e), fun _ => ⟨g, 0, rfl, (Array.getElem?_eq_some_iff.1 hg).1, fun i x hx j u hu => ?_⟩⟩
    have hf := flat_at hk L i x hx j u hu
    rw [← ht, List.getElem?_take] at hf
    rw [cell_of_row w g _ cur E (0, 0) hg]
    split at hf
    · simpa using hf
    · cases hf
theorem Ow.of_row (h : w.ownsRow base E k (.slice a n c) n (L.flatMap enc)) (hk : ∀ x, (enc x).length = k) (h0 : 0 < k) : Ow E enc k base w a n c L := by
  have hl : L.length = n := by
    have := h.1
    rw [flat_len hk] at this
    exact Nat.eq_of_mul_eq_mul_right h0 this
  refine ⟨hl, ?_⟩
  rcases h.2 with ⟨e, hn⟩ | ⟨g, cap, cur, e, hb, hg, hnc, hcm, hcs, ht⟩
  · injection e with e1 e2 e3
    exact .inl ⟨e1, hn, e3⟩
  · injection e with e1 e2 e3
    subst e3
    exact .inr ⟨g, cur, e1, hb, hg, hnc, hcm, by omega, ht⟩
theorem Ow.keep (h : Ow E enc k base w a n c L) (hx : ∀ x, a = some x → x.block < w.heap.size → w'.heap[x.block]? = w.heap[x.block]?) : Ow E enc k base w' a n c L := by
  obtain ⟨hl, ⟨rfl, hn, rfl⟩ | ⟨g, cur, rfl, hb, hg, r⟩⟩ := h
  · exact ⟨hl, .inl ⟨rfl, hn, rfl⟩⟩
  · exact ⟨hl, .inr ⟨g, cur, rfl, hb, (hx _ rfl (Array.getElem?_eq_some_iff.1 hg).1).trans hg, r⟩⟩
theorem Ow.ext (h : Ow E enc k base w a n c L) (hx : Ext w w') : Ow E enc k base w' a n c L := h.keep fun x _ hb => hx.block x.block hb
theorem Ow.rext {B : Nat} (h : Ow E enc k base w a n c L) (hx : RExt B w w') (hne : ∀ x, a = some x → x.block ≠ B) : Ow E enc k base w' a n c L :=
  h.keep fun x e hb => hx.block x.block hb (hne x e)
theorem Ow.nils (w : World) : Ow E enc k base w none 0 0 [] := ⟨rfl, .inl ⟨rfl, rfl, rfl⟩⟩
theorem Ow.rebase (h : Ow E enc k base w a n c L) {b' : Nat} (hb : b' ≤ base) : Ow E enc k b' w a n c L := by
  obtain ⟨hl, h0 | ⟨g, cur, rfl, hg, r⟩⟩ := h
  · exact ⟨hl, .inl h0⟩
  · exact ⟨hl, .inr ⟨g, cur, rfl, Nat.le_trans hb hg, r⟩⟩
theorem Ow.lt (h : Ow E enc k base w a n c L) : ∀ x, a = some x → base ≤ x.block ∧ x.block < w.heap.size ∧ x = ⟨x.block, 0, none⟩ := by
  intro x hx
  obtain ⟨hl, ⟨rfl, _⟩ | ⟨g, cur, rfl, hb, hg, r⟩⟩ := h
  · cases hx
  · injection hx with hx
    subst hx
    exact ⟨hb, (Array.getElem?_eq_some_iff.1 hg).1, rfl⟩
/-- The slice cut to its length. -/
theorem Ow.clip (h : Ow E enc k base w a n c L) : Ow E enc k base w a n n L := by
  obtain ⟨hl, ⟨rfl, hn, rfl⟩ | ⟨g, cur, rfl, hb, hg, hnc, hcm, hcs, ht⟩⟩ := h
  · exact ⟨hl, .inl ⟨rfl, hn, hn⟩⟩
  · exact ⟨hl, .inr ⟨g, cur, rfl, hb, hg, Nat.le_refl _, by omega, Nat.le_trans (Nat.mul_le_mul_right k hnc) hcs, ht⟩⟩
end
/-- Two rows of different element types lie in different blocks. -/
theorem Ow.apart {α β : Type} {E E' : TypeId} {enc : α → List Value} {enc' : β → List Value} {k k' base base' : Nat} {w : World} {a a' : Option Addr} {n c n' c' : Nat} {L : List α} {L' : List β}
    (h : Ow E enc k base w a n c L) (h' : Ow E' enc' k' base' w a' n' c' L') (hne : E ≠ E') : ∀ x y, a = some x → a' = some y → x.block ≠ y.block := by
  intro x y hx hy he
  obtain ⟨_, ⟨rfl, _⟩ | ⟨g, cur, rfl, _, hg, _⟩⟩ := h
  · cases hx
  obtain ⟨_, ⟨rfl, _⟩ | ⟨g', cur', rfl, _, hg', _⟩⟩ := h'
  · cases hy
  injection hx with hx
  injection hy with hy
  subst hx; subst hy
  simp only at he
  subst he
  rw [hg] at hg'
  injection hg' with hg'
  injection hg' with _ ht
  exact hne ht
theorem Ext.own {a b c : World} (h : Ext a b) {g n cp : Nat} (k : b.grownBy c (Value.slice (some ⟨g, 0, none⟩) n cp).ownBlock) (hg : a.heap.size ≤ g) : Ext a c :=
  h.grown k (fun g' e => by
    have : g = g' := by simpa [Value.ownBlock] using e
    omega)
end Go.Proofs.Ytppdcglnopoocaa
/- The plain functions of the gate, on lists and integers: what the program's functions compute. No program in sight. No condition. -/
namespace Go.Proofs.Ytppdcglnopoocaa
set_option linter.unusedVariables false
set_option linter.unusedSimpArgs false

structure EndD where
  addr : Int
  port : Int
  deriving DecidableEq, Inhabited
structure NetD where
  base : Int
  bits : Int
  deriving DecidableEq, Inhabited
structure MapD where
  ins : EndD
  port : Int
  last : Int
  deriving DecidableEq, Inhabited
structure ConD where
  port : Int
  to_ : EndD
  deriving DecidableEq, Inhabited
structure PktD where
  kind : Int
  fr : EndD
  to_ : EndD
  data : List Int
  deriving DecidableEq, Inhabited
structure GateD where
  net : NetD
  out : Int
  table : List MapD
  cons : List ConD
  filter : Int
  hold : Int
  now : Int
  deriving DecidableEq, Inhabited
structure RepD where
  code : Int
  sender : Int
  to_ : Int
  about : PktD
  deriving DecidableEq, Inhabited
structure PlanD where
  net : NetD
  first : Int
  size : Int
  deriving DecidableEq, Inhabited

def inR (n lo hi : Int) : Bool := decide (lo ≤ n) && decide (n ≤ hi)
theorem inR_iff {n lo hi : Int} : inR n lo hi = true ↔ lo ≤ n ∧ n ≤ hi := by simp [inR]
theorem inR_t {n lo hi : Int} (h1 : lo ≤ n) (h2 : n ≤ hi) : inR n lo hi = true := inR_iff.2 ⟨h1, h2⟩
theorem inR_f {n lo hi : Int} (h : n < lo ∨ hi < n) : inR n lo hi = false := by
  rw [Bool.eq_false_iff]; intro h'; rw [inR_iff] at h'; omega
def word (n : Int) : Bool := inR n 0 65535
theorem word_iff {n : Int} : word n = true ↔ 0 ≤ n ∧ n ≤ 65535 := inR_iff
def netSize (bits : Int) : Int := ((2 ^ (16 - bits).toNat : Nat) : Int)
theorem netSize_pos (bits : Int) : 1 ≤ netSize bits := by
  unfold netSize
  have : 0 < 2 ^ (16 - bits).toNat := Nat.pow_pos (by omega)
  omega
theorem netSize_le {bits : Int} (h : 0 ≤ bits) : netSize bits ≤ 65536 := by
  unfold netSize
  have : 2 ^ (16 - bits).toNat ≤ 2 ^ 16 := Nat.pow_le_pow_right (by omega) (by omega)
  omega
def validNet (n : NetD) : Bool := inR n.bits 0 16 && word n.base && decide (n.base % netSize n.bits = 0)
theorem validNet_bd {n : NetD} (h : validNet n = true) : 0 ≤ n.bits ∧ n.bits ≤ 16 ∧ 0 ≤ n.base ∧ n.base ≤ 65535 := by
  simp only [validNet, Bool.and_eq_true, inR_iff, word_iff] at h
  omega
def has (n : NetD) (a : Int) : Bool := inR a n.base (n.base + netSize n.bits - 1)
def validEnd (e : EndD) : Bool := word e.addr && word e.port
def validPkt (p : PktD) : Bool := inR p.kind 0 2 && validEnd p.fr && validEnd p.to_ && decide (p.data.length ≤ 12) && p.data.all word

/-- The place of the first element with p, or -1. -/
def ixFrom {α : Type} (p : α → Bool) : Nat → List α → Int
  | _, [] => -1
  | i, x :: l => if p x then (i : Int) else ixFrom p (i + 1) l
def ix {α : Type} (p : α → Bool) (l : List α) : Int := ixFrom p 0 l
theorem ixFrom_none {α : Type} {p : α → Bool} : ∀ (l : List α) (i : Nat), (∀ x ∈ l, p x = false) → ixFrom p i l = -1
  | [], _, _ => rfl
  | x :: l, i, h => by rw [ixFrom, h x (by simp), if_neg (by simp)]; exact ixFrom_none l _ fun y hy => h y (by simp [hy])
theorem ix_none {α : Type} {p : α → Bool} {l : List α} (h : ∀ x ∈ l, p x = false) : ix p l = -1 := ixFrom_none l 0 h
theorem ixFrom_some {α : Type} {p : α → Bool} : ∀ (l : List α) (i k : Nat) (x : α), (∀ y ∈ l.take k, p y = false) → l[k]? = some x → p x = true → ixFrom p i l = ((i + k : Nat) : Int)
  | [], _, _, _, _, h, _ => by simp at h
  | y :: l, i, 0, x, _, h, hp => by
    simp only [List.getElem?_cons_zero, Option.some.injEq] at h
    subst h
    rw [ixFrom, if_pos hp]; rfl
  | y :: l, i, k + 1, x, h0, h, hp => by
    rw [ixFrom, h0 y (by simp), if_neg (by simp), ixFrom_some l (i + 1) k x (fun z hz => h0 z (by simp [hz])) (by simpa using h) hp]
    congr 1; omega
theorem ix_some {α : Type} {p : α → Bool} {l : List α} {k : Nat} {x : α} (h0 : ∀ y ∈ l.take k, p y = false) (h : l[k]? = some x) (hp : p x = true) : ix p l = (k : Int) := by
  have := ixFrom_some l 0 k x h0 h hp
  simpa [ix] using this
/-- What ix says: -1 and none has p, or a place whose element has p, and none before it has. -/
theorem ix_cases {α : Type} (p : α → Bool) (l : List α) : (ix p l = -1 ∧ ∀ x ∈ l, p x = false) ∨
    ∃ k x, ix p l = ((k : Nat) : Int) ∧ l[k]? = some x ∧ p x = true ∧ ∀ y ∈ l.take k, p y = false := by
  induction l with
  | nil => exact .inl ⟨rfl, by simp⟩
  | cons y l ih =>
    cases hy : p y with
    | true => exact .inr ⟨0, y, ix_some (k := 0) (by simp) (by simp) hy, by simp, hy, by simp⟩
    | false =>
      rcases ih with ⟨_, h2⟩ | ⟨k, x, _, h2, h3, h4⟩
      · have h : ∀ x ∈ y :: l, p x = false := by
          intro x hx
          rcases List.mem_cons.1 hx with rfl | hx
          · exact hy
          · exact h2 x hx
        exact .inl ⟨ix_none h, h⟩
      · have h : ∀ z ∈ (y :: l).take (k + 1), p z = false := by
          intro z hz
          rw [List.take_succ_cons] at hz
          rcases List.mem_cons.1 hz with rfl | hz
          · exact hy
          · exact h4 z hz
        exact .inr ⟨k + 1, x, ix_some (k := k + 1) h (by simpa using h2) h3, by simpa using h2, h3, h⟩
theorem ix_ge {α : Type} (p : α → Bool) (l : List α) : -1 ≤ ix p l := by
  rcases ix_cases p l with ⟨h, _⟩ | ⟨k, x, h, _⟩ <;> omega
theorem ix_lt {α : Type} (p : α → Bool) (l : List α) : ix p l < l.length := by
  rcases ix_cases p l with ⟨h, _⟩ | ⟨k, x, h, h2, _⟩
  · omega
  · have := (List.getElem?_eq_some_iff.1 h2).1
    omega

/-- All of 0 .. n-1. -/
def upTo (f : Nat → Bool) : Nat → Bool
  | 0 => true
  | n + 1 => upTo f n && f n
theorem upTo_iff {f : Nat → Bool} : ∀ {n : Nat}, upTo f n = true ↔ ∀ i, i < n → f i = true
  | 0 => by simp [upTo]
  | n + 1 => by
    rw [upTo, Bool.and_eq_true, upTo_iff]
    constructor
    · rintro ⟨h1, h2⟩ i hi
      rcases Nat.lt_or_ge i n with h | h
      · exact h1 i h
      · have : i = n := by omega
        rw [this]; exact h2
    · intro h
      exact ⟨fun i hi => h i (by omega), h n (by omega)⟩
theorem upTo_f {f : Nat → Bool} {n k : Nat} (hk : k < n) (h : f k = false) : upTo f n = false := by
  rw [Bool.eq_false_iff]; intro h'; rw [upTo_iff.1 h' k hk] at h; cases h
/-- Element i. -/
def nth {α : Type} [Inhabited α] (l : List α) (i : Nat) : α := l.getD i default
theorem nth_some {α : Type} [Inhabited α] {l : List α} {i : Nat} (h : i < l.length) : l[i]? = some (nth l i) := by
  rw [nth, List.getD_eq_getElem?_getD, List.getElem?_eq_getElem h]; rfl
theorem nth_mem {α : Type} [Inhabited α] {l : List α} {i : Nat} (h : i < l.length) : nth l i ∈ l := List.mem_of_getElem? (nth_some h)
theorem nth_of {α : Type} [Inhabited α] {l : List α} {i : Nat} {x : α} (h : l[i]? = some x) : nth l i = x := by
  rw [nth, List.getD_eq_getElem?_getD, h]; rfl
theorem take_succ {α : Type} [Inhabited α] {l : List α} {i : Nat} (h : i < l.length) : l.take (i + 1) = l.take i ++ [nth l i] := by
  rw [List.take_add_one, nth_some h]; rfl
theorem nth_take {α : Type} [Inhabited α] {l : List α} {i k : Nat} (h : i < k) : nth (l.take k) i = nth l i := by
  simp [nth, List.getD_eq_getElem?_getD, h]
/-- All of a list, by places. -/
theorem all_upTo {α : Type} [Inhabited α] (p : α → Bool) (l : List α) : l.all p = upTo (fun i => p (nth l i)) l.length := by
  rw [Bool.eq_iff_iff, upTo_iff, List.all_eq_true]
  constructor
  · intro h i hi
    exact h _ (nth_mem hi)
  · intro h x hx
    obtain ⟨i, hi, rfl⟩ := List.mem_iff_getElem.1 hx
    have := h i hi
    rwa [nth_of (List.getElem?_eq_getElem hi)] at this

def byEnd (l : List MapD) (e : EndD) : Int := ix (fun m => decide (m.ins = e)) l
def byPort (l : List MapD) (port : Int) : Int := ix (fun m => decide (m.port = port)) l
def okMap (m : MapD) : Bool := validEnd m.ins && inR m.port 1000 1007 && inR m.last 0 10000
def okMapAt (l : List MapD) (i : Nat) : Bool :=
  okMap (nth l i) && (l.take i).all fun q => !decide (q.ins = (nth l i).ins) && !decide (q.port = (nth l i).port)
def validTable (l : List MapD) : Bool := upTo (okMapAt l) l.length && decide (l.length ≤ 8)
def okCon (c : ConD) : Bool := inR c.port 1000 1007 && validEnd c.to_
def okConAt (l : List ConD) (i : Nat) : Bool := okCon (nth l i) && (l.take i).all fun q => !decide (q = nth l i)
def validContacts (l : List ConD) : Bool := upTo (okConAt l) l.length && decide (l.length ≤ 10)
def lets (kind : Int) (l : List ConD) (port : Int) (fr : EndD) : Bool :=
  decide (kind = 0) || l.any fun c => decide (c.port = port) && decide (c.to_.addr = fr.addr) && (decide (kind = 1) || decide (c.to_.port = fr.port))
def letsIn (kind : Int) (l : List ConD) (port : Int) (fr : EndD) : Bool := inR kind 0 2 && validContacts l && lets kind l port fr
def noteAll (l : List ConD) (c : ConD) : List ConD := (l.filter fun d => !decide (d = c)) ++ [c]
def note (l : List ConD) (c : ConD) : List ConD := (noteAll l c).drop ((noteAll l c).length - 10)
def without (l : List ConD) (port : Int) : List ConD := l.filter fun c => !decide (c.port = port)
def freeAt (l : List MapD) (port : Int) : Bool := decide (byPort l port < 0)
/-- The first of lo .. lo + n - 1 with f, or -1. -/
def firstOf (f : Int → Bool) (lo : Int) : Nat → Int
  | 0 => -1
  | n + 1 => if f lo then lo else firstOf f (lo + 1) n
theorem firstOf_none {f : Int → Bool} : ∀ (n : Nat) (lo : Int), (∀ j, lo ≤ j → j < lo + n → f j = false) → firstOf f lo n = -1
  | 0, _, _ => rfl
  | n + 1, lo, h => by
    rw [firstOf, h lo (by omega) (by omega), if_neg (by simp)]
    exact firstOf_none n _ fun j h1 h2 => h j (by omega) (by omega)
theorem firstOf_some {f : Int → Bool} : ∀ (n : Nat) (lo k : Int), lo ≤ k → k < lo + n → (∀ j, lo ≤ j → j < k → f j = false) → f k = true → firstOf f lo n = k
  | 0, lo, k, h1, h2, _, _ => by omega
  | n + 1, lo, k, h1, h2, h3, h4 => by
    rw [firstOf]
    by_cases e : k = lo
    · subst e; rw [if_pos h4]
    · rw [h3 lo (by omega) (by omega), if_neg (by simp)]
      exact firstOf_some n (lo + 1) k (by omega) (by omega) (fun j a b => h3 j (by omega) b) h4
theorem firstOf_cases (f : Int → Bool) : ∀ (n : Nat) (lo : Int), (firstOf f lo n = -1 ∧ ∀ j, lo ≤ j → j < lo + n → f j = false) ∨
    (lo ≤ firstOf f lo n ∧ firstOf f lo n < lo + n ∧ f (firstOf f lo n) = true)
  | 0, lo => .inl ⟨rfl, fun j h1 h2 => by omega⟩
  | n + 1, lo => by
    rw [firstOf]
    cases h : f lo with
    | true => rw [if_pos rfl]; exact .inr ⟨by omega, by omega, h⟩
    | false =>
      rw [if_neg (by simp)]
      rcases firstOf_cases f n (lo + 1) with ⟨h1, h2⟩ | ⟨h1, h2, h3⟩
      · refine .inl ⟨h1, fun j a b => ?_⟩
        by_cases e : j = lo
        · rw [e]; exact h
        · exact h2 j (by omega) (by omega)
      · exact .inr ⟨by omega, by omega, h3⟩
def freePort (l : List MapD) (want : Int) : Int :=
  if inR want 1000 1007 && freeAt l want then want
  else if firstOf (fun n => decide (n % 2 = want % 2) && freeAt l n) 1000 8 < 0 then firstOf (freeAt l) 1000 8
  else firstOf (fun n => decide (n % 2 = want % 2) && freeAt l n) 1000 8
def mapEnd (l : List MapD) (e : EndD) (now : Int) : Option (List MapD × Int) :=
  if 0 ≤ byEnd l e then
    some (l.set (byEnd l e).toNat { nth l (byEnd l e).toNat with last := max (nth l (byEnd l e).toNat).last now }, (nth l (byEnd l e).toNat).port)
  else if freePort l e.port < 0 then none else some (l ++ [⟨e, freePort l e.port, now⟩], freePort l e.port)
def expired (m : MapD) (now hold : Int) : Bool := decide (hold ≤ now - m.last)
def expire (l : List MapD) (now hold : Int) : List MapD := l.filter fun m => !expired m now hold
def expPorts (l : List MapD) (now hold : Int) : List Int := (l.filter fun m => expired m now hold).map (·.port)
def timer (now hold : Int) : Bool := inR now 0 10000 && inR hold 1 500
def okGateMap (g : GateD) (m : MapD) : Bool := has g.net m.ins.addr && decide (m.last ≤ g.now) && !expired m g.now g.hold
def okGateCon (g : GateD) (c : ConD) : Bool := decide (0 ≤ byPort g.table c.port)
def validGate (g : GateD) : Bool :=
  validNet g.net && word g.out && !has g.net g.out && validTable g.table && validContacts g.cons && inR g.filter 0 2 && timer g.now g.hold &&
    g.table.all (okGateMap g) && g.cons.all (okGateCon g)
def tick (g : GateD) (now : Int) : GateD :=
  { g with table := expire g.table now g.hold, cons := (expPorts g.table now g.hold).foldl without g.cons, now := now }
def tickGate (g : GateD) (now : Int) : Option GateD := if validGate g && inR now g.now 10000 then some (tick g now) else none
def send (g : GateD) (p : PktD) : Option (PktD × GateD) :=
  match mapEnd g.table p.fr g.now with
  | none => none
  | some (t, port) => some ({ p with fr := ⟨g.out, port⟩ }, { g with table := t, cons := note g.cons ⟨port, p.to_⟩ })
def fromIn (g : GateD) (p : PktD) : Bool := validGate g && validPkt p && has g.net p.fr.addr
def goesOut (g : GateD) (p : PktD) : Bool := fromIn g p && !has g.net p.to_.addr && !decide (p.to_.addr = g.out)
def sendOut (g : GateD) (p : PktD) : Option (PktD × GateD) := if goesOut g p then send g p else none
def receive (g : GateD) (p : PktD) : Option (PktD × GateD) :=
  if decide (0 ≤ byPort g.table p.to_.port) && lets g.filter g.cons p.to_.port p.fr then
    some ({ p with to_ := (nth g.table (byPort g.table p.to_.port).toNat).ins }, g) else none
def comesIn (g : GateD) (p : PktD) : Bool := validGate g && validPkt p && decide (p.to_.addr = g.out) && !has g.net p.fr.addr
def receiveIn (g : GateD) (p : PktD) : Option (PktD × GateD) := if comesIn g p then receive g p else none
def between (g : GateD) (p : PktD) : Bool := fromIn g p && decide (p.to_.addr = g.out)
def passBetween (g : GateD) (p : PktD) : Option (PktD × GateD) :=
  if between g p then match send g p with
    | none => none
    | some (q, h) => receive h q
  else none
def way (g : GateD) (p : PktD) : Int :=
  if has g.net p.fr.addr && decide (p.to_.addr = g.out) then 3
  else if has g.net p.fr.addr && !has g.net p.to_.addr then 1
  else if !has g.net p.fr.addr && decide (p.to_.addr = g.out) then 2
  else 0
def wayOf (g : GateD) (p : PktD) : Int := if validGate g && validPkt p then way g p else -1
def forward (g : GateD) (p : PktD) : Option (PktD × GateD) :=
  if wayOf g p = 1 then send g p else if wayOf g p = 2 then receive g p else if wayOf g p = 3 then passBetween g p else none
def validRep (e : RepD) : Bool := inR e.code 0 15 && word e.sender && word e.to_ && validPkt e.about
def reportOf (code sender : Int) (p : PktD) : Option RepD :=
  if inR code 0 15 && word sender && validPkt p then some ⟨code, sender, p.fr.addr, { p with data := p.data.take 4 }⟩ else none
def reportIn (g : GateD) (e : RepD) : Option RepD :=
  if validGate g && validRep e && decide (e.to_ = g.out) && decide (e.about.fr.addr = g.out) && !has g.net e.sender && decide (0 ≤ byPort g.table e.about.fr.port) then
    some { e with to_ := (nth g.table (byPort g.table e.about.fr.port).toNat).ins.addr, about := { e.about with fr := (nth g.table (byPort g.table e.about.fr.port).toNat).ins } }
  else none
def reportOut (g : GateD) (e : RepD) : Option RepD :=
  if validGate g && validRep e && has g.net e.sender && !has g.net e.to_ && !decide (e.to_ = g.out) && decide (0 ≤ byEnd g.table e.about.to_) then
    some { e with sender := g.out, about := { e.about with to_ := ⟨g.out, (nth g.table (byEnd g.table e.about.to_).toNat).port⟩ } }
  else none
def outsidePort (l : List MapD) (e : EndD) : Int := if validTable l && decide (0 ≤ byEnd l e) then (nth l (byEnd l e).toNat).port else -1
def insideEnd (l : List MapD) (port : Int) : Option EndD := if validTable l && decide (0 ≤ byPort l port) then some (nth l (byPort l port).toNat).ins else none
def reverse (p : PktD) : Option PktD := if validPkt p then some { p with fr := p.to_, to_ := p.fr } else none
def validPlan (b : PlanD) : Bool :=
  validNet b.net && decide (8 ≤ b.net.bits) && inR b.first 1 65535 && inR b.size 1 16 && decide (b.first + b.size * netSize b.net.bits - 1 ≤ 65535)

def encI (x : Int) : List Value := [.int .i64 x]
def encM (m : MapD) : List Value := [.int .i64 m.ins.addr, .int .i64 m.ins.port, .int .i64 m.port, .int .i64 m.last]
def encC (c : ConD) : List Value := [.int .i64 c.port, .int .i64 c.to_.addr, .int .i64 c.to_.port]
def encU (x : Int) : List Value := [.int .u8 x]
theorem encI_len (x : Int) : (encI x).length = 1 := rfl
theorem encM_len (x : MapD) : (encM x).length = 4 := rfl
theorem encC_len (x : ConD) : (encC x).length = 3 := rfl
theorem encU_len (x : Int) : (encU x).length = 1 := rfl
end Go.Proofs.Ytppdcglnopoocaa
/- A region that draws its order, walked once in the text's order: if every operation gives one fixed value in every world that meets a condition S, and keeps S, then every order gives the same frame and a world that meets S. No condition. -/
namespace Go.Proofs.Ytppdcglnopoocaa
set_option linter.unusedVariables false
set_option linter.unusedSimpArgs false

/-- In every world that meets S the operation, if it is wanted, yields v and leaves a world that meets S. -/
def OpGives (P : Program) (S : World → Prop) (o : Oper) (v : Value) (ρ : Operand → Value) (w : World) : Prop :=
  match (execOp ρ o).run P w with
  | .ok (.value u) w' => u = v ∧ S w'
  | .ok .skip w' => v = undef ∧ S w'
  | .ok (.enter f args) w' => Calls P f args w' fun e w'' => e = .returned v ∧ S w''
  | _ => False
def Stab (P : Program) (ops : Array Oper) (S : World → Prop) (o : Oper) (v : Value) (a : Act) : Prop :=
  (Region.wanted o (yielded ops a.tmps) = true ∧ ∀ w, S w → OpGives P S o v a.eval w) ∨ (Region.wanted o (yielded ops a.tmps) = false ∧ v = undef)

theorem OpGives.val {P : Program} {S : World → Prop} {o : Oper} {v : Value} {ρ : Operand → Value} {w : World} (hS : S w) (h : (execOp ρ o).run P w = .ok (.value v) w) : OpGives P S o v ρ w := by
  unfold OpGives; rw [h]; exact ⟨rfl, hS⟩
theorem OpGives.enter {P : Program} {S : World → Prop} {o : Oper} {v : Value} {ρ : Operand → Value} {w : World} {f : FuncId} {args : Array Value} (h : (execOp ρ o).run P w = .ok (.enter f args) w)
    (hc : Calls P f args w fun e w'' => e = .returned v ∧ S w'') : OpGives P S o v ρ w := by
  unfold OpGives; rw [h]; exact hc

section
variable {P : Program} {ops : Array Oper} {Q : Exit → Act → World → Prop} {S : World → Prop}
theorem Stab.of_same {o : Oper} {v : Value} {a a' : Act} (h : Stab P ops S o v a) (he : execOp a'.eval o = execOp a.eval o)
    (hw : Region.wanted o (yielded ops a'.tmps) = Region.wanted o (yielded ops a.tmps)) : Stab P ops S o v a' := by
  unfold Stab OpGives at *
  rw [he, hw]
  exact h
theorem Stab.wpOp {i : Nat} {o : Oper} {v : Value} {a : Act} (hi : ops[i]? = some o) (h : Stab P ops S o v a) {K : Act → World → Prop} {w : World} (hS : S w)
    (hK : ∀ w', S w' → K (a.put o.dst v) w') : wpOp P ops Q i K a w := by
  unfold Go.wpOp
  simp only [hi]
  rcases h with ⟨hw, hg⟩ | ⟨hw, rfl⟩
  · simp only [hw, if_true]
    refine .inl ?_
    have hg := hg w hS
    unfold OpGives at hg
    unfold Oper.wp
    generalize (execOp a.eval o).run P w = r at *
    cases r with
    | ok n w' =>
      cases n <;> simp only at hg <;> simp only [Oper.upon]
      case value u => obtain ⟨rfl, hs⟩ := hg; exact hK w' hs
      case skip => obtain ⟨rfl, hs⟩ := hg; exact hK w' hs
      case enter f args =>
        refine Calls.mono hg fun e w'' he => ?_
        obtain ⟨rfl, hs⟩ := he
        exact hK w'' hs
    | halt x w' => simp only at hg
  · simp only [hw, Bool.false_eq_true, if_false]
    exact hK w hS

/-- Each operation in turn gives a fixed value; behind the last one Q holds in every world that meets S. -/
def ChI (P : Program) (ops : Array Oper) (Q : Exit → Act → World → Prop) (S : World → Prop) : List Nat → Act → Prop
  | [], a => ∀ w, S w → Q .normal a w
  | i :: r, a => ∃ o, ops[i]? = some o ∧ ∃ v, Stab P ops S o v a ∧ ChI P ops Q S r (a.put o.dst v)
def ChL (P : Program) (ops : Array Oper) (Q : Exit → Act → World → Prop) (S : World → Prop) : List Oper → Act → Prop
  | [], a => ∀ w, S w → Q .normal a w
  | o :: r, a => ∃ v, Stab P ops S o v a ∧ ChL P ops Q S r (a.put o.dst v)

def pairOk (ops : Array Oper) (i j : Nat) : Bool :=
  match ops[i]?, ops[j]? with
  | some x, some y => y.after.any (fun e => Region.binds .any e && e.on == i) || x.apart ops y
  | _, _ => true
def chainOk (ops : Array Oper) : Bool :=
  Region.noSelect ops && ((List.range ops.size).all fun j => (List.range j).all fun i => pairOk ops i j) &&
    ((List.range ops.size).all fun j => ((ops[j]?).map fun y => y.after.all fun e => !Region.binds .any e || decide (e.on < j)).getD true)

theorem ChI.take (hsel : ∀ (j : Nat) (o : Oper) cs b, ops[j]? = some o → o.op ≠ .select cs b) {j : Nat} {oj : Oper} (hj : ops[j]? = some oj) {l2 : List Nat} :
    ∀ (l1 : List Nat) (a : Act), (∀ i ∈ l1, ∀ x, ops[i]? = some x → x.apart ops oj = true) → ChI P ops Q S (l1 ++ j :: l2) a →
      ∃ v, Stab P ops S oj v a ∧ ChI P ops Q S (l1 ++ l2) (a.put oj.dst v)
  | [], a, _, h => by
    obtain ⟨o, ho, v, hs, hc⟩ := h
    rw [hj] at ho
    injection ho with ho
    subst ho
    exact ⟨v, hs, hc⟩
  | i :: l1, a, hap, h => by
    obtain ⟨o, ho, v, hs, hc⟩ := h
    obtain ⟨u, hu, hd⟩ := ChI.take hsel hj l1 (a.put o.dst v) (fun x hx => hap x (by simp [hx])) hc
    obtain ⟨h1, h2, h3⟩ := Oper.apart_spec (hap i (by simp) o ho)
    refine ⟨u, hu.of_same (execOp_put oj (fun cs b => hsel j oj cs b hj) a o.dst v h1).symm (wanted_put oj a o.dst v h1).symm, o, ho, v,
      hs.of_same (execOp_put o (fun cs b => hsel i o cs b ho) a oj.dst u h3) (wanted_put o a oj.dst u h3), ?_⟩
    rw [← Act.put_comm a v u h2]
    exact hd

theorem ChI.any (hok : chainOk ops = true) : ∀ (fuel : Nat) (listed : Array Bool) (a : Act) (l : List Nat), l.length ≤ fuel → l.Pairwise (· < ·) →
    (∀ i, i ∈ l ↔ (i < ops.size ∧ listed.getD i true = false)) → (∀ i, i < ops.size → listed.getD i true = listed.getD i false) → ChI P ops Q S l a → ∀ w, S w → wpAny P .any ops Q fuel listed a w := by
  simp only [chainOk, Bool.and_eq_true, List.all_eq_true, List.mem_range] at hok
  obtain ⟨⟨hns, hpair⟩, hback⟩ := hok
  have hmem : ∀ (listed : Array Bool) (l : List Nat), (∀ i, i ∈ l ↔ (i < ops.size ∧ listed.getD i true = false)) → ∀ j, j ∈ Region.ready .any ops listed → j ∈ l := by
    intro listed l hl j hj
    obtain ⟨h0, o, ho, _⟩ := mem_ready.1 hj
    exact (hl j).2 ⟨(Array.getElem?_eq_some_iff.1 ho).1, h0⟩
  intro fuel
  induction fuel with
  | zero =>
    intro listed a l hlen _ hl _ hc w hS
    have hnil : l = [] := List.eq_nil_of_length_eq_zero (by omega)
    subst hnil
    refine ⟨?_, hc w hS⟩
    cases hr : Region.ready .any ops listed with
    | nil => rfl
    | cons x xs => exact absurd (hmem listed [] hl x (by rw [hr]; simp)) (by simp)
  | succ fuel ih =>
    intro listed a l hlen hsort hl hsz hc w hS
    refine ⟨fun hr => ?_, fun j hj => ?_⟩
    · cases l with
      | nil => exact hc w hS
      | cons i r =>
        exfalso
        obtain ⟨hi, hun⟩ := (hl i).1 (by simp)
        have hmin := (List.pairwise_cons.1 hsort).1
        have : i ∈ Region.ready .any ops listed := by
          rw [mem_ready]
          refine ⟨hun, ops[i], Array.getElem?_eq_getElem hi, fun e he hb => ?_⟩
          have hb1 := hback i hi
          rw [Array.getElem?_eq_getElem hi] at hb1
          simp only [Option.map_some, Option.getD_some] at hb1
          have hb2 := Array.all_eq_true_iff_forall_mem.1 hb1 e he
          simp only [hb, Bool.not_true, Bool.false_or, decide_eq_true_eq] at hb2
          have hlt : e.on < ops.size := by omega
          cases hx : listed.getD e.on true with
          | true => rw [← hsz _ hlt]; exact hx
          | false =>
            have h1 : e.on ∈ i :: r := (hl e.on).2 ⟨hlt, hx⟩
            rcases List.mem_cons.1 h1 with h1 | h1
            · omega
            · have := hmin _ h1; omega
        rw [hr] at this
        cases this
    · have hjl := hmem listed l hl j hj
      obtain ⟨hjun, oj, hoj, hall⟩ := mem_ready.1 hj
      have hjlt : j < ops.size := (Array.getElem?_eq_some_iff.1 hoj).1
      obtain ⟨l1, l2, rfl⟩ := List.append_of_mem hjl
      have hs1 : ∀ i ∈ l1, i < j := fun i hi => (List.pairwise_append.1 hsort).2.2 i hi j (by simp)
      have hap : ∀ i ∈ l1, ∀ x, ops[i]? = some x → x.apart ops oj = true := by
        intro i hi x hx
        have hp := hpair j hjlt i (hs1 i hi)
        simp only [pairOk, hx, hoj, Bool.or_eq_true] at hp
        rcases hp with hp | hp
        · obtain ⟨e, he, hb⟩ := Array.any_eq_true'.1 hp
          simp only [Bool.and_eq_true, beq_iff_eq] at hb
          have h1 := hall e he hb.1
          have h2 := ((hl i).1 (by simp [hi])).2
          rw [hb.2, ← hsz i (by have := hs1 i hi; omega), h2] at h1
          cases h1
        · exact hp
      obtain ⟨v, hv, hrest⟩ := ChI.take (Region.noSelect_spec hns) hoj l1 a hap hc
      refine hv.wpOp hoj hS fun w' hS' => ih (listed.setIfInBounds j true) _ (l1 ++ l2) ?_ ?_ ?_ ?_ hrest w' hS'
      · simp only [List.length_append, List.length_cons] at hlen ⊢; omega
      · rw [List.pairwise_append] at hsort ⊢
        exact ⟨hsort.1, (List.pairwise_cons.1 hsort.2.1).2, fun x hx y hy => hsort.2.2 x hx y (by simp [hy])⟩
      · intro i
        have hnd : j ∉ l1 ++ l2 := by
          intro hm
          rcases List.mem_append.1 hm with hm | hm
          · have := hs1 j hm; omega
          · have := (List.pairwise_cons.1 (List.pairwise_append.1 hsort).2.1).1 j hm; omega
        by_cases hij : j = i
        · subst hij
          constructor
          · intro h; exact absurd h hnd
          · rintro ⟨hlt, h⟩
            rw [Array.getD_eq_getD_getElem?, Array.getElem?_setIfInBounds] at h
            rcases Nat.lt_or_ge j listed.size with hz | hz
            · simp [hz] at h
            · simp [Array.getElem?_eq_none hz] at hjun
        · rw [getD_set_ne true hij, ← hl i]
          simp only [List.mem_append, List.mem_cons]
          constructor
          · rintro (h | h)
            · exact .inl h
            · exact .inr (.inr h)
          · rintro (h | h | h)
            · exact .inl h
            · exact absurd h.symm hij
            · exact .inr h
      · intro i hi
        by_cases hij : j = i
        · subst hij
          rw [Array.getD_eq_getD_getElem?, Array.getD_eq_getD_getElem?, Array.getElem?_setIfInBounds]
          rcases Nat.lt_or_ge j listed.size with hz | hz
          · simp [hz]
          · simp [Array.getElem?_eq_none hz] at hjun
        · rw [getD_set_ne true hij, getD_set_ne false hij]
          exact hsz i hi

theorem ChI.of_list (l : List Oper) : ∀ (k : Nat) (a : Act), (∀ j, l[j]? = ops[k + j]?) → ChL P ops Q S l a → ChI P ops Q S (List.range' k l.length) a := by
  induction l with
  | nil => intro k a _ h; exact h
  | cons o l ih =>
    intro k a h hc
    obtain ⟨v, hv, hr⟩ := hc
    have h0 : ops[k]? = some o := by simpa using (h 0).symm
    exact ⟨o, h0, v, hv, ih (k + 1) _ (fun j => by have := h (j + 1); simpa [Nat.add_assoc, Nat.add_comm 1 j] using this) hr⟩

/-- THE LAW. -/
theorem wp_region_chain {id : Nat} {l : List Oper} {a : Act} {w : World} (S : World → Prop) (hm : P.follows .mixedOrders = true) (hok : chainOk l.toArray = true) (hS : S w.drew)
    (h : ChL P l.toArray Q S l a) : (Code.region id l.toArray true).wp P Q a w := by
  refine wp_region_any hm (ChI.any (ops := l.toArray) hok _ _ a (List.range l.toArray.size) (by simp) List.pairwise_lt_range ?_ ?_ ?_ _ hS)
  · intro i
    simp only [List.mem_range, Array.getD_eq_getD_getElem?, Array.getElem?_replicate]
    constructor
    · intro h
      have h' : i < l.length := by simpa using h
      exact ⟨h, by simp [h']⟩
    · exact fun h => h.1
  · intro i hi
    have h' : i < l.length := by simpa using hi
    simp [h']
  · rw [List.range_eq_range']
    have := ChI.of_list (P := P) (ops := l.toArray) (Q := Q) (S := S) l 0 a (by simp) h
    simpa using this
theorem ChL.nil {a : Act} (h : ∀ w, S w → Q .normal a w) : ChL P ops Q S [] a := h
/-- An operation whose guard says no. -/
theorem ChL.skip {o : Oper} {r : List Oper} {a : Act} (hw : Region.wanted o (yielded ops a.tmps) = false) (h : ChL P ops Q S r (a.put o.dst undef)) : ChL P ops Q S (o :: r) a :=
  ⟨undef, .inr ⟨hw, rfl⟩, h⟩
/-- An operation that yields its value and leaves the world as it is. -/
theorem ChL.val {o : Oper} {r : List Oper} {a : Act} {v : Value} (hw : Region.wanted o (yielded ops a.tmps) = true) (hv : ∀ w, S w → (execOp a.eval o).run P w = .ok (.value v) w)
    (h : ChL P ops Q S r (a.put o.dst v)) : ChL P ops Q S (o :: r) a :=
  ⟨v, .inl ⟨hw, fun w hS => .val hS (hv w hS)⟩, h⟩
/-- A call. -/
theorem ChL.call {o : Oper} {r : List Oper} {a : Act} {v : Value} {f : FuncId} {args : Array Value} (hw : Region.wanted o (yielded ops a.tmps) = true) (he : ∀ w, (execOp a.eval o).run P w = .ok (.enter f args) w)
    (hc : ∀ w, S w → Calls P f args w fun e w'' => e = .returned v ∧ S w'') (h : ChL P ops Q S r (a.put o.dst v)) : ChL P ops Q S (o :: r) a :=
  ⟨v, .inl ⟨hw, fun w hS => .enter (he w) (hc w hS)⟩, h⟩
/-- A guard that is not decided: both ways. -/
theorem ChL.guard {o : Oper} {r : List Oper} {a : Act} {x : Bool} (_hw : Region.wanted o (yielded ops a.tmps) = x) (ht : x = true → ChL P ops Q S (o :: r) a) (hf : x = false → ChL P ops Q S (o :: r) a) :
    ChL P ops Q S (o :: r) a := by
  cases x
  · exact hf rfl
  · exact ht rfl
/-- The condition: nothing that was there when the region began has turned. -/
theorem wp_region_ext {id : Nat} {l : List Oper} {a : Act} {w : World} (hm : P.follows .mixedOrders = true) (hok : chainOk l.toArray = true) (h : ChL P l.toArray Q (Ext w) l a) :
    (Code.region id l.toArray true).wp P Q a w := wp_region_chain (Ext w) hm hok ((Ext.refl w).drew) h
end
end Go.Proofs.Ytppdcglnopoocaa
/- Contracts of the smallest functions: ranges, words, nets. Each is proved once for all arguments that its callers hand it. -/
namespace Go.Proofs.Ytppdcglnopoocaa
set_option linter.unusedVariables false
set_option linter.unusedSimpArgs false
open Go.RowKit

theorem ret_int {a b : Int} (h : a = b) : Ending.returned (.int .i64 a) = .returned (.int .i64 b) := by rw [h]
theorem ret_bool {a b : Bool} (h : a = b) : Ending.returned (.bool a) = .returned (.bool b) := by rw [h]

/-- A slice literal of integers. -/
theorem Sl.lit (w : World) (T : TypeId) (xs : List Int) {b : Nat} (hb : b = w.heap.size) (h : xs.length ≤ 1000 := by simp) :
    Sl encI 1 (w.alloc (.cells (xs.map (Value.int .i64)).toArray T)) (some ⟨b, 0, none⟩) xs.length xs.length xs :=
  ⟨rfl, Nat.le_refl _, by omega, (fun e => by cases e), fun _ => ⟨b, 0, rfl, by simp [hb], fun i x hx j u hu => by
    have hj : j = 0 := by
      have := (List.getElem?_eq_some_iff.1 hu).1
      simp [encI] at this
      exact this
    subst hj
    simp [encI] at hu
    subst hu
    rw [World.cell?_alloc_at _ _ _ _ hb]
    simp [hx]⟩⟩
theorem spec_inRange (n lo hi : Int) (w : World) : Calls Try.prog 144 #[.int .i64 n, .int .i64 lo, .int .i64 hi] w fun e w' => e = .returned (.bool (inR n lo hi)) ∧ w = w' := by
  by_cases h1 : lo ≤ n
  · have hb : inR n lo hi = decide (n ≤ hi) := by simp [inR, h1]
    rw [hb]
    go_enter Try.func144, Try.ntmps144
    go_wp2
    all_goals go_ret
    all_goals exact ⟨by simp [*], rfl⟩
  · have hb : inR n lo hi = false := by simp [inR, h1]
    rw [hb]
    go_enter Try.func144, Try.ntmps144
    go_wp2
    all_goals go_ret
    all_goals exact ⟨by simp [*], rfl⟩
theorem impl_in (n lo hi : Int) (w : World) : Calls Try.prog 66 #[.int .i64 n, .int .i64 lo, .int .i64 hi] w fun e w' => e = .returned (.bool (inR n lo hi)) ∧ w = w' := by
  by_cases h1 : lo ≤ n
  · have hb : inR n lo hi = decide (n ≤ hi) := by simp [inR, h1]
    rw [hb]
    go_enter Try.func66, Try.ntmps66
    go_wp2
    all_goals go_ret
    all_goals exact ⟨by simp [*], rfl⟩
  · have hb : inR n lo hi = false := by simp [inR, h1]
    rw [hb]
    go_enter Try.func66, Try.ntmps66
    go_wp2
    all_goals go_ret
    all_goals exact ⟨by simp [*], rfl⟩
theorem impl_isWord (n : Int) (w : World) : Calls Try.prog 72 #[.int .i64 n] w fun e w' => e = .returned (.bool (word n)) ∧ w = w' := by
  go_enter Try.func72, Try.ntmps72
  go_wp2_with (go_at_call 66; refine (impl_in _ _ _ _).mono ?_; rintro e w' ⟨rfl, rfl⟩)
  go_ret
  exact ⟨rfl, rfl⟩
theorem spec_validAddr (n : Int) (w : World) : Calls Try.prog 141 #[.int .i64 n] w fun e w' => e = .returned (.bool (word n)) ∧ w = w' := by
  go_enter Try.func141, Try.ntmps141
  go_wp2_with (go_at_call 144; refine (spec_inRange _ _ _ _).mono ?_; rintro e w' ⟨rfl, rfl⟩)
  go_ret
  exact ⟨rfl, rfl⟩
theorem wrap_id {x : Int} (h0 : -9223372036854775808 ≤ x) (h1 : x ≤ 9223372036854775807) : wrap64 x = x := by
  exact IntWalk.wrap64_in x ⟨h0, h1⟩
theorem pow_netSize {bits : Int} (h0 : 0 ≤ bits) : wrap64 (2 ^ (16 - bits).toNat) = netSize bits := by
  have h1 := netSize_le h0
  have h2 := netSize_pos bits
  have e : (2 : Int) ^ (16 - bits).toNat = netSize bits := by simp [netSize]
  rw [e]
  exact wrap_id (by omega) (by omega)
theorem impl_size (base bits : Int) (w : World) (h0 : 0 ≤ bits) (h1 : bits ≤ 16) :
    Calls Try.prog 120 #[.agg #[.int .i64 base, .int .i64 bits]] w fun e w' => e = .returned (.int .i64 (netSize bits)) ∧ Ext w w' := by
  go_enter Try.func120, Try.ntmps120
  go_wp2
  go_ret
  exact ⟨ret_int (pow_netSize h0), (by repeat (first | (with_reducible exact Ext.refl _) | (with_reducible assumption) | (with_reducible refine Ext.alloc ?_ _) | (with_reducible refine Ext.drewN ?_ _) | (with_reducible refine Ext.drew ?_) | (with_reducible refine Ext.setCell ?_ ?_ _; rotate_left; (simp only []; omega)) | (with_reducible refine Ext.trans ?_ (by assumption))))⟩
theorem impl_has (base bits a : Int) (w : World) (h : validNet ⟨base, bits⟩ = true) :
    Calls Try.prog 58 #[.agg #[.int .i64 base, .int .i64 bits], .int .i64 a] w fun e w' => e = .returned (.bool (has ⟨base, bits⟩ a)) ∧ Ext w w' := by
  obtain ⟨b0, b1, b2, b3⟩ := validNet_bd h
  simp only at b0 b1 b2 b3
  have s0 := netSize_pos bits
  have s1 := netSize_le b0
  have e1 : IntKind.i64.wrap (base + netSize bits) = base + netSize bits := IntWalk.i64_in _ (by omega)
  have e2 : IntKind.i64.wrap (base + netSize bits - 1) = base + netSize bits - 1 := IntWalk.i64_in _ (by omega)
  clear h
  go_enter Try.func58, Try.ntmps58
  go_wp2_with fail
  refine wp_region_ext (by kernel_rfl) (by kernel_rfl) ?_
  repeat' (first
    | (refine ChL.skip (by rfl) ?_
       (try simp only [Act.put, List.setIfInBounds_toArray, List.set_cons_zero, List.set_cons_succ]))
    | (refine' ChL.val (v := _) (by rfl) ?_ ?_
       rotate_left
       · (intro wS hS
          have hcS := Ext.cells hS
          go_simp
          with_reducible rfl)
       (try simp only [Act.put, List.setIfInBounds_toArray, List.set_cons_zero, List.set_cons_succ]))
    | (refine' ChL.call (v := _) (f := _) (args := _) (by rfl) ?_ ?_ ?_
       rotate_left 3
       · (intro wS
          go_simp
          (constructor <;> rfl))
       · (intro wS hS
          first | (go_at_call 120; refine (impl_size _ _ _ b0 b1).mono ?_; rintro e w1 ⟨rfl, hx⟩; refine ⟨?_, Ext.trans hS hx⟩; rfl) | (go_at_call 66; refine (impl_in _ _ _ _).mono ?_; rintro e w1 ⟨rfl, hx⟩; subst hx; refine ⟨?_, hS⟩; rfl))
       (try simp only [Act.put, List.setIfInBounds_toArray, List.set_cons_zero, List.set_cons_succ]))
    | (refine ChL.nil ?_)
    | (refine' ChL.guard (x := _) ?_ ?_ ?_
       rotate_left
       · (go_simp
          rfl)
       all_goals
         intro hg
         simp only [hg]))
  intro w' hw'
  go_wp2
  go_ret
  exact ⟨rfl, (by repeat (first | (with_reducible exact Ext.refl _) | (with_reducible assumption) | (with_reducible refine Ext.alloc ?_ _) | (with_reducible refine Ext.drewN ?_ _) | (with_reducible refine Ext.drew ?_) | (with_reducible refine Ext.setCell ?_ ?_ _; rotate_left; (simp only []; omega)) | (with_reducible refine Ext.trans ?_ (by assumption))))⟩
theorem pow_step {k : Int} {bits : Int} (hb : bits ≤ k) : 2 * ((2 ^ (k - bits).toNat : Nat) : Int) = ((2 ^ (k + 1 - bits).toNat : Nat) : Int) := by
  have e : (k + 1 - bits).toNat = (k - bits).toNat + 1 := by omega
  rw [e, Nat.pow_succ]
  omega
theorem spec_size (base bits : Int) (w : World) (h0 : 0 ≤ bits) (h1 : bits ≤ 16) :
    Calls Try.prog 146 #[.agg #[.int .i64 base, .int .i64 bits]] w fun e w' => e = .returned (.int .i64 (netSize bits)) ∧ Ext w w' := by
  go_enter Try.func146, Try.ntmps146
  go_wp2
  go_loop [3, 4] (fun o i => ∃ k : Int, bits ≤ k ∧ k ≤ 16 ∧ i = .int .i64 k ∧ o = .int .i64 ((2 ^ (k - bits).toNat : Nat) : Int)) (fun _ i => (16 - intOf i).toNat)
  case atStart => exact ⟨bits, by omega, h1, rfl, by simp⟩
  case round =>
    obtain ⟨k, hk0, hk1, rfl, rfl⟩ := hrel
    have hp : 2 ^ (k - bits).toNat ≤ 2 ^ 16 := Nat.pow_le_pow_right (by omega) (by omega)
    generalize hq : 2 ^ (k - bits).toNat = q at hp ⊢
    have HQ := Lib.hid hq
    clear hq
    have hq0 : 0 ≤ (q : Int) := by omega
    have hq1 : (q : Int) ≤ 65536 := by omega
    by_cases hlt : k < 16
    · go_wp2
      go_round
      case rel => exact ⟨k + 1, by omega, by omega, rfl, by rw [← pow_step hk0, HQ.out]⟩
      case measure => simp [intOf]; omega
    · go_wp2
      go_ret
      exact ⟨ret_int (by rw [← HQ.out]; have e : k = 16 := by omega
                         rw [e]; rfl), (by repeat (first | (with_reducible exact Ext.refl _) | (with_reducible assumption) | (with_reducible refine Ext.alloc ?_ _) | (with_reducible refine Ext.drewN ?_ _) | (with_reducible refine Ext.drew ?_) | (with_reducible refine Ext.setCell ?_ ?_ _; rotate_left; (simp only []; omega)) | (with_reducible refine Ext.trans ?_ (by assumption))))⟩
theorem spec_inNet (base bits a : Int) (w : World) (h : validNet ⟨base, bits⟩ = true) :
    Calls Try.prog 91 #[.agg #[.int .i64 base, .int .i64 bits], .int .i64 a] w fun e w' => e = .returned (.bool (has ⟨base, bits⟩ a)) ∧ Ext w w' := by
  obtain ⟨b0, b1, b2, b3⟩ := validNet_bd h
  simp only at b0 b1 b2 b3
  have s0 := netSize_pos bits
  have s1 := netSize_le b0
  have e1 : IntKind.i64.wrap (base + netSize bits) = base + netSize bits := IntWalk.i64_in _ (by omega)
  have e2 : IntKind.i64.wrap (base + netSize bits - 1) = base + netSize bits - 1 := IntWalk.i64_in _ (by omega)
  clear h
  go_enter Try.func91, Try.ntmps91
  go_wp2_with fail
  refine wp_region_ext (by kernel_rfl) (by kernel_rfl) ?_
  repeat' (first
    | (refine ChL.skip (by rfl) ?_
       (try simp only [Act.put, List.setIfInBounds_toArray, List.set_cons_zero, List.set_cons_succ]))
    | (refine' ChL.val (v := _) (by rfl) ?_ ?_
       rotate_left
       · (intro wS hS
          have hcS := Ext.cells hS
          go_simp
          with_reducible rfl)
       (try simp only [Act.put, List.setIfInBounds_toArray, List.set_cons_zero, List.set_cons_succ]))
    | (refine' ChL.call (v := _) (f := _) (args := _) (by rfl) ?_ ?_ ?_
       rotate_left 3
       · (intro wS
          go_simp
          (constructor <;> rfl))
       · (intro wS hS
          first | (go_at_call 146; refine (spec_size _ _ _ b0 b1).mono ?_; rintro e w1 ⟨rfl, hx⟩; refine ⟨?_, Ext.trans hS hx⟩; rfl) | (go_at_call 144; refine (spec_inRange _ _ _ _).mono ?_; rintro e w1 ⟨rfl, hx⟩; subst hx; refine ⟨?_, hS⟩; rfl))
       (try simp only [Act.put, List.setIfInBounds_toArray, List.set_cons_zero, List.set_cons_succ]))
    | (refine ChL.nil ?_)
    | (refine' ChL.guard (x := _) ?_ ?_ ?_
       rotate_left
       · (go_simp
          rfl)
       all_goals
         intro hg
         simp only [hg]))
  intro w' hw'
  go_wp2
  go_ret
  exact ⟨rfl, (by repeat (first | (with_reducible exact Ext.refl _) | (with_reducible assumption) | (with_reducible refine Ext.alloc ?_ _) | (with_reducible refine Ext.drewN ?_ _) | (with_reducible refine Ext.drew ?_) | (with_reducible refine Ext.setCell ?_ ?_ _; rotate_left; (simp only []; omega)) | (with_reducible refine Ext.trans ?_ (by assumption))))⟩
theorem impl_ValidNet (base bits : Int) (w : World) :
    Calls Try.prog 71 #[.agg #[.int .i64 base, .int .i64 bits]] w fun e w' => e = .returned (.bool (validNet ⟨base, bits⟩)) ∧ Ext w w' := by
  have c1 := impl_in bits 0 16
  have c2 := impl_isWord base
  cases h1 : inR bits 0 16 with
  | false =>
      have hv : validNet ⟨base, bits⟩ = false := by simp [validNet, h1]
      simp only [hv, h1] at c1 ⊢
      clear hv c2 h1
      replace c1 := Lib.hid c1
      go_enter Try.func71, Try.ntmps71
      go_wp2_with fail
      refine wp_region_ext (by kernel_rfl) (by kernel_rfl) ?_
      repeat' (first
        | (refine ChL.skip (by rfl) ?_
           (try simp only [Act.put, List.setIfInBounds_toArray, List.set_cons_zero, List.set_cons_succ]))
        | (refine' ChL.val (v := _) (by rfl) ?_ ?_
           rotate_left
           · (intro wS hS
              have hcS := Ext.cells hS
              go_simp
              with_reducible rfl)
           (try simp only [Act.put, List.setIfInBounds_toArray, List.set_cons_zero, List.set_cons_succ]))
        | (refine' ChL.call (v := _) (f := _) (args := _) (by rfl) ?_ ?_ ?_
           rotate_left 3
           · (intro wS
              go_simp
              (constructor <;> rfl))
           · (intro wS hS
              first | (go_at_call 66; refine (c1.out _).mono ?_; rintro e w1 ⟨rfl, hx⟩; subst hx; refine ⟨?_, hS⟩; rfl))
           (try simp only [Act.put, List.setIfInBounds_toArray, List.set_cons_zero, List.set_cons_succ]))
        | (refine ChL.nil ?_)
        | (refine' ChL.guard (x := _) ?_ ?_ ?_
           rotate_left
           · (go_simp
              rfl)
           all_goals
             intro hg
             simp only [hg]))
      intro w' hw'
      go_wp2
      go_ret
      exact ⟨rfl, (by repeat (first | (with_reducible exact Ext.refl _) | (with_reducible assumption) | (with_reducible refine Ext.alloc ?_ _) | (with_reducible refine Ext.drewN ?_ _) | (with_reducible refine Ext.drew ?_) | (with_reducible refine Ext.setCell ?_ ?_ _; rotate_left; (simp only []; omega)) | (with_reducible refine Ext.trans ?_ (by assumption))))⟩
  | true =>
    obtain ⟨b0, b1⟩ := inR_iff.1 h1
    cases h2 : word base with
    | false =>
      have hv : validNet ⟨base, bits⟩ = false := by simp [validNet, h1, h2]
      simp only [hv, h1, h2] at c1 c2 ⊢
      clear hv h1 h2
      replace c1 := Lib.hid c1
      replace c2 := Lib.hid c2
      go_enter Try.func71, Try.ntmps71
      go_wp2_with fail
      refine wp_region_ext (by kernel_rfl) (by kernel_rfl) ?_
      repeat' (first
        | (refine ChL.skip (by rfl) ?_
           (try simp only [Act.put, List.setIfInBounds_toArray, List.set_cons_zero, List.set_cons_succ]))
        | (refine' ChL.val (v := _) (by rfl) ?_ ?_
           rotate_left
           · (intro wS hS
              have hcS := Ext.cells hS
              go_simp
              with_reducible rfl)
           (try simp only [Act.put, List.setIfInBounds_toArray, List.set_cons_zero, List.set_cons_succ]))
        | (refine' ChL.call (v := _) (f := _) (args := _) (by rfl) ?_ ?_ ?_
           rotate_left 3
           · (intro wS
              go_simp
              (constructor <;> rfl))
           · (intro wS hS
              first | (go_at_call 66; refine (c1.out _).mono ?_; rintro e w1 ⟨rfl, hx⟩; subst hx; refine ⟨?_, hS⟩; rfl) | (go_at_call 72; refine (c2.out _).mono ?_; rintro e w1 ⟨rfl, hx⟩; subst hx; refine ⟨?_, hS⟩; rfl))
           (try simp only [Act.put, List.setIfInBounds_toArray, List.set_cons_zero, List.set_cons_succ]))
        | (refine ChL.nil ?_)
        | (refine' ChL.guard (x := _) ?_ ?_ ?_
           rotate_left
           · (go_simp
              rfl)
           all_goals
             intro hg
             simp only [hg]))
      intro w' hw'
      go_wp2
      go_ret
      exact ⟨rfl, (by repeat (first | (with_reducible exact Ext.refl _) | (with_reducible assumption) | (with_reducible refine Ext.alloc ?_ _) | (with_reducible refine Ext.drewN ?_ _) | (with_reducible refine Ext.drew ?_) | (with_reducible refine Ext.setCell ?_ ?_ _; rotate_left; (simp only []; omega)) | (with_reducible refine Ext.trans ?_ (by assumption))))⟩
    | true =>
      obtain ⟨d0, d1⟩ := word_iff.1 h2
      have s0 := netSize_pos bits
      have hv : validNet ⟨base, bits⟩ = (base % netSize bits == 0) := by simp only [validNet, h1, h2, Bool.true_and]; rw [Bool.eq_iff_iff]; simp
      simp only [hv, h1, h2] at c1 c2 ⊢
      clear hv h1 h2
      replace c1 := Lib.hid c1
      replace c2 := Lib.hid c2
      have e1 : ¬ netSize bits = 0 := by omega
      have e2 : base.tmod (netSize bits) = base % netSize bits := Int.tmod_eq_emod_of_nonneg d0
      go_enter Try.func71, Try.ntmps71
      go_wp2_with fail
      refine wp_region_ext (by kernel_rfl) (by kernel_rfl) ?_
      repeat' (first
        | (refine ChL.skip (by rfl) ?_
           (try simp only [Act.put, List.setIfInBounds_toArray, List.set_cons_zero, List.set_cons_succ]))
        | (refine' ChL.val (v := _) (by rfl) ?_ ?_
           rotate_left
           · (intro wS hS
              have hcS := Ext.cells hS
              go_simp
              with_reducible rfl)
           (try simp only [Act.put, List.setIfInBounds_toArray, List.set_cons_zero, List.set_cons_succ]))
        | (refine' ChL.call (v := _) (f := _) (args := _) (by rfl) ?_ ?_ ?_
           rotate_left 3
           · (intro wS
              go_simp
              (constructor <;> rfl))
           · (intro wS hS
              first | (go_at_call 66; refine (c1.out _).mono ?_; rintro e w1 ⟨rfl, hx⟩; subst hx; refine ⟨?_, hS⟩; rfl) | (go_at_call 72; refine (c2.out _).mono ?_; rintro e w1 ⟨rfl, hx⟩; subst hx; refine ⟨?_, hS⟩; rfl) | (go_at_call 120; refine (impl_size _ _ _ b0 b1).mono ?_; rintro e w1 ⟨rfl, hx⟩; refine ⟨?_, Ext.trans hS hx⟩; rfl))
           (try simp only [Act.put, List.setIfInBounds_toArray, List.set_cons_zero, List.set_cons_succ]))
        | (refine ChL.nil ?_)
        | (refine' ChL.guard (x := _) ?_ ?_ ?_
           rotate_left
           · (go_simp
              rfl)
           all_goals
             intro hg
             simp only [hg]))
      intro w' hw'
      go_wp2
      go_ret
      exact ⟨rfl, (by repeat (first | (with_reducible exact Ext.refl _) | (with_reducible assumption) | (with_reducible refine Ext.alloc ?_ _) | (with_reducible refine Ext.drewN ?_ _) | (with_reducible refine Ext.drew ?_) | (with_reducible refine Ext.setCell ?_ ?_ _; rotate_left; (simp only []; omega)) | (with_reducible refine Ext.trans ?_ (by assumption))))⟩
theorem spec_validNet (base bits : Int) (w : World) :
    Calls Try.prog 140 #[.agg #[.int .i64 base, .int .i64 bits]] w fun e w' => e = .returned (.bool (validNet ⟨base, bits⟩)) ∧ Ext w w' := by
  have c1 := spec_inRange bits 0 16
  have c2 := spec_validAddr base
  cases h1 : inR bits 0 16 with
  | false =>
      have hv : validNet ⟨base, bits⟩ = false := by simp [validNet, h1]
      simp only [hv, h1] at c1 ⊢
      clear hv c2 h1
      replace c1 := Lib.hid c1
      go_enter Try.func140, Try.ntmps140
      go_wp2_with fail
      refine wp_region_ext (by kernel_rfl) (by kernel_rfl) ?_
      repeat' (first
        | (refine ChL.skip (by rfl) ?_
           (try simp only [Act.put, List.setIfInBounds_toArray, List.set_cons_zero, List.set_cons_succ]))
        | (refine' ChL.val (v := _) (by rfl) ?_ ?_
           rotate_left
           · (intro wS hS
              have hcS := Ext.cells hS
              go_simp
              with_reducible rfl)
           (try simp only [Act.put, List.setIfInBounds_toArray, List.set_cons_zero, List.set_cons_succ]))
        | (refine' ChL.call (v := _) (f := _) (args := _) (by rfl) ?_ ?_ ?_
           rotate_left 3
           · (intro wS
              go_simp
              (constructor <;> rfl))
           · (intro wS hS
              first | (go_at_call 144; refine (c1.out _).mono ?_; rintro e w1 ⟨rfl, hx⟩; subst hx; refine ⟨?_, hS⟩; rfl))
           (try simp only [Act.put, List.setIfInBounds_toArray, List.set_cons_zero, List.set_cons_succ]))
        | (refine ChL.nil ?_)
        | (refine' ChL.guard (x := _) ?_ ?_ ?_
           rotate_left
           · (go_simp
              rfl)
           all_goals
             intro hg
             simp only [hg]))
      intro w' hw'
      go_wp2
      go_ret
      exact ⟨rfl, (by repeat (first | (with_reducible exact Ext.refl _) | (with_reducible assumption) | (with_reducible refine Ext.alloc ?_ _) | (with_reducible refine Ext.drewN ?_ _) | (with_reducible refine Ext.drew ?_) | (with_reducible refine Ext.setCell ?_ ?_ _; rotate_left; (simp only []; omega)) | (with_reducible refine Ext.trans ?_ (by assumption))))⟩
  | true =>
    obtain ⟨b0, b1⟩ := inR_iff.1 h1
    cases h2 : word base with
    | false =>
      have hv : validNet ⟨base, bits⟩ = false := by simp [validNet, h1, h2]
      simp only [hv, h1, h2] at c1 c2 ⊢
      clear hv h1 h2
      replace c1 := Lib.hid c1
      replace c2 := Lib.hid c2
      go_enter Try.func140, Try.ntmps140
      go_wp2_with fail
      refine wp_region_ext (by kernel_rfl) (by kernel_rfl) ?_
      repeat' (first
        | (refine ChL.skip (by rfl) ?_
           (try simp only [Act.put, List.setIfInBounds_toArray, List.set_cons_zero, List.set_cons_succ]))
        | (refine' ChL.val (v := _) (by rfl) ?_ ?_
           rotate_left
           · (intro wS hS
              have hcS := Ext.cells hS
              go_simp
              with_reducible rfl)
           (try simp only [Act.put, List.setIfInBounds_toArray, List.set_cons_zero, List.set_cons_succ]))
        | (refine' ChL.call (v := _) (f := _) (args := _) (by rfl) ?_ ?_ ?_
           rotate_left 3
           · (intro wS
              go_simp
              (constructor <;> rfl))
           · (intro wS hS
              first | (go_at_call 144; refine (c1.out _).mono ?_; rintro e w1 ⟨rfl, hx⟩; subst hx; refine ⟨?_, hS⟩; rfl) | (go_at_call 141; refine (c2.out _).mono ?_; rintro e w1 ⟨rfl, hx⟩; subst hx; refine ⟨?_, hS⟩; rfl))
           (try simp only [Act.put, List.setIfInBounds_toArray, List.set_cons_zero, List.set_cons_succ]))
        | (refine ChL.nil ?_)
        | (refine' ChL.guard (x := _) ?_ ?_ ?_
           rotate_left
           · (go_simp
              rfl)
           all_goals
             intro hg
             simp only [hg]))
      intro w' hw'
      go_wp2
      go_ret
      exact ⟨rfl, (by repeat (first | (with_reducible exact Ext.refl _) | (with_reducible assumption) | (with_reducible refine Ext.alloc ?_ _) | (with_reducible refine Ext.drewN ?_ _) | (with_reducible refine Ext.drew ?_) | (with_reducible refine Ext.setCell ?_ ?_ _; rotate_left; (simp only []; omega)) | (with_reducible refine Ext.trans ?_ (by assumption))))⟩
    | true =>
      obtain ⟨d0, d1⟩ := word_iff.1 h2
      have s0 := netSize_pos bits
      have hv : validNet ⟨base, bits⟩ = (base % netSize bits == 0) := by simp only [validNet, h1, h2, Bool.true_and]; rw [Bool.eq_iff_iff]; simp
      simp only [hv, h1, h2] at c1 c2 ⊢
      clear hv h1 h2
      replace c1 := Lib.hid c1
      replace c2 := Lib.hid c2
      have e1 : ¬ netSize bits = 0 := by omega
      have e2 : base.tmod (netSize bits) = base % netSize bits := Int.tmod_eq_emod_of_nonneg d0
      go_enter Try.func140, Try.ntmps140
      go_wp2_with fail
      refine wp_region_ext (by kernel_rfl) (by kernel_rfl) ?_
      repeat' (first
        | (refine ChL.skip (by rfl) ?_
           (try simp only [Act.put, List.setIfInBounds_toArray, List.set_cons_zero, List.set_cons_succ]))
        | (refine' ChL.val (v := _) (by rfl) ?_ ?_
           rotate_left
           · (intro wS hS
              have hcS := Ext.cells hS
              go_simp
              with_reducible rfl)
           (try simp only [Act.put, List.setIfInBounds_toArray, List.set_cons_zero, List.set_cons_succ]))
        | (refine' ChL.call (v := _) (f := _) (args := _) (by rfl) ?_ ?_ ?_
           rotate_left 3
           · (intro wS
              go_simp
              (constructor <;> rfl))
           · (intro wS hS
              first | (go_at_call 144; refine (c1.out _).mono ?_; rintro e w1 ⟨rfl, hx⟩; subst hx; refine ⟨?_, hS⟩; rfl) | (go_at_call 141; refine (c2.out _).mono ?_; rintro e w1 ⟨rfl, hx⟩; subst hx; refine ⟨?_, hS⟩; rfl) | (go_at_call 146; refine (spec_size _ _ _ b0 b1).mono ?_; rintro e w1 ⟨rfl, hx⟩; refine ⟨?_, Ext.trans hS hx⟩; rfl))
           (try simp only [Act.put, List.setIfInBounds_toArray, List.set_cons_zero, List.set_cons_succ]))
        | (refine ChL.nil ?_)
        | (refine' ChL.guard (x := _) ?_ ?_ ?_
           rotate_left
           · (go_simp
              rfl)
           all_goals
             intro hg
             simp only [hg]))
      intro w' hw'
      go_wp2
      go_ret
      exact ⟨rfl, (by repeat (first | (with_reducible exact Ext.refl _) | (with_reducible assumption) | (with_reducible refine Ext.alloc ?_ _) | (with_reducible refine Ext.drewN ?_ _) | (with_reducible refine Ext.drew ?_) | (with_reducible refine Ext.setCell ?_ ?_ _; rotate_left; (simp only []; omega)) | (with_reducible refine Ext.trans ?_ (by assumption))))⟩
end Go.Proofs.Ytppdcglnopoocaa
/- Contracts: lists of words, ends, packets (the tests). -/
namespace Go.Proofs.Ytppdcglnopoocaa
set_option linter.unusedVariables false
set_option linter.unusedSimpArgs false
open Go.RowKit

/-- A slice of integers that is not empty: its address and its cells. -/
theorem Sl.ints {w : World} {a : Option Addr} {n c : Nat} {L : List Int} (h : Sl encI 1 w a n c L) :
    (n = 0 ∧ L = []) ∨ (0 < n ∧ ∃ b off, a = some ⟨b, off, none⟩ ∧ b < w.heap.size ∧ ∀ i : Nat, i < n → w.cell? ⟨b, off + i, none⟩ = some (.int .i64 (nth L i))) := by
  rcases h.form with h0 | ⟨h0, b, off, ha, hb, hc⟩
  · exact .inl h0
  · refine .inr ⟨h0, b, off, ha, hb, fun i hi => ?_⟩
    have := hc i _ (nth_some (by rw [h.len]; exact hi)) 0 (.int .i64 (nth L i)) rfl
    simpa using this

theorem spec_allIn (a : Option Addr) (n c : Nat) (L : List Int) (lo hi : Int) (w : World) (hs : Sl encI 1 w a n c L) :
    Calls Try.prog 161 #[.slice a n c, .int .i64 lo, .int .i64 hi] w fun e w' => e = .returned (.bool (L.all fun x => inR x lo hi)) ∧ w = w' := by
  have hle := hs.le
  have hmax := hs.max
  have hfin : L.all (fun x => inR x lo hi) = upTo (fun i => inR (nth L i) lo hi) n := by rw [all_upTo, hs.len]
  rw [hfin]
  clear hfin
  rcases hs.ints with ⟨h0, hL⟩ | ⟨h0, b, off, ha, hb, hc⟩
  · subst h0
    clear hs hL
    go_enter Try.func161, Try.ntmps161
    go_wp2
    go_loop [7] (fun i => i = .int .i64 0) (fun _ => 0)
    case atStart => rfl
    case round =>
      subst hrel
      go_wp2
      go_ret
      exact ⟨rfl, rfl⟩
  · subst ha
    clear hs
    go_enter Try.func161, Try.ntmps161
    go_wp2
    go_loop [7] (fun i => ∃ k : Nat, k ≤ n ∧ i = .int .i64 k ∧ ∀ j, j < k → inR (nth L j) lo hi = true) (fun i => n - (intOf i).toNat)
    case atStart => exact ⟨0, Nat.zero_le _, rfl, by omega⟩
    case round =>
      obtain ⟨k, hk, rfl, hall⟩ := hrel
      have HA := Lib.hid hall
      clear hall
      by_cases hlt : k < n
      · have hck := hc k hlt
        have c1 := spec_inRange (nth L k) lo hi
        cases hb : inR (nth L k) lo hi with
        | true =>
          simp only [hb] at c1
          replace c1 := Lib.hid c1
          replace hb := Lib.hid hb
          go_wp2_with (go_at_call 144; refine (c1.out _).mono ?_; rintro e w' ⟨rfl, rfl⟩)
          go_round
          case rel => exact ⟨k + 1, hlt, by go_num, fun j hj => by
            rcases Nat.lt_or_ge j k with h | h
            · exact HA.out j h
            · have e : j = k := by omega
              rw [e]; exact hb.out⟩
          case measure => simp [intOf]; omega
        | false =>
          simp only [hb] at c1
          replace c1 := Lib.hid c1
          replace hb := Lib.hid hb
          go_wp2_with (go_at_call 144; refine (c1.out _).mono ?_; rintro e w' ⟨rfl, rfl⟩)
          go_ret
          exact ⟨ret_bool (upTo_f hlt hb.out).symm, rfl⟩
      · go_wp2
        go_ret
        exact ⟨ret_bool (upTo_iff.2 fun j hj => HA.out j (by omega)).symm, rfl⟩
theorem impl_areWords (a : Option Addr) (n c : Nat) (L : List Int) (w : World) (hs : Sl encI 1 w a n c L) :
    Calls Try.prog 119 #[.slice a n c] w fun e w' => e = .returned (.bool (L.all word)) ∧ w = w' := by
  have hle := hs.le
  have hmax := hs.max
  have hfin : L.all word = upTo (fun i => word (nth L i)) n := by rw [all_upTo, hs.len]
  rw [hfin]
  clear hfin
  rcases hs.ints with ⟨h0, hL⟩ | ⟨h0, b, off, ha, hb, hc⟩
  · subst h0
    clear hs hL
    go_enter Try.func119, Try.ntmps119
    go_wp2
    go_loop [7] (fun i => i = .int .i64 0) (fun _ => 0)
    case atStart => rfl
    case round =>
      subst hrel
      go_wp2
      go_ret
      exact ⟨rfl, rfl⟩
  · subst ha
    clear hs
    go_enter Try.func119, Try.ntmps119
    go_wp2
    go_loop [7] (fun i => ∃ k : Nat, k ≤ n ∧ i = .int .i64 k ∧ ∀ j, j < k → word (nth L j) = true) (fun i => n - (intOf i).toNat)
    case atStart => exact ⟨0, Nat.zero_le _, rfl, by omega⟩
    case round =>
      obtain ⟨k, hk, rfl, hall⟩ := hrel
      have HA := Lib.hid hall
      clear hall
      by_cases hlt : k < n
      · have hck := hc k hlt
        have c1 := impl_isWord (nth L k)
        cases hb : word (nth L k) with
        | true =>
          simp only [hb] at c1
          replace c1 := Lib.hid c1
          replace hb := Lib.hid hb
          go_wp2_with (go_at_call 72; refine (c1.out _).mono ?_; rintro e w' ⟨rfl, rfl⟩)
          go_round
          case rel => exact ⟨k + 1, hlt, by go_num, fun j hj => by
            rcases Nat.lt_or_ge j k with h | h
            · exact HA.out j h
            · have e : j = k := by omega
              rw [e]; exact hb.out⟩
          case measure => simp [intOf]; omega
        | false =>
          simp only [hb] at c1
          replace c1 := Lib.hid c1
          replace hb := Lib.hid hb
          go_wp2_with (go_at_call 72; refine (c1.out _).mono ?_; rintro e w' ⟨rfl, rfl⟩)
          go_ret
          exact ⟨ret_bool (upTo_f hlt hb.out).symm, rfl⟩
      · go_wp2
        go_ret
        exact ⟨ret_bool (upTo_iff.2 fun j hj => HA.out j (by omega)).symm, rfl⟩
theorem impl_End_valid (x y : Int) (w : World) : Calls Try.prog 118 #[.agg #[.int .i64 x, .int .i64 y]] w fun e w' => e = .returned (.bool (validEnd ⟨x, y⟩)) ∧ Ext w w' := by
  go_enter Try.func118, Try.ntmps118
  go_wp2_with (go_at_call 119; refine (impl_areWords _ _ _ [x, y] _ (by exact Sl.lit _ _ [x, y] (by simp))).mono ?_; rintro e w' ⟨rfl, rfl⟩)
  go_ret
  exact ⟨rfl, (by repeat (first | (with_reducible exact Ext.refl _) | (with_reducible assumption) | (with_reducible refine Ext.alloc ?_ _) | (with_reducible refine Ext.drewN ?_ _) | (with_reducible refine Ext.drew ?_) | (with_reducible refine Ext.setCell ?_ ?_ _; rotate_left; (simp only []; omega)) | (with_reducible refine Ext.trans ?_ (by assumption))))⟩
theorem spec_validEnd (x y : Int) (w : World) : Calls Try.prog 160 #[.agg #[.int .i64 x, .int .i64 y]] w fun e w' => e = .returned (.bool (validEnd ⟨x, y⟩)) ∧ Ext w w' := by
  have c1 := spec_validAddr x
  cases h1 : word x with
  | false =>
    have hv : validEnd ⟨x, y⟩ = false := by simp [validEnd, h1]
    simp only [h1, hv] at c1 ⊢
    clear hv h1
    replace c1 := Lib.hid c1
    go_enter Try.func160, Try.ntmps160
    go_wp2_with (go_at_call 141; refine (c1.out _).mono ?_; rintro e w' ⟨rfl, rfl⟩)
    go_ret
    exact ⟨rfl, (by repeat (first | (with_reducible exact Ext.refl _) | (with_reducible assumption) | (with_reducible refine Ext.alloc ?_ _) | (with_reducible refine Ext.drewN ?_ _) | (with_reducible refine Ext.drew ?_) | (with_reducible refine Ext.setCell ?_ ?_ _; rotate_left; (simp only []; omega)) | (with_reducible refine Ext.trans ?_ (by assumption))))⟩
  | true =>
    have hv : validEnd ⟨x, y⟩ = inR y 0 65535 := by rw [validEnd, h1]; rfl
    simp only [h1, hv] at c1 ⊢
    clear hv h1
    replace c1 := Lib.hid c1
    go_enter Try.func160, Try.ntmps160
    go_wp2_with (first | (go_at_call 141; refine (c1.out _).mono ?_; rintro e w' ⟨rfl, rfl⟩) | (go_at_call 144; refine (spec_inRange _ _ _ _).mono ?_; rintro e w' ⟨rfl, rfl⟩))
    go_ret
    exact ⟨rfl, (by repeat (first | (with_reducible exact Ext.refl _) | (with_reducible assumption) | (with_reducible refine Ext.alloc ?_ _) | (with_reducible refine Ext.drewN ?_ _) | (with_reducible refine Ext.drew ?_) | (with_reducible refine Ext.setCell ?_ ?_ _; rotate_left; (simp only []; omega)) | (with_reducible refine Ext.trans ?_ (by assumption))))⟩
theorem impl_ValidPacket (kind fa fp ta tp : Int) (a : Option Addr) (n c : Nat) (L : List Int) (w : World) (hs : Sl encI 1 w a n c L) :
    Calls Try.prog 57 #[.agg #[.int .i64 kind, .int .i64 fa, .int .i64 fp, .int .i64 ta, .int .i64 tp, .slice a n c]] w fun e w' => e = .returned (.bool (validPkt ⟨kind, ⟨fa, fp⟩, ⟨ta, tp⟩, L⟩)) ∧ Ext w w' := by
  have hlen := hs.len
  have hmax := hs.max
  have hle := hs.le
  rw [show validPkt ⟨kind, ⟨fa, fp⟩, ⟨ta, tp⟩, L⟩ = (inR kind 0 2 && validEnd ⟨fa, fp⟩ && validEnd ⟨ta, tp⟩ && decide (n ≤ 12) && L.all word) by rw [← hlen]; rfl]
  clear hlen
  go_enter Try.func57, Try.ntmps57
  go_wp2_with (first | (go_at_call 66; refine (impl_in _ _ _ _).mono ?_; rintro e w' ⟨rfl, rfl⟩) | (go_at_call 118; refine (impl_End_valid _ _ _).mono ?_; rintro e w1 ⟨rfl, hx⟩; have hc := hx.cells; have hf := hx.frozens; have hy := hx.size; (try simp at hy); have hz : w.heap.size < w1.heap.size := (by omega)) | (go_at_call 119; refine (impl_areWords _ _ _ L _ (by exact hs.ext (by repeat (first | (with_reducible exact Ext.refl _) | (with_reducible assumption) | (with_reducible refine Ext.alloc ?_ _) | (with_reducible refine Ext.drewN ?_ _) | (with_reducible refine Ext.drew ?_) | (with_reducible refine Ext.setCell ?_ ?_ _; rotate_left; (simp only []; omega)) | (with_reducible refine Ext.trans ?_ (by assumption)))))).mono ?_; rintro e w' ⟨rfl, rfl⟩))
  all_goals (go_ret; exact ⟨ret_bool (by simp [*] <;> intros <;> omega), (by repeat (first | (with_reducible exact Ext.refl _) | (with_reducible assumption) | (with_reducible refine Ext.alloc ?_ _) | (with_reducible refine Ext.drewN ?_ _) | (with_reducible refine Ext.drew ?_) | (with_reducible refine Ext.setCell ?_ ?_ _; rotate_left; (simp only []; omega)) | (with_reducible refine Ext.trans ?_ (by assumption))))⟩)
theorem spec_validPacket (kind fa fp ta tp : Int) (a : Option Addr) (n c : Nat) (L : List Int) (w : World) (hs : Sl encI 1 w a n c L) :
    Calls Try.prog 125 #[.agg #[.int .i64 kind, .int .i64 fa, .int .i64 fp, .int .i64 ta, .int .i64 tp, .slice a n c]] w fun e w' => e = .returned (.bool (validPkt ⟨kind, ⟨fa, fp⟩, ⟨ta, tp⟩, L⟩)) ∧ Ext w w' := by
  have hlen := hs.len
  have hmax := hs.max
  have hle := hs.le
  rw [show validPkt ⟨kind, ⟨fa, fp⟩, ⟨ta, tp⟩, L⟩ = (inR kind 0 2 && validEnd ⟨fa, fp⟩ && validEnd ⟨ta, tp⟩ && decide (n ≤ 12) && L.all fun x => inR x 0 65535) by rw [← hlen]; rfl]
  clear hlen
  go_enter Try.func125, Try.ntmps125
  go_wp2_with (first | (go_at_call 144; refine (spec_inRange _ _ _ _).mono ?_; rintro e w' ⟨rfl, rfl⟩) | (go_at_call 160; refine (spec_validEnd _ _ _).mono ?_; rintro e w1 ⟨rfl, hx⟩; have hc := hx.cells; have hf := hx.frozens; have hy := hx.size; (try simp at hy); have hz : w.heap.size < w1.heap.size := (by omega)) | (go_at_call 161; refine (spec_allIn _ _ _ L _ _ _ (by exact hs.ext (by repeat (first | (with_reducible exact Ext.refl _) | (with_reducible assumption) | (with_reducible refine Ext.alloc ?_ _) | (with_reducible refine Ext.drewN ?_ _) | (with_reducible refine Ext.drew ?_) | (with_reducible refine Ext.setCell ?_ ?_ _; rotate_left; (simp only []; omega)) | (with_reducible refine Ext.trans ?_ (by assumption)))))).mono ?_; rintro e w' ⟨rfl, rfl⟩))
  all_goals (go_ret; exact ⟨ret_bool (by simp [*] <;> intros <;> omega), (by repeat (first | (with_reducible exact Ext.refl _) | (with_reducible assumption) | (with_reducible refine Ext.alloc ?_ _) | (with_reducible refine Ext.drewN ?_ _) | (with_reducible refine Ext.drew ?_) | (with_reducible refine Ext.setCell ?_ ?_ _; rotate_left; (simp only []; omega)) | (with_reducible refine Ext.trans ?_ (by assumption))))⟩)
end Go.Proofs.Ytppdcglnopoocaa
/- Laws on slices of the call's own: append from a slice that reads as a list; copies. -/
namespace Go.Proofs.Ytppdcglnopoocaa
set_option linter.unusedVariables false
set_option linter.unusedSimpArgs false
open Go.RowKit

/-- What the table of types says of a slice type t with elements E of k cells. -/
def EI (P : Program) (t E : TypeId) (k bytes : Nat) : Prop :=
  P.underlying t = some (.slice E) ∧ ∃ i z, P.info? E = some i ∧ i.zero = some z ∧ i.size = k ∧ i.bytes = bytes ∧ z.cells.size = k ∧ 0 < k
theorem EI.mk {P : Program} {t E : TypeId} {k bytes : Nat} {z : Value} (h : P.underlying t = some (.slice E)) (hi : (P.info? E).map (fun i => (i.zero, i.size, i.bytes)) = some (some z, k, bytes))
    (hz : z.cells.size = k) (hk : 0 < k) : EI P t E k bytes := by
  obtain ⟨i, h1, h2, h3, h4⟩ := info_parts hi
  exact ⟨h, i, z, h1, h2, h3, h4, hz, hk⟩

section
variable {P : Program} {t E : TypeId} {k bytes : Nat} {α : Type} {enc : α → List Value}
theorem run_append_sl (w : World) (hE : EI P t E k bytes) (hk : ∀ x, (enc x).length = k) (h1 : ∀ x, ∀ u ∈ enc x, u.oneCell' = true) (ty : TypeId) (base : Nat) (v : Value) (n : Nat) (xs : List Value) (hown : w.ownsRow base E k v n xs)
    (A : Option Addr) (m c : Nat) (L : List α) (hs : Sl enc k w A m c L) (h63 : n + m ≤ maxLen) (hbytes : (n + m) * bytes ≤ 140737488355328) (hbase : base ≤ w.heap.size) :
    ∃ a' c' w', (Builtin.append_ #[t, t] ty #[v, .slice A m c]).run P w = .ok (.slice a' (n + m) c') w' ∧ w'.ownsRow base E k (.slice a' (n + m) c') (n + m) (xs ++ L.flatMap enc) ∧ w.grownBy w' v.ownBlock ∧
      ((Value.slice a' (n + m) c').ownBlock = v.ownBlock ∨ (Value.slice a' (n + m) c').ownBlock = some w.heap.size) := by
  obtain ⟨ht, i, z, hi, hz, hsz, hby, hzs, hk0⟩ := hE
  cases A with
  | none =>
    have hc := hs.nil rfl
    have hm : m = 0 := by have := hs.le; omega
    subst hm
    subst hc
    have hL := hs.zero
    subst hL
    have hr : (Builtin.append_ #[t, t] ty #[v, .slice none 0 0]).run P w = .ok v w := run_append_owned_none (P := P) w base t ty E i k ht hi v n xs hown
    rcases hown.2 with ⟨rfl, rfl⟩ | ⟨g, cap, cur, rfl, r⟩
    · exact ⟨none, 0, w, hr, by simpa using hown, World.grownBy.refl w _, .inl rfl⟩
    · exact ⟨some ⟨g, 0, none⟩, cap, w, hr, by simpa using hown, World.grownBy.refl w _, .inl rfl⟩
  | some ad =>
    have hl : (L.flatMap enc).length = m * k := by rw [flat_len hk, hs.len]
    have hcells : ∀ j u, (L.flatMap enc)[j]? = some u → w.cell? (ad.add j) = some u := by
      intro j u hu
      have hj : j < m * k := by rw [← hl]; exact (List.getElem?_eq_some_iff.1 hu).1
      have hm : 0 < m := by
        rcases Nat.eq_zero_or_pos m with h | h
        · rw [h, Nat.zero_mul] at hj; omega
        · exact h
      obtain ⟨b, off, he, _, hc⟩ := hs.at_ hm
      injection he with he
      subst he
      have hq : j / k < L.length := by rw [hs.len]; exact Nat.div_lt_of_lt_mul (by rw [Nat.mul_comm]; exact hj)
      have hr : j % k < k := Nat.mod_lt _ hk0
      have hjj : j / k * k + j % k = j := by rw [Nat.mul_comm]; exact Nat.div_add_mod j k
      have hx := List.getElem?_eq_getElem hq
      have hv : (enc L[j / k])[j % k]? = some ((enc L[j / k])[j % k]'(by rw [hk]; exact hr)) := List.getElem?_eq_getElem _
      have h2 := flat_at hk L (j / k) _ hx (j % k) _ hv
      rw [hjj, hu] at h2
      have h3 := hc (j / k) _ hx (j % k) _ hv
      rw [hjj, ← h2] at h3
      have hadd : (⟨b, off, none⟩ : Addr).add j = ⟨b, off + j, none⟩ := by unfold Addr.add; split <;> simp_all
      rw [hadd]
      exact h3
    have h1' : ∀ u ∈ L.flatMap enc, u.oneCell' = true := by
      intro u hu
      obtain ⟨x, _, hx⟩ := List.mem_flatMap.1 hu
      exact h1 x u hx
    obtain ⟨v', w', hr, h2, h3, h4, h5⟩ := run_append_own_at (P := P) w base t ty E i z k bytes ht hi hz hsz hby hzs hk0 v n xs hown ad m c (L.flatMap enc) hl hcells h1' h63 hbytes hbase
    have hform : ∃ a' c', v' = .slice a' (n + m) c' := by
      rcases h2.2 with ⟨rfl, h0⟩ | ⟨g, cap, cur, rfl, r⟩
      · exact ⟨none, 0, by rw [h0]⟩
      · exact ⟨_, _, rfl⟩
    obtain ⟨a', c', rfl⟩ := hform
    exact ⟨a', c', w', hr, h2, h3, h5⟩
theorem wpList_append_sl {ops : Array Oper} {rest : List Oper} {o : Oper} {a : Act} {Q : Exit → Act → World → Prop} (w : World) (hgd : o.guard = none) (s x : Operand) 
    (ho : o.op = .call { callee := .builtin .append, args := #[s, x], argTypes := #[t, t] }) (hE : EI P t E k bytes) (hk : ∀ x, (enc x).length = k) (h1 : ∀ x, ∀ u ∈ enc x, u.oneCell' = true)
    (base : Nat) (v : Value) (n : Nat) (xs : List Value) (hs : a.eval s = v) (hown : w.ownsRow base E k v n xs)
    (A : Option Addr) (m c : Nat) (L : List α) (hx : a.eval x = .slice A m c) (hsl : Sl enc k w A m c L) (h63 : n + m ≤ maxLen) (hbytes : (n + m) * bytes ≤ 140737488355328) (hbase : base ≤ w.heap.size)
    (h : ∀ a' c' w', w'.ownsRow base E k (.slice a' (n + m) c') (n + m) (xs ++ L.flatMap enc) → w.grownBy w' v.ownBlock →
      ((Value.slice a' (n + m) c').ownBlock = v.ownBlock ∨ (Value.slice a' (n + m) c').ownBlock = some w.heap.size) → wpList P ops Q rest (a.put o.dst (.slice a' (n + m) c')) w') : wpList P ops Q (o :: rest) a w := by
  obtain ⟨a', c', w', hr, h2, h3, h4⟩ := run_append_sl (P := P) w hE hk h1 o.type base v n xs hown A m c L hsl h63 hbytes hbase
  refine wpList_plain hgd fun _ hK => ?_
  unfold Oper.wp execOp
  simp only [ho, resolve, invoke, builtin, Sem.run_bind, Sem.run_pure, Result.andThen_ok, List.map_toArray, List.map_cons, List.map_nil, hs, hx, hr]
  exact hK _ _ (h a' c' w' h2 h3 h4)
/-- A new empty row: what '[]T{}' makes. -/
theorem own_empty (w : World) (base : Nat) {b : Nat} (hb : b = w.heap.size) (h : base ≤ w.heap.size) : (w.alloc (.cells #[] E)).ownsRow base E k (.slice (some ⟨b, 0, none⟩) 0 0) 0 [] := by
  subst hb
  have := World.ownsRow_made (base := base) (e := E) (size := k) w #[] 0 h (by simp [maxLen]) (by simp)
  exact this
end
theorem encI_one : ∀ x, ∀ u ∈ encI x, u.oneCell' = true := by
  intro x u hu
  simp only [encI, List.mem_singleton] at hu
  subst hu; rfl
theorem encM_one : ∀ x, ∀ u ∈ encM x, u.oneCell' = true := by
  intro x u hu
  simp only [encM, List.mem_cons, List.not_mem_nil, or_false] at hu
  rcases hu with rfl | rfl | rfl | rfl <;> rfl
theorem encC_one : ∀ x, ∀ u ∈ encC x, u.oneCell' = true := by
  intro x u hu
  simp only [encC, List.mem_cons, List.not_mem_nil, or_false] at hu
  rcases hu with rfl | rfl | rfl <;> rfl
theorem eiI : EI Try.prog 31 3 1 8 := EI.mk (z := .int .i64 0) Try.underlying31 (by kernel_rfl) rfl (by omega)
/-- append onto a slice without room behind it: a new row. -/
theorem run_append_full {P : Program} {t E : TypeId} {k bytes : Nat} {α : Type} {enc : α → List Value} (w : World) (hE : EI P t E k bytes) (hk : ∀ x, (enc x).length = k) (ty : TypeId)
    (A : Option Addr) (n : Nat) (L : List α) (hs : Sl enc k w A n n L) (x : α) (b : Nat) (hx : ∀ j u, (enc x)[j]? = some u → w.cell? ⟨b, j, none⟩ = some u) (hn : n ≤ 1048576) (hby : bytes ≤ 1024) :
    ∃ a' c' w', (Builtin.append_ #[t, t] ty #[.slice A n n, .slice (some ⟨b, 0, none⟩) 1 1]).run P w = .ok (.slice a' (n + 1) c') w' ∧ Ow E enc k w.heap.size w' a' (n + 1) c' (L ++ [x]) ∧ Ext w w' := by
  obtain ⟨ht, i, z, hi, hz, hsz, hbs, hzs, hk0⟩ := hE
  have hnews : ∀ j u, (enc x)[j]? = some u → w.cell? ((⟨b, 0, none⟩ : Addr).add j) = some u := by
    intro j u hu
    have hadd : (⟨b, 0, none⟩ : Addr).add j = ⟨b, j, none⟩ := by unfold Addr.add; split <;> simp_all
    rw [hadd]; exact hx j u hu
  have hln : (enc x).length = 1 * i.size := by rw [hk, hsz]; omega
  have hge := grownCap_ge w (n + 1) n E
  have hle := grownCap_le_maxLen w (n + 1) n E (by simp only [maxLen]; omega)
  have hfl : (L.flatMap enc).length = n * k := by rw [flat_len hk, hs.len]
  have hbb : (n + 1) * i.bytes ≤ 140737488355328 := by rw [hbs]; exact Nat.le_trans (Nat.mul_le_mul (show n + 1 ≤ 1048577 by omega) hby) (by omega)
  have fin : ∀ (old : Nat) (olds : List Value), old < n + 1 → olds = L.flatMap enc →
      Ow E enc k w.heap.size (w.drew.alloc (.cells (olds.toArray ++ (enc x).toArray ++ Builtin.zeroCells z.cells (grownCap w (n + 1) old E - (n + 1))) E)) (some ⟨w.heap.size, 0, none⟩) (n + 1) (grownCap w (n + 1) old E) (L ++ [x]) := by
    intro old olds _ ho
    subst ho
    have hge := grownCap_ge w (n + 1) old E
    have hle := grownCap_le_maxLen w (n + 1) old E (by simp only [maxLen]; omega)
    refine ⟨by simp [hs.len], .inr ⟨w.heap.size, _, rfl, Nat.le_refl _, heap_alloc_new w.drew _, hge, hle, ?_, ?_⟩⟩
    · simp only [Array.size_append, List.size_toArray, size_zeroCells, hzs, hfl, hk]
      have e : grownCap w (n + 1) old E * k = n * k + k + (grownCap w (n + 1) old E - (n + 1)) * k := by
        have : grownCap w (n + 1) old E = (n + 1) + (grownCap w (n + 1) old E - (n + 1)) := by omega
        conv => lhs; rw [this]
        rw [Nat.add_mul, Nat.add_mul, Nat.one_mul]
      omega
    · simp only [Array.toList_append, List.flatMap_append, List.flatMap_cons, List.flatMap_nil, List.append_nil]
      have e : (L.flatMap enc ++ enc x).length = (n + 1) * k := by rw [List.length_append, hfl, hk, Nat.add_mul, Nat.one_mul]
      rw [← e]
      exact List.take_left
  cases A with
  | none =>
    have hc := hs.nil rfl
    have hm : n = 0 := by omega
    subst hm
    have hL := hs.zero
    subst hL
    have hr := run_append_nil (P := P) w t ty E i z ht hi hz ⟨b, 0, none⟩ 1 1 (enc x) hln hnews (by omega) (by omega) (by rw [hbs]; omega)
    have hf := fin 0 [] (by omega) rfl
    simp only [Nat.zero_add, List.nil_append, Array.empty_append] at hf ⊢
    exact ⟨_, _, _, hr, hf, ((Ext.refl w).drew).alloc _⟩
  | some ad =>
    have hcells : ∀ j u, (L.flatMap enc)[j]? = some u → w.cell? (ad.add j) = some u := by
      intro j u hu
      have hj : j < n * k := by rw [← hfl]; exact (List.getElem?_eq_some_iff.1 hu).1
      have hm : 0 < n := by
        rcases Nat.eq_zero_or_pos n with h | h
        · rw [h, Nat.zero_mul] at hj; omega
        · exact h
      obtain ⟨b', off, he, _, hc⟩ := hs.at_ hm
      injection he with he
      subst he
      have hq : j / k < L.length := by rw [hs.len]; exact Nat.div_lt_of_lt_mul (by rw [Nat.mul_comm]; exact hj)
      have hr : j % k < k := Nat.mod_lt _ hk0
      have hjj : j / k * k + j % k = j := by rw [Nat.mul_comm]; exact Nat.div_add_mod j k
      have hx' := List.getElem?_eq_getElem hq
      have hv : (enc L[j / k])[j % k]? = some ((enc L[j / k])[j % k]'(by rw [hk]; exact hr)) := List.getElem?_eq_getElem _
      have h2 := flat_at hk L (j / k) _ hx' (j % k) _ hv
      rw [hjj, hu] at h2
      have h3 := hc (j / k) _ hx' (j % k) _ hv
      rw [hjj, ← h2] at h3
      have hadd : (⟨b', off, none⟩ : Addr).add j = ⟨b', off + j, none⟩ := by unfold Addr.add; split <;> simp_all
      rw [hadd]
      exact h3
    have hr := run_append_grow (P := P) w t ty E i z ht hi hz ad n n (L.flatMap enc) (by rw [hfl, hsz]) hcells ⟨b, 0, none⟩ 1 1 (enc x) hln hnews (by omega) (by omega) (growslice_fits (by omega) hbb)
    exact ⟨_, _, _, hr, fin n (L.flatMap enc) (by omega) rfl, ((Ext.refl w).drew).alloc _⟩
theorem spec_copyInts (a : Option Addr) (n c : Nat) (L : List Int) (w : World) (hs : Sl encI 1 w a n c L) (hn : n ≤ 1048576) :
    Calls Try.prog 134 #[.slice a n c] w fun e w' => ∃ a' c', e = .returned (.slice a' n c') ∧ w'.ownsRow w.heap.size 3 1 (.slice a' n c') n (L.flatMap encI) ∧ Ext w w' := by
  go_enter Try.func134, Try.ntmps134
  go_wp2_with (at_builtin; refine wpList_append_sl _ rfl _ _ rfl eiI encI_len encI_one w.heap.size (.slice (some ⟨w.heap.size, 0, none⟩) 0 0) 0 [] rfl (own_empty w w.heap.size rfl (Nat.le_refl _)) a n c L rfl (by exact hs.ext (by repeat (first | (with_reducible exact Ext.refl _) | (with_reducible assumption) | (with_reducible refine Ext.alloc ?_ _) | (with_reducible refine Ext.drewN ?_ _) | (with_reducible refine Ext.drew ?_) | (with_reducible refine Ext.setCell ?_ ?_ _; rotate_left; (simp only []; omega)) | (with_reducible refine Ext.trans ?_ (by assumption))))) (by simp only [maxLen]; omega) (by omega) (by simp) ?_; intro a' c' w1 hown hg hat; simp only [Nat.zero_add, List.nil_append] at hown)
  go_ret
  exact ⟨a', c', by simp, hown, Ext.own (by repeat (first | (with_reducible exact Ext.refl _) | (with_reducible assumption) | (with_reducible refine Ext.alloc ?_ _) | (with_reducible refine Ext.drewN ?_ _) | (with_reducible refine Ext.drew ?_) | (with_reducible refine Ext.setCell ?_ ?_ _; rotate_left; (simp only []; omega)) | (with_reducible refine Ext.trans ?_ (by assumption)))) hg (Nat.le_refl _)⟩
theorem Clone_int (a : Option Addr) (n c : Nat) (L : List Int) (w : World) (hs : Sl encI 1 w a n c L) (hn : n ≤ 1048576) :
    Calls Try.prog 152 #[.slice a n c] w fun e w' => ∃ a' c', e = .returned (.slice a' n c') ∧ w'.ownsRow w.heap.size 3 1 (.slice a' n c') n (L.flatMap encI) ∧ Ext w w' := by
  have hq := fun (W : World) => Lib.run_eql_slice_nil (P := Try.prog) W 31 3 a n c 0 0 Try.underlying31
  cases a with
  | none =>
    have hc := hs.nil rfl
    have h0 : n = 0 := by have := hs.le; omega
    subst h0; subst hc
    have hL := hs.zero
    subst hL
    go_enter Try.func152, Try.ntmps152
    go_wp2
    go_ret
    exact ⟨none, 0, rfl, World.ownsRow_nil _ _ _ _, Ext.refl _⟩
  | some ad =>
    go_enter Try.func152, Try.ntmps152
    go_wp2_with (at_builtin; refine wpList_append_sl _ rfl _ _ rfl eiI encI_len encI_one w.heap.size (.slice (some ⟨w.heap.size, 0, none⟩) 0 0) 0 [] rfl (own_empty w w.heap.size rfl (Nat.le_refl _)) (some ad) n c L rfl (by exact hs.ext (by repeat (first | (with_reducible exact Ext.refl _) | (with_reducible assumption) | (with_reducible refine Ext.alloc ?_ _) | (with_reducible refine Ext.drewN ?_ _) | (with_reducible refine Ext.drew ?_) | (with_reducible refine Ext.setCell ?_ ?_ _; rotate_left; (simp only []; omega)) | (with_reducible refine Ext.trans ?_ (by assumption))))) (by simp only [maxLen]; omega) (by omega) (by simp) ?_; intro a' c' w1 hown hg hat; simp only [Nat.zero_add, List.nil_append] at hown)
    go_ret
    exact ⟨a', c', by simp, hown, Ext.own (by repeat (first | (with_reducible exact Ext.refl _) | (with_reducible assumption) | (with_reducible refine Ext.alloc ?_ _) | (with_reducible refine Ext.drewN ?_ _) | (with_reducible refine Ext.drew ?_) | (with_reducible refine Ext.setCell ?_ ?_ _; rotate_left; (simp only []; omega)) | (with_reducible refine Ext.trans ?_ (by assumption)))) hg (Nat.le_refl _)⟩
theorem Clip_int (a : Option Addr) (n c : Nat) (L : List Int) (base : Nat) (w : World) (hs : Ow 3 encI 1 base w a n c L) (hn : n ≤ 1048576) :
    Calls Try.prog 151 #[.slice a n c] w fun e w' => e = .returned (.slice a n n) ∧ w = w' := by
  have hle : n ≤ c := (hs.sl encI_len).le
  obtain ⟨hl, ⟨rfl, h0, rfl⟩ | ⟨g, cur, rfl, hb, hg, hnc, hcm, hcs, ht⟩⟩ := hs
  · subst h0
    go_enter Try.func151, Try.ntmps151
    go_wp2
    go_ret
    exact ⟨rfl, rfl⟩
  · clear ht hcs hl hg
    go_enter Try.func151, Try.ntmps151
    go_wp2
    all_goals (go_ret; exact ⟨by simp, rfl⟩)
theorem impl_clone_int (a : Option Addr) (n c : Nat) (L : List Int) (w : World) (hs : Sl encI 1 w a n c L) (hn : n ≤ 1048576) :
    Calls Try.prog 104 #[.slice a n c] w fun e w' => ∃ a', e = .returned (.slice a' n n) ∧ Ow 3 encI 1 w.heap.size w' a' n n L ∧ Ext w w' := by
  go_enter Try.func104, Try.ntmps104
  go_wp2_with fail
  refine (Clone_int _ _ _ L _ hs hn).mono ?_
  rintro e w1 ⟨a', c', rfl, hown, hx⟩
  have how := Ow.of_row hown encI_len (by omega)
  go_wp2_with fail
  refine (Clip_int _ _ _ L _ _ how hn).mono ?_
  rintro e w2 ⟨rfl, rfl⟩
  go_wp2
  go_ret
  exact ⟨a', rfl, how.clip, hx⟩
end Go.Proofs.Ytppdcglnopoocaa
/- Contracts: two lists, packets, reports that read the same are told equal. -/
namespace Go.Proofs.Ytppdcglnopoocaa
set_option linter.unusedVariables false
set_option linter.unusedSimpArgs false
open Go.RowKit

theorem add_zero' (a : Option Addr) : a.map (·.add 0) = a := by
  cases a with
  | none => rfl
  | some x =>
    obtain ⟨b, o, s⟩ := x
    cases s <;> simp [Addr.add]
theorem run_take_any (a : Option Addr) (n c m : Nat) (h : m ≤ c) (W : World) : (Instr.slice 31 (.slice a n c) none (some (.int .i64 m)) none).run Try.prog W = .ok (.slice a m c) W := by
  have h2 : (m : Int) ≤ (c : Int) := by omega
  have e : ∀ s : Nat, a.map (·.add (0 * s)) = a := by intro s; rw [Nat.zero_mul]; exact add_zero' a
  rw [run_slice_h (P := Try.prog) W 31 a n c (by kernel_rfl) .i64 (m : Int) (by omega) h2]
  go_simp
theorem equalInts_same (a a' : Option Addr) (n c c' : Nat) (L : List Int) (w : World) (hs : Sl encI 1 w a n c L) (hs' : Sl encI 1 w a' n c' L) :
    Calls Try.prog 24 #[.slice a n c, .slice a' n c'] w fun e w' => e = .returned (.bool true) ∧ Ext w w' := by
  have hle := hs.le
  have hmax := hs.max
  rcases hs.ints with ⟨h0, _⟩ | ⟨h0, b, off, ha, hb, hc⟩
  · subst h0
    clear hs hs'
    go_enter Try.func24, Try.ntmps24
    go_wp2
    go_loop [5] (fun i => i = .int .i64 0) (fun _ => 0)
    case atStart => rfl
    case round =>
      subst hrel
      go_wp2
      go_ret
      exact ⟨rfl, Ext.refl _⟩
  · obtain ⟨_, b', off', ha', hb', hc'⟩ := (hs'.ints).resolve_left (by omega)
    subst ha
    subst ha'
    clear hs hs'
    go_enter Try.func24, Try.ntmps24
    go_wp2
    go_loopw [5] (fun i wr => ∃ k : Nat, k ≤ n ∧ i = .int .i64 k ∧ Ext w wr) (fun i _ => n - (intOf i).toNat)
    case atStart => exact ⟨0, Nat.zero_le _, rfl, Ext.refl _⟩
    case round =>
      obtain ⟨k, hk, rfl, hX⟩ := hrel
      have hcX := hX.cells
      by_cases hlt : k < n
      · have c1 : wr.cell? ⟨b, off + k, none⟩ = some (.int .i64 (nth L k)) := (hcX _ _ hb).trans (hc k hlt)
        have c2 : wr.cell? ⟨b', off' + k, none⟩ = some (.int .i64 (nth L k)) := (hcX _ _ hb').trans (hc' k hlt)
        clear hcX hc hc'
        go_wp2
        go_region
        go_wp2
        go_roundw
        case rel => exact ⟨k + 1, hlt, by go_num, (by repeat (first | (with_reducible exact Ext.refl _) | (with_reducible assumption) | (with_reducible refine Ext.alloc ?_ _) | (with_reducible refine Ext.drewN ?_ _) | (with_reducible refine Ext.drew ?_) | (with_reducible refine Ext.setCell ?_ ?_ _; rotate_left; (simp only []; omega)) | (with_reducible refine Ext.trans ?_ (by assumption))))⟩
        case measure => simp [intOf]; omega
      · clear hcX hc hc'
        go_wp2
        go_ret
        exact ⟨rfl, hX⟩
theorem equalPacket_same (k fa fp ta tp : Int) (a a' : Option Addr) (n c c' : Nat) (L : List Int) (w : World) (hs : Sl encI 1 w a n c L) (hs' : Sl encI 1 w a' n c' L) :
    Calls Try.prog 20 #[.agg #[.int .i64 k, .int .i64 fa, .int .i64 fp, .int .i64 ta, .int .i64 tp, .slice a n c], .agg #[.int .i64 k, .int .i64 fa, .int .i64 fp, .int .i64 ta, .int .i64 tp, .slice a' n c']] w fun e w' => e = .returned (.bool true) ∧ Ext w w' := by
  go_enter Try.func20, Try.ntmps20
  go_wp2_with (go_at_call 24; refine (equalInts_same _ _ n c c' L _ (by exact hs.ext (by repeat (first | (with_reducible exact Ext.refl _) | (with_reducible assumption) | (with_reducible refine Ext.alloc ?_ _) | (with_reducible refine Ext.drewN ?_ _) | (with_reducible refine Ext.drew ?_) | (with_reducible refine Ext.setCell ?_ ?_ _; rotate_left; (simp only []; omega)) | (with_reducible refine Ext.trans ?_ (by assumption))))) (by exact hs'.ext (by repeat (first | (with_reducible exact Ext.refl _) | (with_reducible assumption) | (with_reducible refine Ext.alloc ?_ _) | (with_reducible refine Ext.drewN ?_ _) | (with_reducible refine Ext.drew ?_) | (with_reducible refine Ext.setCell ?_ ?_ _; rotate_left; (simp only []; omega)) | (with_reducible refine Ext.trans ?_ (by assumption)))))).mono ?_; rintro e w1 ⟨rfl, hx⟩; have hc := hx.cells; have hf := hx.frozens; have hy := hx.size; (try simp at hy); have hz : w.heap.size < w1.heap.size := (by omega))
  go_ret
  exact ⟨rfl, (by repeat (first | (with_reducible exact Ext.refl _) | (with_reducible assumption) | (with_reducible refine Ext.alloc ?_ _) | (with_reducible refine Ext.drewN ?_ _) | (with_reducible refine Ext.drew ?_) | (with_reducible refine Ext.setCell ?_ ?_ _; rotate_left; (simp only []; omega)) | (with_reducible refine Ext.trans ?_ (by assumption))))⟩
theorem equalReport_same (o s t k fa fp ta tp : Int) (a a' : Option Addr) (n c c' : Nat) (L : List Int) (w : World) (hs : Sl encI 1 w a n c L) (hs' : Sl encI 1 w a' n c' L) :
    Calls Try.prog 45 #[.agg #[.int .i64 o, .int .i64 s, .int .i64 t, .int .i64 k, .int .i64 fa, .int .i64 fp, .int .i64 ta, .int .i64 tp, .slice a n c], .agg #[.int .i64 o, .int .i64 s, .int .i64 t, .int .i64 k, .int .i64 fa, .int .i64 fp, .int .i64 ta, .int .i64 tp, .slice a' n c']] w fun e w' => e = .returned (.bool true) ∧ Ext w w' := by
  go_enter Try.func45, Try.ntmps45
  go_wp2_with (go_at_call 20; refine (equalPacket_same _ _ _ _ _ _ _ n c c' L _ (by exact hs.ext (by repeat (first | (with_reducible exact Ext.refl _) | (with_reducible assumption) | (with_reducible refine Ext.alloc ?_ _) | (with_reducible refine Ext.drewN ?_ _) | (with_reducible refine Ext.drew ?_) | (with_reducible refine Ext.setCell ?_ ?_ _; rotate_left; (simp only []; omega)) | (with_reducible refine Ext.trans ?_ (by assumption))))) (by exact hs'.ext (by repeat (first | (with_reducible exact Ext.refl _) | (with_reducible assumption) | (with_reducible refine Ext.alloc ?_ _) | (with_reducible refine Ext.drewN ?_ _) | (with_reducible refine Ext.drew ?_) | (with_reducible refine Ext.setCell ?_ ?_ _; rotate_left; (simp only []; omega)) | (with_reducible refine Ext.trans ?_ (by assumption)))))).mono ?_; rintro e w1 ⟨rfl, hx⟩; have hc := hx.cells; have hf := hx.frozens; have hy := hx.size; (try simp at hy); have hz : w.heap.size < w1.heap.size := (by omega))
  go_ret
  exact ⟨rfl, (by repeat (first | (with_reducible exact Ext.refl _) | (with_reducible assumption) | (with_reducible refine Ext.alloc ?_ _) | (with_reducible refine Ext.drewN ?_ _) | (with_reducible refine Ext.drew ?_) | (with_reducible refine Ext.setCell ?_ ?_ _; rotate_left; (simp only []; omega)) | (with_reducible refine Ext.trans ?_ (by assumption))))⟩
end Go.Proofs.Ytppdcglnopoocaa
