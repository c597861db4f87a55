/- Words on memory that all proofs of this seat use: a world that is another one with new blocks (Ext), one with one further block turned (RExt), a slice that reads as a list (Sl), a slice that owns a new row (Ow). No condition. -/
import Derived.WalkKit
import Derived.WalkSpells
import Derived.WalkLawsBesides
import Derived.Deep.Draws
import Derived.Laws.OwnMore
import Derived.Deep.AppendLies
import Derived.Lib.Hide
namespace Go.Proofs.Ytafmomocmodbhaa
open Go.RowKit

/-- w' is w with new blocks behind it; nothing that was there has turned. -/
def Ext (w w' : World) : Prop := w.grownBy w' none
/-- The same, but block B may have turned. -/
def RExt (B : Nat) (w w' : World) : Prop := w.grownBy w' (some B)

theorem Ext.refl (w : World) : Ext w w := ⟨rfl, rfl, rfl, Nat.le_refl _, fun _ _ _ => rfl⟩
theorem Ext.size {a b : World} (h : Ext a b) : a.heap.size ≤ b.heap.size := World.grownBy.size h
theorem Ext.block {a b : World} (h : Ext a b) (k : Nat) (hk : k < a.heap.size) : b.heap[k]? = a.heap[k]? := World.grownBy.block h k hk (by simp)
theorem Ext.trans {a b c : World} (h : Ext a b) (k : Ext b c) : Ext a c :=
  ⟨(World.grownBy.os k).trans (World.grownBy.os h), (World.grownBy.tape k).trans (World.grownBy.tape h), (World.grownBy.output k).trans (World.grownBy.output h), Nat.le_trans h.size k.size,
    fun i hi _ => (k.block i (Nat.lt_of_lt_of_le hi h.size)).trans (h.block i hi)⟩
theorem Ext.alloc {a b : World} (h : Ext a b) (o : Obj) : Ext a (b.alloc o) :=
  h.trans ⟨rfl, rfl, rfl, by simp, fun i hi _ => Below.heap_alloc b o i hi⟩
theorem Ext.drewN {a b : World} (h : Ext a b) (n : Nat) : Ext a (b.drewN n) := h.trans ⟨rfl, rfl, rfl, Nat.le_refl _, fun _ _ _ => rfl⟩
theorem Ext.drew {a b : World} (h : Ext a b) : Ext a b.drew := h.drewN 1
theorem Ext.grown {a b c : World} (h : Ext a b) {row : Option Nat} (k : b.grownBy c row) (hr : ∀ g, row = some g → a.heap.size ≤ g) : Ext a c :=
  ⟨k.os.trans (World.grownBy.os h), k.tape.trans (World.grownBy.tape h), k.output.trans (World.grownBy.output h), Nat.le_trans h.size k.size,
    fun i hi _ => (k.block i (Nat.lt_of_lt_of_le hi h.size) (fun e => by have := hr i e.symm; omega)).trans (h.block i hi)⟩
theorem Ext.setCell {a b : World} (h : Ext a b) {p : Addr} (hp : a.heap.size ≤ p.block) (u : Value) : Ext a (b.setCell p u) :=
  h.grown (row := some p.block) ⟨rfl, rfl, rfl, by simp [World.setCell], fun i _ hne => Below.heap_setCell b p u i (fun e => hne (by rw [e]))⟩ (fun g hg => by injection hg with hg; omega)
theorem Ext.cells {a b : World} (h : Ext a b) : ∀ k o, k < a.heap.size → b.cell? ⟨k, o, none⟩ = a.cell? ⟨k, o, none⟩ :=
  fun k _ hk => World.cell?_of_block (h.block k hk)
theorem Ext.frozens {a b : World} (h : Ext a b) : ∀ k o, k < a.heap.size → b.frozen? ⟨k, o, none⟩ = a.frozen? ⟨k, o, none⟩ :=
  fun k _ hk => World.frozen?_of_block (h.block k hk)
theorem Ext.below {a b : World} (h : Ext a b) : Below a.heap.size a b :=
  ⟨World.grownBy.os h, World.grownBy.tape h, World.grownBy.output h, h.size, h.block⟩
theorem Ext.of_below {a b : World} (h : Below a.heap.size a b) : Ext a b :=
  ⟨h.os, h.tape, h.output, h.size, fun k hk _ => h.block k hk⟩

theorem RExt.refl (B : Nat) (w : World) : RExt B w w := ⟨rfl, rfl, rfl, Nat.le_refl _, fun _ _ _ => rfl⟩
theorem RExt.size {B : Nat} {a b : World} (h : RExt B a b) : a.heap.size ≤ b.heap.size := World.grownBy.size h
theorem RExt.block {B : Nat} {a b : World} (h : RExt B a b) (k : Nat) (hk : k < a.heap.size) (hne : k ≠ B) : b.heap[k]? = a.heap[k]? :=
  World.grownBy.block h k hk (by simpa using hne)
theorem RExt.of_ext {a b : World} (h : Ext a b) (B : Nat) : RExt B a b :=
  ⟨World.grownBy.os h, World.grownBy.tape h, World.grownBy.output h, h.size, fun i hi _ => h.block i hi⟩
theorem RExt.trans {B : Nat} {a b c : World} (h : RExt B a b) (k : RExt B b c) : RExt B a c :=
  ⟨(World.grownBy.os k).trans (World.grownBy.os h), (World.grownBy.tape k).trans (World.grownBy.tape h), (World.grownBy.output k).trans (World.grownBy.output h), Nat.le_trans h.size k.size,
    fun i hi hne => (World.grownBy.block k i (Nat.lt_of_lt_of_le hi h.size) hne).trans (World.grownBy.block h i hi hne)⟩
theorem RExt.ext {B : Nat} {a b c : World} (h : RExt B a b) (k : Ext b c) : RExt B a c := h.trans (.of_ext k B)
theorem RExt.alloc {B : Nat} {a b : World} (h : RExt B a b) (o : Obj) : RExt B a (b.alloc o) := h.ext ((Ext.refl b).alloc o)
theorem RExt.drewN {B : Nat} {a b : World} (h : RExt B a b) (n : Nat) : RExt B a (b.drewN n) := h.ext ((Ext.refl b).drewN n)
theorem RExt.drew {B : Nat} {a b : World} (h : RExt B a b) : RExt B a b.drew := h.drewN 1
theorem RExt.setCell {B : Nat} {a b : World} (h : RExt B a b) {p : Addr} (hp : p.block = B ∨ a.heap.size ≤ p.block) (u : Value) : RExt B a (b.setCell p u) :=
  ⟨show b.os = a.os from World.grownBy.os h, show b.tape = a.tape from World.grownBy.tape h, show b.output = a.output from World.grownBy.output h, by simpa [World.setCell] using h.size,
    fun i hi hne => (Below.heap_setCell b p u i (by
      rintro rfl
      rcases hp with hp | hp
      · exact hne (by rw [hp])
      · omega)).trans (World.grownBy.block h i hi hne)⟩
theorem RExt.cells {B : Nat} {a b : World} (h : RExt B a b) : ∀ k o, k < a.heap.size → k ≠ B → b.cell? ⟨k, o, none⟩ = a.cell? ⟨k, o, none⟩ :=
  fun k _ hk hne => World.cell?_of_block (h.block k hk hne)
/-- A block that a call's own caller made before the call, read behind the call. -/
theorem RExt.cellsFrom {B : Nat} {a b : World} (h : RExt B a b) {n : Nat} (hB : B < n) : ∀ k o, n ≤ k → k < a.heap.size → b.cell? ⟨k, o, none⟩ = a.cell? ⟨k, o, none⟩ :=
  fun k _ hn hk => World.cell?_of_block (h.block k hk (by omega))
theorem RExt.frozensFrom {B : Nat} {a b : World} (h : RExt B a b) {n : Nat} (hB : B < n) : ∀ k o, n ≤ k → k < a.heap.size → b.frozen? ⟨k, o, none⟩ = a.frozen? ⟨k, o, none⟩ :=
  fun k _ hn hk => World.frozen?_of_block (h.block k hk (by omega))
theorem RExt.frozens {B : Nat} {a b : World} (h : RExt B a b) : ∀ k o, k < a.heap.size → k ≠ B → b.frozen? ⟨k, o, none⟩ = a.frozen? ⟨k, o, none⟩ :=
  fun k _ hk hne => World.frozen?_of_block (h.block k hk hne)
/-- If the block that may have turned is new, nothing has turned. -/
theorem RExt.new {B : Nat} {a b c : World} (h : Ext a b) (k : RExt B b c) (hB : a.heap.size ≤ B) : Ext a c :=
  h.grown k (fun g hg => by injection hg with hg; omega)

/-- Block b is just these cells, none of them frozen. -/
def Blk (w : World) (b : Nat) (T : TypeId) (cs : Array Value) : Prop := w.heap[b]? = some (.cells cs T (0, 0))
section
variable {w w' : World} {b : Nat} {T : TypeId} {cs : Array Value}
theorem Blk.lt (h : Blk w b T cs) : b < w.heap.size := (Array.getElem?_eq_some_iff.1 h).1
theorem Blk.cells (h : Blk w b T cs) : ∀ o, w.cell? ⟨b, o, none⟩ = cs[o]? := fun o => cell_of_row w b o cs T (0, 0) h
theorem Blk.frozens (h : Blk w b T cs) : ∀ o, w.frozen? ⟨b, o, none⟩ = false := fun o => frozen_of_row w b o cs T h
theorem Blk.new (w : World) (T : TypeId) (cs : Array Value) : Blk (w.alloc (.cells cs T)) w.heap.size T cs := heap_alloc_new w _
theorem Blk.newAt (w : World) (T : TypeId) (cs : Array Value) (hb : b = w.heap.size) : Blk (w.alloc (.cells cs T)) b T cs := by subst hb; exact heap_alloc_new w _
theorem Blk.ext (h : Blk w b T cs) (hx : Ext w w') : Blk w' b T cs := (hx.block b h.lt).trans h
theorem Blk.rext {B : Nat} (h : Blk w b T cs) (hx : RExt B w w') (hne : b ≠ B) : Blk w' b T cs := (hx.block b h.lt hne).trans h
theorem Blk.alloc (h : Blk w b T cs) (o : Obj) : Blk (w.alloc o) b T cs := h.ext ((Ext.refl w).alloc o)
theorem Blk.drewN (h : Blk w b T cs) (n : Nat) : Blk (w.drewN n) b T cs := h
theorem Blk.drew (h : Blk w b T cs) : Blk w.drew b T cs := h
theorem Blk.far (h : Blk w b T cs) {p : Addr} (hp : b ≠ p.block) (u : Value) : Blk (w.setCell p u) b T cs := (Below.heap_setCell w p u b hp).trans h
theorem Blk.set (h : Blk w b T cs) (i : Nat) (u : Value) : Blk (w.setCell ⟨b, i, none⟩ u) b T (cs.setIfInBounds i u) := heap_setCell_same w b i cs T u h
theorem Blk.grown {row : Option Nat} (h : Blk w b T cs) (hg : w.grownBy w' row) (hne : some b ≠ row) : Blk w' b T cs := (hg.block b h.lt hne).trans h
end

/-- A slice value that reads as a list: element i lies in the k cells from i * k on. -/
structure Sl {α : Type} (enc : α → List Value) (k : Nat) (w : World) (a : Option Addr) (n c : Nat) (L : List α) : Prop where
  len : L.length = n
  le : n ≤ c
  max : c ≤ 9223372036854775807
  nil : a = none → c = 0
  at_ : 0 < n → ∃ b off, a = some ⟨b, off, none⟩ ∧ b < w.heap.size ∧
    ∀ i x, L[i]? = some x → ∀ j u, (enc x)[j]? = some u → w.cell? ⟨b, off + (i * k + j), none⟩ = some u

section
variable {α : Type} {enc : α → List Value} {k : Nat} {w w' : World} {a : Option Addr} {n c : Nat} {L : List α}
theorem Sl.keep (h : Sl enc k w a n c L) (hs : w.heap.size ≤ w'.heap.size)
    (hc : ∀ b off, 0 < n → a = some ⟨b, off, none⟩ → b < w.heap.size → w'.heap[b]? = w.heap[b]?) : Sl enc k w' a n c L :=
  ⟨h.len, h.le, h.max, h.nil, fun hn => by
    obtain ⟨b, off, e, hb, hh⟩ := h.at_ hn
    exact ⟨b, off, e, by omega, fun i x hx j u hu => (World.cell?_of_block (hc b off hn e hb)).trans (hh i x hx j u hu)⟩⟩
theorem Sl.ext (h : Sl enc k w a n c L) (hx : Ext w w') : Sl enc k w' a n c L := h.keep hx.size fun b _ _ _ hb => hx.block b hb
theorem Sl.rext {B : Nat} (h : Sl enc k w a n c L) (hx : RExt B w w') (hne : ∀ x, a = some x → x.block ≠ B) : Sl enc k w' a n c L :=
  h.keep hx.size fun b _ _ e hb => hx.block b hb (hne _ e)
theorem Sl.setCell (h : Sl enc k w a n c L) {p : Addr} (hne : ∀ x, a = some x → x.block ≠ p.block) (u : Value) : Sl enc k (w.setCell p u) a n c L :=
  h.keep (by simp [World.setCell]) fun b _ _ e _ => Below.heap_setCell w p u b (hne _ e)
theorem Sl.setFar (h : Sl enc k w a n c L) {p : Addr} (hne : 0 < n → ∀ x, a = some x → x.block ≠ p.block) (u : Value) : Sl enc k (w.setCell p u) a n c L :=
  h.keep (by simp [World.setCell]) fun b _ hn e _ => Below.heap_setCell w p u b (hne hn _ e)
theorem Sl.rextFar {B : Nat} (h : Sl enc k w a n c L) (hx : RExt B w w') (hne : 0 < n → ∀ x, a = some x → x.block ≠ B) : Sl enc k w' a n c L :=
  h.keep hx.size fun b _ hn e hb => hx.block b hb (hne hn _ e)
theorem Sl.lt (h : Sl enc k w a n c L) (hn : 0 < n) : ∀ x, a = some x → x.block < w.heap.size := by
  intro x hx
  obtain ⟨b, off, e, hb, _⟩ := h.at_ hn
  rw [hx] at e; injection e with e; subst e; exact hb
theorem Sl.alloc (h : Sl enc k w a n c L) (o : Obj) : Sl enc k (w.alloc o) a n c L := h.ext ((Ext.refl w).alloc o)
theorem Sl.drewN (h : Sl enc k w a n c L) (m : Nat) : Sl enc k (w.drewN m) a n c L := h.ext ((Ext.refl w).drewN m)
theorem Sl.drew (h : Sl enc k w a n c L) : Sl enc k w.drew a n c L := h.drewN 1
theorem Sl.nils (w : World) : Sl enc k w none 0 0 [] := ⟨rfl, Nat.le_refl _, by omega, fun _ => rfl, fun h => absurd h (by omega)⟩
theorem Sl.zero (h : Sl enc k w a 0 c L) : L = [] := List.eq_nil_of_length_eq_zero h.len
/-- The empty one, or one with an address. -/
theorem Sl.form (h : Sl enc k w a n c L) : (n = 0 ∧ L = []) ∨ (0 < n ∧ ∃ b off, a = some ⟨b, off, none⟩ ∧ b < w.heap.size ∧
    ∀ i x, L[i]? = some x → ∀ j u, (enc x)[j]? = some u → w.cell? ⟨b, off + (i * k + j), none⟩ = some u) := by
  rcases Nat.eq_zero_or_pos n with h0 | h0
  · subst h0; exact .inl ⟨rfl, h.zero⟩
  · exact .inr ⟨h0, h.at_ h0⟩
/-- The first m of its elements. -/
theorem Sl.take (h : Sl enc k w a n c L) {m c' : Nat} (hm : m ≤ n) (hc : m ≤ c') (hc' : c' ≤ c) : Sl enc k w a m c' (L.take m) :=
  ⟨by rw [List.length_take, h.len]; omega, hc, by have := h.max; omega, fun e => by have := h.nil e; omega, fun hn => by
    obtain ⟨b, off, e, hb, hh⟩ := h.at_ (by omega)
    refine ⟨b, off, e, hb, fun i x hx j u hu => hh i x ?_ j u hu⟩
    rw [List.getElem?_take] at hx
    split at hx
    · exact hx
    · cases hx⟩
end

/-- A slice of the call's own: it lies at the head of an unfrozen row from block base on, or is nil. -/
def Ow {α : Type} (E : TypeId) (enc : α → List Value) (k : Nat) (base : Nat) (w : World) (a : Option Addr) (n c : Nat) (L : List α) : Prop :=
  L.length = n ∧ ((a = none ∧ n = 0 ∧ c = 0) ∨
    ∃ g cur, a = some ⟨g, 0, none⟩ ∧ base ≤ g ∧ w.heap[g]? = some (.cells cur E (0, 0)) ∧ n ≤ c ∧ c ≤ 9223372036854775807 ∧ c * k ≤ cur.size ∧ cur.toList.take (n * k) = L.flatMap enc)

theorem flat_len {α : Type} {enc : α → List Value} {k : Nat} (hk : ∀ x, (enc x).length = k) : ∀ L : List α, (L.flatMap enc).length = L.length * k
  | [] => by simp
  | x :: L => by rw [List.flatMap_cons, List.length_append, hk, flat_len hk L, List.length_cons, Nat.add_mul]; omega
theorem flat_at {α : Type} {enc : α → List Value} {k : Nat} (hk : ∀ x, (enc x).length = k) : ∀ (L : List α) (i : Nat) (x : α), L[i]? = some x → ∀ (j : Nat) (u : Value), (enc x)[j]? = some u → (L.flatMap enc)[i * k + j]? = some u
  | [], i, x, hx, _, _, _ => by simp at hx
  | y :: L, 0, x, hx, j, u, hu => by
    simp only [List.getElem?_cons_zero, Option.some.injEq] at hx
    subst hx
    rw [List.flatMap_cons, Nat.zero_mul, Nat.zero_add, List.getElem?_append_left (List.getElem?_eq_some_iff.1 hu).1]
    exact hu
  | y :: L, i + 1, x, hx, j, u, hu => by
    rw [List.flatMap_cons, List.getElem?_append_right (by rw [hk, Nat.add_mul]; omega), hk]
    have := flat_at hk L i x (by simpa using hx) j u hu
    rw [← this]
    congr 1
    rw [Nat.add_mul]; omega

section
variable {α : Type} {E : TypeId} {enc : α → List Value} {k base : Nat} {w w' : World} {a : Option Addr} {n c : Nat} {L : List α}
theorem Ow.sl (h : Ow E enc k base w a n c L) (hk : ∀ x, (enc x).length = k) : Sl enc k w a n c L := by
  obtain ⟨hl, ⟨rfl, hn, rfl⟩ | ⟨g, cur, rfl, hb, hg, hnc, hcm, hcs, ht⟩⟩ := h
  · exact ⟨hl, by omega, by omega, fun _ => rfl, fun h => by omega⟩
  · refine ⟨hl, hnc, hcm, (fun e => by cases e), fun _ => ⟨g, 0, rfl, (Array.getElem?_eq_some_iff.1 hg).1, fun i x hx j u hu => ?_⟩⟩
    have hf := flat_at hk L i x hx j u hu
    rw [← ht, List.getElem?_take] at hf
    rw [cell_of_row w g _ cur E (0, 0) hg]
    split at hf
    · simpa using hf
    · cases hf
theorem Ow.of_row (h : w.ownsRow base E k (.slice a n c) n (L.flatMap enc)) (hk : ∀ x, (enc x).length = k) (h0 : 0 < k) : Ow E enc k base w a n c L := by
  have hl : L.length = n := by
    have := h.1
    rw [flat_len hk] at this
    exact Nat.eq_of_mul_eq_mul_right h0 this
  refine ⟨hl, ?_⟩
  rcases h.2 with ⟨e, hn⟩ | ⟨g, cap, cur, e, hb, hg, hnc, hcm, hcs, ht⟩
  · injection e with e1 e2 e3
    exact .inl ⟨e1, hn, e3⟩
  · injection e with e1 e2 e3
    subst e3
    exact .inr ⟨g, cur, e1, hb, hg, hnc, hcm, by omega, ht⟩
theorem Ow.keep (h : Ow E enc k base w a n c L) (hx : ∀ x, a = some x → x.block < w.heap.size → w'.heap[x.block]? = w.heap[x.block]?) : Ow E enc k base w' a n c L := by
  obtain ⟨hl, ⟨rfl, hn, rfl⟩ | ⟨g, cur, rfl, hb, hg, r⟩⟩ := h
  · exact ⟨hl, .inl ⟨rfl, hn, rfl⟩⟩
  · exact ⟨hl, .inr ⟨g, cur, rfl, hb, (hx _ rfl (Array.getElem?_eq_some_iff.1 hg).1).trans hg, r⟩⟩
theorem Ow.ext (h : Ow E enc k base w a n c L) (hx : Ext w w') : Ow E enc k base w' a n c L := h.keep fun x _ hb => hx.block x.block hb
theorem Ow.rext {B : Nat} (h : Ow E enc k base w a n c L) (hx : RExt B w w') (hne : ∀ x, a = some x → x.block ≠ B) : Ow E enc k base w' a n c L :=
  h.keep fun x e hb => hx.block x.block hb (hne x e)
theorem Ow.nils (w : World) : Ow E enc k base w none 0 0 [] := ⟨rfl, .inl ⟨rfl, rfl, rfl⟩⟩
theorem Ow.rebase (h : Ow E enc k base w a n c L) {b' : Nat} (hb : b' ≤ base) : Ow E enc k b' w a n c L := by
  obtain ⟨hl, h0 | ⟨g, cur, rfl, hg, r⟩⟩ := h
  · exact ⟨hl, .inl h0⟩
  · exact ⟨hl, .inr ⟨g, cur, rfl, Nat.le_trans hb hg, r⟩⟩
theorem Ow.lt (h : Ow E enc k base w a n c L) : ∀ x, a = some x → base ≤ x.block ∧ x.block < w.heap.size ∧ x = ⟨x.block, 0, none⟩ := by
  intro x hx
  obtain ⟨hl, ⟨rfl, _⟩ | ⟨g, cur, rfl, hb, hg, r⟩⟩ := h
  · cases hx
  · injection hx with hx
    subst hx
    exact ⟨hb, (Array.getElem?_eq_some_iff.1 hg).1, rfl⟩
/-- The slice cut to its length. -/
theorem Ow.clip (h : Ow E enc k base w a n c L) : Ow E enc k base w a n n L := by
  obtain ⟨hl, ⟨rfl, hn, rfl⟩ | ⟨g, cur, rfl, hb, hg, hnc, hcm, hcs, ht⟩⟩ := h
  · exact ⟨hl, .inl ⟨rfl, hn, hn⟩⟩
  · exact ⟨hl, .inr ⟨g, cur, rfl, hb, hg, Nat.le_refl _, by omega, Nat.le_trans (Nat.mul_le_mul_right k hnc) hcs, ht⟩⟩
end
/-- Two rows of different element types lie in different blocks. -/
theorem Ow.apart {α β : Type} {E E' : TypeId} {enc : α → List Value} {enc' : β → List Value} {k k' base base' : Nat} {w : World} {a a' : Option Addr} {n c n' c' : Nat} {L : List α} {L' : List β}
    (h : Ow E enc k base w a n c L) (h' : Ow E' enc' k' base' w a' n' c' L') (hne : E ≠ E') : ∀ x y, a = some x → a' = some y → x.block ≠ y.block := by
  intro x y hx hy he
  obtain ⟨_, ⟨rfl, _⟩ | ⟨g, cur, rfl, _, hg, _⟩⟩ := h
  · cases hx
  obtain ⟨_, ⟨rfl, _⟩ | ⟨g', cur', rfl, _, hg', _⟩⟩ := h'
  · cases hy
  injection hx with hx
  injection hy with hy
  subst hx; subst hy
  simp only at he
  subst he
  rw [hg] at hg'
  injection hg' with hg'
  injection hg' with _ ht
  exact hne ht
theorem Ext.own {a b c : World} (h : Ext a b) {g n cp : Nat} (k : b.grownBy c (Value.slice (some ⟨g, 0, none⟩) n cp).ownBlock) (hg : a.heap.size ≤ g) : Ext a c :=
  h.grown k (fun g' e => by
    have : g = g' := by simpa [Value.ownBlock] using e
    omega)
end Go.Proofs.Ytafmomocmodbhaa
