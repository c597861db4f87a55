/- Part 0 of the words, laws and contracts that the claims of this seat share, joined from their texts. No condition. -/
import Derived.Test.YtafmomocmodbhaaRows
import Derived.WalkKit
import Derived.ProofKit
import Derived.WalkSpells
import Derived.WalkLawsBesides
import Derived.Deep.Draws
import Derived.Laws.OwnMore
import Derived.Deep.AppendLies
import Derived.Lib.Hide
import Derived.Below
import Derived.OrdersHeld
import Derived.RegionTactic
import Derived.StillTactics
import Derived.BigQuiet
import Derived.Deep.QuietTactic
import Derived.Deep.RegionHeld3
import Derived.Deep.RegionWith
import Derived.OpenShut
import Derived.Lib.Walk
import Derived.Shelf.Abstract
/- Plain facts of the seat's own start: the word behind the main's sum is 'cut'; so it may be entered, lifts nothing, and is made as a cut. By parts: the kernel run over the whole row of roots outgrows its memory. No condition. -/
namespace Go.Proofs.Ytafmomocmodbhaa
set_option linter.unusedVariables false
set_option linter.unusedSimpArgs false
open Go.RowKit

theorem words_word (r : List Char) : ∀ h : List Char, (∀ c ∈ h, c ≠ Char.ofNat 32) → wordsSigns (h ++ Char.ofNat 32 :: r) = h :: wordsSigns r
  | [], _ => rfl
  | c :: h, hh => by
    have ih := words_word r h (fun x hx => hh x (List.mem_cons_of_mem _ hx))
    rw [List.cons_append, wordsSigns.eq_3 _ _ (fun hc => hh c List.mem_cons_self hc), ih]

theorem stripCut (ws : List (List Char)) : stripLifts liftWords ("cut".toList :: ws) = ([], "cut".toList :: ws) := by
  kernel_rfl

theorem make_of (P : Program) (ws : List (List Char)) (h : behindMainWord (wordsSigns P.initOrder.toList) = "cut".toList :: ws) : P.make = some .cut := by
  unfold Program.make
  rw [h]
  simp only []
  rw [if_neg (by decide +kernel), if_pos]
  have : ("cut".toList == "cut".toList) = true := by decide +kernel
  rw [this]; rfl

theorem enter_of (P : Program) (ws : List (List Char)) (h : behindMainWord (wordsSigns P.initOrder.toList) = "cut".toList :: ws) :
    P.mayEnter = ((false || !P.laysLater) && (false || !P.bearsReflect) && P.doorFits []) := by
  unfold Program.mayEnter
  rw [h]
  simp only [stripCut]
  rw [show ("cut".toList == "gc".toList) = false by decide +kernel, show ("cut".toList == "spec".toList) = false by decide +kernel, show ("cut".toList == "carried".toList) = false by decide +kernel]
  simp

theorem lifts_of (P : Program) (ws : List (List Char)) (h : behindMainWord (wordsSigns P.initOrder.toList) = "cut".toList :: ws) : P.liftsFinal = false := by
  unfold Program.liftsFinal Program.headLifts
  rw [h]
  simp only [stripCut]
  rw [show (("cut".toList :: ws).head? == some "carried".toList) = false by kernel_rfl]
  simp

def sHead : List Char := [104, 97, 114, 110, 101, 115, 115].map Char.ofNat
def sSum : List Char := [48, 48, 51, 97, 52, 49, 102, 48, 52, 56, 57, 99, 99, 50, 56, 52, 52, 53, 51, 49, 48, 97, 50, 101, 97, 48, 52, 48, 52, 101, 50, 101, 101, 97, 50, 57, 101, 55, 57, 48, 56, 49, 101, 51, 52, 97, 57, 57, 54, 49, 100, 101, 57, 101, 100, 54, 97, 56, 52, 99, 54, 97, 52, 50].map Char.ofNat
def sCut : List Char := [99, 117, 116].map Char.ofNat
def sRest : List Char := [97, 116, 32, 108, 111, 111, 112, 46, 101, 120, 97, 109, 112, 108, 101, 47, 112, 111, 114, 116, 109, 97, 112, 112, 101, 114, 47, 108, 97, 119, 115, 46, 70, 110, 69, 120, 97, 99, 116, 87, 97, 121, 79, 102, 32, 108, 111, 111, 112, 46, 101, 120, 97, 109, 112, 108, 101, 47, 112, 111, 114, 116, 109, 97, 112, 112, 101, 114, 47, 108, 97, 119, 115, 46, 70, 110, 84, 105, 99, 107, 71, 97, 116, 101, 83, 116, 101, 112, 32, 108, 111, 111, 112, 46, 101, 120, 97, 109, 112, 108, 101, 47, 112, 111, 114, 116, 109, 97, 112, 112, 101, 114, 47, 108, 97, 119, 115, 46, 70, 110, 82, 101, 112, 111, 114, 116, 79, 117, 116, 78, 111, 110, 101, 32, 108, 111, 111, 112, 46, 101, 120, 97, 109, 112, 108, 101, 47, 112, 111, 114, 116, 109, 97, 112, 112, 101, 114, 47, 108, 97, 119, 115, 46, 70, 110, 87, 97, 121, 79, 102, 68, 97, 116, 97, 32, 108, 111, 111, 112, 46, 101, 120, 97, 109, 112, 108, 101, 47, 112, 111, 114, 116, 109, 97, 112, 112, 101, 114, 47, 108, 97, 119, 115, 46, 70, 110, 87, 97, 121, 79, 102, 32, 108, 111, 111, 112, 46, 101, 120, 97, 109, 112, 108, 101, 47, 112, 111, 114, 116, 109, 97, 112, 112, 101, 114, 47, 108, 97, 119, 115, 46, 70, 110, 82, 101, 112, 111, 114, 116, 73, 110, 32, 108, 111, 111, 112, 46, 101, 120, 97, 109, 112, 108, 101, 47, 112, 111, 114, 116, 109, 97, 112, 112, 101, 114, 47, 108, 97, 119, 115, 46, 70, 110, 82, 101, 112, 111, 114, 116, 73, 110, 78, 111, 110, 101, 32, 108, 111, 111, 112, 46, 101, 120, 97, 109, 112, 108, 101, 47, 112, 111, 114, 116, 109, 97, 112, 112, 101, 114, 47, 108, 97, 119, 115, 46, 70, 110, 82, 101, 112, 111, 114, 116, 79, 117, 116, 32, 108, 111, 111, 112, 46, 101, 120, 97, 109, 112, 108, 101, 47, 112, 111, 114, 116, 109, 97, 112, 112, 101, 114, 47, 108, 97, 119, 115, 46, 70, 110, 69, 120, 97, 99, 116, 84, 105, 99, 107, 71, 97, 116, 101].map Char.ofNat

theorem sOrder : Try.prog.initOrder = String.ofList (sHead ++ Char.ofNat 32 :: (sSum ++ Char.ofNat 32 :: (sCut ++ Char.ofNat 32 :: sRest))) := by kernel_rfl

theorem sMain (ws : List (List Char)) : behindMainWord (sHead :: sSum :: sCut :: ws) = "cut".toList :: ws := by kernel_rfl

theorem sWords : behindMainWord (wordsSigns Try.prog.initOrder.toList) = "cut".toList :: wordsSigns sRest := by
  rw [sOrder, String.toList_ofList, words_word _ _ (by decide +kernel), words_word _ _ (by decide +kernel), words_word _ _ (by decide +kernel), sMain]

theorem sLater : Try.prog.laysLater = false := by kernel_rfl
theorem sReflect : Try.prog.bearsReflect = false := by kernel_rfl
theorem sDoor : Try.prog.doorFits [] = true := by kernel_rfl
theorem sEnter : Try.prog.mayEnter = true := by rw [enter_of _ _ sWords, sLater, sReflect, sDoor]; rfl
theorem sLifts : Try.prog.liftsFinal = false := lifts_of _ _ sWords
theorem sMake : Try.prog.make = some .cut := make_of _ _ sWords
theorem sLaid : laidOutB Try.prog = true := by kernel_rfl
theorem sKeys : Try.prog.plainKeys = true := by kernel_rfl
theorem sHeard : Try.prog.stopsHeard = true := by kernel_rfl

end Go.Proofs.Ytafmomocmodbhaa
/- Words on memory that all proofs of this seat use: a world that is another one with new blocks (Ext), one with one further block turned (RExt), a slice that reads as a list (Sl), a slice that owns a new row (Ow). No condition. -/
namespace Go.Proofs.Ytafmomocmodbhaa
set_option linter.unusedVariables false
set_option linter.unusedSimpArgs false
open Go.RowKit

/-- w' is w with new blocks behind it; nothing that was there has turned. -/
def Ext (w w' : World) : Prop := w.grownBy w' none
/-- The same, but block B may have turned. -/
def RExt (B : Nat) (w w' : World) : Prop := w.grownBy w' (some B)

theorem Ext.refl (w : World) : Ext w w := ⟨rfl, rfl, rfl, Nat.le_refl _, fun _ _ _ => rfl⟩
theorem Ext.size {a b : World} (h : Ext a b) : a.heap.size ≤ b.heap.size := World.grownBy.size h
theorem Ext.block {a b : World} (h : Ext a b) (k : Nat) (hk : k < a.heap.size) : b.heap[k]? = a.heap[k]? := World.grownBy.block h k hk (by simp)
theorem Ext.trans {a b c : World} (h : Ext a b) (k : Ext b c) : Ext a c :=
  ⟨(World.grownBy.os k).trans (World.grownBy.os h), (World.grownBy.tape k).trans (World.grownBy.tape h), (World.grownBy.output k).trans (World.grownBy.output h), Nat.le_trans h.size k.size,
    fun i hi _ => (k.block i (Nat.lt_of_lt_of_le hi h.size)).trans (h.block i hi)⟩
theorem Ext.alloc {a b : World} (h : Ext a b) (o : Obj) : Ext a (b.alloc o) :=
  h.trans ⟨rfl, rfl, rfl, by simp, fun i hi _ => Below.heap_alloc b o i hi⟩
theorem Ext.drewN {a b : World} (h : Ext a b) (n : Nat) : Ext a (b.drewN n) := h.trans ⟨rfl, rfl, rfl, Nat.le_refl _, fun _ _ _ => rfl⟩
theorem Ext.drew {a b : World} (h : Ext a b) : Ext a b.drew := h.drewN 1
theorem Ext.grown {a b c : World} (h : Ext a b) {row : Option Nat} (k : b.grownBy c row) (hr : ∀ g, row = some g → a.heap.size ≤ g) : Ext a c :=
  ⟨k.os.trans (World.grownBy.os h), k.tape.trans (World.grownBy.tape h), k.output.trans (World.grownBy.output h), Nat.le_trans h.size k.size,
    fun i hi _ => (k.block i (Nat.lt_of_lt_of_le hi h.size) (fun e => by have := hr i e.symm; omega)).trans (h.block i hi)⟩
theorem Ext.setCell {a b : World} (h : Ext a b) {p : Addr} (hp : a.heap.size ≤ p.block) (u : Value) : Ext a (b.setCell p u) :=
  h.grown (row := some p.block) ⟨rfl, rfl, rfl, by simp [World.setCell], fun i _ hne => Below.heap_setCell b p u i (fun e => hne (by rw [e]))⟩ (fun g hg => by injection hg with hg; omega)
theorem Ext.cells {a b : World} (h : Ext a b) : ∀ k o, k < a.heap.size → b.cell? ⟨k, o, none⟩ = a.cell? ⟨k, o, none⟩ :=
  fun k _ hk => World.cell?_of_block (h.block k hk)
theorem Ext.frozens {a b : World} (h : Ext a b) : ∀ k o, k < a.heap.size → b.frozen? ⟨k, o, none⟩ = a.frozen? ⟨k, o, none⟩ :=
  fun k _ hk => World.frozen?_of_block (h.block k hk)
theorem Ext.below {a b : World} (h : Ext a b) : Below a.heap.size a b :=
  ⟨World.grownBy.os h, World.grownBy.tape h, World.grownBy.output h, h.size, h.block⟩
theorem Ext.of_below {a b : World} (h : Below a.heap.size a b) : Ext a b :=
  ⟨h.os, h.tape, h.output, h.size, fun k hk _ => h.block k hk⟩

theorem RExt.refl (B : Nat) (w : World) : RExt B w w := ⟨rfl, rfl, rfl, Nat.le_refl _, fun _ _ _ => rfl⟩
theorem RExt.size {B : Nat} {a b : World} (h : RExt B a b) : a.heap.size ≤ b.heap.size := World.grownBy.size h
theorem RExt.block {B : Nat} {a b : World} (h : RExt B a b) (k : Nat) (hk : k < a.heap.size) (hne : k ≠ B) : b.heap[k]? = a.heap[k]? :=
  World.grownBy.block h k hk (by simpa using hne)
theorem RExt.of_ext {a b : World} (h : Ext a b) (B : Nat) : RExt B a b :=
  ⟨World.grownBy.os h, World.grownBy.tape h, World.grownBy.output h, h.size, fun i hi _ => h.block i hi⟩
theorem RExt.trans {B : Nat} {a b c : World} (h : RExt B a b) (k : RExt B b c) : RExt B a c :=
  ⟨(World.grownBy.os k).trans (World.grownBy.os h), (World.grownBy.tape k).trans (World.grownBy.tape h), (World.grownBy.output k).trans (World.grownBy.output h), Nat.le_trans h.size k.size,
    fun i hi hne => (World.grownBy.block k i (Nat.lt_of_lt_of_le hi h.size) hne).trans (World.grownBy.block h i hi hne)⟩
theorem RExt.ext {B : Nat} {a b c : World} (h : RExt B a b) (k : Ext b c) : RExt B a c := h.trans (.of_ext k B)
theorem RExt.alloc {B : Nat} {a b : World} (h : RExt B a b) (o : Obj) : RExt B a (b.alloc o) := h.ext ((Ext.refl b).alloc o)
theorem RExt.drewN {B : Nat} {a b : World} (h : RExt B a b) (n : Nat) : RExt B a (b.drewN n) := h.ext ((Ext.refl b).drewN n)
theorem RExt.drew {B : Nat} {a b : World} (h : RExt B a b) : RExt B a b.drew := h.drewN 1
theorem RExt.setCell {B : Nat} {a b : World} (h : RExt B a b) {p : Addr} (hp : p.block = B ∨ a.heap.size ≤ p.block) (u : Value) : RExt B a (b.setCell p u) :=
  ⟨show b.os = a.os from World.grownBy.os h, show b.tape = a.tape from World.grownBy.tape h, show b.output = a.output from World.grownBy.output h, by simpa [World.setCell] using h.size,
    fun i hi hne => (Below.heap_setCell b p u i (by
      rintro rfl
      rcases hp with hp | hp
      · exact hne (by rw [hp])
      · omega)).trans (World.grownBy.block h i hi hne)⟩
theorem RExt.cells {B : Nat} {a b : World} (h : RExt B a b) : ∀ k o, k < a.heap.size → k ≠ B → b.cell? ⟨k, o, none⟩ = a.cell? ⟨k, o, none⟩ :=
  fun k _ hk hne => World.cell?_of_block (h.block k hk hne)
/-- A block that a call's own caller made before the call, read behind the call. -/
theorem RExt.cellsFrom {B : Nat} {a b : World} (h : RExt B a b) {n : Nat} (hB : B < n) : ∀ k o, n ≤ k → k < a.heap.size → b.cell? ⟨k, o, none⟩ = a.cell? ⟨k, o, none⟩ :=
  fun k _ hn hk => World.cell?_of_block (h.block k hk (by omega))
theorem RExt.frozensFrom {B : Nat} {a b : World} (h : RExt B a b) {n : Nat} (hB : B < n) : ∀ k o, n ≤ k → k < a.heap.size → b.frozen? ⟨k, o, none⟩ = a.frozen? ⟨k, o, none⟩ :=
  fun k _ hn hk => World.frozen?_of_block (h.block k hk (by omega))
theorem RExt.frozens {B : Nat} {a b : World} (h : RExt B a b) : ∀ k o, k < a.heap.size → k ≠ B → b.frozen? ⟨k, o, none⟩ = a.frozen? ⟨k, o, none⟩ :=
  fun k _ hk hne => World.frozen?_of_block (h.block k hk hne)
/-- If the block that may have turned is new, nothing has turned. -/
theorem RExt.new {B : Nat} {a b c : World} (h : Ext a b) (k : RExt B b c) (hB : a.heap.size ≤ B) : Ext a c :=
  h.grown k (fun g hg => by injection hg with hg; omega)

/-- Block b is just these cells, none of them frozen. -/
def Blk (w : World) (b : Nat) (T : TypeId) (cs : Array Value) : Prop := w.heap[b]? = some (.cells cs T (0, 0))
section
variable {w w' : World} {b : Nat} {T : TypeId} {cs : Array Value}
theorem Blk.lt (h : Blk w b T cs) : b < w.heap.size := (Array.getElem?_eq_some_iff.1 h).1
theorem Blk.cells (h : Blk w b T cs) : ∀ o, w.cell? ⟨b, o, none⟩ = cs[o]? := fun o => cell_of_row w b o cs T (0, 0) h
theorem Blk.frozens (h : Blk w b T cs) : ∀ o, w.frozen? ⟨b, o, none⟩ = false := fun o => frozen_of_row w b o cs T h
theorem Blk.new (w : World) (T : TypeId) (cs : Array Value) : Blk (w.alloc (.cells cs T)) w.heap.size T cs := heap_alloc_new w _
theorem Blk.newAt (w : World) (T : TypeId) (cs : Array Value) (hb : b = w.heap.size) : Blk (w.alloc (.cells cs T)) b T cs := by subst hb; exact heap_alloc_new w _
theorem Blk.ext (h : Blk w b T cs) (hx : Ext w w') : Blk w' b T cs := (hx.block b h.lt).trans h
theorem Blk.rext {B : Nat} (h : Blk w b T cs) (hx : RExt B w w') (hne : b ≠ B) : Blk w' b T cs := (hx.block b h.lt hne).trans h
theorem Blk.alloc (h : Blk w b T cs) (o : Obj) : Blk (w.alloc o) b T cs := h.ext ((Ext.refl w).alloc o)
theorem Blk.drewN (h : Blk w b T cs) (n : Nat) : Blk (w.drewN n) b T cs := h
theorem Blk.drew (h : Blk w b T cs) : Blk w.drew b T cs := h
theorem Blk.far (h : Blk w b T cs) {p : Addr} (hp : b ≠ p.block) (u : Value) : Blk (w.setCell p u) b T cs := (Below.heap_setCell w p u b hp).trans h
theorem Blk.set (h : Blk w b T cs) (i : Nat) (u : Value) : Blk (w.setCell ⟨b, i, none⟩ u) b T (cs.setIfInBounds i u) := heap_setCell_same w b i cs T u h
theorem Blk.grown {row : Option Nat} (h : Blk w b T cs) (hg : w.grownBy w' row) (hne : some b ≠ row) : Blk w' b T cs := (hg.block b h.lt hne).trans h
end

/-- A slice value that reads as a list: element i lies in the k cells from i * k on. -/
structure Sl {α : Type} (enc : α → List Value) (k : Nat) (w : World) (a : Option Addr) (n c : Nat) (L : List α) : Prop where
  len : L.length = n
  le : n ≤ c
  max : c ≤ 9223372036854775807
  nil : a = none → c = 0
  at_ : 0 < n → ∃ b off, a = some ⟨b, off, none⟩ ∧ b < w.heap.size ∧
    ∀ i x, L[i]? = some x → ∀ j u, (enc x)[j]? = some u → w.cell? ⟨b, off + (i * k + j), none⟩ = some u

section
variable {α : Type} {enc : α → List Value} {k : Nat} {w w' : World} {a : Option Addr} {n c : Nat} {L : List α}
theorem Sl.keep (h : Sl enc k w a n c L) (hs : w.heap.size ≤ w'.heap.size)
    (hc : ∀ b off, 0 < n → a = some ⟨b, off, none⟩ → b < w.heap.size → w'.heap[b]? = w.heap[b]?) : Sl enc k w' a n c L :=
  ⟨h.len, h.le, h.max, h.nil, fun hn => by
    obtain ⟨b, off, e, hb, hh⟩ := h.at_ hn
    exact ⟨b, off, e, by omega, fun i x hx j u hu => (World.cell?_of_block (hc b off hn e hb)).trans (hh i x hx j u hu)⟩⟩
theorem Sl.ext (h : Sl enc k w a n c L) (hx : Ext w w') : Sl enc k w' a n c L := h.keep hx.size fun b _ _ _ hb => hx.block b hb
theorem Sl.rext {B : Nat} (h : Sl enc k w a n c L) (hx : RExt B w w') (hne : ∀ x, a = some x → x.block ≠ B) : Sl enc k w' a n c L :=
  h.keep hx.size fun b _ _ e hb => hx.block b hb (hne _ e)
theorem Sl.setCell (h : Sl enc k w a n c L) {p : Addr} (hne : ∀ x, a = some x → x.block ≠ p.block) (u : Value) : Sl enc k (w.setCell p u) a n c L :=
  h.keep (by simp [World.setCell]) fun b _ _ e _ => Below.heap_setCell w p u b (hne _ e)
theorem Sl.setFar (h : Sl enc k w a n c L) {p : Addr} (hne : 0 < n → ∀ x, a = some x → x.block ≠ p.block) (u : Value) : Sl enc k (w.setCell p u) a n c L :=
  h.keep (by simp [World.setCell]) fun b _ hn e _ => Below.heap_setCell w p u b (hne hn _ e)
theorem Sl.rextFar {B : Nat} (h : Sl enc k w a n c L) (hx : RExt B w w') (hne : 0 < n → ∀ x, a = some x → x.block ≠ B) : Sl enc k w' a n c L :=
  h.keep hx.size fun b _ hn e hb => hx.block b hb (hne hn _ e)
theorem Sl.lt (h : Sl enc k w a n c L) (hn : 0 < n) : ∀ x, a = some x → x.block < w.heap.size := by
  intro x hx
  obtain ⟨b, off, e, hb, _⟩ := h.at_ hn
  rw [hx] at e; injection e with e; subst e; exact hb
theorem Sl.alloc (h : Sl enc k w a n c L) (o : Obj) : Sl enc k (w.alloc o) a n c L := h.ext ((Ext.refl w).alloc o)
theorem Sl.drewN (h : Sl enc k w a n c L) (m : Nat) : Sl enc k (w.drewN m) a n c L := h.ext ((Ext.refl w).drewN m)
theorem Sl.drew (h : Sl enc k w a n c L) : Sl enc k w.drew a n c L := h.drewN 1
theorem Sl.nils (w : World) : Sl enc k w none 0 0 [] := ⟨rfl, Nat.le_refl _, by omega, fun _ => rfl, fun h => absurd h (by omega)⟩
theorem Sl.zero (h : Sl enc k w a 0 c L) : L = [] := List.eq_nil_of_length_eq_zero h.len
/-- The empty one, or one with an address. -/
theorem Sl.form (h : Sl enc k w a n c L) : (n = 0 ∧ L = []) ∨ (0 < n ∧ ∃ b off, a = some ⟨b, off, none⟩ ∧ b < w.heap.size ∧
    ∀ i x, L[i]? = some x → ∀ j u, (enc x)[j]? = some u → w.cell? ⟨b, off + (i * k + j), none⟩ = some u) := by
  rcases Nat.eq_zero_or_pos n with h0 | h0
  · subst h0; exact .inl ⟨rfl, h.zero⟩
  · exact .inr ⟨h0, h.at_ h0⟩
/-- The first m of its elements. -/
theorem Sl.take (h : Sl enc k w a n c L) {m c' : Nat} (hm : m ≤ n) (hc : m ≤ c') (hc' : c' ≤ c) : Sl enc k w a m c' (L.take m) :=
  ⟨by rw [List.length_take, h.len]; omega, hc, by have := h.max; omega, fun e => by have := h.nil e; omega, fun hn => by
    obtain ⟨b, off, e, hb, hh⟩ := h.at_ (by omega)
    refine ⟨b, off, e, hb, fun i x hx j u hu => hh i x ?_ j u hu⟩
    rw [List.getElem?_take] at hx
    split at hx
    · exact hx
    · cases hx⟩
end

/-- A slice of the call's own: it lies at the head of an unfrozen row from block base on, or is nil. -/
def Ow {α : Type} (E : TypeId) (enc : α → List Value) (k : Nat) (base : Nat) (w : World) (a : Option Addr) (n c : Nat) (L : List α) : Prop :=
  L.length = n ∧ ((a = none ∧ n = 0 ∧ c = 0) ∨
    ∃ g cur, a = some ⟨g, 0, none⟩ ∧ base ≤ g ∧ w.heap[g]? = some (.cells cur E (0, 0)) ∧ n ≤ c ∧ c ≤ 9223372036854775807 ∧ c * k ≤ cur.size ∧ cur.toList.take (n * k) = L.flatMap enc)

theorem flat_len {α : Type} {enc : α → List Value} {k : Nat} (hk : ∀ x, (enc x).length = k) : ∀ L : List α, (L.flatMap enc).length = L.length * k
  | [] => by simp
  | x :: L => by rw [List.flatMap_cons, List.length_append, hk, flat_len hk L, List.length_cons, Nat.add_mul]; omega
theorem flat_at {α : Type} {enc : α → List Value} {k : Nat} (hk : ∀ x, (enc x).length = k) : ∀ (L : List α) (i : Nat) (x : α), L[i]? = some x → ∀ (j : Nat) (u : Value), (enc x)[j]? = some u → (L.flatMap enc)[i * k + j]? = some u
  | [], i, x, hx, _, _, _ => by simp at hx
  | y :: L, 0, x, hx, j, u, hu => by
    simp only [List.getElem?_cons_zero, Option.some.injEq] at hx
    subst hx
    rw [List.flatMap_cons, Nat.zero_mul, Nat.zero_add, List.getElem?_append_left (List.getElem?_eq_some_iff.1 hu).1]
    exact hu
  | y :: L, i + 1, x, hx, j, u, hu => by
    rw [List.flatMap_cons, List.getElem?_append_right (by rw [hk, Nat.add_mul]; omega), hk]
    have := flat_at hk L i x (by simpa using hx) j u hu
    rw [← this]
    congr 1
    rw [Nat.add_mul]; omega

section
variable {α : Type} {E : TypeId} {enc : α → List Value} {k base : Nat} {w w' : World} {a : Option Addr} {n c : Nat} {L : List α}
theorem Ow.sl (h : Ow E enc k base w a n c L) (hk : ∀ x, (enc x).length = k) : Sl enc k w a n c L := by
  obtain ⟨hl, ⟨rfl, hn, rfl⟩ | ⟨g, cur, rfl, hb, hg, hnc, hcm, hcs, ht⟩⟩ := h
  · exact ⟨hl, by omega, by omega, fun _ => rfl, fun h => by omega⟩
  · refine ⟨hl, hnc, hcm, (fun e => by cases e), fun _ => ⟨g, 0, rfl, (Array.getElem?_eq_some_iff.1 hg).1, fun i x hx j u hu => ?_⟩⟩
    have hf := flat_at hk L i x hx j u hu
    rw [← ht, List.getElem?_take] at hf
    rw [cell_of_row w g _ cur E (0, 0) hg]
    split at hf
    · simpa using hf
    · cases hf
theorem Ow.of_row (h : w.ownsRow base E k (.slice a n c) n (L.flatMap enc)) (hk : ∀ x, (enc x).length = k) (h0 : 0 < k) : Ow E enc k base w a n c L := by
  have hl : L.length = n := by
    have := h.1
    rw [flat_len hk] at this
    exact Nat.eq_of_mul_eq_mul_right h0 this
  refine ⟨hl, ?_⟩
  rcases h.2 with ⟨e, hn⟩ | ⟨g, cap, cur, e, hb, hg, hnc, hcm, hcs, ht⟩
  · injection e with e1 e2 e3
    exact .inl ⟨e1, hn, e3⟩
  · injection e with e1 e2 e3
    subst e3
    exact .inr ⟨g, cur, e1, hb, hg, hnc, hcm, by omega, ht⟩
theorem Ow.keep (h : Ow E enc k base w a n c L) (hx : ∀ x, a = some x → x.block < w.heap.size → w'.heap[x.block]? = w.heap[x.block]?) : Ow E enc k base w' a n c L := by
  obtain ⟨hl, ⟨rfl, hn, rfl⟩ | ⟨g, cur, rfl, hb, hg, r⟩⟩ := h
  · exact ⟨hl, .inl ⟨rfl, hn, rfl⟩⟩
  · exact ⟨hl, .inr ⟨g, cur, rfl, hb, (hx _ rfl (Array.getElem?_eq_some_iff.1 hg).1).trans hg, r⟩⟩
theorem Ow.ext (h : Ow E enc k base w a n c L) (hx : Ext w w') : Ow E enc k base w' a n c L := h.keep fun x _ hb => hx.block x.block hb
theorem Ow.rext {B : Nat} (h : Ow E enc k base w a n c L) (hx : RExt B w w') (hne : ∀ x, a = some x → x.block ≠ B) : Ow E enc k base w' a n c L :=
  h.keep fun x e hb => hx.block x.block hb (hne x e)
theorem Ow.nils (w : World) : Ow E enc k base w none 0 0 [] := ⟨rfl, .inl ⟨rfl, rfl, rfl⟩⟩
theorem Ow.rebase (h : Ow E enc k base w a n c L) {b' : Nat} (hb : b' ≤ base) : Ow E enc k b' w a n c L := by
  obtain ⟨hl, h0 | ⟨g, cur, rfl, hg, r⟩⟩ := h
  · exact ⟨hl, .inl h0⟩
  · exact ⟨hl, .inr ⟨g, cur, rfl, Nat.le_trans hb hg, r⟩⟩
theorem Ow.lt (h : Ow E enc k base w a n c L) : ∀ x, a = some x → base ≤ x.block ∧ x.block < w.heap.size ∧ x = ⟨x.block, 0, none⟩ := by
  intro x hx
  obtain ⟨hl, ⟨rfl, _⟩ | ⟨g, cur, rfl, hb, hg, r⟩⟩ := h
  · cases hx
  · injection hx with hx
    subst hx
    exact ⟨hb, (Array.getElem?_eq_some_iff.1 hg).1, rfl⟩
/-- The slice cut to its length. -/
theorem Ow.clip (h : Ow E enc k base w a n c L) : Ow E enc k base w a n n L := by
  obtain ⟨hl, ⟨rfl, hn, rfl⟩ | ⟨g, cur, rfl, hb, hg, hnc, hcm, hcs, ht⟩⟩ := h
  · exact ⟨hl, .inl ⟨rfl, hn, hn⟩⟩
  · exact ⟨hl, .inr ⟨g, cur, rfl, hb, hg, Nat.le_refl _, by omega, Nat.le_trans (Nat.mul_le_mul_right k hnc) hcs, ht⟩⟩
end
/-- Two rows of different element types lie in different blocks. -/
theorem Ow.apart {α β : Type} {E E' : TypeId} {enc : α → List Value} {enc' : β → List Value} {k k' base base' : Nat} {w : World} {a a' : Option Addr} {n c n' c' : Nat} {L : List α} {L' : List β}
    (h : Ow E enc k base w a n c L) (h' : Ow E' enc' k' base' w a' n' c' L') (hne : E ≠ E') : ∀ x y, a = some x → a' = some y → x.block ≠ y.block := by
  intro x y hx hy he
  obtain ⟨_, ⟨rfl, _⟩ | ⟨g, cur, rfl, _, hg, _⟩⟩ := h
  · cases hx
  obtain ⟨_, ⟨rfl, _⟩ | ⟨g', cur', rfl, _, hg', _⟩⟩ := h'
  · cases hy
  injection hx with hx
  injection hy with hy
  subst hx; subst hy
  simp only at he
  subst he
  rw [hg] at hg'
  injection hg' with hg'
  injection hg' with _ ht
  exact hne ht
theorem Ext.own {a b c : World} (h : Ext a b) {g n cp : Nat} (k : b.grownBy c (Value.slice (some ⟨g, 0, none⟩) n cp).ownBlock) (hg : a.heap.size ≤ g) : Ext a c :=
  h.grown k (fun g' e => by
    have : g = g' := by simpa [Value.ownBlock] using e
    omega)
end Go.Proofs.Ytafmomocmodbhaa
/- The plain functions of the gate, on lists and integers: what the program's functions compute. No program in sight. No condition. -/
namespace Go.Proofs.Ytafmomocmodbhaa
set_option linter.unusedVariables false
set_option linter.unusedSimpArgs false

structure EndD where
  addr : Int
  port : Int
  deriving DecidableEq, Inhabited
structure NetD where
  base : Int
  bits : Int
  deriving DecidableEq, Inhabited
structure MapD where
  ins : EndD
  port : Int
  last : Int
  deriving DecidableEq, Inhabited
structure ConD where
  port : Int
  to_ : EndD
  deriving DecidableEq, Inhabited
structure PktD where
  kind : Int
  fr : EndD
  to_ : EndD
  data : List Int
  deriving DecidableEq, Inhabited
structure GateD where
  net : NetD
  out : Int
  table : List MapD
  cons : List ConD
  filter : Int
  hold : Int
  now : Int
  deriving DecidableEq, Inhabited
structure RepD where
  code : Int
  sender : Int
  to_ : Int
  about : PktD
  deriving DecidableEq, Inhabited
structure PlanD where
  net : NetD
  first : Int
  size : Int
  deriving DecidableEq, Inhabited

def inR (n lo hi : Int) : Bool := decide (lo ≤ n) && decide (n ≤ hi)
theorem inR_iff {n lo hi : Int} : inR n lo hi = true ↔ lo ≤ n ∧ n ≤ hi := by simp [inR]
theorem inR_t {n lo hi : Int} (h1 : lo ≤ n) (h2 : n ≤ hi) : inR n lo hi = true := inR_iff.2 ⟨h1, h2⟩
theorem inR_f {n lo hi : Int} (h : n < lo ∨ hi < n) : inR n lo hi = false := by
  rw [Bool.eq_false_iff]; intro h'; rw [inR_iff] at h'; omega
def word (n : Int) : Bool := inR n 0 65535
theorem word_iff {n : Int} : word n = true ↔ 0 ≤ n ∧ n ≤ 65535 := inR_iff
def netSize (bits : Int) : Int := ((2 ^ (16 - bits).toNat : Nat) : Int)
theorem netSize_pos (bits : Int) : 1 ≤ netSize bits := by
  unfold netSize
  have : 0 < 2 ^ (16 - bits).toNat := Nat.pow_pos (by omega)
  omega
theorem netSize_le {bits : Int} (h : 0 ≤ bits) : netSize bits ≤ 65536 := by
  unfold netSize
  have : 2 ^ (16 - bits).toNat ≤ 2 ^ 16 := Nat.pow_le_pow_right (by omega) (by omega)
  omega
def validNet (n : NetD) : Bool := inR n.bits 0 16 && word n.base && decide (n.base % netSize n.bits = 0)
theorem validNet_bd {n : NetD} (h : validNet n = true) : 0 ≤ n.bits ∧ n.bits ≤ 16 ∧ 0 ≤ n.base ∧ n.base ≤ 65535 := by
  simp only [validNet, Bool.and_eq_true, inR_iff, word_iff] at h
  omega
def has (n : NetD) (a : Int) : Bool := inR a n.base (n.base + netSize n.bits - 1)
def validEnd (e : EndD) : Bool := word e.addr && word e.port
def validPkt (p : PktD) : Bool := inR p.kind 0 2 && validEnd p.fr && validEnd p.to_ && decide (p.data.length ≤ 12) && p.data.all word

/-- The place of the first element with p, or -1. -/
def ixFrom {α : Type} (p : α → Bool) : Nat → List α → Int
  | _, [] => -1
  | i, x :: l => if p x then (i : Int) else ixFrom p (i + 1) l
def ix {α : Type} (p : α → Bool) (l : List α) : Int := ixFrom p 0 l
theorem ixFrom_none {α : Type} {p : α → Bool} : ∀ (l : List α) (i : Nat), (∀ x ∈ l, p x = false) → ixFrom p i l = -1
  | [], _, _ => rfl
  | x :: l, i, h => by rw [ixFrom, h x (by simp), if_neg (by simp)]; exact ixFrom_none l _ fun y hy => h y (by simp [hy])
theorem ix_none {α : Type} {p : α → Bool} {l : List α} (h : ∀ x ∈ l, p x = false) : ix p l = -1 := ixFrom_none l 0 h
theorem ixFrom_some {α : Type} {p : α → Bool} : ∀ (l : List α) (i k : Nat) (x : α), (∀ y ∈ l.take k, p y = false) → l[k]? = some x → p x = true → ixFrom p i l = ((i + k : Nat) : Int)
  | [], _, _, _, _, h, _ => by simp at h
  | y :: l, i, 0, x, _, h, hp => by
    simp only [List.getElem?_cons_zero, Option.some.injEq] at h
    subst h
    rw [ixFrom, if_pos hp]; rfl
  | y :: l, i, k + 1, x, h0, h, hp => by
    rw [ixFrom, h0 y (by simp), if_neg (by simp), ixFrom_some l (i + 1) k x (fun z hz => h0 z (by simp [hz])) (by simpa using h) hp]
    congr 1; omega
theorem ix_some {α : Type} {p : α → Bool} {l : List α} {k : Nat} {x : α} (h0 : ∀ y ∈ l.take k, p y = false) (h : l[k]? = some x) (hp : p x = true) : ix p l = (k : Int) := by
  have := ixFrom_some l 0 k x h0 h hp
  simpa [ix] using this
/-- What ix says: -1 and none has p, or a place whose element has p, and none before it has. -/
theorem ix_cases {α : Type} (p : α → Bool) (l : List α) : (ix p l = -1 ∧ ∀ x ∈ l, p x = false) ∨
    ∃ k x, ix p l = ((k : Nat) : Int) ∧ l[k]? = some x ∧ p x = true ∧ ∀ y ∈ l.take k, p y = false := by
  induction l with
  | nil => exact .inl ⟨rfl, by simp⟩
  | cons y l ih =>
    cases hy : p y with
    | true => exact .inr ⟨0, y, ix_some (k := 0) (by simp) (by simp) hy, by simp, hy, by simp⟩
    | false =>
      rcases ih with ⟨_, h2⟩ | ⟨k, x, _, h2, h3, h4⟩
      · have h : ∀ x ∈ y :: l, p x = false := by
          intro x hx
          rcases List.mem_cons.1 hx with rfl | hx
          · exact hy
          · exact h2 x hx
        exact .inl ⟨ix_none h, h⟩
      · have h : ∀ z ∈ (y :: l).take (k + 1), p z = false := by
          intro z hz
          rw [List.take_succ_cons] at hz
          rcases List.mem_cons.1 hz with rfl | hz
          · exact hy
          · exact h4 z hz
        exact .inr ⟨k + 1, x, ix_some (k := k + 1) h (by simpa using h2) h3, by simpa using h2, h3, h⟩
theorem ix_ge {α : Type} (p : α → Bool) (l : List α) : -1 ≤ ix p l := by
  rcases ix_cases p l with ⟨h, _⟩ | ⟨k, x, h, _⟩ <;> omega
theorem ix_lt {α : Type} (p : α → Bool) (l : List α) : ix p l < l.length := by
  rcases ix_cases p l with ⟨h, _⟩ | ⟨k, x, h, h2, _⟩
  · omega
  · have := (List.getElem?_eq_some_iff.1 h2).1
    omega

/-- All of 0 .. n-1. -/
def upTo (f : Nat → Bool) : Nat → Bool
  | 0 => true
  | n + 1 => upTo f n && f n
theorem upTo_iff {f : Nat → Bool} : ∀ {n : Nat}, upTo f n = true ↔ ∀ i, i < n → f i = true
  | 0 => by simp [upTo]
  | n + 1 => by
    rw [upTo, Bool.and_eq_true, upTo_iff]
    constructor
    · rintro ⟨h1, h2⟩ i hi
      rcases Nat.lt_or_ge i n with h | h
      · exact h1 i h
      · have : i = n := by omega
        rw [this]; exact h2
    · intro h
      exact ⟨fun i hi => h i (by omega), h n (by omega)⟩
theorem upTo_f {f : Nat → Bool} {n k : Nat} (hk : k < n) (h : f k = false) : upTo f n = false := by
  rw [Bool.eq_false_iff]; intro h'; rw [upTo_iff.1 h' k hk] at h; cases h
/-- Element i. -/
def nth {α : Type} [Inhabited α] (l : List α) (i : Nat) : α := l.getD i default
theorem nth_some {α : Type} [Inhabited α] {l : List α} {i : Nat} (h : i < l.length) : l[i]? = some (nth l i) := by
  rw [nth, List.getD_eq_getElem?_getD, List.getElem?_eq_getElem h]; rfl
theorem nth_mem {α : Type} [Inhabited α] {l : List α} {i : Nat} (h : i < l.length) : nth l i ∈ l := List.mem_of_getElem? (nth_some h)
theorem nth_of {α : Type} [Inhabited α] {l : List α} {i : Nat} {x : α} (h : l[i]? = some x) : nth l i = x := by
  rw [nth, List.getD_eq_getElem?_getD, h]; rfl
theorem take_succ {α : Type} [Inhabited α] {l : List α} {i : Nat} (h : i < l.length) : l.take (i + 1) = l.take i ++ [nth l i] := by
  rw [List.take_add_one, nth_some h]; rfl
theorem nth_take {α : Type} [Inhabited α] {l : List α} {i k : Nat} (h : i < k) : nth (l.take k) i = nth l i := by
  simp [nth, List.getD_eq_getElem?_getD, h]
/-- All of a list, by places. -/
theorem all_upTo {α : Type} [Inhabited α] (p : α → Bool) (l : List α) : l.all p = upTo (fun i => p (nth l i)) l.length := by
  rw [Bool.eq_iff_iff, upTo_iff, List.all_eq_true]
  constructor
  · intro h i hi
    exact h _ (nth_mem hi)
  · intro h x hx
    obtain ⟨i, hi, rfl⟩ := List.mem_iff_getElem.1 hx
    have := h i hi
    rwa [nth_of (List.getElem?_eq_getElem hi)] at this

def byEnd (l : List MapD) (e : EndD) : Int := ix (fun m => decide (m.ins = e)) l
def byPort (l : List MapD) (port : Int) : Int := ix (fun m => decide (m.port = port)) l
def okMap (m : MapD) : Bool := validEnd m.ins && inR m.port 1000 1007 && inR m.last 0 10000
def okMapAt (l : List MapD) (i : Nat) : Bool :=
  okMap (nth l i) && (l.take i).all fun q => !decide (q.ins = (nth l i).ins) && !decide (q.port = (nth l i).port)
def validTable (l : List MapD) : Bool := upTo (okMapAt l) l.length && decide (l.length ≤ 8)
def okCon (c : ConD) : Bool := inR c.port 1000 1007 && validEnd c.to_
def okConAt (l : List ConD) (i : Nat) : Bool := okCon (nth l i) && (l.take i).all fun q => !decide (q = nth l i)
def validContacts (l : List ConD) : Bool := upTo (okConAt l) l.length && decide (l.length ≤ 10)
def lets (kind : Int) (l : List ConD) (port : Int) (fr : EndD) : Bool :=
  decide (kind = 0) || l.any fun c => decide (c.port = port) && decide (c.to_.addr = fr.addr) && (decide (kind = 1) || decide (c.to_.port = fr.port))
def letsIn (kind : Int) (l : List ConD) (port : Int) (fr : EndD) : Bool := inR kind 0 2 && validContacts l && lets kind l port fr
def noteAll (l : List ConD) (c : ConD) : List ConD := (l.filter fun d => !decide (d = c)) ++ [c]
def note (l : List ConD) (c : ConD) : List ConD := (noteAll l c).drop ((noteAll l c).length - 10)
def without (l : List ConD) (port : Int) : List ConD := l.filter fun c => !decide (c.port = port)
def freeAt (l : List MapD) (port : Int) : Bool := decide (byPort l port < 0)
/-- The first of lo .. lo + n - 1 with f, or -1. -/
def firstOf (f : Int → Bool) (lo : Int) : Nat → Int
  | 0 => -1
  | n + 1 => if f lo then lo else firstOf f (lo + 1) n
theorem firstOf_none {f : Int → Bool} : ∀ (n : Nat) (lo : Int), (∀ j, lo ≤ j → j < lo + n → f j = false) → firstOf f lo n = -1
  | 0, _, _ => rfl
  | n + 1, lo, h => by
    rw [firstOf, h lo (by omega) (by omega), if_neg (by simp)]
    exact firstOf_none n _ fun j h1 h2 => h j (by omega) (by omega)
theorem firstOf_some {f : Int → Bool} : ∀ (n : Nat) (lo k : Int), lo ≤ k → k < lo + n → (∀ j, lo ≤ j → j < k → f j = false) → f k = true → firstOf f lo n = k
  | 0, lo, k, h1, h2, _, _ => by omega
  | n + 1, lo, k, h1, h2, h3, h4 => by
    rw [firstOf]
    by_cases e : k = lo
    · subst e; rw [if_pos h4]
    · rw [h3 lo (by omega) (by omega), if_neg (by simp)]
      exact firstOf_some n (lo + 1) k (by omega) (by omega) (fun j a b => h3 j (by omega) b) h4
theorem firstOf_cases (f : Int → Bool) : ∀ (n : Nat) (lo : Int), (firstOf f lo n = -1 ∧ ∀ j, lo ≤ j → j < lo + n → f j = false) ∨
    (lo ≤ firstOf f lo n ∧ firstOf f lo n < lo + n ∧ f (firstOf f lo n) = true)
  | 0, lo => .inl ⟨rfl, fun j h1 h2 => by omega⟩
  | n + 1, lo => by
    rw [firstOf]
    cases h : f lo with
    | true => rw [if_pos rfl]; exact .inr ⟨by omega, by omega, h⟩
    | false =>
      rw [if_neg (by simp)]
      rcases firstOf_cases f n (lo + 1) with ⟨h1, h2⟩ | ⟨h1, h2, h3⟩
      · refine .inl ⟨h1, fun j a b => ?_⟩
        by_cases e : j = lo
        · rw [e]; exact h
        · exact h2 j (by omega) (by omega)
      · exact .inr ⟨by omega, by omega, h3⟩
def freePort (l : List MapD) (want : Int) : Int :=
  if inR want 1000 1007 && freeAt l want then want
  else if firstOf (fun n => decide (n % 2 = want % 2) && freeAt l n) 1000 8 < 0 then firstOf (freeAt l) 1000 8
  else firstOf (fun n => decide (n % 2 = want % 2) && freeAt l n) 1000 8
def mapEnd (l : List MapD) (e : EndD) (now : Int) : Option (List MapD × Int) :=
  if 0 ≤ byEnd l e then
    some (l.set (byEnd l e).toNat { nth l (byEnd l e).toNat with last := max (nth l (byEnd l e).toNat).last now }, (nth l (byEnd l e).toNat).port)
  else if freePort l e.port < 0 then none else some (l ++ [⟨e, freePort l e.port, now⟩], freePort l e.port)
def expired (m : MapD) (now hold : Int) : Bool := decide (hold ≤ now - m.last)
def expire (l : List MapD) (now hold : Int) : List MapD := l.filter fun m => !expired m now hold
def expPorts (l : List MapD) (now hold : Int) : List Int := (l.filter fun m => expired m now hold).map (·.port)
def timer (now hold : Int) : Bool := inR now 0 10000 && inR hold 1 500
def okGateMap (g : GateD) (m : MapD) : Bool := has g.net m.ins.addr && decide (m.last ≤ g.now) && !expired m g.now g.hold
def okGateCon (g : GateD) (c : ConD) : Bool := decide (0 ≤ byPort g.table c.port)
def validGate (g : GateD) : Bool :=
  validNet g.net && word g.out && !has g.net g.out && validTable g.table && validContacts g.cons && inR g.filter 0 2 && timer g.now g.hold &&
    g.table.all (okGateMap g) && g.cons.all (okGateCon g)
def tick (g : GateD) (now : Int) : GateD :=
  { g with table := expire g.table now g.hold, cons := (expPorts g.table now g.hold).foldl without g.cons, now := now }
def tickGate (g : GateD) (now : Int) : Option GateD := if validGate g && inR now g.now 10000 then some (tick g now) else none
def send (g : GateD) (p : PktD) : Option (PktD × GateD) :=
  match mapEnd g.table p.fr g.now with
  | none => none
  | some (t, port) => some ({ p with fr := ⟨g.out, port⟩ }, { g with table := t, cons := note g.cons ⟨port, p.to_⟩ })
def fromIn (g : GateD) (p : PktD) : Bool := validGate g && validPkt p && has g.net p.fr.addr
def goesOut (g : GateD) (p : PktD) : Bool := fromIn g p && !has g.net p.to_.addr && !decide (p.to_.addr = g.out)
def sendOut (g : GateD) (p : PktD) : Option (PktD × GateD) := if goesOut g p then send g p else none
def receive (g : GateD) (p : PktD) : Option (PktD × GateD) :=
  if decide (0 ≤ byPort g.table p.to_.port) && lets g.filter g.cons p.to_.port p.fr then
    some ({ p with to_ := (nth g.table (byPort g.table p.to_.port).toNat).ins }, g) else none
def comesIn (g : GateD) (p : PktD) : Bool := validGate g && validPkt p && decide (p.to_.addr = g.out) && !has g.net p.fr.addr
def receiveIn (g : GateD) (p : PktD) : Option (PktD × GateD) := if comesIn g p then receive g p else none
def between (g : GateD) (p : PktD) : Bool := fromIn g p && decide (p.to_.addr = g.out)
def passBetween (g : GateD) (p : PktD) : Option (PktD × GateD) :=
  if between g p then match send g p with
    | none => none
    | some (q, h) => receive h q
  else none
def way (g : GateD) (p : PktD) : Int :=
  if has g.net p.fr.addr && decide (p.to_.addr = g.out) then 3
  else if has g.net p.fr.addr && !has g.net p.to_.addr then 1
  else if !has g.net p.fr.addr && decide (p.to_.addr = g.out) then 2
  else 0
def wayOf (g : GateD) (p : PktD) : Int := if validGate g && validPkt p then way g p else -1
def forward (g : GateD) (p : PktD) : Option (PktD × GateD) :=
  if wayOf g p = 1 then send g p else if wayOf g p = 2 then receive g p else if wayOf g p = 3 then passBetween g p else none
def validRep (e : RepD) : Bool := inR e.code 0 15 && word e.sender && word e.to_ && validPkt e.about
def reportOf (code sender : Int) (p : PktD) : Option RepD :=
  if inR code 0 15 && word sender && validPkt p then some ⟨code, sender, p.fr.addr, { p with data := p.data.take 4 }⟩ else none
def reportIn (g : GateD) (e : RepD) : Option RepD :=
  if validGate g && validRep e && decide (e.to_ = g.out) && decide (e.about.fr.addr = g.out) && !has g.net e.sender && decide (0 ≤ byPort g.table e.about.fr.port) then
    some { e with to_ := (nth g.table (byPort g.table e.about.fr.port).toNat).ins.addr, about := { e.about with fr := (nth g.table (byPort g.table e.about.fr.port).toNat).ins } }
  else none
def reportOut (g : GateD) (e : RepD) : Option RepD :=
  if validGate g && validRep e && has g.net e.sender && !has g.net e.to_ && !decide (e.to_ = g.out) && decide (0 ≤ byEnd g.table e.about.to_) then
    some { e with sender := g.out, about := { e.about with to_ := ⟨g.out, (nth g.table (byEnd g.table e.about.to_).toNat).port⟩ } }
  else none
def outsidePort (l : List MapD) (e : EndD) : Int := if validTable l && decide (0 ≤ byEnd l e) then (nth l (byEnd l e).toNat).port else -1
def insideEnd (l : List MapD) (port : Int) : Option EndD := if validTable l && decide (0 ≤ byPort l port) then some (nth l (byPort l port).toNat).ins else none
def reverse (p : PktD) : Option PktD := if validPkt p then some { p with fr := p.to_, to_ := p.fr } else none
def validPlan (b : PlanD) : Bool :=
  validNet b.net && decide (8 ≤ b.net.bits) && inR b.first 1 65535 && inR b.size 1 16 && decide (b.first + b.size * netSize b.net.bits - 1 ≤ 65535)

def encI (x : Int) : List Value := [.int .i64 x]
def encM (m : MapD) : List Value := [.int .i64 m.ins.addr, .int .i64 m.ins.port, .int .i64 m.port, .int .i64 m.last]
def encC (c : ConD) : List Value := [.int .i64 c.port, .int .i64 c.to_.addr, .int .i64 c.to_.port]
def encU (x : Int) : List Value := [.int .u8 x]
theorem encI_len (x : Int) : (encI x).length = 1 := rfl
theorem encM_len (x : MapD) : (encM x).length = 4 := rfl
theorem encC_len (x : ConD) : (encC x).length = 3 := rfl
theorem encU_len (x : Int) : (encU x).length = 1 := rfl
end Go.Proofs.Ytafmomocmodbhaa
/- A region that draws its order, walked once in the text's order: if every operation gives one fixed value in every world that meets a condition S, and keeps S, then every order gives the same frame and a world that meets S. No condition. -/
namespace Go.Proofs.Ytafmomocmodbhaa
set_option linter.unusedVariables false
set_option linter.unusedSimpArgs false

/-- In every world that meets S the operation, if it is wanted, yields v and leaves a world that meets S. -/
def OpGives (P : Program) (S : World → Prop) (o : Oper) (v : Value) (ρ : Operand → Value) (w : World) : Prop :=
  match (execOp ρ o).run P w with
  | .ok (.value u) w' => u = v ∧ S w'
  | .ok .skip w' => v = undef ∧ S w'
  | .ok (.enter f args) w' => Calls P f args w' fun e w'' => e = .returned v ∧ S w''
  | _ => False
def Stab (P : Program) (ops : Array Oper) (S : World → Prop) (o : Oper) (v : Value) (a : Act) : Prop :=
  (Region.wanted o (yielded ops a.tmps) = true ∧ ∀ w, S w → OpGives P S o v a.eval w) ∨ (Region.wanted o (yielded ops a.tmps) = false ∧ v = undef)

theorem OpGives.val {P : Program} {S : World → Prop} {o : Oper} {v : Value} {ρ : Operand → Value} {w : World} (hS : S w) (h : (execOp ρ o).run P w = .ok (.value v) w) : OpGives P S o v ρ w := by
  unfold OpGives; rw [h]; exact ⟨rfl, hS⟩
theorem OpGives.enter {P : Program} {S : World → Prop} {o : Oper} {v : Value} {ρ : Operand → Value} {w : World} {f : FuncId} {args : Array Value} (h : (execOp ρ o).run P w = .ok (.enter f args) w)
    (hc : Calls P f args w fun e w'' => e = .returned v ∧ S w'') : OpGives P S o v ρ w := by
  unfold OpGives; rw [h]; exact hc

section
variable {P : Program} {ops : Array Oper} {Q : Exit → Act → World → Prop} {S : World → Prop}
theorem Stab.of_same {o : Oper} {v : Value} {a a' : Act} (h : Stab P ops S o v a) (he : execOp a'.eval o = execOp a.eval o)
    (hw : Region.wanted o (yielded ops a'.tmps) = Region.wanted o (yielded ops a.tmps)) : Stab P ops S o v a' := by
  unfold Stab OpGives at *
  rw [he, hw]
  exact h
theorem Stab.wpOp {i : Nat} {o : Oper} {v : Value} {a : Act} (hi : ops[i]? = some o) (h : Stab P ops S o v a) {K : Act → World → Prop} {w : World} (hS : S w)
    (hK : ∀ w', S w' → K (a.put o.dst v) w') : wpOp P ops Q i K a w := by
  unfold Go.wpOp
  simp only [hi]
  rcases h with ⟨hw, hg⟩ | ⟨hw, rfl⟩
  · simp only [hw, if_true]
    refine .inl ?_
    have hg := hg w hS
    unfold OpGives at hg
    unfold Oper.wp
    generalize (execOp a.eval o).run P w = r at *
    cases r with
    | ok n w' =>
      cases n <;> simp only at hg <;> simp only [Oper.upon]
      case value u => obtain ⟨rfl, hs⟩ := hg; exact hK w' hs
      case skip => obtain ⟨rfl, hs⟩ := hg; exact hK w' hs
      case enter f args =>
        refine Calls.mono hg fun e w'' he => ?_
        obtain ⟨rfl, hs⟩ := he
        exact hK w'' hs
    | halt x w' => simp only at hg
  · simp only [hw, Bool.false_eq_true, if_false]
    exact hK w hS

/-- Each operation in turn gives a fixed value; behind the last one Q holds in every world that meets S. -/
def ChI (P : Program) (ops : Array Oper) (Q : Exit → Act → World → Prop) (S : World → Prop) : List Nat → Act → Prop
  | [], a => ∀ w, S w → Q .normal a w
  | i :: r, a => ∃ o, ops[i]? = some o ∧ ∃ v, Stab P ops S o v a ∧ ChI P ops Q S r (a.put o.dst v)
def ChL (P : Program) (ops : Array Oper) (Q : Exit → Act → World → Prop) (S : World → Prop) : List Oper → Act → Prop
  | [], a => ∀ w, S w → Q .normal a w
  | o :: r, a => ∃ v, Stab P ops S o v a ∧ ChL P ops Q S r (a.put o.dst v)

def pairOk (ops : Array Oper) (i j : Nat) : Bool :=
  match ops[i]?, ops[j]? with
  | some x, some y => y.after.any (fun e => Region.binds .any e && e.on == i) || x.apart ops y
  | _, _ => true
def chainOk (ops : Array Oper) : Bool :=
  Region.noSelect ops && ((List.range ops.size).all fun j => (List.range j).all fun i => pairOk ops i j) &&
    ((List.range ops.size).all fun j => ((ops[j]?).map fun y => y.after.all fun e => !Region.binds .any e || decide (e.on < j)).getD true)

theorem ChI.take (hsel : ∀ (j : Nat) (o : Oper) cs b, ops[j]? = some o → o.op ≠ .select cs b) {j : Nat} {oj : Oper} (hj : ops[j]? = some oj) {l2 : List Nat} :
    ∀ (l1 : List Nat) (a : Act), (∀ i ∈ l1, ∀ x, ops[i]? = some x → x.apart ops oj = true) → ChI P ops Q S (l1 ++ j :: l2) a →
      ∃ v, Stab P ops S oj v a ∧ ChI P ops Q S (l1 ++ l2) (a.put oj.dst v)
  | [], a, _, h => by
    obtain ⟨o, ho, v, hs, hc⟩ := h
    rw [hj] at ho
    injection ho with ho
    subst ho
    exact ⟨v, hs, hc⟩
  | i :: l1, a, hap, h => by
    obtain ⟨o, ho, v, hs, hc⟩ := h
    obtain ⟨u, hu, hd⟩ := ChI.take hsel hj l1 (a.put o.dst v) (fun x hx => hap x (by simp [hx])) hc
    obtain ⟨h1, h2, h3⟩ := Oper.apart_spec (hap i (by simp) o ho)
    refine ⟨u, hu.of_same (execOp_put oj (fun cs b => hsel j oj cs b hj) a o.dst v h1).symm (wanted_put oj a o.dst v h1).symm, o, ho, v,
      hs.of_same (execOp_put o (fun cs b => hsel i o cs b ho) a oj.dst u h3) (wanted_put o a oj.dst u h3), ?_⟩
    rw [← Act.put_comm a v u h2]
    exact hd

theorem ChI.any (hok : chainOk ops = true) : ∀ (fuel : Nat) (listed : Array Bool) (a : Act) (l : List Nat), l.length ≤ fuel → l.Pairwise (· < ·) →
    (∀ i, i ∈ l ↔ (i < ops.size ∧ listed.getD i true = false)) → (∀ i, i < ops.size → listed.getD i true = listed.getD i false) → ChI P ops Q S l a → ∀ w, S w → wpAny P .any ops Q fuel listed a w := by
  simp only [chainOk, Bool.and_eq_true, List.all_eq_true, List.mem_range] at hok
  obtain ⟨⟨hns, hpair⟩, hback⟩ := hok
  have hmem : ∀ (listed : Array Bool) (l : List Nat), (∀ i, i ∈ l ↔ (i < ops.size ∧ listed.getD i true = false)) → ∀ j, j ∈ Region.ready .any ops listed → j ∈ l := by
    intro listed l hl j hj
    obtain ⟨h0, o, ho, _⟩ := mem_ready.1 hj
    exact (hl j).2 ⟨(Array.getElem?_eq_some_iff.1 ho).1, h0⟩
  intro fuel
  induction fuel with
  | zero =>
    intro listed a l hlen _ hl _ hc w hS
    have hnil : l = [] := List.eq_nil_of_length_eq_zero (by omega)
    subst hnil
    refine ⟨?_, hc w hS⟩
    cases hr : Region.ready .any ops listed with
    | nil => rfl
    | cons x xs => exact absurd (hmem listed [] hl x (by rw [hr]; simp)) (by simp)
  | succ fuel ih =>
    intro listed a l hlen hsort hl hsz hc w hS
    refine ⟨fun hr => ?_, fun j hj => ?_⟩
    · cases l with
      | nil => exact hc w hS
      | cons i r =>
        exfalso
        obtain ⟨hi, hun⟩ := (hl i).1 (by simp)
        have hmin := (List.pairwise_cons.1 hsort).1
        have : i ∈ Region.ready .any ops listed := by
          rw [mem_ready]
          refine ⟨hun, ops[i], Array.getElem?_eq_getElem hi, fun e he hb => ?_⟩
          have hb1 := hback i hi
          rw [Array.getElem?_eq_getElem hi] at hb1
          simp only [Option.map_some, Option.getD_some] at hb1
          have hb2 := Array.all_eq_true_iff_forall_mem.1 hb1 e he
          simp only [hb, Bool.not_true, Bool.false_or, decide_eq_true_eq] at hb2
          have hlt : e.on < ops.size := by omega
          cases hx : listed.getD e.on true with
          | true => rw [← hsz _ hlt]; exact hx
          | false =>
            have h1 : e.on ∈ i :: r := (hl e.on).2 ⟨hlt, hx⟩
            rcases List.mem_cons.1 h1 with h1 | h1
            · omega
            · have := hmin _ h1; omega
        rw [hr] at this
        cases this
    · have hjl := hmem listed l hl j hj
      obtain ⟨hjun, oj, hoj, hall⟩ := mem_ready.1 hj
      have hjlt : j < ops.size := (Array.getElem?_eq_some_iff.1 hoj).1
      obtain ⟨l1, l2, rfl⟩ := List.append_of_mem hjl
      have hs1 : ∀ i ∈ l1, i < j := fun i hi => (List.pairwise_append.1 hsort).2.2 i hi j (by simp)
      have hap : ∀ i ∈ l1, ∀ x, ops[i]? = some x → x.apart ops oj = true := by
        intro i hi x hx
        have hp := hpair j hjlt i (hs1 i hi)
        simp only [pairOk, hx, hoj, Bool.or_eq_true] at hp
        rcases hp with hp | hp
        · obtain ⟨e, he, hb⟩ := Array.any_eq_true'.1 hp
          simp only [Bool.and_eq_true, beq_iff_eq] at hb
          have h1 := hall e he hb.1
          have h2 := ((hl i).1 (by simp [hi])).2
          rw [hb.2, ← hsz i (by have := hs1 i hi; omega), h2] at h1
          cases h1
        · exact hp
      obtain ⟨v, hv, hrest⟩ := ChI.take (Region.noSelect_spec hns) hoj l1 a hap hc
      refine hv.wpOp hoj hS fun w' hS' => ih (listed.setIfInBounds j true) _ (l1 ++ l2) ?_ ?_ ?_ ?_ hrest w' hS'
      · simp only [List.length_append, List.length_cons] at hlen ⊢; omega
      · rw [List.pairwise_append] at hsort ⊢
        exact ⟨hsort.1, (List.pairwise_cons.1 hsort.2.1).2, fun x hx y hy => hsort.2.2 x hx y (by simp [hy])⟩
      · intro i
        have hnd : j ∉ l1 ++ l2 := by
          intro hm
          rcases List.mem_append.1 hm with hm | hm
          · have := hs1 j hm; omega
          · have := (List.pairwise_cons.1 (List.pairwise_append.1 hsort).2.1).1 j hm; omega
        by_cases hij : j = i
        · subst hij
          constructor
          · intro h; exact absurd h hnd
          · rintro ⟨hlt, h⟩
            rw [Array.getD_eq_getD_getElem?, Array.getElem?_setIfInBounds] at h
            rcases Nat.lt_or_ge j listed.size with hz | hz
            · simp [hz] at h
            · simp [Array.getElem?_eq_none hz] at hjun
        · rw [getD_set_ne true hij, ← hl i]
          simp only [List.mem_append, List.mem_cons]
          constructor
          · rintro (h | h)
            · exact .inl h
            · exact .inr (.inr h)
          · rintro (h | h | h)
            · exact .inl h
            · exact absurd h.symm hij
            · exact .inr h
      · intro i hi
        by_cases hij : j = i
        · subst hij
          rw [Array.getD_eq_getD_getElem?, Array.getD_eq_getD_getElem?, Array.getElem?_setIfInBounds]
          rcases Nat.lt_or_ge j listed.size with hz | hz
          · simp [hz]
          · simp [Array.getElem?_eq_none hz] at hjun
        · rw [getD_set_ne true hij, getD_set_ne false hij]
          exact hsz i hi

theorem ChI.of_list (l : List Oper) : ∀ (k : Nat) (a : Act), (∀ j, l[j]? = ops[k + j]?) → ChL P ops Q S l a → ChI P ops Q S (List.range' k l.length) a := by
  induction l with
  | nil => intro k a _ h; exact h
  | cons o l ih =>
    intro k a h hc
    obtain ⟨v, hv, hr⟩ := hc
    have h0 : ops[k]? = some o := by simpa using (h 0).symm
    exact ⟨o, h0, v, hv, ih (k + 1) _ (fun j => by have := h (j + 1); simpa [Nat.add_assoc, Nat.add_comm 1 j] using this) hr⟩

/-- THE LAW. -/
theorem wp_region_chain {id : Nat} {l : List Oper} {a : Act} {w : World} (S : World → Prop) (hm : P.follows .mixedOrders = true) (hok : chainOk l.toArray = true) (hS : S w.drew)
    (h : ChL P l.toArray Q S l a) : (Code.region id l.toArray true).wp P Q a w := by
  refine wp_region_any hm (ChI.any (ops := l.toArray) hok _ _ a (List.range l.toArray.size) (by simp) List.pairwise_lt_range ?_ ?_ ?_ _ hS)
  · intro i
    simp only [List.mem_range, Array.getD_eq_getD_getElem?, Array.getElem?_replicate]
    constructor
    · intro h
      have h' : i < l.length := by simpa using h
      exact ⟨h, by simp [h']⟩
    · exact fun h => h.1
  · intro i hi
    have h' : i < l.length := by simpa using hi
    simp [h']
  · rw [List.range_eq_range']
    have := ChI.of_list (P := P) (ops := l.toArray) (Q := Q) (S := S) l 0 a (by simp) h
    simpa using this
theorem ChL.nil {a : Act} (h : ∀ w, S w → Q .normal a w) : ChL P ops Q S [] a := h
/-- An operation whose guard says no. -/
theorem ChL.skip {o : Oper} {r : List Oper} {a : Act} (hw : Region.wanted o (yielded ops a.tmps) = false) (h : ChL P ops Q S r (a.put o.dst undef)) : ChL P ops Q S (o :: r) a :=
  ⟨undef, .inr ⟨hw, rfl⟩, h⟩
/-- An operation that yields its value and leaves the world as it is. -/
theorem ChL.val {o : Oper} {r : List Oper} {a : Act} {v : Value} (hw : Region.wanted o (yielded ops a.tmps) = true) (hv : ∀ w, S w → (execOp a.eval o).run P w = .ok (.value v) w)
    (h : ChL P ops Q S r (a.put o.dst v)) : ChL P ops Q S (o :: r) a :=
  ⟨v, .inl ⟨hw, fun w hS => .val hS (hv w hS)⟩, h⟩
/-- A call. -/
theorem ChL.call {o : Oper} {r : List Oper} {a : Act} {v : Value} {f : FuncId} {args : Array Value} (hw : Region.wanted o (yielded ops a.tmps) = true) (he : ∀ w, (execOp a.eval o).run P w = .ok (.enter f args) w)
    (hc : ∀ w, S w → Calls P f args w fun e w'' => e = .returned v ∧ S w'') (h : ChL P ops Q S r (a.put o.dst v)) : ChL P ops Q S (o :: r) a :=
  ⟨v, .inl ⟨hw, fun w hS => .enter (he w) (hc w hS)⟩, h⟩
/-- A guard that is not decided: both ways. -/
theorem ChL.guard {o : Oper} {r : List Oper} {a : Act} {x : Bool} (_hw : Region.wanted o (yielded ops a.tmps) = x) (ht : x = true → ChL P ops Q S (o :: r) a) (hf : x = false → ChL P ops Q S (o :: r) a) :
    ChL P ops Q S (o :: r) a := by
  cases x
  · exact hf rfl
  · exact ht rfl
/-- The condition: nothing that was there when the region began has turned. -/
theorem wp_region_ext {id : Nat} {l : List Oper} {a : Act} {w : World} (hm : P.follows .mixedOrders = true) (hok : chainOk l.toArray = true) (h : ChL P l.toArray Q (Ext w) l a) :
    (Code.region id l.toArray true).wp P Q a w := wp_region_chain (Ext w) hm hok ((Ext.refl w).drew) h
end
end Go.Proofs.Ytafmomocmodbhaa
/- Contracts of the smallest functions: ranges, words, nets. Each is proved once for all arguments that its callers hand it. -/
namespace Go.Proofs.Ytafmomocmodbhaa
set_option linter.unusedVariables false
set_option linter.unusedSimpArgs false
open Go.RowKit

theorem ret_int {a b : Int} (h : a = b) : Ending.returned (.int .i64 a) = .returned (.int .i64 b) := by rw [h]
theorem ret_bool {a b : Bool} (h : a = b) : Ending.returned (.bool a) = .returned (.bool b) := by rw [h]

/-- A slice literal of integers. -/
theorem Sl.lit (w : World) (T : TypeId) (xs : List Int) {b : Nat} (hb : b = w.heap.size) (h : xs.length ≤ 1000 := by simp) :
    Sl encI 1 (w.alloc (.cells (xs.map (Value.int .i64)).toArray T)) (some ⟨b, 0, none⟩) xs.length xs.length xs :=
  ⟨rfl, Nat.le_refl _, by omega, (fun e => by cases e), fun _ => ⟨b, 0, rfl, by simp [hb], fun i x hx j u hu => by
    have hj : j = 0 := by
      have := (List.getElem?_eq_some_iff.1 hu).1
      simp [encI] at this
      exact this
    subst hj
    simp [encI] at hu
    subst hu
    rw [World.cell?_alloc_at _ _ _ _ hb]
    simp [hx]⟩⟩
theorem spec_inRange (n lo hi : Int) (w : World) : Calls Try.prog 68 #[.int .i64 n, .int .i64 lo, .int .i64 hi] w fun e w' => e = .returned (.bool (inR n lo hi)) ∧ w = w' := by
  by_cases h1 : lo ≤ n
  · have hb : inR n lo hi = decide (n ≤ hi) := by simp [inR, h1]
    rw [hb]
    go_enter Try.func68, Try.ntmps68
    go_wp2
    all_goals go_ret
    all_goals exact ⟨by simp [*], rfl⟩
  · have hb : inR n lo hi = false := by simp [inR, h1]
    rw [hb]
    go_enter Try.func68, Try.ntmps68
    go_wp2
    all_goals go_ret
    all_goals exact ⟨by simp [*], rfl⟩
theorem impl_in (n lo hi : Int) (w : World) : Calls Try.prog 63 #[.int .i64 n, .int .i64 lo, .int .i64 hi] w fun e w' => e = .returned (.bool (inR n lo hi)) ∧ w = w' := by
  by_cases h1 : lo ≤ n
  · have hb : inR n lo hi = decide (n ≤ hi) := by simp [inR, h1]
    rw [hb]
    go_enter Try.func63, Try.ntmps63
    go_wp2
    all_goals go_ret
    all_goals exact ⟨by simp [*], rfl⟩
  · have hb : inR n lo hi = false := by simp [inR, h1]
    rw [hb]
    go_enter Try.func63, Try.ntmps63
    go_wp2
    all_goals go_ret
    all_goals exact ⟨by simp [*], rfl⟩
theorem impl_isWord (n : Int) (w : World) : Calls Try.prog 83 #[.int .i64 n] w fun e w' => e = .returned (.bool (word n)) ∧ w = w' := by
  go_enter Try.func83, Try.ntmps83
  go_wp2_with (go_at_call 63; refine (impl_in _ _ _ _).mono ?_; rintro e w' ⟨rfl, rfl⟩)
  go_ret
  exact ⟨rfl, rfl⟩
theorem spec_validAddr (n : Int) (w : World) : Calls Try.prog 97 #[.int .i64 n] w fun e w' => e = .returned (.bool (word n)) ∧ w = w' := by
  go_enter Try.func97, Try.ntmps97
  go_wp2_with (go_at_call 68; refine (spec_inRange _ _ _ _).mono ?_; rintro e w' ⟨rfl, rfl⟩)
  go_ret
  exact ⟨rfl, rfl⟩
theorem wrap_id {x : Int} (h0 : -9223372036854775808 ≤ x) (h1 : x ≤ 9223372036854775807) : wrap64 x = x := by
  exact IntWalk.wrap64_in x ⟨h0, h1⟩
theorem pow_netSize {bits : Int} (h0 : 0 ≤ bits) : wrap64 (2 ^ (16 - bits).toNat) = netSize bits := by
  have h1 := netSize_le h0
  have h2 := netSize_pos bits
  have e : (2 : Int) ^ (16 - bits).toNat = netSize bits := by simp [netSize]
  rw [e]
  exact wrap_id (by omega) (by omega)
theorem impl_size (base bits : Int) (w : World) (h0 : 0 ≤ bits) (h1 : bits ≤ 16) :
    Calls Try.prog 133 #[.agg #[.int .i64 base, .int .i64 bits]] w fun e w' => e = .returned (.int .i64 (netSize bits)) ∧ Ext w w' := by
  go_enter Try.func133, Try.ntmps133
  go_wp2
  go_ret
  exact ⟨ret_int (pow_netSize h0), (by repeat (first | (with_reducible exact Ext.refl _) | (with_reducible assumption) | (with_reducible refine Ext.alloc ?_ _) | (with_reducible refine Ext.drewN ?_ _) | (with_reducible refine Ext.drew ?_) | (with_reducible refine Ext.setCell ?_ ?_ _; rotate_left; (simp only []; omega)) | (with_reducible refine Ext.trans ?_ (by assumption))))⟩
theorem impl_has (base bits a : Int) (w : World) (h : validNet ⟨base, bits⟩ = true) :
    Calls Try.prog 75 #[.agg #[.int .i64 base, .int .i64 bits], .int .i64 a] w fun e w' => e = .returned (.bool (has ⟨base, bits⟩ a)) ∧ Ext w w' := by
  obtain ⟨b0, b1, b2, b3⟩ := validNet_bd h
  simp only at b0 b1 b2 b3
  have s0 := netSize_pos bits
  have s1 := netSize_le b0
  have e1 : IntKind.i64.wrap (base + netSize bits) = base + netSize bits := IntWalk.i64_in _ (by omega)
  have e2 : IntKind.i64.wrap (base + netSize bits - 1) = base + netSize bits - 1 := IntWalk.i64_in _ (by omega)
  clear h
  go_enter Try.func75, Try.ntmps75
  go_wp2_with fail
  refine wp_region_ext (by kernel_rfl) (by kernel_rfl) ?_
  repeat' (first
    | (refine ChL.skip (by rfl) ?_
       (try simp only [Act.put, List.setIfInBounds_toArray, List.set_cons_zero, List.set_cons_succ]))
    | (refine' ChL.val (v := _) (by rfl) ?_ ?_
       rotate_left
       · (intro wS hS
          have hcS := Ext.cells hS
          go_simp
          with_reducible rfl)
       (try simp only [Act.put, List.setIfInBounds_toArray, List.set_cons_zero, List.set_cons_succ]))
    | (refine' ChL.call (v := _) (f := _) (args := _) (by rfl) ?_ ?_ ?_
       rotate_left 3
       · (intro wS
          go_simp
          (constructor <;> rfl))
       · (intro wS hS
          first | (go_at_call 133; refine (impl_size _ _ _ b0 b1).mono ?_; rintro e w1 ⟨rfl, hx⟩; refine ⟨?_, Ext.trans hS hx⟩; rfl) | (go_at_call 63; refine (impl_in _ _ _ _).mono ?_; rintro e w1 ⟨rfl, hx⟩; subst hx; refine ⟨?_, hS⟩; rfl))
       (try simp only [Act.put, List.setIfInBounds_toArray, List.set_cons_zero, List.set_cons_succ]))
    | (refine ChL.nil ?_)
    | (refine' ChL.guard (x := _) ?_ ?_ ?_
       rotate_left
       · (go_simp
          rfl)
       all_goals
         intro hg
         simp only [hg]))
  intro w' hw'
  go_wp2
  go_ret
  exact ⟨rfl, (by repeat (first | (with_reducible exact Ext.refl _) | (with_reducible assumption) | (with_reducible refine Ext.alloc ?_ _) | (with_reducible refine Ext.drewN ?_ _) | (with_reducible refine Ext.drew ?_) | (with_reducible refine Ext.setCell ?_ ?_ _; rotate_left; (simp only []; omega)) | (with_reducible refine Ext.trans ?_ (by assumption))))⟩
theorem pow_step {k : Int} {bits : Int} (hb : bits ≤ k) : 2 * ((2 ^ (k - bits).toNat : Nat) : Int) = ((2 ^ (k + 1 - bits).toNat : Nat) : Int) := by
  have e : (k + 1 - bits).toNat = (k - bits).toNat + 1 := by omega
  rw [e, Nat.pow_succ]
  omega
theorem spec_size (base bits : Int) (w : World) (h0 : 0 ≤ bits) (h1 : bits ≤ 16) :
    Calls Try.prog 103 #[.agg #[.int .i64 base, .int .i64 bits]] w fun e w' => e = .returned (.int .i64 (netSize bits)) ∧ Ext w w' := by
  go_enter Try.func103, Try.ntmps103
  go_wp2
  go_loop [3, 4] (fun o i => ∃ k : Int, bits ≤ k ∧ k ≤ 16 ∧ i = .int .i64 k ∧ o = .int .i64 ((2 ^ (k - bits).toNat : Nat) : Int)) (fun _ i => (16 - intOf i).toNat)
  case atStart => exact ⟨bits, by omega, h1, rfl, by simp⟩
  case round =>
    obtain ⟨k, hk0, hk1, rfl, rfl⟩ := hrel
    have hp : 2 ^ (k - bits).toNat ≤ 2 ^ 16 := Nat.pow_le_pow_right (by omega) (by omega)
    generalize hq : 2 ^ (k - bits).toNat = q at hp ⊢
    have HQ := Lib.hid hq
    clear hq
    have hq0 : 0 ≤ (q : Int) := by omega
    have hq1 : (q : Int) ≤ 65536 := by omega
    by_cases hlt : k < 16
    · go_wp2
      go_round
      case rel => exact ⟨k + 1, by omega, by omega, rfl, by rw [← pow_step hk0, HQ.out]⟩
      case measure => simp [intOf]; omega
    · go_wp2
      go_ret
      exact ⟨ret_int (by rw [← HQ.out]; have e : k = 16 := by omega
                         rw [e]; rfl), (by repeat (first | (with_reducible exact Ext.refl _) | (with_reducible assumption) | (with_reducible refine Ext.alloc ?_ _) | (with_reducible refine Ext.drewN ?_ _) | (with_reducible refine Ext.drew ?_) | (with_reducible refine Ext.setCell ?_ ?_ _; rotate_left; (simp only []; omega)) | (with_reducible refine Ext.trans ?_ (by assumption))))⟩
theorem spec_inNet (base bits a : Int) (w : World) (h : validNet ⟨base, bits⟩ = true) :
    Calls Try.prog 46 #[.agg #[.int .i64 base, .int .i64 bits], .int .i64 a] w fun e w' => e = .returned (.bool (has ⟨base, bits⟩ a)) ∧ Ext w w' := by
  obtain ⟨b0, b1, b2, b3⟩ := validNet_bd h
  simp only at b0 b1 b2 b3
  have s0 := netSize_pos bits
  have s1 := netSize_le b0
  have e1 : IntKind.i64.wrap (base + netSize bits) = base + netSize bits := IntWalk.i64_in _ (by omega)
  have e2 : IntKind.i64.wrap (base + netSize bits - 1) = base + netSize bits - 1 := IntWalk.i64_in _ (by omega)
  clear h
  go_enter Try.func46, Try.ntmps46
  go_wp2_with fail
  refine wp_region_ext (by kernel_rfl) (by kernel_rfl) ?_
  repeat' (first
    | (refine ChL.skip (by rfl) ?_
       (try simp only [Act.put, List.setIfInBounds_toArray, List.set_cons_zero, List.set_cons_succ]))
    | (refine' ChL.val (v := _) (by rfl) ?_ ?_
       rotate_left
       · (intro wS hS
          have hcS := Ext.cells hS
          go_simp
          with_reducible rfl)
       (try simp only [Act.put, List.setIfInBounds_toArray, List.set_cons_zero, List.set_cons_succ]))
    | (refine' ChL.call (v := _) (f := _) (args := _) (by rfl) ?_ ?_ ?_
       rotate_left 3
       · (intro wS
          go_simp
          (constructor <;> rfl))
       · (intro wS hS
          first | (go_at_call 103; refine (spec_size _ _ _ b0 b1).mono ?_; rintro e w1 ⟨rfl, hx⟩; refine ⟨?_, Ext.trans hS hx⟩; rfl) | (go_at_call 68; refine (spec_inRange _ _ _ _).mono ?_; rintro e w1 ⟨rfl, hx⟩; subst hx; refine ⟨?_, hS⟩; rfl))
       (try simp only [Act.put, List.setIfInBounds_toArray, List.set_cons_zero, List.set_cons_succ]))
    | (refine ChL.nil ?_)
    | (refine' ChL.guard (x := _) ?_ ?_ ?_
       rotate_left
       · (go_simp
          rfl)
       all_goals
         intro hg
         simp only [hg]))
  intro w' hw'
  go_wp2
  go_ret
  exact ⟨rfl, (by repeat (first | (with_reducible exact Ext.refl _) | (with_reducible assumption) | (with_reducible refine Ext.alloc ?_ _) | (with_reducible refine Ext.drewN ?_ _) | (with_reducible refine Ext.drew ?_) | (with_reducible refine Ext.setCell ?_ ?_ _; rotate_left; (simp only []; omega)) | (with_reducible refine Ext.trans ?_ (by assumption))))⟩
theorem impl_ValidNet (base bits : Int) (w : World) :
    Calls Try.prog 82 #[.agg #[.int .i64 base, .int .i64 bits]] w fun e w' => e = .returned (.bool (validNet ⟨base, bits⟩)) ∧ Ext w w' := by
  have c1 := impl_in bits 0 16
  have c2 := impl_isWord base
  cases h1 : inR bits 0 16 with
  | false =>
      have hv : validNet ⟨base, bits⟩ = false := by simp [validNet, h1]
      simp only [hv, h1] at c1 ⊢
      clear hv c2 h1
      replace c1 := Lib.hid c1
      go_enter Try.func82, Try.ntmps82
      go_wp2_with fail
      refine wp_region_ext (by kernel_rfl) (by kernel_rfl) ?_
      repeat' (first
        | (refine ChL.skip (by rfl) ?_
           (try simp only [Act.put, List.setIfInBounds_toArray, List.set_cons_zero, List.set_cons_succ]))
        | (refine' ChL.val (v := _) (by rfl) ?_ ?_
           rotate_left
           · (intro wS hS
              have hcS := Ext.cells hS
              go_simp
              with_reducible rfl)
           (try simp only [Act.put, List.setIfInBounds_toArray, List.set_cons_zero, List.set_cons_succ]))
        | (refine' ChL.call (v := _) (f := _) (args := _) (by rfl) ?_ ?_ ?_
           rotate_left 3
           · (intro wS
              go_simp
              (constructor <;> rfl))
           · (intro wS hS
              first | (go_at_call 63; refine (c1.out _).mono ?_; rintro e w1 ⟨rfl, hx⟩; subst hx; refine ⟨?_, hS⟩; rfl))
           (try simp only [Act.put, List.setIfInBounds_toArray, List.set_cons_zero, List.set_cons_succ]))
        | (refine ChL.nil ?_)
        | (refine' ChL.guard (x := _) ?_ ?_ ?_
           rotate_left
           · (go_simp
              rfl)
           all_goals
             intro hg
             simp only [hg]))
      intro w' hw'
      go_wp2
      go_ret
      exact ⟨rfl, (by repeat (first | (with_reducible exact Ext.refl _) | (with_reducible assumption) | (with_reducible refine Ext.alloc ?_ _) | (with_reducible refine Ext.drewN ?_ _) | (with_reducible refine Ext.drew ?_) | (with_reducible refine Ext.setCell ?_ ?_ _; rotate_left; (simp only []; omega)) | (with_reducible refine Ext.trans ?_ (by assumption))))⟩
  | true =>
    obtain ⟨b0, b1⟩ := inR_iff.1 h1
    cases h2 : word base with
    | false =>
      have hv : validNet ⟨base, bits⟩ = false := by simp [validNet, h1, h2]
      simp only [hv, h1, h2] at c1 c2 ⊢
      clear hv h1 h2
      replace c1 := Lib.hid c1
      replace c2 := Lib.hid c2
      go_enter Try.func82, Try.ntmps82
      go_wp2_with fail
      refine wp_region_ext (by kernel_rfl) (by kernel_rfl) ?_
      repeat' (first
        | (refine ChL.skip (by rfl) ?_
           (try simp only [Act.put, List.setIfInBounds_toArray, List.set_cons_zero, List.set_cons_succ]))
        | (refine' ChL.val (v := _) (by rfl) ?_ ?_
           rotate_left
           · (intro wS hS
              have hcS := Ext.cells hS
              go_simp
              with_reducible rfl)
           (try simp only [Act.put, List.setIfInBounds_toArray, List.set_cons_zero, List.set_cons_succ]))
        | (refine' ChL.call (v := _) (f := _) (args := _) (by rfl) ?_ ?_ ?_
           rotate_left 3
           · (intro wS
              go_simp
              (constructor <;> rfl))
           · (intro wS hS
              first | (go_at_call 63; refine (c1.out _).mono ?_; rintro e w1 ⟨rfl, hx⟩; subst hx; refine ⟨?_, hS⟩; rfl) | (go_at_call 83; refine (c2.out _).mono ?_; rintro e w1 ⟨rfl, hx⟩; subst hx; refine ⟨?_, hS⟩; rfl))
           (try simp only [Act.put, List.setIfInBounds_toArray, List.set_cons_zero, List.set_cons_succ]))
        | (refine ChL.nil ?_)
        | (refine' ChL.guard (x := _) ?_ ?_ ?_
           rotate_left
           · (go_simp
              rfl)
           all_goals
             intro hg
             simp only [hg]))
      intro w' hw'
      go_wp2
      go_ret
      exact ⟨rfl, (by repeat (first | (with_reducible exact Ext.refl _) | (with_reducible assumption) | (with_reducible refine Ext.alloc ?_ _) | (with_reducible refine Ext.drewN ?_ _) | (with_reducible refine Ext.drew ?_) | (with_reducible refine Ext.setCell ?_ ?_ _; rotate_left; (simp only []; omega)) | (with_reducible refine Ext.trans ?_ (by assumption))))⟩
    | true =>
      obtain ⟨d0, d1⟩ := word_iff.1 h2
      have s0 := netSize_pos bits
      have hv : validNet ⟨base, bits⟩ = (base % netSize bits == 0) := by simp only [validNet, h1, h2, Bool.true_and]; rw [Bool.eq_iff_iff]; simp
      simp only [hv, h1, h2] at c1 c2 ⊢
      clear hv h1 h2
      replace c1 := Lib.hid c1
      replace c2 := Lib.hid c2
      have e1 : ¬ netSize bits = 0 := by omega
      have e2 : base.tmod (netSize bits) = base % netSize bits := Int.tmod_eq_emod_of_nonneg d0
      go_enter Try.func82, Try.ntmps82
      go_wp2_with fail
      refine wp_region_ext (by kernel_rfl) (by kernel_rfl) ?_
      repeat' (first
        | (refine ChL.skip (by rfl) ?_
           (try simp only [Act.put, List.setIfInBounds_toArray, List.set_cons_zero, List.set_cons_succ]))
        | (refine' ChL.val (v := _) (by rfl) ?_ ?_
           rotate_left
           · (intro wS hS
              have hcS := Ext.cells hS
              go_simp
              with_reducible rfl)
           (try simp only [Act.put, List.setIfInBounds_toArray, List.set_cons_zero, List.set_cons_succ]))
        | (refine' ChL.call (v := _) (f := _) (args := _) (by rfl) ?_ ?_ ?_
           rotate_left 3
           · (intro wS
              go_simp
              (constructor <;> rfl))
           · (intro wS hS
              first | (go_at_call 63; refine (c1.out _).mono ?_; rintro e w1 ⟨rfl, hx⟩; subst hx; refine ⟨?_, hS⟩; rfl) | (go_at_call 83; refine (c2.out _).mono ?_; rintro e w1 ⟨rfl, hx⟩; subst hx; refine ⟨?_, hS⟩; rfl) | (go_at_call 133; refine (impl_size _ _ _ b0 b1).mono ?_; rintro e w1 ⟨rfl, hx⟩; refine ⟨?_, Ext.trans hS hx⟩; rfl))
           (try simp only [Act.put, List.setIfInBounds_toArray, List.set_cons_zero, List.set_cons_succ]))
        | (refine ChL.nil ?_)
        | (refine' ChL.guard (x := _) ?_ ?_ ?_
           rotate_left
           · (go_simp
              rfl)
           all_goals
             intro hg
             simp only [hg]))
      intro w' hw'
      go_wp2
      go_ret
      exact ⟨rfl, (by repeat (first | (with_reducible exact Ext.refl _) | (with_reducible assumption) | (with_reducible refine Ext.alloc ?_ _) | (with_reducible refine Ext.drewN ?_ _) | (with_reducible refine Ext.drew ?_) | (with_reducible refine Ext.setCell ?_ ?_ _; rotate_left; (simp only []; omega)) | (with_reducible refine Ext.trans ?_ (by assumption))))⟩
theorem spec_validNet (base bits : Int) (w : World) :
    Calls Try.prog 96 #[.agg #[.int .i64 base, .int .i64 bits]] w fun e w' => e = .returned (.bool (validNet ⟨base, bits⟩)) ∧ Ext w w' := by
  have c1 := spec_inRange bits 0 16
  have c2 := spec_validAddr base
  cases h1 : inR bits 0 16 with
  | false =>
      have hv : validNet ⟨base, bits⟩ = false := by simp [validNet, h1]
      simp only [hv, h1] at c1 ⊢
      clear hv c2 h1
      replace c1 := Lib.hid c1
      go_enter Try.func96, Try.ntmps96
      go_wp2_with fail
      refine wp_region_ext (by kernel_rfl) (by kernel_rfl) ?_
      repeat' (first
        | (refine ChL.skip (by rfl) ?_
           (try simp only [Act.put, List.setIfInBounds_toArray, List.set_cons_zero, List.set_cons_succ]))
        | (refine' ChL.val (v := _) (by rfl) ?_ ?_
           rotate_left
           · (intro wS hS
              have hcS := Ext.cells hS
              go_simp
              with_reducible rfl)
           (try simp only [Act.put, List.setIfInBounds_toArray, List.set_cons_zero, List.set_cons_succ]))
        | (refine' ChL.call (v := _) (f := _) (args := _) (by rfl) ?_ ?_ ?_
           rotate_left 3
           · (intro wS
              go_simp
              (constructor <;> rfl))
           · (intro wS hS
              first | (go_at_call 68; refine (c1.out _).mono ?_; rintro e w1 ⟨rfl, hx⟩; subst hx; refine ⟨?_, hS⟩; rfl))
           (try simp only [Act.put, List.setIfInBounds_toArray, List.set_cons_zero, List.set_cons_succ]))
        | (refine ChL.nil ?_)
        | (refine' ChL.guard (x := _) ?_ ?_ ?_
           rotate_left
           · (go_simp
              rfl)
           all_goals
             intro hg
             simp only [hg]))
      intro w' hw'
      go_wp2
      go_ret
      exact ⟨rfl, (by repeat (first | (with_reducible exact Ext.refl _) | (with_reducible assumption) | (with_reducible refine Ext.alloc ?_ _) | (with_reducible refine Ext.drewN ?_ _) | (with_reducible refine Ext.drew ?_) | (with_reducible refine Ext.setCell ?_ ?_ _; rotate_left; (simp only []; omega)) | (with_reducible refine Ext.trans ?_ (by assumption))))⟩
  | true =>
    obtain ⟨b0, b1⟩ := inR_iff.1 h1
    cases h2 : word base with
    | false =>
      have hv : validNet ⟨base, bits⟩ = false := by simp [validNet, h1, h2]
      simp only [hv, h1, h2] at c1 c2 ⊢
      clear hv h1 h2
      replace c1 := Lib.hid c1
      replace c2 := Lib.hid c2
      go_enter Try.func96, Try.ntmps96
      go_wp2_with fail
      refine wp_region_ext (by kernel_rfl) (by kernel_rfl) ?_
      repeat' (first
        | (refine ChL.skip (by rfl) ?_
           (try simp only [Act.put, List.setIfInBounds_toArray, List.set_cons_zero, List.set_cons_succ]))
        | (refine' ChL.val (v := _) (by rfl) ?_ ?_
           rotate_left
           · (intro wS hS
              have hcS := Ext.cells hS
              go_simp
              with_reducible rfl)
           (try simp only [Act.put, List.setIfInBounds_toArray, List.set_cons_zero, List.set_cons_succ]))
        | (refine' ChL.call (v := _) (f := _) (args := _) (by rfl) ?_ ?_ ?_
           rotate_left 3
           · (intro wS
              go_simp
              (constructor <;> rfl))
           · (intro wS hS
              first | (go_at_call 68; refine (c1.out _).mono ?_; rintro e w1 ⟨rfl, hx⟩; subst hx; refine ⟨?_, hS⟩; rfl) | (go_at_call 97; refine (c2.out _).mono ?_; rintro e w1 ⟨rfl, hx⟩; subst hx; refine ⟨?_, hS⟩; rfl))
           (try simp only [Act.put, List.setIfInBounds_toArray, List.set_cons_zero, List.set_cons_succ]))
        | (refine ChL.nil ?_)
        | (refine' ChL.guard (x := _) ?_ ?_ ?_
           rotate_left
           · (go_simp
              rfl)
           all_goals
             intro hg
             simp only [hg]))
      intro w' hw'
      go_wp2
      go_ret
      exact ⟨rfl, (by repeat (first | (with_reducible exact Ext.refl _) | (with_reducible assumption) | (with_reducible refine Ext.alloc ?_ _) | (with_reducible refine Ext.drewN ?_ _) | (with_reducible refine Ext.drew ?_) | (with_reducible refine Ext.setCell ?_ ?_ _; rotate_left; (simp only []; omega)) | (with_reducible refine Ext.trans ?_ (by assumption))))⟩
    | true =>
      obtain ⟨d0, d1⟩ := word_iff.1 h2
      have s0 := netSize_pos bits
      have hv : validNet ⟨base, bits⟩ = (base % netSize bits == 0) := by simp only [validNet, h1, h2, Bool.true_and]; rw [Bool.eq_iff_iff]; simp
      simp only [hv, h1, h2] at c1 c2 ⊢
      clear hv h1 h2
      replace c1 := Lib.hid c1
      replace c2 := Lib.hid c2
      have e1 : ¬ netSize bits = 0 := by omega
      have e2 : base.tmod (netSize bits) = base % netSize bits := Int.tmod_eq_emod_of_nonneg d0
      go_enter Try.func96, Try.ntmps96
      go_wp2_with fail
      refine wp_region_ext (by kernel_rfl) (by kernel_rfl) ?_
      repeat' (first
        | (refine ChL.skip (by rfl) ?_
           (try simp only [Act.put, List.setIfInBounds_toArray, List.set_cons_zero, List.set_cons_succ]))
        | (refine' ChL.val (v := _) (by rfl) ?_ ?_
           rotate_left
           · (intro wS hS
              have hcS := Ext.cells hS
              go_simp
              with_reducible rfl)
           (try simp only [Act.put, List.setIfInBounds_toArray, List.set_cons_zero, List.set_cons_succ]))
        | (refine' ChL.call (v := _) (f := _) (args := _) (by rfl) ?_ ?_ ?_
           rotate_left 3
           · (intro wS
              go_simp
              (constructor <;> rfl))
           · (intro wS hS
              first | (go_at_call 68; refine (c1.out _).mono ?_; rintro e w1 ⟨rfl, hx⟩; subst hx; refine ⟨?_, hS⟩; rfl) | (go_at_call 97; refine (c2.out _).mono ?_; rintro e w1 ⟨rfl, hx⟩; subst hx; refine ⟨?_, hS⟩; rfl) | (go_at_call 103; refine (spec_size _ _ _ b0 b1).mono ?_; rintro e w1 ⟨rfl, hx⟩; refine ⟨?_, Ext.trans hS hx⟩; rfl))
           (try simp only [Act.put, List.setIfInBounds_toArray, List.set_cons_zero, List.set_cons_succ]))
        | (refine ChL.nil ?_)
        | (refine' ChL.guard (x := _) ?_ ?_ ?_
           rotate_left
           · (go_simp
              rfl)
           all_goals
             intro hg
             simp only [hg]))
      intro w' hw'
      go_wp2
      go_ret
      exact ⟨rfl, (by repeat (first | (with_reducible exact Ext.refl _) | (with_reducible assumption) | (with_reducible refine Ext.alloc ?_ _) | (with_reducible refine Ext.drewN ?_ _) | (with_reducible refine Ext.drew ?_) | (with_reducible refine Ext.setCell ?_ ?_ _; rotate_left; (simp only []; omega)) | (with_reducible refine Ext.trans ?_ (by assumption))))⟩
end Go.Proofs.Ytafmomocmodbhaa
/- Contracts: lists of words, ends, packets (the tests). -/
namespace Go.Proofs.Ytafmomocmodbhaa
set_option linter.unusedVariables false
set_option linter.unusedSimpArgs false
open Go.RowKit

/-- A slice of integers that is not empty: its address and its cells. -/
theorem Sl.ints {w : World} {a : Option Addr} {n c : Nat} {L : List Int} (h : Sl encI 1 w a n c L) :
    (n = 0 ∧ L = []) ∨ (0 < n ∧ ∃ b off, a = some ⟨b, off, none⟩ ∧ b < w.heap.size ∧ ∀ i : Nat, i < n → w.cell? ⟨b, off + i, none⟩ = some (.int .i64 (nth L i))) := by
  rcases h.form with h0 | ⟨h0, b, off, ha, hb, hc⟩
  · exact .inl h0
  · refine .inr ⟨h0, b, off, ha, hb, fun i hi => ?_⟩
    have := hc i _ (nth_some (by rw [h.len]; exact hi)) 0 (.int .i64 (nth L i)) rfl
    simpa using this

theorem spec_allIn (a : Option Addr) (n c : Nat) (L : List Int) (lo hi : Int) (w : World) (hs : Sl encI 1 w a n c L) :
    Calls Try.prog 102 #[.slice a n c, .int .i64 lo, .int .i64 hi] w fun e w' => e = .returned (.bool (L.all fun x => inR x lo hi)) ∧ w = w' := by
  have hle := hs.le
  have hmax := hs.max
  have hfin : L.all (fun x => inR x lo hi) = upTo (fun i => inR (nth L i) lo hi) n := by rw [all_upTo, hs.len]
  rw [hfin]
  clear hfin
  rcases hs.ints with ⟨h0, hL⟩ | ⟨h0, b, off, ha, hb, hc⟩
  · subst h0
    clear hs hL
    go_enter Try.func102, Try.ntmps102
    go_wp2
    go_loop [7] (fun i => i = .int .i64 0) (fun _ => 0)
    case atStart => rfl
    case round =>
      subst hrel
      go_wp2
      go_ret
      exact ⟨rfl, rfl⟩
  · subst ha
    clear hs
    go_enter Try.func102, Try.ntmps102
    go_wp2
    go_loop [7] (fun i => ∃ k : Nat, k ≤ n ∧ i = .int .i64 k ∧ ∀ j, j < k → inR (nth L j) lo hi = true) (fun i => n - (intOf i).toNat)
    case atStart => exact ⟨0, Nat.zero_le _, rfl, by omega⟩
    case round =>
      obtain ⟨k, hk, rfl, hall⟩ := hrel
      have HA := Lib.hid hall
      clear hall
      by_cases hlt : k < n
      · have hck := hc k hlt
        have c1 := spec_inRange (nth L k) lo hi
        cases hb : inR (nth L k) lo hi with
        | true =>
          simp only [hb] at c1
          replace c1 := Lib.hid c1
          replace hb := Lib.hid hb
          go_wp2_with (go_at_call 68; refine (c1.out _).mono ?_; rintro e w' ⟨rfl, rfl⟩)
          go_round
          case rel => exact ⟨k + 1, hlt, by go_num, fun j hj => by
            rcases Nat.lt_or_ge j k with h | h
            · exact HA.out j h
            · have e : j = k := by omega
              rw [e]; exact hb.out⟩
          case measure => simp [intOf]; omega
        | false =>
          simp only [hb] at c1
          replace c1 := Lib.hid c1
          replace hb := Lib.hid hb
          go_wp2_with (go_at_call 68; refine (c1.out _).mono ?_; rintro e w' ⟨rfl, rfl⟩)
          go_ret
          exact ⟨ret_bool (upTo_f hlt hb.out).symm, rfl⟩
      · go_wp2
        go_ret
        exact ⟨ret_bool (upTo_iff.2 fun j hj => HA.out j (by omega)).symm, rfl⟩
theorem impl_areWords (a : Option Addr) (n c : Nat) (L : List Int) (w : World) (hs : Sl encI 1 w a n c L) :
    Calls Try.prog 84 #[.slice a n c] w fun e w' => e = .returned (.bool (L.all word)) ∧ w = w' := by
  have hle := hs.le
  have hmax := hs.max
  have hfin : L.all word = upTo (fun i => word (nth L i)) n := by rw [all_upTo, hs.len]
  rw [hfin]
  clear hfin
  rcases hs.ints with ⟨h0, hL⟩ | ⟨h0, b, off, ha, hb, hc⟩
  · subst h0
    clear hs hL
    go_enter Try.func84, Try.ntmps84
    go_wp2
    go_loop [7] (fun i => i = .int .i64 0) (fun _ => 0)
    case atStart => rfl
    case round =>
      subst hrel
      go_wp2
      go_ret
      exact ⟨rfl, rfl⟩
  · subst ha
    clear hs
    go_enter Try.func84, Try.ntmps84
    go_wp2
    go_loop [7] (fun i => ∃ k : Nat, k ≤ n ∧ i = .int .i64 k ∧ ∀ j, j < k → word (nth L j) = true) (fun i => n - (intOf i).toNat)
    case atStart => exact ⟨0, Nat.zero_le _, rfl, by omega⟩
    case round =>
      obtain ⟨k, hk, rfl, hall⟩ := hrel
      have HA := Lib.hid hall
      clear hall
      by_cases hlt : k < n
      · have hck := hc k hlt
        have c1 := impl_isWord (nth L k)
        cases hb : word (nth L k) with
        | true =>
          simp only [hb] at c1
          replace c1 := Lib.hid c1
          replace hb := Lib.hid hb
          go_wp2_with (go_at_call 83; refine (c1.out _).mono ?_; rintro e w' ⟨rfl, rfl⟩)
          go_round
          case rel => exact ⟨k + 1, hlt, by go_num, fun j hj => by
            rcases Nat.lt_or_ge j k with h | h
            · exact HA.out j h
            · have e : j = k := by omega
              rw [e]; exact hb.out⟩
          case measure => simp [intOf]; omega
        | false =>
          simp only [hb] at c1
          replace c1 := Lib.hid c1
          replace hb := Lib.hid hb
          go_wp2_with (go_at_call 83; refine (c1.out _).mono ?_; rintro e w' ⟨rfl, rfl⟩)
          go_ret
          exact ⟨ret_bool (upTo_f hlt hb.out).symm, rfl⟩
      · go_wp2
        go_ret
        exact ⟨ret_bool (upTo_iff.2 fun j hj => HA.out j (by omega)).symm, rfl⟩
theorem impl_End_valid (x y : Int) (w : World) : Calls Try.prog 113 #[.agg #[.int .i64 x, .int .i64 y]] w fun e w' => e = .returned (.bool (validEnd ⟨x, y⟩)) ∧ Ext w w' := by
  go_enter Try.func113, Try.ntmps113
  go_wp2_with (go_at_call 84; refine (impl_areWords _ _ _ [x, y] _ (by exact Sl.lit _ _ [x, y] (by simp))).mono ?_; rintro e w' ⟨rfl, rfl⟩)
  go_ret
  exact ⟨rfl, (by repeat (first | (with_reducible exact Ext.refl _) | (with_reducible assumption) | (with_reducible refine Ext.alloc ?_ _) | (with_reducible refine Ext.drewN ?_ _) | (with_reducible refine Ext.drew ?_) | (with_reducible refine Ext.setCell ?_ ?_ _; rotate_left; (simp only []; omega)) | (with_reducible refine Ext.trans ?_ (by assumption))))⟩
theorem spec_validEnd (x y : Int) (w : World) : Calls Try.prog 101 #[.agg #[.int .i64 x, .int .i64 y]] w fun e w' => e = .returned (.bool (validEnd ⟨x, y⟩)) ∧ Ext w w' := by
  have c1 := spec_validAddr x
  cases h1 : word x with
  | false =>
    have hv : validEnd ⟨x, y⟩ = false := by simp [validEnd, h1]
    simp only [h1, hv] at c1 ⊢
    clear hv h1
    replace c1 := Lib.hid c1
    go_enter Try.func101, Try.ntmps101
    go_wp2_with (go_at_call 97; refine (c1.out _).mono ?_; rintro e w' ⟨rfl, rfl⟩)
    go_ret
    exact ⟨rfl, (by repeat (first | (with_reducible exact Ext.refl _) | (with_reducible assumption) | (with_reducible refine Ext.alloc ?_ _) | (with_reducible refine Ext.drewN ?_ _) | (with_reducible refine Ext.drew ?_) | (with_reducible refine Ext.setCell ?_ ?_ _; rotate_left; (simp only []; omega)) | (with_reducible refine Ext.trans ?_ (by assumption))))⟩
  | true =>
    have hv : validEnd ⟨x, y⟩ = inR y 0 65535 := by rw [validEnd, h1]; rfl
    simp only [h1, hv] at c1 ⊢
    clear hv h1
    replace c1 := Lib.hid c1
    go_enter Try.func101, Try.ntmps101
    go_wp2_with (first | (go_at_call 97; refine (c1.out _).mono ?_; rintro e w' ⟨rfl, rfl⟩) | (go_at_call 68; refine (spec_inRange _ _ _ _).mono ?_; rintro e w' ⟨rfl, rfl⟩))
    go_ret
    exact ⟨rfl, (by repeat (first | (with_reducible exact Ext.refl _) | (with_reducible assumption) | (with_reducible refine Ext.alloc ?_ _) | (with_reducible refine Ext.drewN ?_ _) | (with_reducible refine Ext.drew ?_) | (with_reducible refine Ext.setCell ?_ ?_ _; rotate_left; (simp only []; omega)) | (with_reducible refine Ext.trans ?_ (by assumption))))⟩
theorem impl_ValidPacket (kind fa fp ta tp : Int) (a : Option Addr) (n c : Nat) (L : List Int) (w : World) (hs : Sl encI 1 w a n c L) :
    Calls Try.prog 53 #[.agg #[.int .i64 kind, .int .i64 fa, .int .i64 fp, .int .i64 ta, .int .i64 tp, .slice a n c]] w fun e w' => e = .returned (.bool (validPkt ⟨kind, ⟨fa, fp⟩, ⟨ta, tp⟩, L⟩)) ∧ Ext w w' := by
  have hlen := hs.len
  have hmax := hs.max
  have hle := hs.le
  rw [show validPkt ⟨kind, ⟨fa, fp⟩, ⟨ta, tp⟩, L⟩ = (inR kind 0 2 && validEnd ⟨fa, fp⟩ && validEnd ⟨ta, tp⟩ && decide (n ≤ 12) && L.all word) by rw [← hlen]; rfl]
  clear hlen
  go_enter Try.func53, Try.ntmps53
  go_wp2_with (first | (go_at_call 63; refine (impl_in _ _ _ _).mono ?_; rintro e w' ⟨rfl, rfl⟩) | (go_at_call 113; refine (impl_End_valid _ _ _).mono ?_; rintro e w1 ⟨rfl, hx⟩; have hc := hx.cells; have hf := hx.frozens; have hy := hx.size; (try simp at hy); have hz : w.heap.size < w1.heap.size := (by omega)) | (go_at_call 84; refine (impl_areWords _ _ _ L _ (by exact hs.ext (by repeat (first | (with_reducible exact Ext.refl _) | (with_reducible assumption) | (with_reducible refine Ext.alloc ?_ _) | (with_reducible refine Ext.drewN ?_ _) | (with_reducible refine Ext.drew ?_) | (with_reducible refine Ext.setCell ?_ ?_ _; rotate_left; (simp only []; omega)) | (with_reducible refine Ext.trans ?_ (by assumption)))))).mono ?_; rintro e w' ⟨rfl, rfl⟩))
  all_goals (go_ret; exact ⟨ret_bool (by simp [*] <;> intros <;> omega), (by repeat (first | (with_reducible exact Ext.refl _) | (with_reducible assumption) | (with_reducible refine Ext.alloc ?_ _) | (with_reducible refine Ext.drewN ?_ _) | (with_reducible refine Ext.drew ?_) | (with_reducible refine Ext.setCell ?_ ?_ _; rotate_left; (simp only []; omega)) | (with_reducible refine Ext.trans ?_ (by assumption))))⟩)
theorem spec_validPacket (kind fa fp ta tp : Int) (a : Option Addr) (n c : Nat) (L : List Int) (w : World) (hs : Sl encI 1 w a n c L) :
    Calls Try.prog 43 #[.agg #[.int .i64 kind, .int .i64 fa, .int .i64 fp, .int .i64 ta, .int .i64 tp, .slice a n c]] w fun e w' => e = .returned (.bool (validPkt ⟨kind, ⟨fa, fp⟩, ⟨ta, tp⟩, L⟩)) ∧ Ext w w' := by
  have hlen := hs.len
  have hmax := hs.max
  have hle := hs.le
  rw [show validPkt ⟨kind, ⟨fa, fp⟩, ⟨ta, tp⟩, L⟩ = (inR kind 0 2 && validEnd ⟨fa, fp⟩ && validEnd ⟨ta, tp⟩ && decide (n ≤ 12) && L.all fun x => inR x 0 65535) by rw [← hlen]; rfl]
  clear hlen
  go_enter Try.func43, Try.ntmps43
  go_wp2_with (first | (go_at_call 68; refine (spec_inRange _ _ _ _).mono ?_; rintro e w' ⟨rfl, rfl⟩) | (go_at_call 101; refine (spec_validEnd _ _ _).mono ?_; rintro e w1 ⟨rfl, hx⟩; have hc := hx.cells; have hf := hx.frozens; have hy := hx.size; (try simp at hy); have hz : w.heap.size < w1.heap.size := (by omega)) | (go_at_call 102; refine (spec_allIn _ _ _ L _ _ _ (by exact hs.ext (by repeat (first | (with_reducible exact Ext.refl _) | (with_reducible assumption) | (with_reducible refine Ext.alloc ?_ _) | (with_reducible refine Ext.drewN ?_ _) | (with_reducible refine Ext.drew ?_) | (with_reducible refine Ext.setCell ?_ ?_ _; rotate_left; (simp only []; omega)) | (with_reducible refine Ext.trans ?_ (by assumption)))))).mono ?_; rintro e w' ⟨rfl, rfl⟩))
  all_goals (go_ret; exact ⟨ret_bool (by simp [*] <;> intros <;> omega), (by repeat (first | (with_reducible exact Ext.refl _) | (with_reducible assumption) | (with_reducible refine Ext.alloc ?_ _) | (with_reducible refine Ext.drewN ?_ _) | (with_reducible refine Ext.drew ?_) | (with_reducible refine Ext.setCell ?_ ?_ _; rotate_left; (simp only []; omega)) | (with_reducible refine Ext.trans ?_ (by assumption))))⟩)
end Go.Proofs.Ytafmomocmodbhaa
/- Laws on slices of the call's own: append from a slice that reads as a list; copies. -/
namespace Go.Proofs.Ytafmomocmodbhaa
set_option linter.unusedVariables false
set_option linter.unusedSimpArgs false
open Go.RowKit

/-- What the table of types says of a slice type t with elements E of k cells. -/
def EI (P : Program) (t E : TypeId) (k bytes : Nat) : Prop :=
  P.underlying t = some (.slice E) ∧ ∃ i z, P.info? E = some i ∧ i.zero = some z ∧ i.size = k ∧ i.bytes = bytes ∧ z.cells.size = k ∧ 0 < k
theorem EI.mk {P : Program} {t E : TypeId} {k bytes : Nat} {z : Value} (h : P.underlying t = some (.slice E)) (hi : (P.info? E).map (fun i => (i.zero, i.size, i.bytes)) = some (some z, k, bytes))
    (hz : z.cells.size = k) (hk : 0 < k) : EI P t E k bytes := by
  obtain ⟨i, h1, h2, h3, h4⟩ := info_parts hi
  exact ⟨h, i, z, h1, h2, h3, h4, hz, hk⟩

section
variable {P : Program} {t E : TypeId} {k bytes : Nat} {α : Type} {enc : α → List Value}
theorem run_append_sl (w : World) (hE : EI P t E k bytes) (hk : ∀ x, (enc x).length = k) (h1 : ∀ x, ∀ u ∈ enc x, u.oneCell' = true) (ty : TypeId) (base : Nat) (v : Value) (n : Nat) (xs : List Value) (hown : w.ownsRow base E k v n xs)
    (A : Option Addr) (m c : Nat) (L : List α) (hs : Sl enc k w A m c L) (h63 : n + m ≤ maxLen) (hbytes : (n + m) * bytes ≤ 140737488355328) (hbase : base ≤ w.heap.size) :
    ∃ a' c' w', (Builtin.append_ #[t, t] ty #[v, .slice A m c]).run P w = .ok (.slice a' (n + m) c') w' ∧ w'.ownsRow base E k (.slice a' (n + m) c') (n + m) (xs ++ L.flatMap enc) ∧ w.grownBy w' v.ownBlock ∧
      ((Value.slice a' (n + m) c').ownBlock = v.ownBlock ∨ (Value.slice a' (n + m) c').ownBlock = some w.heap.size) := by
  obtain ⟨ht, i, z, hi, hz, hsz, hby, hzs, hk0⟩ := hE
  cases A with
  | none =>
    have hc := hs.nil rfl
    have hm : m = 0 := by have := hs.le; omega
    subst hm
    subst hc
    have hL := hs.zero
    subst hL
    have hr : (Builtin.append_ #[t, t] ty #[v, .slice none 0 0]).run P w = .ok v w := run_append_owned_none (P := P) w base t ty E i k ht hi v n xs hown
    rcases hown.2 with ⟨rfl, rfl⟩ | ⟨g, cap, cur, rfl, r⟩
    · exact ⟨none, 0, w, hr, by simpa using hown, World.grownBy.refl w _, .inl rfl⟩
    · exact ⟨some ⟨g, 0, none⟩, cap, w, hr, by simpa using hown, World.grownBy.refl w _, .inl rfl⟩
  | some ad =>
    have hl : (L.flatMap enc).length = m * k := by rw [flat_len hk, hs.len]
    have hcells : ∀ j u, (L.flatMap enc)[j]? = some u → w.cell? (ad.add j) = some u := by
      intro j u hu
      have hj : j < m * k := by rw [← hl]; exact (List.getElem?_eq_some_iff.1 hu).1
      have hm : 0 < m := by
        rcases Nat.eq_zero_or_pos m with h | h
        · rw [h, Nat.zero_mul] at hj; omega
        · exact h
      obtain ⟨b, off, he, _, hc⟩ := hs.at_ hm
      injection he with he
      subst he
      have hq : j / k < L.length := by rw [hs.len]; exact Nat.div_lt_of_lt_mul (by rw [Nat.mul_comm]; exact hj)
      have hr : j % k < k := Nat.mod_lt _ hk0
      have hjj : j / k * k + j % k = j := by rw [Nat.mul_comm]; exact Nat.div_add_mod j k
      have hx := List.getElem?_eq_getElem hq
      have hv : (enc L[j / k])[j % k]? = some ((enc L[j / k])[j % k]'(by rw [hk]; exact hr)) := List.getElem?_eq_getElem _
      have h2 := flat_at hk L (j / k) _ hx (j % k) _ hv
      rw [hjj, hu] at h2
      have h3 := hc (j / k) _ hx (j % k) _ hv
      rw [hjj, ← h2] at h3
      have hadd : (⟨b, off, none⟩ : Addr).add j = ⟨b, off + j, none⟩ := by unfold Addr.add; split <;> simp_all
      rw [hadd]
      exact h3
    have h1' : ∀ u ∈ L.flatMap enc, u.oneCell' = true := by
      intro u hu
      obtain ⟨x, _, hx⟩ := List.mem_flatMap.1 hu
      exact h1 x u hx
    obtain ⟨v', w', hr, h2, h3, h4, h5⟩ := run_append_own_at (P := P) w base t ty E i z k bytes ht hi hz hsz hby hzs hk0 v n xs hown ad m c (L.flatMap enc) hl hcells h1' h63 hbytes hbase
    have hform : ∃ a' c', v' = .slice a' (n + m) c' := by
      rcases h2.2 with ⟨rfl, h0⟩ | ⟨g, cap, cur, rfl, r⟩
      · exact ⟨none, 0, by rw [h0]⟩
      · exact ⟨_, _, rfl⟩
    obtain ⟨a', c', rfl⟩ := hform
    exact ⟨a', c', w', hr, h2, h3, h5⟩
theorem wpList_append_sl {ops : Array Oper} {rest : List Oper} {o : Oper} {a : Act} {Q : Exit → Act → World → Prop} (w : World) (hgd : o.guard = none) (s x : Operand) 
    (ho : o.op = .call { callee := .builtin .append, args := #[s, x], argTypes := #[t, t] }) (hE : EI P t E k bytes) (hk : ∀ x, (enc x).length = k) (h1 : ∀ x, ∀ u ∈ enc x, u.oneCell' = true)
    (base : Nat) (v : Value) (n : Nat) (xs : List Value) (hs : a.eval s = v) (hown : w.ownsRow base E k v n xs)
    (A : Option Addr) (m c : Nat) (L : List α) (hx : a.eval x = .slice A m c) (hsl : Sl enc k w A m c L) (h63 : n + m ≤ maxLen) (hbytes : (n + m) * bytes ≤ 140737488355328) (hbase : base ≤ w.heap.size)
    (h : ∀ a' c' w', w'.ownsRow base E k (.slice a' (n + m) c') (n + m) (xs ++ L.flatMap enc) → w.grownBy w' v.ownBlock →
      ((Value.slice a' (n + m) c').ownBlock = v.ownBlock ∨ (Value.slice a' (n + m) c').ownBlock = some w.heap.size) → wpList P ops Q rest (a.put o.dst (.slice a' (n + m) c')) w') : wpList P ops Q (o :: rest) a w := by
  obtain ⟨a', c', w', hr, h2, h3, h4⟩ := run_append_sl (P := P) w hE hk h1 o.type base v n xs hown A m c L hsl h63 hbytes hbase
  refine wpList_plain hgd fun _ hK => ?_
  unfold Oper.wp execOp
  simp only [ho, resolve, invoke, builtin, Sem.run_bind, Sem.run_pure, Result.andThen_ok, List.map_toArray, List.map_cons, List.map_nil, hs, hx, hr]
  exact hK _ _ (h a' c' w' h2 h3 h4)
/-- A new empty row: what '[]T{}' makes. -/
theorem own_empty (w : World) (base : Nat) {b : Nat} (hb : b = w.heap.size) (h : base ≤ w.heap.size) : (w.alloc (.cells #[] E)).ownsRow base E k (.slice (some ⟨b, 0, none⟩) 0 0) 0 [] := by
  subst hb
  have := World.ownsRow_made (base := base) (e := E) (size := k) w #[] 0 h (by simp [maxLen]) (by simp)
  exact this
end
theorem encI_one : ∀ x, ∀ u ∈ encI x, u.oneCell' = true := by
  intro x u hu
  simp only [encI, List.mem_singleton] at hu
  subst hu; rfl
theorem encM_one : ∀ x, ∀ u ∈ encM x, u.oneCell' = true := by
  intro x u hu
  simp only [encM, List.mem_cons, List.not_mem_nil, or_false] at hu
  rcases hu with rfl | rfl | rfl | rfl <;> rfl
theorem encC_one : ∀ x, ∀ u ∈ encC x, u.oneCell' = true := by
  intro x u hu
  simp only [encC, List.mem_cons, List.not_mem_nil, or_false] at hu
  rcases hu with rfl | rfl | rfl <;> rfl
theorem eiI : EI Try.prog 30 3 1 8 := EI.mk (z := .int .i64 0) Try.underlying30 (by kernel_rfl) rfl (by omega)
/-- append onto a slice without room behind it: a new row. -/
theorem run_append_full {P : Program} {t E : TypeId} {k bytes : Nat} {α : Type} {enc : α → List Value} (w : World) (hE : EI P t E k bytes) (hk : ∀ x, (enc x).length = k) (ty : TypeId)
    (A : Option Addr) (n : Nat) (L : List α) (hs : Sl enc k w A n n L) (x : α) (b : Nat) (hx : ∀ j u, (enc x)[j]? = some u → w.cell? ⟨b, j, none⟩ = some u) (hn : n ≤ 1048576) (hby : bytes ≤ 1024) :
    ∃ a' c' w', (Builtin.append_ #[t, t] ty #[.slice A n n, .slice (some ⟨b, 0, none⟩) 1 1]).run P w = .ok (.slice a' (n + 1) c') w' ∧ Ow E enc k w.heap.size w' a' (n + 1) c' (L ++ [x]) ∧ Ext w w' := by
  obtain ⟨ht, i, z, hi, hz, hsz, hbs, hzs, hk0⟩ := hE
  have hnews : ∀ j u, (enc x)[j]? = some u → w.cell? ((⟨b, 0, none⟩ : Addr).add j) = some u := by
    intro j u hu
    have hadd : (⟨b, 0, none⟩ : Addr).add j = ⟨b, j, none⟩ := by unfold Addr.add; split <;> simp_all
    rw [hadd]; exact hx j u hu
  have hln : (enc x).length = 1 * i.size := by rw [hk, hsz]; omega
  have hge := grownCap_ge w (n + 1) n E
  have hle := grownCap_le_maxLen w (n + 1) n E (by simp only [maxLen]; omega)
  have hfl : (L.flatMap enc).length = n * k := by rw [flat_len hk, hs.len]
  have hbb : (n + 1) * i.bytes ≤ 140737488355328 := by rw [hbs]; exact Nat.le_trans (Nat.mul_le_mul (show n + 1 ≤ 1048577 by omega) hby) (by omega)
  have fin : ∀ (old : Nat) (olds : List Value), old < n + 1 → olds = L.flatMap enc →
      Ow E enc k w.heap.size (w.drew.alloc (.cells (olds.toArray ++ (enc x).toArray ++ Builtin.zeroCells z.cells (grownCap w (n + 1) old E - (n + 1))) E)) (some ⟨w.heap.size, 0, none⟩) (n + 1) (grownCap w (n + 1) old E) (L ++ [x]) := by
    intro old olds _ ho
    subst ho
    have hge := grownCap_ge w (n + 1) old E
    have hle := grownCap_le_maxLen w (n + 1) old E (by simp only [maxLen]; omega)
    refine ⟨by simp [hs.len], .inr ⟨w.heap.size, _, rfl, Nat.le_refl _, heap_alloc_new w.drew _, hge, hle, ?_, ?_⟩⟩
    · simp only [Array.size_append, List.size_toArray, size_zeroCells, hzs, hfl, hk]
      have e : grownCap w (n + 1) old E * k = n * k + k + (grownCap w (n + 1) old E - (n + 1)) * k := by
        have : grownCap w (n + 1) old E = (n + 1) + (grownCap w (n + 1) old E - (n + 1)) := by omega
        conv => lhs; rw [this]
        rw [Nat.add_mul, Nat.add_mul, Nat.one_mul]
      omega
    · simp only [Array.toList_append, List.flatMap_append, List.flatMap_cons, List.flatMap_nil, List.append_nil]
      have e : (L.flatMap enc ++ enc x).length = (n + 1) * k := by rw [List.length_append, hfl, hk, Nat.add_mul, Nat.one_mul]
      rw [← e]
      exact List.take_left
  cases A with
  | none =>
    have hc := hs.nil rfl
    have hm : n = 0 := by omega
    subst hm
    have hL := hs.zero
    subst hL
    have hr := run_append_nil (P := P) w t ty E i z ht hi hz ⟨b, 0, none⟩ 1 1 (enc x) hln hnews (by omega) (by omega) (by rw [hbs]; omega)
    have hf := fin 0 [] (by omega) rfl
    simp only [Nat.zero_add, List.nil_append, Array.empty_append] at hf ⊢
    exact ⟨_, _, _, hr, hf, ((Ext.refl w).drew).alloc _⟩
  | some ad =>
    have hcells : ∀ j u, (L.flatMap enc)[j]? = some u → w.cell? (ad.add j) = some u := by
      intro j u hu
      have hj : j < n * k := by rw [← hfl]; exact (List.getElem?_eq_some_iff.1 hu).1
      have hm : 0 < n := by
        rcases Nat.eq_zero_or_pos n with h | h
        · rw [h, Nat.zero_mul] at hj; omega
        · exact h
      obtain ⟨b', off, he, _, hc⟩ := hs.at_ hm
      injection he with he
      subst he
      have hq : j / k < L.length := by rw [hs.len]; exact Nat.div_lt_of_lt_mul (by rw [Nat.mul_comm]; exact hj)
      have hr : j % k < k := Nat.mod_lt _ hk0
      have hjj : j / k * k + j % k = j := by rw [Nat.mul_comm]; exact Nat.div_add_mod j k
      have hx' := List.getElem?_eq_getElem hq
      have hv : (enc L[j / k])[j % k]? = some ((enc L[j / k])[j % k]'(by rw [hk]; exact hr)) := List.getElem?_eq_getElem _
      have h2 := flat_at hk L (j / k) _ hx' (j % k) _ hv
      rw [hjj, hu] at h2
      have h3 := hc (j / k) _ hx' (j % k) _ hv
      rw [hjj, ← h2] at h3
      have hadd : (⟨b', off, none⟩ : Addr).add j = ⟨b', off + j, none⟩ := by unfold Addr.add; split <;> simp_all
      rw [hadd]
      exact h3
    have hr := run_append_grow (P := P) w t ty E i z ht hi hz ad n n (L.flatMap enc) (by rw [hfl, hsz]) hcells ⟨b, 0, none⟩ 1 1 (enc x) hln hnews (by omega) (by omega) (growslice_fits (by omega) hbb)
    exact ⟨_, _, _, hr, fin n (L.flatMap enc) (by omega) rfl, ((Ext.refl w).drew).alloc _⟩
theorem spec_copyInts (a : Option Addr) (n c : Nat) (L : List Int) (w : World) (hs : Sl encI 1 w a n c L) (hn : n ≤ 1048576) :
    Calls Try.prog 141 #[.slice a n c] w fun e w' => ∃ a' c', e = .returned (.slice a' n c') ∧ w'.ownsRow w.heap.size 3 1 (.slice a' n c') n (L.flatMap encI) ∧ Ext w w' := by
  go_enter Try.func141, Try.ntmps141
  go_wp2_with (at_builtin; refine wpList_append_sl _ rfl _ _ rfl eiI encI_len encI_one w.heap.size (.slice (some ⟨w.heap.size, 0, none⟩) 0 0) 0 [] rfl (own_empty w w.heap.size rfl (Nat.le_refl _)) a n c L rfl (by exact hs.ext (by repeat (first | (with_reducible exact Ext.refl _) | (with_reducible assumption) | (with_reducible refine Ext.alloc ?_ _) | (with_reducible refine Ext.drewN ?_ _) | (with_reducible refine Ext.drew ?_) | (with_reducible refine Ext.setCell ?_ ?_ _; rotate_left; (simp only []; omega)) | (with_reducible refine Ext.trans ?_ (by assumption))))) (by simp only [maxLen]; omega) (by omega) (by simp) ?_; intro a' c' w1 hown hg hat; simp only [Nat.zero_add, List.nil_append] at hown)
  go_ret
  exact ⟨a', c', by simp, hown, Ext.own (by repeat (first | (with_reducible exact Ext.refl _) | (with_reducible assumption) | (with_reducible refine Ext.alloc ?_ _) | (with_reducible refine Ext.drewN ?_ _) | (with_reducible refine Ext.drew ?_) | (with_reducible refine Ext.setCell ?_ ?_ _; rotate_left; (simp only []; omega)) | (with_reducible refine Ext.trans ?_ (by assumption)))) hg (Nat.le_refl _)⟩
theorem Clone_int (a : Option Addr) (n c : Nat) (L : List Int) (w : World) (hs : Sl encI 1 w a n c L) (hn : n ≤ 1048576) :
    Calls Try.prog 150 #[.slice a n c] w fun e w' => ∃ a' c', e = .returned (.slice a' n c') ∧ w'.ownsRow w.heap.size 3 1 (.slice a' n c') n (L.flatMap encI) ∧ Ext w w' := by
  have hq := fun (W : World) => Lib.run_eql_slice_nil (P := Try.prog) W 30 3 a n c 0 0 Try.underlying30
  cases a with
  | none =>
    have hc := hs.nil rfl
    have h0 : n = 0 := by have := hs.le; omega
    subst h0; subst hc
    have hL := hs.zero
    subst hL
    go_enter Try.func150, Try.ntmps150
    go_wp2
    go_ret
    exact ⟨none, 0, rfl, World.ownsRow_nil _ _ _ _, Ext.refl _⟩
  | some ad =>
    go_enter Try.func150, Try.ntmps150
    go_wp2_with (at_builtin; refine wpList_append_sl _ rfl _ _ rfl eiI encI_len encI_one w.heap.size (.slice (some ⟨w.heap.size, 0, none⟩) 0 0) 0 [] rfl (own_empty w w.heap.size rfl (Nat.le_refl _)) (some ad) n c L rfl (by exact hs.ext (by repeat (first | (with_reducible exact Ext.refl _) | (with_reducible assumption) | (with_reducible refine Ext.alloc ?_ _) | (with_reducible refine Ext.drewN ?_ _) | (with_reducible refine Ext.drew ?_) | (with_reducible refine Ext.setCell ?_ ?_ _; rotate_left; (simp only []; omega)) | (with_reducible refine Ext.trans ?_ (by assumption))))) (by simp only [maxLen]; omega) (by omega) (by simp) ?_; intro a' c' w1 hown hg hat; simp only [Nat.zero_add, List.nil_append] at hown)
    go_ret
    exact ⟨a', c', by simp, hown, Ext.own (by repeat (first | (with_reducible exact Ext.refl _) | (with_reducible assumption) | (with_reducible refine Ext.alloc ?_ _) | (with_reducible refine Ext.drewN ?_ _) | (with_reducible refine Ext.drew ?_) | (with_reducible refine Ext.setCell ?_ ?_ _; rotate_left; (simp only []; omega)) | (with_reducible refine Ext.trans ?_ (by assumption)))) hg (Nat.le_refl _)⟩
theorem Clip_int (a : Option Addr) (n c : Nat) (L : List Int) (base : Nat) (w : World) (hs : Ow 3 encI 1 base w a n c L) (hn : n ≤ 1048576) :
    Calls Try.prog 119 #[.slice a n c] w fun e w' => e = .returned (.slice a n n) ∧ w = w' := by
  have hle : n ≤ c := (hs.sl encI_len).le
  obtain ⟨hl, ⟨rfl, h0, rfl⟩ | ⟨g, cur, rfl, hb, hg, hnc, hcm, hcs, ht⟩⟩ := hs
  · subst h0
    go_enter Try.func119, Try.ntmps119
    go_wp2
    go_ret
    exact ⟨rfl, rfl⟩
  · clear ht hcs hl hg
    go_enter Try.func119, Try.ntmps119
    go_wp2
    all_goals (go_ret; exact ⟨by simp, rfl⟩)
theorem impl_clone_int (a : Option Addr) (n c : Nat) (L : List Int) (w : World) (hs : Sl encI 1 w a n c L) (hn : n ≤ 1048576) :
    Calls Try.prog 136 #[.slice a n c] w fun e w' => ∃ a', e = .returned (.slice a' n n) ∧ Ow 3 encI 1 w.heap.size w' a' n n L ∧ Ext w w' := by
  go_enter Try.func136, Try.ntmps136
  go_wp2_with fail
  refine (Clone_int _ _ _ L _ hs hn).mono ?_
  rintro e w1 ⟨a', c', rfl, hown, hx⟩
  have how := Ow.of_row hown encI_len (by omega)
  go_wp2_with fail
  refine (Clip_int _ _ _ L _ _ how hn).mono ?_
  rintro e w2 ⟨rfl, rfl⟩
  go_wp2
  go_ret
  exact ⟨a', rfl, how.clip, hx⟩
end Go.Proofs.Ytafmomocmodbhaa
/- Contracts of the reader of codes: newReader, pick, one. -/
namespace Go.Proofs.Ytafmomocmodbhaa
set_option linter.unusedVariables false
set_option linter.unusedSimpArgs false
open Go.RowKit

/-- Block B is a reader that has read at most m numbers; it and its bytes lie below block n0. -/
structure Rd (n0 : Nat) (w : World) (B : Nat) (m : Int) : Prop where
  lt : B < n0
  le : n0 ≤ w.heap.size
  ex : ∃ p a n c zs, 0 ≤ p ∧ p ≤ m ∧ w.heap[B]? = some (.cells #[.slice a n c, .int .i64 p] 135 (0, 0)) ∧ Sl encU 1 w a n c zs ∧ (∀ z ∈ zs, 0 ≤ z ∧ z ≤ 255) ∧ n ≤ 2000 ∧
    (0 < n → ∀ x, a = some x → x.block < n0 ∧ x.block ≠ B)

theorem Rd.mono {n0 : Nat} {w : World} {B : Nat} {m m' : Int} (h : Rd n0 w B m) (hm : m ≤ m') : Rd n0 w B m' := by
  obtain ⟨h1, h2, p, a, n, c, zs, h3, h4, r⟩ := h
  exact ⟨h1, h2, p, a, n, c, zs, h3, by omega, r⟩
theorem Rd.keep {n0 : Nat} {w w' : World} {B : Nat} {m : Int} (h : Rd n0 w B m) (hs : w.heap.size ≤ w'.heap.size) (hb : ∀ k, k < n0 → w'.heap[k]? = w.heap[k]?) : Rd n0 w' B m := by
  obtain ⟨h1, h2, p, a, n, c, zs, h3, h4, h5, h6, h7, h8, h9⟩ := h
  refine ⟨h1, by omega, p, a, n, c, zs, h3, h4, (hb B h1).trans h5, h6.keep hs ?_, h7, h8, h9⟩
  intro b off hn e _
  exact hb b (h9 hn _ e).1
theorem Rd.ext {n0 : Nat} {w w' : World} {B : Nat} {m : Int} (h : Rd n0 w B m) (hx : Ext w w') : Rd n0 w' B m := h.keep hx.size fun k hk => hx.block k (by have := h.le; omega)
theorem Rd.alloc {n0 : Nat} {w : World} {B : Nat} {m : Int} (h : Rd n0 w B m) (o : Obj) : Rd n0 (w.alloc o) B m := h.ext ((Ext.refl w).alloc o)
theorem Rd.drewN {n0 : Nat} {w : World} {B : Nat} {m : Int} (h : Rd n0 w B m) (k : Nat) : Rd n0 (w.drewN k) B m := h.ext ((Ext.refl w).drewN k)
theorem Rd.drew {n0 : Nat} {w : World} {B : Nat} {m : Int} (h : Rd n0 w B m) : Rd n0 w.drew B m := h.drewN 1
theorem Rd.setCell {n0 : Nat} {w : World} {B : Nat} {m : Int} (h : Rd n0 w B m) {p : Addr} (hp : n0 ≤ p.block) (u : Value) : Rd n0 (w.setCell p u) B m :=
  h.keep (by simp [World.setCell]) fun k hk => Below.heap_setCell w p u k (by omega)

/-- Below n0 nothing has turned. -/
structure Since (n0 : Nat) (w w' : World) : Prop where
  le : n0 ≤ w.heap.size
  size : w.heap.size ≤ w'.heap.size
  block : ∀ k, k < n0 → w'.heap[k]? = w.heap[k]?
theorem Since.refl {n0 : Nat} {w : World} (h : n0 ≤ w.heap.size) : Since n0 w w := ⟨h, Nat.le_refl _, fun _ _ => rfl⟩
theorem Since.ext {n0 : Nat} {a b c : World} (h : Since n0 a b) (hx : Ext b c) : Since n0 a c :=
  ⟨h.le, Nat.le_trans h.size hx.size, fun k hk => (hx.block k (by have := h.le; have := h.size; omega)).trans (h.block k hk)⟩
theorem Since.alloc {n0 : Nat} {a b : World} (h : Since n0 a b) (o : Obj) : Since n0 a (b.alloc o) := h.ext ((Ext.refl b).alloc o)
theorem Since.drewN {n0 : Nat} {a b : World} (h : Since n0 a b) (k : Nat) : Since n0 a (b.drewN k) := h.ext ((Ext.refl b).drewN k)
theorem Since.drew {n0 : Nat} {a b : World} (h : Since n0 a b) : Since n0 a b.drew := h.drewN 1
theorem Since.setCell {n0 : Nat} {a b : World} (h : Since n0 a b) {p : Addr} (hp : n0 ≤ p.block) (u : Value) : Since n0 a (b.setCell p u) :=
  ⟨h.le, Nat.le_trans h.size (by simp [World.setCell]), fun k hk => (Below.heap_setCell b p u k (by omega)).trans (h.block k hk)⟩
theorem Rd.to {n0 : Nat} {w w' : World} {B : Nat} {m : Int} (h : Rd n0 w B m) (hs : Since n0 w w') : Rd n0 w' B m := h.keep hs.size hs.block

theorem Sl.bytes {w : World} {a : Option Addr} {n c : Nat} {L : List Int} (h : Sl encU 1 w a n c L) :
    (n = 0 ∧ L = []) ∨ (0 < n ∧ ∃ b off, a = some ⟨b, off, none⟩ ∧ b < w.heap.size ∧ ∀ i : Nat, i < n → w.cell? ⟨b, off + i, none⟩ = some (.int .u8 (nth L i))) := by
  rcases h.form with h0 | ⟨h0, b, off, ha, hb, hc⟩
  · exact .inl h0
  · refine .inr ⟨h0, b, off, ha, hb, fun i hi => ?_⟩
    have := hc i _ (nth_some (by rw [h.len]; exact hi)) 0 (.int .u8 (nth L i)) rfl
    simpa using this

theorem xor_nonneg {a b : Int} (ha : 0 ≤ a) (ha' : a < 9223372036854775808) (hb : 0 ≤ b) (hb' : b < 9223372036854775808) : 0 ≤ bits .xor .i64 a b := by
  obtain ⟨x, rfl⟩ := Int.eq_ofNat_of_zero_le ha
  obtain ⟨y, rfl⟩ := Int.eq_ofNat_of_zero_le hb
  have hx : x ^^^ y < 2 ^ 63 := Nat.xor_lt_two_pow (by omega) (by omega)
  have e1 : (BitVec.ofInt 64 (x : Int)).toNat = x := by rw [BitVec.ofInt_natCast, BitVec.toNat_ofNat]; exact Nat.mod_eq_of_lt (by omega)
  have e2 : (BitVec.ofInt 64 (y : Int)).toNat = y := by rw [BitVec.ofInt_natCast, BitVec.toNat_ofNat]; exact Nat.mod_eq_of_lt (by omega)
  show 0 ≤ IntKind.i64.wrap ((BitVec.ofInt 64 (x : Int) ^^^ BitVec.ofInt 64 (y : Int)).toNat : Int)
  rw [BitVec.toNat_xor, e1, e2, IntKind.wrap_i64]
  omega
theorem pick_any (n0 B : Nat) (m n : Int) (w : World) (hr : Rd n0 w B m) (hm : m + 1 ≤ 1000000) (h1 : 1 ≤ n) (hn : n ≤ 1000000) :
    Calls Try.prog 73 #[.pointer (some ⟨B, 0, none⟩), .int .i64 n] w fun e w' => ∃ x, e = .returned (.int .i64 x) ∧ 0 ≤ x ∧ x < n ∧ Rd n0 w' B (m + 1) ∧ RExt B w w' := by
  obtain ⟨hB, hle, p, a, l, c, zs, hp0, hpm, hblk, hs, hz, hl, hne⟩ := hr
  have hBw : B < w.heap.size := by omega
  have hc0 : w.cell? ⟨B, 0, none⟩ = some (.slice a l c) := by rw [cell_of_row w B 0 _ _ _ hblk]; rfl
  have hc1 : w.cell? ⟨B, 1, none⟩ = some (.int .i64 p) := by rw [cell_of_row w B 1 _ _ _ hblk]; rfl
  have hf1 : w.frozen? ⟨B, 1, none⟩ = false := frozen_of_row w B 1 _ _ hblk
  have hc1' : ∀ u, (w.setCell ⟨B, 1, none⟩ u).cell? ⟨B, 0, none⟩ = some (.slice a l c) := by intro u; rw [World.cell?_setCell_other w _ _ _ (by simp)]; exact hc0
  have fin : ∀ x : Int, Rd n0 (w.setCell ⟨B, 1, none⟩ (.int .i64 (p + 1))) B (m + 1) := by
    intro _
    refine ⟨hB, by simp [World.setCell]; omega, p + 1, a, l, c, zs, by omega, by omega, ?_, ?_, hz, hl, hne⟩
    · have := heap_setCell_same w B 1 _ _ (.int .i64 (p + 1)) hblk
      simpa using this
    · exact hs.keep (by simp [World.setCell]) fun b off hn e _ => Below.heap_setCell w _ _ b (by have := (hne hn _ e).2; simpa using this)
  have hx : RExt B w (w.setCell ⟨B, 1, none⟩ (.int .i64 (p + 1))) := (RExt.refl B w).setCell (.inl rfl) _
  have FX := Lib.hid (And.intro (fin 0) hx)
  have hle2 := hs.le
  have hmax := hs.max
  clear fin hx hblk
  have HNE := Lib.hid (fun (h0 : 0 < l) x (h : a = some x) => (hne h0 x h).2)
  rcases hs.bytes with ⟨h0, hL⟩ | ⟨h0, b, off, ha, hb, hc⟩
  · subst h0
    clear hs hL hz hne
    have d1 : decide (n < 1) = false := by simp; omega
    go_enter Try.func73, Try.ntmps73
    go_wp2
    go_ret
    exact ⟨0, by simp, by omega, by omega, FX.out.1, FX.out.2⟩
  · subst ha
    have hz' : ∀ i : Nat, i < l → 0 ≤ nth zs i ∧ nth zs i ≤ 255 := fun i hi => hz _ (nth_mem (by rw [hs.len]; exact hi))
    clear hs hz hne
    have hcs : ∀ u, ∀ i : Nat, i < l → (w.setCell ⟨B, 1, none⟩ u).cell? ⟨b, off + i, none⟩ = some (.int .u8 (nth zs i)) := by
      intro u i hi
      rw [World.cell?_setCell_other w _ _ _ (by intro e; injection e with e1 _; exact HNE.out h0 _ rfl e1.symm)]
      exact hc i hi
    have d1 : decide (n < 1) = false := by simp; omega
    by_cases hlt : p < l
    · obtain ⟨q, rfl⟩ := Int.eq_ofNat_of_zero_le hp0
      have hq : q < l := by omega
      have hzq := hz' q hq
      have hck := fun u => hcs u q hq
      have g0 : 0 ≤ nth zs q := hzq.1
      have g1 : nth zs q ≤ 255 := hzq.2
      have g2 : ¬ n = 0 := by omega
      have g3 : (nth zs q).tmod n = nth zs q % n := Int.tmod_eq_emod_of_nonneg g0
      have g4 : 0 ≤ nth zs q % n := Int.emod_nonneg _ g2
      have g5 : nth zs q % n < n := Int.emod_lt_of_pos _ (by omega)
      clear hz' hcs hc hzq
      have G3 := Lib.hid g3
      clear g3
      go_enter Try.func73, Try.ntmps73
      go_wp2
      go_ret
      exact ⟨_, rfl, g4, g5, FX.out.1, FX.out.2⟩
    · obtain ⟨q, rfl⟩ := Int.eq_ofNat_of_zero_le hp0
      have hq : q ≤ 1000000 := by omega
      have hl0 : ¬ (l : Int) = 0 := by omega
      have hl1 : ¬ l = 0 := by omega
      obtain ⟨i1, hi1, t1⟩ : ∃ i : Nat, i < l ∧ ((q : Int)).tmod (l : Int) = (i : Int) := ⟨q % l, Nat.mod_lt _ h0, by rw [Int.tmod_eq_emod_of_nonneg (by omega)]; rfl⟩
      obtain ⟨i2, hi2, t2⟩ : ∃ i : Nat, i < l ∧ ((q : Int) * 7 + 3).tmod (l : Int) = (i : Int) := ⟨(q * 7 + 3) % l, Nat.mod_lt _ h0, by rw [Int.tmod_eq_emod_of_nonneg (by omega)]; rfl⟩
      obtain ⟨d, hd, t3⟩ : ∃ d : Nat, d ≤ q ∧ ((q : Int)).tdiv (l : Int) = (d : Int) := ⟨q / l, Nat.div_le_self _ _, by rw [Int.tdiv_eq_ediv_of_nonneg (by omega)]; rfl⟩
      have k1 := fun u => hcs u i1 hi1
      have k2 := fun u => hcs u i2 hi2
      obtain ⟨z1, hz1, a1, b1⟩ : ∃ z, nth zs i1 = z ∧ 0 ≤ z ∧ z ≤ 255 := ⟨_, rfl, hz' i1 hi1⟩
      obtain ⟨z2, hz2, a2, b2⟩ : ∃ z, nth zs i2 = z ∧ 0 ≤ z ∧ z ≤ 255 := ⟨_, rfl, hz' i2 hi2⟩
      simp only [hz1, hz2] at k1 k2
      clear hz' hcs hc hz1 hz2
      have r1 : IntKind.i64.wrap z1 = z1 := IntWalk.i64_in _ (by omega)
      have r2 : IntKind.i64.wrap z2 = z2 := IntWalk.i64_in _ (by omega)
      have r3 : IntKind.i64.wrap (d : Int) = (d : Int) := IntWalk.i64_in _ (by omega)
      have m1 : IntKind.i64.wrap ((q : Int) * 7) = (q : Int) * 7 := IntWalk.i64_in _ (by omega)
      have m2 : IntKind.i64.wrap ((q : Int) * 7 + 3) = (q : Int) * 7 + 3 := IntWalk.i64_in _ (by omega)
      have m3 : IntKind.i64.wrap (z1 * 131) = z1 * 131 := IntWalk.i64_in _ (by omega)
      have m4 : IntKind.i64.wrap (z2 * 1117) = z2 * 1117 := IntWalk.i64_in _ (by omega)
      have m5 : IntKind.i64.wrap (z1 * 131 + z2 * 1117) = z1 * 131 + z2 * 1117 := IntWalk.i64_in _ (by omega)
      have m6 : IntKind.i64.wrap ((q : Int) * 29) = (q : Int) * 29 := IntWalk.i64_in _ (by omega)
      have m7 : IntKind.i64.wrap (z1 * 131 + z2 * 1117 + (q : Int) * 29) = z1 * 131 + z2 * 1117 + (q : Int) * 29 := IntWalk.i64_in _ (by omega)
      have m8 : IntKind.i64.wrap ((d : Int) * 53) = (d : Int) * 53 := IntWalk.i64_in _ (by omega)
      have m9 : IntKind.i64.wrap (z1 * 131 + z2 * 1117 + (q : Int) * 29 + (d : Int) * 53) = z1 * 131 + z2 * 1117 + (q : Int) * 29 + (d : Int) * 53 := IntWalk.i64_in _ (by omega)
      have c1 : (0 : Int) ≤ (i1 : Int) := by omega
      have c2 : (i1 : Int) < (l : Int) := by omega
      have c3 : (0 : Int) ≤ (i2 : Int) := by omega
      have c4 : (i2 : Int) < (l : Int) := by omega
      go_enter Try.func73, Try.ntmps73
      go_wp2
      refine wp_region_ext (by kernel_rfl) (by kernel_rfl) ?_
      repeat' (first
        | (refine ChL.skip (by rfl) ?_
           (try simp only [Act.put, List.setIfInBounds_toArray, List.set_cons_zero, List.set_cons_succ]))
        | (refine' ChL.val (v := _) (by rfl) ?_ ?_
           rotate_left
           · (intro wS hS
              have hcS := Ext.cells hS
              go_simp
              with_reducible rfl)
           (try simp only [Act.put, List.setIfInBounds_toArray, List.set_cons_zero, List.set_cons_succ]))
        | (refine' ChL.call (v := _) (f := _) (args := _) (by rfl) ?_ ?_ ?_
           rotate_left 3
           · (intro wS
              go_simp
              (constructor <;> rfl))
           · (intro wS hS
              first | fail)
           (try simp only [Act.put, List.setIfInBounds_toArray, List.set_cons_zero, List.set_cons_succ]))
        | (refine ChL.nil ?_)
        | (refine' ChL.guard (x := _) ?_ ?_ ?_
           rotate_left
           · (go_simp
              rfl)
           all_goals
             intro hg
             simp only [hg]))
      obtain ⟨X, hX, X0, X1⟩ : ∃ X, z1 * 131 + z2 * 1117 + (q : Int) * 29 + (d : Int) * 53 = X ∧ 0 ≤ X ∧ X ≤ 100000000 := ⟨_, rfl, by omega, by omega⟩
      rw [hX]
      intro w' hw'
      clear t1 t2 t3 m1 m2 m3 m4 m5 m6 m7 m8 m9 r1 r2 r3 hX k1 k2
      go_wp2
      go_ret
      have hX0 := xor_nonneg X0 (by omega) (show 0 ≤ X / 64 by omega) (by omega)
      refine ⟨_, rfl, ?_, ?_, FX.out.1.ext hw', FX.out.2.ext hw'⟩
      · rw [Int.tmod_eq_emod_of_nonneg hX0]; exact Int.emod_nonneg _ (by omega)
      · rw [Int.tmod_eq_emod_of_nonneg hX0]; exact Int.emod_lt_of_pos _ (by omega)
theorem newReader_any (a : Option Addr) (n c : Nat) (zs : List Int) (w : World) (hs : Sl encU 1 w a n c zs) (hz : ∀ z ∈ zs, 0 ≤ z ∧ z ≤ 255) :
    Calls Try.prog 60 #[.slice a n c] w fun e w' => ∃ B, e = .returned (.pointer (some ⟨B, 0, none⟩)) ∧ w.heap.size ≤ B ∧ Rd w'.heap.size w' B 0 ∧ Ext w w' := by
  have hle := hs.le
  have hmax := hs.max
  have hb : 0 < n → ∀ x, a = some x → x.block < w.heap.size := fun h0 x hx => by
    obtain ⟨b, off, e, hb, _⟩ := hs.at_ h0
    rw [e] at hx
    injection hx with hx
    subst hx
    exact hb
  by_cases hn : n ≤ 2000
  · go_enter Try.func60, Try.ntmps60
    go_wp2
    go_ret
    refine ⟨_, rfl, by simp, ⟨by simp, by simp, 0, a, n, c, zs, by omega, by omega, ?_, hs.ext (by repeat (first | (with_reducible exact Ext.refl _) | (with_reducible assumption) | (with_reducible refine Ext.alloc ?_ _) | (with_reducible refine Ext.drewN ?_ _) | (with_reducible refine Ext.drew ?_) | (with_reducible refine Ext.setCell ?_ ?_ _; rotate_left; (simp only []; omega)) | (with_reducible refine Ext.trans ?_ (by assumption)))), hz, hn, fun h0 x hx => ?_⟩, (by repeat (first | (with_reducible exact Ext.refl _) | (with_reducible assumption) | (with_reducible refine Ext.alloc ?_ _) | (with_reducible refine Ext.drewN ?_ _) | (with_reducible refine Ext.drew ?_) | (with_reducible refine Ext.setCell ?_ ?_ _; rotate_left; (simp only []; omega)) | (with_reducible refine Ext.trans ?_ (by assumption))))⟩
    · simpa using heap_alloc_new w _
    · have := hb h0 x hx
      refine ⟨by simp; omega, by simp; omega⟩
  · go_enter Try.func60, Try.ntmps60
    go_wp2
    go_ret
    refine ⟨_, rfl, by simp, ⟨by simp, by simp, 0, a, 2000, c, zs.take 2000, by omega, by omega, ?_, (hs.take (by omega) (by omega) (Nat.le_refl _)).ext (by repeat (first | (with_reducible exact Ext.refl _) | (with_reducible assumption) | (with_reducible refine Ext.alloc ?_ _) | (with_reducible refine Ext.drewN ?_ _) | (with_reducible refine Ext.drew ?_) | (with_reducible refine Ext.setCell ?_ ?_ _; rotate_left; (simp only []; omega)) | (with_reducible refine Ext.trans ?_ (by assumption)))), fun z h => hz z (List.mem_of_mem_take h), by omega, fun _ x hx => ?_⟩, (by repeat (first | (with_reducible exact Ext.refl _) | (with_reducible assumption) | (with_reducible refine Ext.alloc ?_ _) | (with_reducible refine Ext.drewN ?_ _) | (with_reducible refine Ext.drew ?_) | (with_reducible refine Ext.setCell ?_ ?_ _; rotate_left; (simp only []; omega)) | (with_reducible refine Ext.trans ?_ (by assumption))))⟩
    · simpa using heap_alloc_new w _
    · have := hb (by omega) x hx
      refine ⟨by simp; omega, by simp; omega⟩
/-- A slice literal of integers, as it stands. -/
theorem Sl.lits (w : World) (T : TypeId) (cs : Array Value) {b n : Nat} (hb : b = w.heap.size) (hn : cs.size = n) (hn' : n ≤ 1000) (hc : ∀ v ∈ cs.toList, v = .int .i64 (intOf v)) :
    Sl encI 1 (w.alloc (.cells cs T)) (some ⟨b, 0, none⟩) n n (cs.toList.map intOf) := by
  refine ⟨by simp [hn], Nat.le_refl _, by omega, (fun e => by cases e), fun _ => ⟨b, 0, rfl, by simp [hb], fun i x hx j u hu => ?_⟩⟩
  have hj : j = 0 := by
    have := (List.getElem?_eq_some_iff.1 hu).1
    simp [encI] at this
    exact this
  subst hj
  simp [encI] at hu
  subst hu
  rw [World.cell?_alloc_at _ _ _ _ hb]
  rw [List.getElem?_map] at hx
  obtain ⟨v, hv, rfl⟩ := Option.map_eq_some_iff.1 hx
  have := hc v (List.mem_of_getElem? hv)
  simp only [Nat.zero_add, Nat.mul_one, Nat.add_zero]
  rw [← this]
  simpa using hv

theorem one_any (n0 B : Nat) (m : Int) (L : List Int) (a : Option Addr) (n c : Nat) (w : World) (hr : Rd n0 w B m) (hm : m + 1 ≤ 1000000) (hs : Sl encI 1 w a n c L) (hn : 0 < n) (hn' : n ≤ 1000)
    (hab : ∀ x, a = some x → x.block ≠ B) :
    Calls Try.prog 62 #[.pointer (some ⟨B, 0, none⟩), .slice a n c] w fun e w' => ∃ x, e = .returned (.int .i64 x) ∧ x ∈ L ∧ Rd n0 w' B (m + 1) ∧ RExt B w w' := by
  rcases hs.ints with ⟨h0, _⟩ | ⟨_, b, off, rfl, hb, hc⟩
  · omega
  have hle := hs.le
  have hmax := hs.max
  go_enter Try.func62, Try.ntmps62
  go_wp2_with fail
  refine (pick_any n0 B m n _ hr hm (by omega) (by omega)).mono ?_
  rintro e w1 ⟨x, rfl, hx0, hx1, hr1, hx⟩
  obtain ⟨i, rfl⟩ := Int.eq_ofNat_of_zero_le hx0
  have hi : i < n := by omega
  have hcell := ((hs.rext hx hab).ints).resolve_left (by omega)
  obtain ⟨_, b', off', he, _, hc1⟩ := hcell
  injection he with he
  injection he with e1 e2
  subst e1; subst e2
  have hci := hc1 i hi
  have hmem : nth L i ∈ L := nth_mem (by rw [hs.len]; exact hi)
  clear hc hc1 hs
  go_wp2
  go_ret
  exact ⟨_, rfl, hmem, hr1, hx⟩
theorem one_lit (n0 B : Nat) (m : Int) (T : TypeId) (cs : Array Value) (b n : Nat) (W : World) (hr : Rd n0 W B m) (hm : m + 1 ≤ 1000000) (hb : b = W.heap.size) (hn : cs.size = n) (h0 : 0 < n) (hn' : n ≤ 1000)
    (hc : ∀ v ∈ cs.toList, v = .int .i64 (intOf v)) :
    Calls Try.prog 62 #[.pointer (some ⟨B, 0, none⟩), .slice (some ⟨b, 0, none⟩) n n] (W.alloc (.cells cs T)) fun e w' => ∃ x, e = .returned (.int .i64 x) ∧ x ∈ cs.toList.map intOf ∧ Rd n0 w' B (m + 1) ∧ RExt B W w' := by
  refine (one_any n0 B m (cs.toList.map intOf) _ _ _ _ (hr.alloc _) hm (Sl.lits W T cs hb hn hn' hc) h0 hn' ?_).mono ?_
  · intro x hx
    injection hx with hx
    subst hx
    have := hr.lt
    have := hr.le
    simp only []
    omega
  · rintro e w' ⟨x, rfl, hx, h1, h2⟩
    exact ⟨x, rfl, hx, h1, ((RExt.refl B W).alloc _).trans h2⟩
end Go.Proofs.Ytafmomocmodbhaa
/- Contracts: states of flows that are held; the generators for them. -/
namespace Go.Proofs.Ytafmomocmodbhaa
set_option linter.unusedVariables false
set_option linter.unusedSimpArgs false
open Go.RowKit

def busy (s : Int) : Bool := inR s 1 5
def holdFor (s h : Int) : Int := if inR s 0 6 && inR h 1 500 then (if s = 3 then h else if s = 0 ∨ s = 6 then 1 else (h + 3) / 4) else -1

end Go.Proofs.Ytafmomocmodbhaa
/- The laws on states of flows that are held, walked: each returns true; nothing that was there turns. -/
namespace Go.Proofs.Ytafmomocmodbhaa
set_option linter.unusedVariables false
set_option linter.unusedSimpArgs false
open Go.RowKit

theorem holdFor_bd {s h : Int} (h0 : 0 ≤ h) (h1 : h ≤ 501) : -1 ≤ holdFor s h ∧ holdFor s h ≤ 501 := by
  unfold holdFor
  split
  · split
    · omega
    · split <;> omega
  · omega
/-- Bytes that came in. -/
structure Code (w : World) (a : Option Addr) (n c : Nat) : Prop where
  ex : ∃ zs, Sl encU 1 w a n c zs ∧ ∀ z ∈ zs, 0 ≤ z ∧ z ≤ 255
end Go.Proofs.Ytafmomocmodbhaa
/- From what a row's reading says of an argument to the words of the walks. -/
namespace Go.Proofs.Ytafmomocmodbhaa
set_option linter.unusedVariables false
set_option linter.unusedSimpArgs false
open Go.RowKit

/-- What a row's reading says of a slice of integers that came in: nil, or a row of cap cells. -/
def IsRow (k : IntKind) (w : World) (a : Option Addr) (len cap : Nat) (zs : List Int) : Prop :=
  (a = none ∧ len = 0 ∧ cap = 0 ∧ zs = []) ∨
  ∃ x, a = some x ∧ len ≤ cap ∧ cap ≤ maxLen ∧ zs.length = cap ∧ (∀ i, i < zs.length → w.cell? (x.add i) = some (.int k (zs.getD i 0))) ∧ ∀ n ∈ zs, (Lit.int k n).wf = true

theorem sl_of_cells {α : Type} {enc : α → List Value} {k : Nat} (hk0 : 0 < k) (hk : ∀ x, (enc x).length = k) {w : World} {x : Addr} {len cap : Nat} {L : List α} (hl : L.length = len) (hlc : len ≤ cap) (hm : cap ≤ maxLen)
    (hc : ∀ i y, L[i]? = some y → ∀ j u, (enc y)[j]? = some u → w.cell? (x.add (i * k + j)) = some u) : Sl enc k w (some x) len cap L := by
  refine ⟨hl, hlc, hm, (fun e => by cases e), fun h0 => ?_⟩
  obtain ⟨b, off, spot⟩ := x
  have hy : L[0]? = some (L[0]'(by omega)) := List.getElem?_eq_getElem _
  have hu : (enc (L[0]'(by omega)))[0]? = some ((enc (L[0]'(by omega)))[0]'(by rw [hk]; exact hk0)) := List.getElem?_eq_getElem _
  have h00 := hc 0 _ hy 0 _ hu
  have hspot : spot = none := by simpa [Addr.add] using World.cell?_spot h00
  subst hspot
  have hadd : ∀ j, (⟨b, off, none⟩ : Addr).add j = ⟨b, off + j, none⟩ := by intro j; unfold Addr.add; split <;> simp_all
  refine ⟨b, off, rfl, ?_, fun i y hy j u hu => by rw [← hadd]; exact hc i y hy j u hu⟩
  rw [hadd] at h00
  exact World.block_lt_of_cell? w _ h00
theorem code_of_row {w : World} {a : Option Addr} {len cap : Nat} {zs : List Int} (h : IsRow .u8 w a len cap zs) : Code w a len cap := by
  rcases h with ⟨rfl, rfl, rfl, rfl⟩ | ⟨x, rfl, hl, hm, hz, hc, hw⟩
  · exact ⟨⟨[], Sl.nils _, by simp⟩⟩
  · refine ⟨⟨zs.take len, sl_of_cells (k := 1) (by omega) encU_len (by rw [List.length_take]; omega) hl hm ?_, fun z hz' => ?_⟩⟩
    · intro i y hy j u hu
      have hj : j = 0 := by
        have := (List.getElem?_eq_some_iff.1 hu).1
        simp [encU] at this
        exact this
      subst hj
      simp [encU] at hu
      subst hu
      rw [List.getElem?_take] at hy
      split at hy
      · have hi : i < zs.length := (List.getElem?_eq_some_iff.1 hy).1
        have h1 := hc i hi
        rw [List.getD_eq_getElem?_getD, hy] at h1
        simpa using h1
      · cases hy
    · have := hw z (List.mem_of_mem_take hz')
      exact bounds_u8 this
end Go.Proofs.Ytafmomocmodbhaa
/- Contracts of the generators: words, ends, packets. -/
namespace Go.Proofs.Ytafmomocmodbhaa
set_option linter.unusedVariables false
set_option linter.unusedSimpArgs false
open Go.RowKit

theorem someWord_any (n0 B : Nat) (m : Int) (w : World) (hr : Rd n0 w B m) (hm : m + 5 ≤ 1000000) :
    Calls Try.prog 132 #[.pointer (some ⟨B, 0, none⟩)] w fun e w' => ∃ x, e = .returned (.int .i64 x) ∧ 0 ≤ x ∧ x ≤ 65535 ∧ Rd n0 w' B (m + 5) ∧ RExt B w w' := by
  have hnw : n0 ≤ w.heap.size := hr.le
  have hBw : B < w.heap.size := (by have := hr.lt; omega)
  go_enter Try.func132, Try.ntmps132
  go_wp2_with (first | (go_at_call 73; refine (pick_any n0 B _ 250 _ (by exact hr.to (by repeat (first | (with_reducible exact Since.refl hr.le) | (with_reducible refine Since.alloc ?_ _) | (with_reducible refine Since.drew ?_) | (with_reducible refine Since.drewN ?_ _) | (with_reducible refine Since.setCell ?_ ?_ _; rotate_left; (simp only []; omega)) | (with_reducible refine Since.ext ?_ (by assumption))))) (by omega) (by omega) (by omega)).mono ?_; rintro e w1 ⟨x, rfl, hx0, hx1, hr, hx⟩; have hc := hx.cellsFrom hBw; have hf := hx.frozensFrom hBw; have hy := hx.size; (try simp at hy); have hz : w.heap.size ≤ w1.heap.size := (by omega)) | (go_at_call 62; refine (one_lit n0 B _ _ _ _ _ _ (by exact hr.to (by repeat (first | (with_reducible exact Since.refl hr.le) | (with_reducible refine Since.alloc ?_ _) | (with_reducible refine Since.drew ?_) | (with_reducible refine Since.drewN ?_ _) | (with_reducible refine Since.setCell ?_ ?_ _; rotate_left; (simp only []; omega)) | (with_reducible refine Since.ext ?_ (by assumption))))) (by omega) (by simp) (by rfl) (by omega) (by omega) (by simp [intOf])).mono ?_; rintro e w1 ⟨x, rfl, hm, hr, hx⟩; have hc := hx.cellsFrom hBw; have hf := hx.frozensFrom hBw; have hy := hx.size; (try simp at hy); have hz : w.heap.size ≤ w1.heap.size := (by omega); simp [intOf] at hm))
  go_ret
  refine ⟨_, rfl, ?_, ?_, hr.mono (by omega), (by repeat (first | (with_reducible exact RExt.refl _ _) | (with_reducible assumption) | (with_reducible refine RExt.alloc ?_ _) | (with_reducible refine RExt.drewN ?_ _) | (with_reducible refine RExt.drew ?_) | (with_reducible refine RExt.setCell ?_ (.inr ?_) _; rotate_left; (simp only []; omega)) | (with_reducible refine RExt.trans ?_ (by assumption)) | (with_reducible refine RExt.ext ?_ (by assumption))))⟩
  all_goals omega
theorem someEnd_any (n0 B : Nat) (m : Int) (w : World) (hr : Rd n0 w B m) (hm : m + 12 ≤ 1000000) :
    Calls Try.prog 151 #[.pointer (some ⟨B, 0, none⟩)] w fun e w' => ∃ x y, e = .returned (.agg #[.int .i64 x, .int .i64 y]) ∧ 0 ≤ x ∧ x ≤ 65535 ∧ 0 ≤ y ∧ y ≤ 65535 ∧ Rd n0 w' B (m + 12) ∧ RExt B w w' := by
  have hnw : n0 ≤ w.heap.size := hr.le
  have hBw : B < w.heap.size := (by have := hr.lt; omega)
  go_enter Try.func151, Try.ntmps151
  go_wp2_with (first | (go_at_call 132; refine (someWord_any n0 B _ _ (by exact hr.to (by repeat (first | (with_reducible exact Since.refl hr.le) | (with_reducible refine Since.alloc ?_ _) | (with_reducible refine Since.drew ?_) | (with_reducible refine Since.drewN ?_ _) | (with_reducible refine Since.setCell ?_ ?_ _; rotate_left; (simp only []; omega)) | (with_reducible refine Since.ext ?_ (by assumption))))) (by omega)).mono ?_; rintro e w1 ⟨x, rfl, hx0, hx1, hr, hx⟩; have hc := hx.cellsFrom hBw; have hf := hx.frozensFrom hBw; have hy := hx.size; (try simp at hy); have hz : w.heap.size < w1.heap.size := (by omega)) | (go_at_call 62; refine (one_lit n0 B _ _ _ _ _ _ (by exact hr.to (by repeat (first | (with_reducible exact Since.refl hr.le) | (with_reducible refine Since.alloc ?_ _) | (with_reducible refine Since.drew ?_) | (with_reducible refine Since.drewN ?_ _) | (with_reducible refine Since.setCell ?_ ?_ _; rotate_left; (simp only []; omega)) | (with_reducible refine Since.ext ?_ (by assumption))))) (by omega) (by simp) (by rfl) (by omega) (by omega) (by simp [intOf])).mono ?_; rintro e w1 ⟨x, rfl, hm, hr, hx⟩; have hc := hx.cellsFrom hBw; have hf := hx.frozensFrom hBw; have hy := hx.size; (try simp at hy); have hz : w.heap.size < w1.heap.size := (by omega); simp [intOf] at hm))
  refine' bodyPost_ret (v := _) ?_ rfl ?_
  rotate_left
  · (simp only [results, Try.results151]
     go_simp
     rfl)
  refine ⟨_, _, rfl, ?_, ?_, ?_, ?_, ?_, (by repeat (first | (with_reducible exact RExt.refl _ _) | (with_reducible assumption) | (with_reducible refine RExt.alloc ?_ _) | (with_reducible refine RExt.drewN ?_ _) | (with_reducible refine RExt.drew ?_) | (with_reducible refine RExt.setCell ?_ (.inr ?_) _; rotate_left; (simp only []; omega)) | (with_reducible refine RExt.trans ?_ (by assumption)) | (with_reducible refine RExt.ext ?_ (by assumption))))⟩
  all_goals (first | omega | exact (Rd.mono hr (by omega)).to (by repeat (first | (with_reducible exact Since.refl hr.le) | (with_reducible refine Since.alloc ?_ _) | (with_reducible refine Since.drew ?_) | (with_reducible refine Since.drewN ?_ _) | (with_reducible refine Since.setCell ?_ ?_ _; rotate_left; (simp only []; omega)) | (with_reducible refine Since.ext ?_ (by assumption)))))
end Go.Proofs.Ytafmomocmodbhaa
/- Contracts of the generators of gates: ends. -/
namespace Go.Proofs.Ytafmomocmodbhaa
set_option linter.unusedVariables false
set_option linter.unusedSimpArgs false
open Go.RowKit

theorem insideEnd_any (n0 B : Nat) (m : Int) (w : World) (hr : Rd n0 w B m) (hm : m + 2 ≤ 1000000) :
    Calls Try.prog 74 #[.pointer (some ⟨B, 0, none⟩)] w fun e w' => ∃ x y, e = .returned (.agg #[.int .i64 x, .int .i64 y]) ∧ 0 ≤ x ∧ x ≤ 65535 ∧ 0 ≤ y ∧ y ≤ 65535 ∧ Rd n0 w' B (m + 2) ∧ RExt B w w' := by
  have hnw : n0 ≤ w.heap.size := hr.le
  have hBw : B < w.heap.size := (by have := hr.lt; omega)
  go_enter Try.func74, Try.ntmps74
  go_wp2_with (first | (go_at_call 73; refine (pick_any n0 B _ 4 _ (by exact hr.to (by repeat (first | (with_reducible exact Since.refl hr.le) | (with_reducible refine Since.alloc ?_ _) | (with_reducible refine Since.drew ?_) | (with_reducible refine Since.drewN ?_ _) | (with_reducible refine Since.setCell ?_ ?_ _; rotate_left; (simp only []; omega)) | (with_reducible refine Since.ext ?_ (by assumption))))) (by omega) (by omega) (by omega)).mono ?_; rintro e w1 ⟨x, rfl, hx0, hx1, hr, hx⟩; have hc := hx.cellsFrom hBw; have hf := hx.frozensFrom hBw; have hy := hx.size; (try simp at hy); have hz : w.heap.size < w1.heap.size := (by omega)) | (go_at_call 62; refine (one_lit n0 B _ _ _ _ _ _ (by exact hr.to (by repeat (first | (with_reducible exact Since.refl hr.le) | (with_reducible refine Since.alloc ?_ _) | (with_reducible refine Since.drew ?_) | (with_reducible refine Since.drewN ?_ _) | (with_reducible refine Since.setCell ?_ ?_ _; rotate_left; (simp only []; omega)) | (with_reducible refine Since.ext ?_ (by assumption))))) (by omega) (by simp) (by rfl) (by omega) (by omega) (by simp [intOf])).mono ?_; rintro e w1 ⟨x, rfl, hm, hr, hx⟩; have hc := hx.cellsFrom hBw; have hf := hx.frozensFrom hBw; have hy := hx.size; (try simp at hy); have hz : w.heap.size < w1.heap.size := (by omega); simp [intOf] at hm))
  refine' bodyPost_ret (v := _) ?_ rfl ?_
  rotate_left
  · (simp only [results, Try.results74]
     go_simp
     rfl)
  refine ⟨_, _, rfl, ?_, ?_, ?_, ?_, ?_, (by repeat (first | (with_reducible exact RExt.refl _ _) | (with_reducible assumption) | (with_reducible refine RExt.alloc ?_ _) | (with_reducible refine RExt.drewN ?_ _) | (with_reducible refine RExt.drew ?_) | (with_reducible refine RExt.setCell ?_ (.inr ?_) _; rotate_left; (simp only []; omega)) | (with_reducible refine RExt.trans ?_ (by assumption)) | (with_reducible refine RExt.ext ?_ (by assumption))))⟩
  all_goals (first | omega | exact (Rd.mono hr (by omega)).to (by repeat (first | (with_reducible exact Since.refl hr.le) | (with_reducible refine Since.alloc ?_ _) | (with_reducible refine Since.drew ?_) | (with_reducible refine Since.drewN ?_ _) | (with_reducible refine Since.setCell ?_ ?_ _; rotate_left; (simp only []; omega)) | (with_reducible refine Since.ext ?_ (by assumption)))))
theorem farEnd_any (n0 B : Nat) (m : Int) (w : World) (hr : Rd n0 w B m) (hm : m + 2 ≤ 1000000) :
    Calls Try.prog 138 #[.pointer (some ⟨B, 0, none⟩)] w fun e w' => ∃ x y, e = .returned (.agg #[.int .i64 x, .int .i64 y]) ∧ 0 ≤ x ∧ x ≤ 65535 ∧ 0 ≤ y ∧ y ≤ 65535 ∧ Rd n0 w' B (m + 2) ∧ RExt B w w' := by
  have hnw : n0 ≤ w.heap.size := hr.le
  have hBw : B < w.heap.size := (by have := hr.lt; omega)
  go_enter Try.func138, Try.ntmps138
  go_wp2_with (go_at_call 62; refine (one_lit n0 B _ _ _ _ _ _ (by exact hr.to (by repeat (first | (with_reducible exact Since.refl hr.le) | (with_reducible refine Since.alloc ?_ _) | (with_reducible refine Since.drew ?_) | (with_reducible refine Since.drewN ?_ _) | (with_reducible refine Since.setCell ?_ ?_ _; rotate_left; (simp only []; omega)) | (with_reducible refine Since.ext ?_ (by assumption))))) (by omega) (by simp) (by rfl) (by omega) (by omega) (by simp [intOf])).mono ?_; rintro e w1 ⟨x, rfl, hm, hr, hx⟩; have hc := hx.cellsFrom hBw; have hf := hx.frozensFrom hBw; have hy := hx.size; (try simp at hy); have hz : w.heap.size < w1.heap.size := (by omega); simp [intOf] at hm)
  refine' bodyPost_ret (v := _) ?_ rfl ?_
  rotate_left
  · (simp only [results, Try.results138]
     go_simp
     rfl)
  refine ⟨_, _, rfl, ?_, ?_, ?_, ?_, ?_, (by repeat (first | (with_reducible exact RExt.refl _ _) | (with_reducible assumption) | (with_reducible refine RExt.alloc ?_ _) | (with_reducible refine RExt.drewN ?_ _) | (with_reducible refine RExt.drew ?_) | (with_reducible refine RExt.setCell ?_ (.inr ?_) _; rotate_left; (simp only []; omega)) | (with_reducible refine RExt.trans ?_ (by assumption)) | (with_reducible refine RExt.ext ?_ (by assumption))))⟩
  all_goals (first | omega | exact (Rd.mono hr (by omega)).to (by repeat (first | (with_reducible exact Since.refl hr.le) | (with_reducible refine Since.alloc ?_ _) | (with_reducible refine Since.drew ?_) | (with_reducible refine Since.drewN ?_ _) | (with_reducible refine Since.setCell ?_ ?_ _; rotate_left; (simp only []; omega)) | (with_reducible refine Since.ext ?_ (by assumption)))))
end Go.Proofs.Ytafmomocmodbhaa
/- A region that draws its order, walked once: first whatever only reads, as soon as it may run, then the one call or write that is next: if reads give one fixed value in every later world, every order ends in the same frame and in the worlds of that one walk. No condition. -/
namespace Go.Proofs.Ytafmomocmodbhaa
set_option linter.unusedVariables false
set_option linter.unusedSimpArgs false

/-- Does the operation only compute or read? -/
def quietOp : Op → Bool
  | .move _ | .assign _ | .pick _ _ _ | .load _ _ | .nilCheck _ | .binOp _ _ _ _ _ | .unOp _ _ _ | .slice _ _ _ _ _ | .fieldAddr _ _ _ | .field _ _ _ | .indexAddr _ _ _ | .index _ _ _ | .extract _ _ | .build _ _ | .insert _ _ _ _ | .convert _ _ _ => true
  | .call c => match c.callee with
    | .builtin .len | .builtin .cap | .builtin .min | .builtin .max => true
    | _ => false
  | _ => false
/-- What one operation does, if it neither panics nor halts. -/
def OpStep (P : Program) (o : Oper) (ρ : Operand → Value) (w : World) (F : Value → World → Prop) : Prop :=
  match (execOp ρ o).run P w with
  | .ok (.value u) w' => F u w'
  | .ok .skip w' => F undef w'
  | .ok (.enter f args) w' => Calls P f args w' fun e w'' => ∃ v, e = .returned v ∧ F v w''
  | _ => False
theorem OpStep.mono {P : Program} {o : Oper} {ρ : Operand → Value} {w : World} {F G : Value → World → Prop} (h : OpStep P o ρ w F) (hm : ∀ v w', F v w' → G v w') : OpStep P o ρ w G := by
  unfold OpStep at *
  generalize (execOp ρ o).run P w = r at *
  cases r with
  | ok n w' =>
    cases n <;> simp only at h <;> simp only
    · exact hm _ _ h
    · exact hm _ _ h
    · exact Calls.mono h fun e w'' ⟨v, e1, e2⟩ => ⟨v, e1, hm _ _ e2⟩
  | halt x w' => simp only at h
theorem OpStep.val {P : Program} {o : Oper} {ρ : Operand → Value} {w w' : World} {v : Value} {F : Value → World → Prop} (h : (execOp ρ o).run P w = .ok (.value v) w') (hF : F v w') : OpStep P o ρ w F := by
  unfold OpStep; rw [h]; exact hF
theorem OpStep.skip {P : Program} {o : Oper} {ρ : Operand → Value} {w w' : World} {F : Value → World → Prop} (h : (execOp ρ o).run P w = .ok .skip w') (hF : F undef w') : OpStep P o ρ w F := by
  unfold OpStep; rw [h]; exact hF
theorem OpStep.call {P : Program} {o : Oper} {ρ : Operand → Value} {w : World} {f : FuncId} {args : Array Value} {F : Value → World → Prop} (h : (execOp ρ o).run P w = .ok (.enter f args) w)
    (hF : Calls P f args w fun e w'' => ∃ v, e = .returned v ∧ F v w'') : OpStep P o ρ w F := by
  unfold OpStep; rw [h]; exact hF

theorem pigeonN : ∀ (l : List Nat) (n : Nat), l.Pairwise (· ≠ ·) → (∀ x ∈ l, x < n) → l.length ≤ n
  | l, 0, _, h => by
    cases l with
    | nil => exact Nat.le_refl _
    | cons x l => have := h x (by simp); omega
  | l, n + 1, hp, h => by
    have ih := pigeonN (l.filter fun x => !decide (x = n)) n (hp.filter _) (fun x hx => by
      simp only [List.mem_filter, Bool.not_eq_true', decide_eq_false_iff_not] at hx
      have := h x hx.1
      omega)
    by_cases hm : n ∈ l
    · obtain ⟨s, t, rfl⟩ := List.append_of_mem hm
      rw [List.pairwise_append] at hp
      have h1 : (s.filter fun x => !decide (x = n)) = s := List.filter_eq_self.2 fun x hx => by
        have := hp.2.2 x hx _ (List.mem_cons_self)
        simpa using this
      have h2 : (t.filter fun x => !decide (x = n)) = t := List.filter_eq_self.2 fun x hx => by
        have := (List.pairwise_cons.1 hp.2.1).1 x hx
        simpa using fun e => this e.symm
      rw [List.filter_append, List.filter_cons, h1, h2] at ih
      simp at ih ⊢
      omega
    · have h1 : (l.filter fun x => !decide (x = n)) = l := List.filter_eq_self.2 fun x hx => by
        have : x ≠ n := fun e => hm (e ▸ hx)
        simpa using this
      rw [h1] at ih
      omega
section
variable {P : Program} {ops : Array Oper} {Q : Exit → Act → World → Prop} {R : World → World → Prop}
/-- A reading operation: one value in every later world, or not wanted. -/
def Qt (P : Program) (ops : Array Oper) (R : World → World → Prop) (o : Oper) (v : Value) (a : Act) (w : World) : Prop :=
  (Region.wanted o (yielded ops a.tmps) = true ∧ ∀ w', R w w' → (execOp a.eval o).run P w' = .ok (.value v) w') ∨ (Region.wanted o (yielded ops a.tmps) = false ∧ v = undef)
/-- The walk, in a given order of the operations' places. -/
def ChX (P : Program) (ops : Array Oper) (Q : Exit → Act → World → Prop) (R : World → World → Prop) : List Nat → Act → World → Prop
  | [], a, w => Q .normal a w
  | i :: r, a, w => ∃ o, ops[i]? = some o ∧
      ((quietOp o.op = true ∧ ∃ v, Qt P ops R o v a w ∧ ChX P ops Q R r (a.put o.dst v) w) ∨
       (quietOp o.op = false ∧ ((Region.wanted o (yielded ops a.tmps) = false ∧ ChX P ops Q R r (a.put o.dst undef) w) ∨
          (Region.wanted o (yielded ops a.tmps) = true ∧ OpStep P o a.eval w fun v w' => R w w' ∧ ChX P ops Q R r (a.put o.dst v) w'))))

theorem Qt.same {o : Oper} {v : Value} {a a' : Act} {w : World} (h : Qt P ops R o v a w) (he : execOp a'.eval o = execOp a.eval o)
    (hw : Region.wanted o (yielded ops a'.tmps) = Region.wanted o (yielded ops a.tmps)) : Qt P ops R o v a' w := by
  unfold Qt at *
  rw [he, hw]
  exact h
theorem Qt.later {o : Oper} {v : Value} {a : Act} {w w' : World} (ht : ∀ x y z, R x y → R y z → R x z) (h : Qt P ops R o v a w) (hw : R w w') : Qt P ops R o v a w' := by
  rcases h with ⟨h1, h2⟩ | h
  · exact .inl ⟨h1, fun w'' h' => h2 w'' (ht _ _ _ hw h')⟩
  · exact .inr h

/-- Is place i one whose operation only reads? -/
def quietAt (ops : Array Oper) (i : Nat) : Bool := ((ops[i]?).map fun o => quietOp o.op).getD false
def edgeTo (ops : Array Oper) (j i : Nat) : Bool := ((ops[j]?).map fun y => y.after.any fun e => Region.binds .any e && e.on == i).getD false
def apartAt (ops : Array Oper) (i j : Nat) : Bool :=
  match ops[i]?, ops[j]? with
  | some x, some y => x.apart ops y
  | _, _ => false
def reachN (ops : Array Oper) : Nat → Nat → Nat → Bool
  | 0, j, i => edgeTo ops j i
  | f + 1, j, i => edgeTo ops j i || ((ops[j]?).map fun y => y.after.any fun e => Region.binds .any e && reachN ops f e.on i).getD false
def pairE (ops : Array Oper) (i j : Nat) : Bool := i != j && !edgeTo ops i j && (edgeTo ops j i || apartAt ops i j) && (quietAt ops i || edgeTo ops j i || reachN ops ops.size j i)
def pairsE (ops : Array Oper) : List Nat → Bool
  | [] => true
  | i :: r => r.all (pairE ops i) && pairsE ops r
def permOk (n : Nat) (ord : List Nat) : Bool := (List.range n).all fun i => ord.contains i
def eagerOk (ops : Array Oper) (ord : List Nat) : Bool :=
  Region.noSelect ops && permOk ops.size ord && pairsE ops ord && ord.all fun i => ((ops[i]?).map fun y => y.after.all fun e => !Region.binds .any e || (e.on != i && decide (e.on < ops.size))).getD false
/-- The order: whatever only reads, as soon as all that it needs is done; else the first of the others. -/
def freeE (ops : Array Oper) (rem : List Nat) (j : Nat) : Bool := rem.all fun i => i == j || decide (j < i) || (!edgeTo ops j i && apartAt ops i j && !reachN ops ops.size j i)
def eagerGo (ops : Array Oper) : Nat → List Nat → List Nat
  | 0, rem => rem
  | f + 1, rem =>
    match rem.find? fun j => quietAt ops j && freeE ops rem j with
    | some j => j :: eagerGo ops f (rem.filter (· != j))
    | none => match rem with
      | [] => []
      | j :: r => j :: eagerGo ops f r
def eagerOrd (ops : Array Oper) : List Nat := eagerGo ops ops.size (List.range ops.size)

theorem pairsE_iff {ord : List Nat} : pairsE ops ord = true → ord.Pairwise fun i j => pairE ops i j = true := by
  induction ord with
  | nil => intro _; exact List.Pairwise.nil
  | cons i r ih =>
    intro h
    rw [pairsE, Bool.and_eq_true, List.all_eq_true] at h
    exact List.pairwise_cons.2 ⟨h.1, ih h.2⟩
theorem edgeTo_iff {j i : Nat} {y : Oper} (hy : ops[j]? = some y) (h : edgeTo ops j i = true) : ∃ e ∈ y.after, Region.binds .any e = true ∧ e.on = i := by
  unfold edgeTo at h
  rw [hy] at h
  simp only [Option.map_some, Option.getD_some] at h
  obtain ⟨e, he, hb⟩ := Array.any_eq_true'.1 h
  simp only [Bool.and_eq_true, beq_iff_eq] at hb
  exact ⟨e, he, hb.1, hb.2⟩
/-- All that one operation needs is done. -/
def Fed (ops : Array Oper) (listed : Array Bool) (j : Nat) : Prop := ∀ y, ops[j]? = some y → ∀ e ∈ y.after, Region.binds .any e = true → listed.getD e.on false = true
theorem reach_listed {listed : Array Bool} (hcl : ∀ j, listed.getD j false = true → Fed ops listed j) : ∀ (f j i : Nat), Fed ops listed j → reachN ops f j i = true → listed.getD i false = true
  | 0, j, i, hf, h => by
    rw [reachN] at h
    cases hy : ops[j]? with
    | none => unfold edgeTo at h; rw [hy] at h; simp at h
    | some y =>
      obtain ⟨e, he, hb, rfl⟩ := edgeTo_iff hy h
      exact hf y hy e he hb
  | f + 1, j, i, hf, h => by
    rw [reachN, Bool.or_eq_true] at h
    cases hy : ops[j]? with
    | none =>
      unfold edgeTo at h
      rw [hy] at h
      simp at h
    | some y =>
      rcases h with h | h
      · obtain ⟨e, he, hb, rfl⟩ := edgeTo_iff hy h
        exact hf y hy e he hb
      · rw [hy] at h
        simp only [Option.map_some, Option.getD_some] at h
        obtain ⟨e, he, hb⟩ := Array.any_eq_true'.1 h
        rw [Bool.and_eq_true] at hb
        exact reach_listed hcl f e.on i (hcl e.on (hf y hy e he hb.1)) hb.2

theorem ChX.takeQ (hsel : ∀ (j : Nat) (o : Oper) cs b, ops[j]? = some o → o.op ≠ .select cs b) {j : Nat} {oj : Oper} (hj : ops[j]? = some oj) (hqj : quietOp oj.op = true) {l2 : List Nat} :
    ∀ (l1 : List Nat) (a : Act) (w : World), (∀ i ∈ l1, ∀ x, ops[i]? = some x → quietOp x.op = true ∧ x.apart ops oj = true) → ChX P ops Q R (l1 ++ j :: l2) a w →
      ∃ v, Qt P ops R oj v a w ∧ ChX P ops Q R (l1 ++ l2) (a.put oj.dst v) w
  | [], a, w, _, h => by
    obtain ⟨o, ho, h⟩ := h
    rw [hj] at ho
    injection ho with ho
    subst ho
    rcases h with ⟨_, v, h1, h2⟩ | ⟨h0, _⟩
    · exact ⟨v, h1, h2⟩
    · rw [hqj] at h0; cases h0
  | i :: l1, a, w, hap, h => by
    obtain ⟨o, ho, h⟩ := h
    obtain ⟨q0, q1⟩ := hap i (by simp) o ho
    rcases h with ⟨_, v, hs, hc⟩ | ⟨h0, _⟩
    · obtain ⟨u, hu, hd⟩ := ChX.takeQ hsel hj hqj l1 (a.put o.dst v) w (fun x hx => hap x (by simp [hx])) hc
      obtain ⟨h1, h2, h3⟩ := Oper.apart_spec q1
      refine ⟨u, hu.same (execOp_put oj (fun cs b => hsel j oj cs b hj) a o.dst v h1).symm (wanted_put oj a o.dst v h1).symm, o, ho, .inl ⟨q0, v,
        hs.same (execOp_put o (fun cs b => hsel i o cs b ho) a oj.dst u h3) (wanted_put o a oj.dst u h3), ?_⟩⟩
      rw [← Act.put_comm a v u h2]
      exact hd
    · rw [q0] at h0; cases h0

theorem ChX.takeN (ht : ∀ x y z, R x y → R y z → R x z) (hsel : ∀ (j : Nat) (o : Oper) cs b, ops[j]? = some o → o.op ≠ .select cs b) {j : Nat} {oj : Oper} (hj : ops[j]? = some oj) (hqj : quietOp oj.op = false) {l2 : List Nat} :
    ∀ (l1 : List Nat) (a : Act) (w : World), (∀ i ∈ l1, ∀ x, ops[i]? = some x → quietOp x.op = true ∧ x.apart ops oj = true) → ChX P ops Q R (l1 ++ j :: l2) a w →
      (Region.wanted oj (yielded ops a.tmps) = false ∧ ChX P ops Q R (l1 ++ l2) (a.put oj.dst undef) w) ∨
      (Region.wanted oj (yielded ops a.tmps) = true ∧ OpStep P oj a.eval w fun v w' => R w w' ∧ ChX P ops Q R (l1 ++ l2) (a.put oj.dst v) w')
  | [], a, w, _, h => by
    obtain ⟨o, ho, h⟩ := h
    rw [hj] at ho
    injection ho with ho
    subst ho
    rcases h with ⟨h0, _⟩ | ⟨_, h⟩
    · rw [hqj] at h0; cases h0
    · exact h
  | i :: l1, a, w, hap, h => by
    obtain ⟨o, ho, h⟩ := h
    obtain ⟨q0, q1⟩ := hap i (by simp) o ho
    rcases h with ⟨_, v, hs, hc⟩ | ⟨h0, _⟩
    · obtain ⟨h1, h2, h3⟩ := Oper.apart_spec q1
      have hw := wanted_put (ops := ops) oj a o.dst v h1
      have he := execOp_put (ops := ops) oj (fun cs b => hsel j oj cs b hj) a o.dst v h1
      rcases ChX.takeN ht hsel hj hqj l1 (a.put o.dst v) w (fun x hx => hap x (by simp [hx])) hc with ⟨g1, g2⟩ | ⟨g1, g2⟩
      · refine .inl ⟨hw ▸ g1, o, ho, .inl ⟨q0, v, hs.same (execOp_put o (fun cs b => hsel i o cs b ho) a oj.dst undef h3) (wanted_put o a oj.dst undef h3), ?_⟩⟩
        rw [← Act.put_comm a v undef h2]
        exact g2
      · refine .inr ⟨hw ▸ g1, ?_⟩
        unfold OpStep at g2 ⊢
        rw [he] at g2
        refine OpStep.mono (o := oj) (ρ := a.eval) g2 fun u w' ⟨r1, r2⟩ => ⟨r1, o, ho, .inl ⟨q0, v, (hs.later ht r1).same (execOp_put o (fun cs b => hsel i o cs b ho) a oj.dst u h3) (wanted_put o a oj.dst u h3), ?_⟩⟩
        rw [← Act.put_comm a v u h2]
        exact r2
    · rw [q0] at h0; cases h0

theorem OpStep.wp {o : Oper} {a : Act} {w : World} {K : Act → World → Prop} {i : Nat} (hi : ops[i]? = some o) (hw : Region.wanted o (yielded ops a.tmps) = true)
    (h : OpStep P o a.eval w fun v w' => K (a.put o.dst v) w') : wpOp P ops Q i K a w := by
  unfold Go.wpOp
  simp only [hi, hw, if_true]
  refine .inl ?_
  unfold OpStep at h
  unfold Oper.wp
  generalize (execOp a.eval o).run P w = r at *
  cases r with
  | ok n w' =>
    cases n <;> simp only at h <;> simp only [Oper.upon]
    · exact h
    · exact h
    · refine Calls.mono h fun e w'' he => ?_
      obtain ⟨v, rfl, hs⟩ := he
      exact hs
  | halt x w' => simp only at h

theorem ChX.any (hr : ∀ x, R x x) (ht : ∀ x y z, R x y → R y z → R x z) {ord : List Nat} (hok : eagerOk ops ord = true) : ∀ (fuel : Nat) (listed : Array Bool) (a : Act) (l : List Nat), l.length ≤ fuel → l.Sublist ord →
    (∀ i, i ∈ l ↔ (i < ops.size ∧ listed.getD i true = false)) → (∀ i, i < ops.size → listed.getD i true = listed.getD i false) → (∀ j, listed.getD j false = true → Fed ops listed j) →
    ∀ w, ChX P ops Q R l a w → wpAny P .any ops Q fuel listed a w := by
  simp only [eagerOk, Bool.and_eq_true, List.all_eq_true] at hok
  obtain ⟨⟨⟨hns, hperm⟩, hpairs⟩, hback⟩ := hok
  have hP := pairsE_iff hpairs
  have hmem : ∀ (listed : Array Bool) (l : List Nat), (∀ i, i ∈ l ↔ (i < ops.size ∧ listed.getD i true = false)) → ∀ j, j ∈ Region.ready .any ops listed → j ∈ l := by
    intro listed l hl j hj
    obtain ⟨h0, o, ho, _⟩ := mem_ready.1 hj
    exact (hl j).2 ⟨(Array.getElem?_eq_some_iff.1 ho).1, h0⟩
  intro fuel
  induction fuel with
  | zero =>
    intro listed a l hlen _ hl _ _ w hc
    have hnil : l = [] := List.eq_nil_of_length_eq_zero (by omega)
    subst hnil
    refine ⟨?_, hc⟩
    cases hr : Region.ready .any ops listed with
    | nil => rfl
    | cons x xs => exact absurd (hmem listed [] hl x (by rw [hr]; simp)) (by simp)
  | succ fuel ih =>
    intro listed a l hlen hsub hl hsz hcl w hc
    have hlP := hP.sublist hsub
    refine ⟨fun hrd => ?_, fun j hj => ?_⟩
    · cases l with
      | nil => exact hc
      | cons i r =>
        exfalso
        obtain ⟨hi, hun⟩ := (hl i).1 (by simp)
        have hfirst := (List.pairwise_cons.1 hlP).1
        have : i ∈ Region.ready .any ops listed := by
          rw [mem_ready]
          refine ⟨hun, ops[i], Array.getElem?_eq_getElem hi, fun e he hb => ?_⟩
          have hb1 := hback i (hsub.subset (by simp))
          rw [Array.getElem?_eq_getElem hi] at hb1
          simp only [Option.map_some, Option.getD_some] at hb1
          have hb2 := Array.all_eq_true_iff_forall_mem.1 hb1 e he
          simp only [hb, Bool.not_true, Bool.false_or, Bool.and_eq_true, bne_iff_ne, decide_eq_true_eq] at hb2
          apply Classical.byContradiction
          intro hnl
          have hm : e.on ∈ i :: r := (hl e.on).2 ⟨hb2.2, by rw [hsz _ hb2.2]; simpa using hnl⟩
          rcases List.mem_cons.1 hm with hm | hm
          · exact hb2.1 hm
          · have hp := hfirst _ hm
            have hedge : edgeTo ops i e.on = true := by
              unfold edgeTo
              rw [Array.getElem?_eq_getElem hi]
              simp only [Option.map_some, Option.getD_some]
              exact Array.any_eq_true'.2 ⟨e, he, by simp [hb]⟩
            simp [pairE, hedge] at hp
        rw [hrd] at this
        cases this
    · have hjl := hmem listed l hl j hj
      obtain ⟨hjun, oj, hoj, hall⟩ := mem_ready.1 hj
      have hjlt : j < ops.size := (Array.getElem?_eq_some_iff.1 hoj).1
      have hfed : Fed ops listed j := fun y hy e he hb => by
        rw [hoj] at hy; injection hy with hy; subst hy; exact hall e he hb
      obtain ⟨l1, l2, rfl⟩ := List.append_of_mem hjl
      have hap : ∀ i ∈ l1, ∀ x, ops[i]? = some x → quietOp x.op = true ∧ x.apart ops oj = true := by
        intro i hi x hx
        have hp : pairE ops i j = true := (List.pairwise_append.1 hlP).2.2 i hi j (by simp)
        have hiun := (hl i).1 (by simp [hi])
        have hif : listed.getD i false = false := by rw [← hsz i hiun.1]; exact hiun.2
        have hne : edgeTo ops j i = false := by
          cases h : edgeTo ops j i with
          | false => rfl
          | true =>
            obtain ⟨e, he, hb, rfl⟩ := edgeTo_iff hoj h
            rw [hfed oj hoj e he hb] at hif
            cases hif
        have hnr : reachN ops ops.size j i = false := by
          cases h : reachN ops ops.size j i with
          | false => rfl
          | true => rw [reach_listed hcl _ _ _ hfed h] at hif; cases hif
        simp only [pairE, hne, hnr, Bool.or_false, Bool.false_or, Bool.and_eq_true] at hp
        obtain ⟨⟨_, h2⟩, h3⟩ := hp
        refine ⟨?_, ?_⟩
        · simpa [quietAt, hx] using h3
        · simpa [apartAt, hx, hoj] using h2
      have hnd : j ∉ l1 ++ l2 := by
        intro hm
        have hpa := List.pairwise_append.1 hlP
        rcases List.mem_append.1 hm with hm | hm
        · have := hpa.2.2 j hm j (by simp)
          simp [pairE] at this
        · have := (List.pairwise_cons.1 hpa.2.1).1 j hm
          simp [pairE] at this
      have hmono : ∀ x, listed.getD x false = true → (listed.setIfInBounds j true).getD x false = true := by
        intro x hx
        by_cases hij : j = x
        · subst hij
          rw [Array.getD_eq_getD_getElem?, Array.getElem?_setIfInBounds]
          rw [Array.getD_eq_getD_getElem?] at hx
          cases hz : listed[j]? with
          | none => rw [hz] at hx; simp at hx
          | some b => simp [(Array.getElem?_eq_some_iff.1 hz).1]
        · rw [getD_set_ne false hij]; exact hx
      have next : ∀ (a' : Act) (w' : World), ChX P ops Q R (l1 ++ l2) a' w' → wpAny P .any ops Q fuel (listed.setIfInBounds j true) a' w' := by
        intro a' w' hrest
        refine ih (listed.setIfInBounds j true) _ (l1 ++ l2) ?_ ?_ ?_ ?_ ?_ w' hrest
        · simp only [List.length_append, List.length_cons] at hlen ⊢; omega
        · exact ((List.Sublist.refl l1).append (List.sublist_cons_self j l2)).trans hsub
        · intro i
          by_cases hij : j = i
          · subst hij
            constructor
            · intro h; exact absurd h hnd
            · rintro ⟨hlt, h⟩
              rw [Array.getD_eq_getD_getElem?, Array.getElem?_setIfInBounds] at h
              rcases Nat.lt_or_ge j listed.size with hz | hz
              · simp [hz] at h
              · simp [Array.getElem?_eq_none hz] at hjun
          · rw [getD_set_ne true hij, ← hl i]
            simp only [List.mem_append, List.mem_cons]
            constructor
            · rintro (h | h)
              · exact .inl h
              · exact .inr (.inr h)
            · rintro (h | h | h)
              · exact .inl h
              · exact absurd h.symm hij
              · exact .inr h
        · intro i hi
          by_cases hij : j = i
          · subst hij
            rw [Array.getD_eq_getD_getElem?, Array.getD_eq_getD_getElem?, Array.getElem?_setIfInBounds]
            rcases Nat.lt_or_ge j listed.size with hz | hz
            · simp [hz]
            · simp [Array.getElem?_eq_none hz] at hjun
          · rw [getD_set_ne true hij, getD_set_ne false hij]
            exact hsz i hi
        · intro k hk y hy e he hb
          by_cases hij : j = k
          · subst hij
            exact hmono _ (hfed y hy e he hb)
          · rw [getD_set_ne false hij] at hk
            exact hmono _ (hcl k hk y hy e he hb)
      cases hq : quietOp oj.op with
      | true =>
        obtain ⟨v, hv, hrest⟩ := ChX.takeQ (Region.noSelect_spec hns) hoj hq l1 a w hap hc
        rcases hv with ⟨hw, hv⟩ | ⟨hw, rfl⟩
        · exact OpStep.wp hoj hw (OpStep.val (hv w (hr w)) (next _ _ hrest))
        · unfold Go.wpOp
          simp only [hoj, hw, Bool.false_eq_true, if_false]
          exact next _ _ hrest
      | false =>
        rcases ChX.takeN ht (Region.noSelect_spec hns) hoj hq l1 a w hap hc with ⟨hw, hrest⟩ | ⟨hw, hrest⟩
        · unfold Go.wpOp
          simp only [hoj, hw, Bool.false_eq_true, if_false]
          exact next _ _ hrest
        · exact OpStep.wp hoj hw (hrest.mono fun v w' h => next _ _ h.2)

/-- THE LAW. -/
theorem wp_region_eager {id : Nat} {l : List Oper} {a : Act} {w : World} (ord : List Nat) (hm : P.follows .mixedOrders = true) (hok : eagerOk l.toArray ord = true) (hr : ∀ x, R x x) (ht : ∀ x y z, R x y → R y z → R x z)
    (h : ChX P l.toArray Q R ord a w.drew) : (Code.region id l.toArray true).wp P Q a w := by
  have hok' := hok
  simp only [eagerOk, Bool.and_eq_true, permOk, List.all_eq_true, List.contains_iff_mem, List.mem_range] at hok'
  have hord : ∀ x ∈ ord, x < l.toArray.size := by
    intro x hx
    have := hok'.2 x hx
    cases hy : (l.toArray)[x]? with
    | none => rw [hy] at this; simp at this
    | some y => exact (Array.getElem?_eq_some_iff.1 hy).1
  have hnd : ord.Pairwise (· ≠ ·) := (pairsE_iff hok'.1.2).imp fun {i j} hp e => by
    subst e
    simp [pairE] at hp
  refine wp_region_any hm (ChX.any (ops := l.toArray) hr ht hok _ _ a ord ?_ (List.Sublist.refl _) ?_ ?_ ?_ _ h)
  · have h1 := pigeonN ord l.toArray.size hnd hord
    simpa using h1
  · intro i
    simp only [Array.getD_eq_getD_getElem?, Array.getElem?_replicate]
    constructor
    · intro h
      have h' := hord i h
      exact ⟨h', by simp at h'; simp [h']⟩
    · intro h
      exact hok'.1.1.2 i h.1
  · intro i hi
    have h' : i < l.length := by simpa using hi
    simp [h']
  · intro j hj
    exfalso
    rw [Array.getD_eq_getD_getElem?, Array.getElem?_replicate] at hj
    split at hj <;> simp at hj
theorem arr_at {l : List Oper} {i : Nat} {o : Oper} (h : l[i]? = some o) : (l.toArray)[i]? = some o := by simpa using h
variable {l : List Oper}
/-- An operation whose guard says no. -/
theorem ChX.skip {i : Nat} {r : List Nat} {o : Oper} {a : Act} {w : World} (ho : l[i]? = some o) (hw : Region.wanted o (yielded l.toArray a.tmps) = false) (h : ChX P l.toArray Q R r (a.put o.dst undef) w) : ChX P l.toArray Q R (i :: r) a w := by
  refine ⟨o, arr_at ho, ?_⟩
  cases hq : quietOp o.op with
  | true => exact .inl ⟨rfl, undef, .inr ⟨hw, rfl⟩, h⟩
  | false => exact .inr ⟨rfl, .inl ⟨hw, h⟩⟩
/-- An operation that only reads. -/
theorem ChX.quiet {i : Nat} {r : List Nat} {o : Oper} {a : Act} {w : World} {v : Value} (ho : l[i]? = some o) (hq : quietOp o.op = true) (hw : Region.wanted o (yielded l.toArray a.tmps) = true)
    (hv : ∀ w', R w w' → (execOp a.eval o).run P w' = .ok (.value v) w') (h : ChX P l.toArray Q R r (a.put o.dst v) w) : ChX P l.toArray Q R (i :: r) a w :=
  ⟨o, arr_at ho, .inl ⟨hq, v, .inl ⟨hw, hv⟩, h⟩⟩
/-- A call. -/
theorem ChX.call {i : Nat} {r : List Nat} {o : Oper} {a : Act} {w : World} {f : FuncId} {args : Array Value} (ho : l[i]? = some o) (hq : quietOp o.op = false) (hw : Region.wanted o (yielded l.toArray a.tmps) = true)
    (he : (execOp a.eval o).run P w = .ok (.enter f args) w) (hc : Calls P f args w fun e w'' => ∃ v, e = .returned v ∧ R w w'' ∧ ChX P l.toArray Q R r (a.put o.dst v) w'') : ChX P l.toArray Q R (i :: r) a w :=
  ⟨o, arr_at ho, .inr ⟨hq, .inr ⟨hw, .call he hc⟩⟩⟩
/-- An operation that makes or writes memory. -/
theorem ChX.eff {i : Nat} {r : List Nat} {o : Oper} {a : Act} {w w' : World} {v : Value} (ho : l[i]? = some o) (hq : quietOp o.op = false) (hw : Region.wanted o (yielded l.toArray a.tmps) = true)
    (he : (execOp a.eval o).run P w = .ok (.value v) w') (hR : R w w') (h : ChX P l.toArray Q R r (a.put o.dst v) w') : ChX P l.toArray Q R (i :: r) a w :=
  ⟨o, arr_at ho, .inr ⟨hq, .inr ⟨hw, .val he ⟨hR, h⟩⟩⟩⟩
theorem ChX.effs {i : Nat} {r : List Nat} {o : Oper} {a : Act} {w w' : World} (ho : l[i]? = some o) (hq : quietOp o.op = false) (hw : Region.wanted o (yielded l.toArray a.tmps) = true)
    (he : (execOp a.eval o).run P w = .ok .skip w') (hR : R w w') (h : ChX P l.toArray Q R r (a.put o.dst undef) w') : ChX P l.toArray Q R (i :: r) a w :=
  ⟨o, arr_at ho, .inr ⟨hq, .inr ⟨hw, .skip he ⟨hR, h⟩⟩⟩⟩
/-- An operation whose step is given. -/
theorem ChX.step {i : Nat} {r : List Nat} {o : Oper} {a : Act} {w : World} (ho : l[i]? = some o) (hq : quietOp o.op = false) (hw : Region.wanted o (yielded l.toArray a.tmps) = true)
    (h : OpStep P o a.eval w fun v w' => R w w' ∧ ChX P l.toArray Q R r (a.put o.dst v) w') : ChX P l.toArray Q R (i :: r) a w :=
  ⟨o, arr_at ho, .inr ⟨hq, .inr ⟨hw, h⟩⟩⟩
/-- A guard that is not decided: both ways. -/
theorem ChX.guard {i : Nat} {r : List Nat} {o : Oper} {a : Act} {w : World} {x : Bool} (_ho : l[i]? = some o) (_hw : Region.wanted o (yielded l.toArray a.tmps) = x) (ht : x = true → ChX P l.toArray Q R (i :: r) a w)
    (hf : x = false → ChX P l.toArray Q R (i :: r) a w) : ChX P l.toArray Q R (i :: r) a w := by
  cases x
  · exact hf rfl
  · exact ht rfl
theorem ChX.guardN {i : Nat} {r : List Nat} {o : Oper} {a : Act} {w : World} {x : Bool} (_ho : l[i]? = some o) (_hw : Region.wanted o (yielded l.toArray a.tmps) = !x) (ht : x = true → ChX P l.toArray Q R (i :: r) a w)
    (hf : x = false → ChX P l.toArray Q R (i :: r) a w) : ChX P l.toArray Q R (i :: r) a w := by
  cases x
  · exact hf rfl
  · exact ht rfl
theorem ChL.guardN {S : World → Prop} {o : Oper} {r : List Oper} {a : Act} {x : Bool} (_hw : Region.wanted o (yielded ops a.tmps) = !x) (ht : x = true → ChL P ops Q S (o :: r) a) (hf : x = false → ChL P ops Q S (o :: r) a) :
    ChL P ops Q S (o :: r) a := by
  cases x
  · exact hf rfl
  · exact ht rfl
theorem ChX.nil {a : Act} {w : World} (h : Q .normal a w) : ChX P l.toArray Q R [] a w := h
end
end Go.Proofs.Ytafmomocmodbhaa
/- Laws on slices of mappings and of contacts: copies; what a slice of them holds. -/
namespace Go.Proofs.Ytafmomocmodbhaa
set_option linter.unusedVariables false
set_option linter.unusedSimpArgs false
open Go.RowKit

theorem eiM : EI Try.prog 37 102 4 32 := EI.mk (z := .agg #[.int .i64 0, .int .i64 0, .int .i64 0, .int .i64 0]) Try.underlying37 (by kernel_rfl) rfl (by omega)
theorem Clone_M (a : Option Addr) (n c : Nat) (L : List MapD) (w : World) (hs : Sl encM 4 w a n c L) (hn : n ≤ 1048576) :
    Calls Try.prog 126 #[.slice a n c] w fun e w' => ∃ a' c', e = .returned (.slice a' n c') ∧ w'.ownsRow w.heap.size 102 4 (.slice a' n c') n (L.flatMap encM) ∧ Ext w w' := by
  have hq := fun (W : World) => Lib.run_eql_slice_nil (P := Try.prog) W 37 102 a n c 0 0 Try.underlying37
  cases a with
  | none =>
    have hc := hs.nil rfl
    have h0 : n = 0 := by have := hs.le; omega
    subst h0; subst hc
    have hL := hs.zero
    subst hL
    go_enter Try.func126, Try.ntmps126
    go_wp2
    go_ret
    exact ⟨none, 0, rfl, World.ownsRow_nil _ _ _ _, Ext.refl _⟩
  | some ad =>
    go_enter Try.func126, Try.ntmps126
    go_wp2_with (at_builtin; refine wpList_append_sl _ rfl _ _ rfl eiM encM_len encM_one w.heap.size (.slice (some ⟨w.heap.size, 0, none⟩) 0 0) 0 [] rfl (own_empty w w.heap.size rfl (Nat.le_refl _)) (some ad) n c L rfl (by exact hs.ext (by repeat (first | (with_reducible exact Ext.refl _) | (with_reducible assumption) | (with_reducible refine Ext.alloc ?_ _) | (with_reducible refine Ext.drewN ?_ _) | (with_reducible refine Ext.drew ?_) | (with_reducible refine Ext.setCell ?_ ?_ _; rotate_left; (simp only []; omega)) | (with_reducible refine Ext.trans ?_ (by assumption))))) (by simp only [maxLen]; omega) (by omega) (by simp) ?_; intro a' c' w1 hown hg hat; simp only [Nat.zero_add, List.nil_append] at hown)
    go_ret
    exact ⟨a', c', by simp, hown, Ext.own (by repeat (first | (with_reducible exact Ext.refl _) | (with_reducible assumption) | (with_reducible refine Ext.alloc ?_ _) | (with_reducible refine Ext.drewN ?_ _) | (with_reducible refine Ext.drew ?_) | (with_reducible refine Ext.setCell ?_ ?_ _; rotate_left; (simp only []; omega)) | (with_reducible refine Ext.trans ?_ (by assumption)))) hg (Nat.le_refl _)⟩
theorem Clip_M (a : Option Addr) (n c : Nat) (L : List MapD) (base : Nat) (w : World) (hs : Ow 102 encM 4 base w a n c L) (hn : n ≤ 1048576) :
    Calls Try.prog 124 #[.slice a n c] w fun e w' => e = .returned (.slice a n n) ∧ w = w' := by
  have hle : n ≤ c := (hs.sl encM_len).le
  obtain ⟨hl, ⟨rfl, h0, rfl⟩ | ⟨g, cur, rfl, hb, hg, hnc, hcm, hcs, ht⟩⟩ := hs
  · subst h0
    go_enter Try.func124, Try.ntmps124
    go_wp2
    go_ret
    exact ⟨rfl, rfl⟩
  · clear ht hcs hl hg
    go_enter Try.func124, Try.ntmps124
    go_wp2
    all_goals (go_ret; exact ⟨by simp, rfl⟩)
theorem impl_clone_M (a : Option Addr) (n c : Nat) (L : List MapD) (w : World) (hs : Sl encM 4 w a n c L) (hn : n ≤ 1048576) :
    Calls Try.prog 117 #[.slice a n c] w fun e w' => ∃ a', e = .returned (.slice a' n n) ∧ Ow 102 encM 4 w.heap.size w' a' n n L ∧ Ext w w' := by
  go_enter Try.func117, Try.ntmps117
  go_wp2_with fail
  refine (Clone_M _ _ _ L _ hs hn).mono ?_
  rintro e w1 ⟨a', c', rfl, hown, hx⟩
  have how := Ow.of_row hown encM_len (by omega)
  go_wp2_with fail
  refine (Clip_M _ _ _ L _ _ how hn).mono ?_
  rintro e w2 ⟨rfl, rfl⟩
  go_wp2
  go_ret
  exact ⟨a', rfl, how.clip, hx⟩
theorem eiC : EI Try.prog 38 115 3 24 := EI.mk (z := .agg #[.int .i64 0, .int .i64 0, .int .i64 0]) Try.underlying38 (by kernel_rfl) rfl (by omega)
theorem Clone_C (a : Option Addr) (n c : Nat) (L : List ConD) (w : World) (hs : Sl encC 3 w a n c L) (hn : n ≤ 1048576) :
    Calls Try.prog 122 #[.slice a n c] w fun e w' => ∃ a' c', e = .returned (.slice a' n c') ∧ w'.ownsRow w.heap.size 115 3 (.slice a' n c') n (L.flatMap encC) ∧ Ext w w' := by
  have hq := fun (W : World) => Lib.run_eql_slice_nil (P := Try.prog) W 38 115 a n c 0 0 Try.underlying38
  cases a with
  | none =>
    have hc := hs.nil rfl
    have h0 : n = 0 := by have := hs.le; omega
    subst h0; subst hc
    have hL := hs.zero
    subst hL
    go_enter Try.func122, Try.ntmps122
    go_wp2
    go_ret
    exact ⟨none, 0, rfl, World.ownsRow_nil _ _ _ _, Ext.refl _⟩
  | some ad =>
    go_enter Try.func122, Try.ntmps122
    go_wp2_with (at_builtin; refine wpList_append_sl _ rfl _ _ rfl eiC encC_len encC_one w.heap.size (.slice (some ⟨w.heap.size, 0, none⟩) 0 0) 0 [] rfl (own_empty w w.heap.size rfl (Nat.le_refl _)) (some ad) n c L rfl (by exact hs.ext (by repeat (first | (with_reducible exact Ext.refl _) | (with_reducible assumption) | (with_reducible refine Ext.alloc ?_ _) | (with_reducible refine Ext.drewN ?_ _) | (with_reducible refine Ext.drew ?_) | (with_reducible refine Ext.setCell ?_ ?_ _; rotate_left; (simp only []; omega)) | (with_reducible refine Ext.trans ?_ (by assumption))))) (by simp only [maxLen]; omega) (by omega) (by simp) ?_; intro a' c' w1 hown hg hat; simp only [Nat.zero_add, List.nil_append] at hown)
    go_ret
    exact ⟨a', c', by simp, hown, Ext.own (by repeat (first | (with_reducible exact Ext.refl _) | (with_reducible assumption) | (with_reducible refine Ext.alloc ?_ _) | (with_reducible refine Ext.drewN ?_ _) | (with_reducible refine Ext.drew ?_) | (with_reducible refine Ext.setCell ?_ ?_ _; rotate_left; (simp only []; omega)) | (with_reducible refine Ext.trans ?_ (by assumption)))) hg (Nat.le_refl _)⟩
theorem Clip_C (a : Option Addr) (n c : Nat) (L : List ConD) (base : Nat) (w : World) (hs : Ow 115 encC 3 base w a n c L) (hn : n ≤ 1048576) :
    Calls Try.prog 120 #[.slice a n c] w fun e w' => e = .returned (.slice a n n) ∧ w = w' := by
  have hle : n ≤ c := (hs.sl encC_len).le
  obtain ⟨hl, ⟨rfl, h0, rfl⟩ | ⟨g, cur, rfl, hb, hg, hnc, hcm, hcs, ht⟩⟩ := hs
  · subst h0
    go_enter Try.func120, Try.ntmps120
    go_wp2
    go_ret
    exact ⟨rfl, rfl⟩
  · clear ht hcs hl hg
    go_enter Try.func120, Try.ntmps120
    go_wp2
    all_goals (go_ret; exact ⟨by simp, rfl⟩)
theorem impl_clone_C (a : Option Addr) (n c : Nat) (L : List ConD) (w : World) (hs : Sl encC 3 w a n c L) (hn : n ≤ 1048576) :
    Calls Try.prog 118 #[.slice a n c] w fun e w' => ∃ a', e = .returned (.slice a' n n) ∧ Ow 115 encC 3 w.heap.size w' a' n n L ∧ Ext w w' := by
  go_enter Try.func118, Try.ntmps118
  go_wp2_with fail
  refine (Clone_C _ _ _ L _ hs hn).mono ?_
  rintro e w1 ⟨a', c', rfl, hown, hx⟩
  have how := Ow.of_row hown encC_len (by omega)
  go_wp2_with fail
  refine (Clip_C _ _ _ L _ _ how hn).mono ?_
  rintro e w2 ⟨rfl, rfl⟩
  go_wp2
  go_ret
  exact ⟨a', rfl, how.clip, hx⟩
/-- A slice of mappings that is not empty: its address and its cells. -/
theorem Sl.maps {w : World} {a : Option Addr} {n c : Nat} {L : List MapD} (h : Sl encM 4 w a n c L) :
    (n = 0 ∧ L = []) ∨ (0 < n ∧ ∃ b off, a = some ⟨b, off, none⟩ ∧ b < w.heap.size ∧ ∀ i : Nat, i < n → w.cell? ⟨b, off + i * 4, none⟩ = some (.int .i64 (nth L i).ins.addr) ∧ w.cell? ⟨b, off + i * 4 + 1, none⟩ = some (.int .i64 (nth L i).ins.port) ∧
      w.cell? ⟨b, off + i * 4 + 2, none⟩ = some (.int .i64 (nth L i).port) ∧ w.cell? ⟨b, off + i * 4 + 3, none⟩ = some (.int .i64 (nth L i).last)) := by
  rcases h.form with h0 | ⟨h0, b, off, ha, hb, hc⟩
  · exact .inl h0
  · refine .inr ⟨h0, b, off, ha, hb, fun i hi => ?_⟩
    have hx := nth_some (l := L) (i := i) (by rw [h.len]; exact hi)
    exact ⟨by simpa using hc i _ hx 0 _ rfl, hc i _ hx 1 _ rfl, hc i _ hx 2 _ rfl, hc i _ hx 3 _ rfl⟩
theorem Sl.cons {w : World} {a : Option Addr} {n c : Nat} {L : List ConD} (h : Sl encC 3 w a n c L) :
    (n = 0 ∧ L = []) ∨ (0 < n ∧ ∃ b off, a = some ⟨b, off, none⟩ ∧ b < w.heap.size ∧ ∀ i : Nat, i < n → w.cell? ⟨b, off + i * 3, none⟩ = some (.int .i64 (nth L i).port) ∧ w.cell? ⟨b, off + i * 3 + 1, none⟩ = some (.int .i64 (nth L i).to_.addr) ∧
      w.cell? ⟨b, off + i * 3 + 2, none⟩ = some (.int .i64 (nth L i).to_.port)) := by
  rcases h.form with h0 | ⟨h0, b, off, ha, hb, hc⟩
  · exact .inl h0
  · refine .inr ⟨h0, b, off, ha, hb, fun i hi => ?_⟩
    have hx := nth_some (l := L) (i := i) (by rw [h.len]; exact hi)
    exact ⟨by simpa using hc i _ hx 0 _ rfl, hc i _ hx 1 _ rfl, hc i _ hx 2 _ rfl⟩
end Go.Proofs.Ytafmomocmodbhaa
/- Rows that grow by append, as slices that read as lists. -/
namespace Go.Proofs.Ytafmomocmodbhaa
set_option linter.unusedVariables false
set_option linter.unusedSimpArgs false
open Go.RowKit

theorem Ext.ext {a b c : World} (h : Ext a b) (k : Ext b c) : Ext a c := h.trans k
theorem row_ne {a : Option Addr} {b : Nat} (h : ∀ x, a = some x → b ≠ x.block) : some b ≠ a.map (·.block) := by
  cases a with
  | none => simp
  | some x => have := h x rfl; simpa using this
/-- A slice with all of a new row behind it: append may go on in it. -/
def OwR {α : Type} (E : TypeId) (enc : α → List Value) (k base : Nat) (w : World) (a : Option Addr) (n c : Nat) (L : List α) : Prop := w.ownsRow base E k (.slice a n c) n (L.flatMap enc)
section
variable {α : Type} {E : TypeId} {enc : α → List Value} {k base : Nat} {w w' : World} {a : Option Addr} {n c : Nat} {L : List α}
theorem OwR.ext (h : OwR E enc k base w a n c L) (hx : Ext w w') : OwR E enc k base w' a n c L := World.ownsRow.kept h hx (by cases hv : (Value.slice a n c).ownBlock <;> simp)
theorem OwR.ow (h : OwR E enc k base w a n c L) (hk : ∀ x, (enc x).length = k) (h0 : 0 < k) : Ow E enc k base w a n c L := Ow.of_row h hk h0
theorem OwR.nil (w : World) : OwR E enc k base w none 0 0 [] := World.ownsRow_nil _ _ _ _
theorem OwR.empty (w : World) (base : Nat) {b : Nat} (hb : b = w.heap.size) (h : base ≤ w.heap.size) : OwR E enc k base (w.alloc (.cells #[] E)) (some ⟨b, 0, none⟩) 0 0 [] := own_empty w base hb h
theorem OwR.lt (h : OwR E enc k base w a n c L) : ∀ x, a = some x → base ≤ x.block ∧ x.block < w.heap.size := fun x e => World.ownsRow.lt h x.block (by subst e; rfl)
theorem OwR.rebase (h : OwR E enc k base w a n c L) {b' : Nat} (hb : b' ≤ base) : OwR E enc k b' w a n c L := by
  refine ⟨h.1, ?_⟩
  rcases h.2 with h0 | ⟨g, cap, cur, e, hg, r⟩
  · exact .inl h0
  · exact .inr ⟨g, cap, cur, e, Nat.le_trans hb hg, r⟩
theorem OwR.keep (h : OwR E enc k base w a n c L) {row : Option Nat} (hg : w.grownBy w' row) (hne : ∀ x, a = some x → some x.block ≠ row) : OwR E enc k base w' a n c L := by
  refine World.ownsRow.kept h hg ?_
  cases a with
  | none => exact .inl rfl
  | some x => exact .inr (hne x rfl)
theorem OwR.setC (h : OwR E enc k base w a n c L) {p : Addr} (hp : ∀ x, a = some x → x.block ≠ p.block) (u : Value) : OwR E enc k base (w.setCell p u) a n c L :=
  h.keep (row := some p.block) ⟨rfl, rfl, rfl, by simp [World.setCell], fun i _ hne => Below.heap_setCell w p u i (fun e => hne (by rw [e]))⟩ (fun x e e2 => hp x e (by injection e2))
theorem Sl.lit1 (w : World) (T : TypeId) (x : α) (cs : Array Value) (hcs : cs.toList = enc x) {b : Nat} (hb : b = w.heap.size) : Sl enc k (w.alloc (.cells cs T)) (some ⟨b, 0, none⟩) 1 1 [x] := by
  refine ⟨rfl, Nat.le_refl _, by omega, (fun e => by cases e), fun _ => ⟨b, 0, rfl, by simp [hb], fun i y hy j u hu => ?_⟩⟩
  have hi : i = 0 := by
    have := (List.getElem?_eq_some_iff.1 hy).1
    simp at this; omega
  subst hi
  simp at hy
  subst hy
  subst hb
  have h := (Blk.new w T cs).cells (0 + (0 * k + j))
  rw [h, ← Array.getElem?_toList, hcs]
  simpa using hu
end
theorem wpList_append_ow {P : Program} {t E : TypeId} {k bytes : Nat} {α : Type} {enc : α → List Value} {ops : Array Oper} {rest : List Oper} {o : Oper} {a : Act} {Q : Exit → Act → World → Prop} (w : World) (hgd : o.guard = none) (s x : Operand) 
    (ho : o.op = .call { callee := .builtin .append, args := #[s, x], argTypes := #[t, t] }) (hE : EI P t E k bytes) (hk : ∀ x, (enc x).length = k) (h1 : ∀ x, ∀ u ∈ enc x, u.oneCell' = true) (hby : bytes ≤ 1024)
    (base : Nat) (a0 : Option Addr) (n c0 : Nat) (L0 : List α) (hs : a.eval s = .slice a0 n c0) (hown : OwR E enc k base w a0 n c0 L0)
    (A : Option Addr) (m c : Nat) (L : List α) (hx : a.eval x = .slice A m c) (hsl : Sl enc k w A m c L) (hn : n + m ≤ 2000000) (hbase : base ≤ w.heap.size)
    (h : ∀ a' c' w', OwR E enc k base w' a' (n + m) c' (L0 ++ L) → (∀ u, Ext u w → u.heap.size ≤ base → Ext u w') → w.grownBy w' (a0.map (·.block)) → wpList P ops Q rest (a.put o.dst (.slice a' (n + m) c')) w') : wpList P ops Q (o :: rest) a w := by
  refine wpList_append_sl w hgd s x ho hE hk h1 base (.slice a0 n c0) n (L0.flatMap enc) hs hown A m c L hx hsl (by simp only [maxLen]; omega) (Nat.le_trans (Nat.mul_le_mul hn hby) (by omega)) hbase ?_
  intro a' c' w' h2 h3 _
  refine h a' c' w' (by unfold OwR; rw [List.flatMap_append]; exact h2) (fun u hu hb => hu.grown h3 fun g e => ?_) (by cases a0 <;> exact h3)
  have := (World.ownsRow.lt hown g e).1
  omega
theorem filt_keep {α : Type} [Inhabited α] {p : α → Bool} {L : List α} {k : Nat} (hk : k < L.length) (h : p (nth L k) = true) : (L.take (k + 1)).filter p = (L.take k).filter p ++ [nth L k] := by
  rw [take_succ hk, List.filter_append]
  simp [h]
theorem filt_drop {α : Type} [Inhabited α] {p : α → Bool} {L : List α} {k : Nat} (hk : k < L.length) (h : p (nth L k) = false) : (L.take (k + 1)).filter p = (L.take k).filter p := by
  rw [take_succ hk, List.filter_append]
  simp [h]
end Go.Proofs.Ytafmomocmodbhaa
/- Plain laws of the gate: valid tables, contacts and gates by their elements; what mapping an end, noting a contact, sending, receiving and ticking keep. No program in sight. No condition. -/
namespace Go.Proofs.Ytafmomocmodbhaa
set_option linter.unusedVariables false
set_option linter.unusedSimpArgs false

theorem upTo_pair {α : Type} [Inhabited α] {p : α → Bool} {r : α → α → Bool} {l : List α} :
    upTo (fun i => p (nth l i) && (l.take i).all fun q => r q (nth l i)) l.length = true ↔ (∀ x ∈ l, p x = true) ∧ l.Pairwise (fun a b => r a b = true) := by
  rw [upTo_iff, List.pairwise_iff_getElem]
  constructor
  · intro h
    refine ⟨fun x hx => ?_, fun i j hi hj hij => ?_⟩
    · obtain ⟨i, hi, rfl⟩ := List.mem_iff_getElem.1 hx
      have := h i hi
      rw [Bool.and_eq_true, nth_of (List.getElem?_eq_getElem hi)] at this
      exact this.1
    · have := h j hj
      rw [Bool.and_eq_true, nth_of (List.getElem?_eq_getElem hj), List.all_eq_true] at this
      exact this.2 _ (List.mem_take_iff_getElem.2 ⟨i, by omega, rfl⟩)
  · rintro ⟨h1, h2⟩ i hi
    rw [Bool.and_eq_true, nth_of (List.getElem?_eq_getElem hi), List.all_eq_true]
    refine ⟨h1 _ (List.getElem_mem hi), fun x hx => ?_⟩
    obtain ⟨j, hj, rfl⟩ := List.mem_take_iff_getElem.1 hx
    exact h2 j i (by omega) hi (by omega)
def MapNe (a b : MapD) : Prop := a.ins ≠ b.ins ∧ a.port ≠ b.port
theorem validTable_iff {l : List MapD} : validTable l = true ↔ (∀ m ∈ l, okMap m = true) ∧ l.Pairwise MapNe ∧ l.length ≤ 8 := by
  have h := upTo_pair (p := okMap) (r := fun q m => !decide (q.ins = m.ins) && !decide (q.port = m.port)) (l := l)
  have e : (l.Pairwise fun a b => (!decide (a.ins = b.ins) && !decide (a.port = b.port)) = true) ↔ l.Pairwise MapNe := by
    constructor <;> intro h <;> refine h.imp fun {a b} hab => ?_
    · simpa [MapNe] using hab
    · simpa [MapNe] using hab
  rw [e] at h
  unfold validTable
  rw [Bool.and_eq_true, decide_eq_true_eq]
  exact ⟨fun ⟨a, b⟩ => ⟨(h.1 a).1, (h.1 a).2, b⟩, fun ⟨a, b, c⟩ => ⟨h.2 ⟨a, b⟩, c⟩⟩
theorem validContacts_iff {l : List ConD} : validContacts l = true ↔ (∀ c ∈ l, okCon c = true) ∧ l.Pairwise (· ≠ ·) ∧ l.length ≤ 10 := by
  have h := upTo_pair (p := okCon) (r := fun q m => !decide (q = m)) (l := l)
  have e : (l.Pairwise fun a b => (!decide (a = b)) = true) ↔ l.Pairwise (· ≠ ·) := by
    constructor <;> intro h <;> refine h.imp fun {a b} hab => ?_
    · simpa using hab
    · simpa using hab
  rw [e] at h
  unfold validContacts
  rw [Bool.and_eq_true, decide_eq_true_eq]
  exact ⟨fun ⟨a, b⟩ => ⟨(h.1 a).1, (h.1 a).2, b⟩, fun ⟨a, b, c⟩ => ⟨h.2 ⟨a, b⟩, c⟩⟩

/-- The place of the one element with a key, where keys differ. -/
theorem ix_key {α β : Type} [DecidableEq β] {f : α → β} {l : List α} (hp : l.Pairwise fun a b => f a ≠ f b) {k : Nat} {x : α} (h : l[k]? = some x) : ix (fun m => decide (f m = f x)) l = (k : Int) := by
  obtain ⟨hk, hx⟩ := List.getElem?_eq_some_iff.1 h
  refine ix_some (fun y hy => ?_) h (by simp)
  obtain ⟨j, hj, rfl⟩ := List.mem_take_iff_getElem.1 hy
  have := (List.pairwise_iff_getElem.1 hp) j k (by omega) hk (by omega)
  simp [← hx, this]
theorem byEnd_of {l : List MapD} (hl : validTable l = true) {k : Nat} {m : MapD} (h : l[k]? = some m) : byEnd l m.ins = (k : Int) :=
  ix_key (f := fun m : MapD => m.ins) ((validTable_iff.1 hl).2.1.imp fun {_ _} h => h.1) h
theorem byPort_of {l : List MapD} (hl : validTable l = true) {k : Nat} {m : MapD} (h : l[k]? = some m) : byPort l m.port = (k : Int) :=
  ix_key (f := fun m : MapD => m.port) ((validTable_iff.1 hl).2.1.imp fun {_ _} h => h.2) h
theorem byEnd_some {l : List MapD} {e : EndD} (h : 0 ≤ byEnd l e) : ∃ k m, byEnd l e = ((k : Nat) : Int) ∧ l[k]? = some m ∧ m.ins = e ∧ nth l (byEnd l e).toNat = m := by
  unfold byEnd at h ⊢
  rcases ix_cases (fun m : MapD => decide (m.ins = e)) l with ⟨h1, _⟩ | ⟨k, x, h1, h2, h3, _⟩
  · omega
  · exact ⟨k, x, h1, h2, by simpa using h3, by rw [h1]; exact nth_of (by simpa using h2)⟩
theorem byPort_some {l : List MapD} {p : Int} (h : 0 ≤ byPort l p) : ∃ k m, byPort l p = ((k : Nat) : Int) ∧ l[k]? = some m ∧ m.port = p ∧ nth l (byPort l p).toNat = m := by
  unfold byPort at h ⊢
  rcases ix_cases (fun m : MapD => decide (m.port = p)) l with ⟨h1, _⟩ | ⟨k, x, h1, h2, h3, _⟩
  · omega
  · exact ⟨k, x, h1, h2, by simpa using h3, by rw [h1]; exact nth_of (by simpa using h2)⟩
theorem byEnd_neg {l : List MapD} {e : EndD} (h : ¬ 0 ≤ byEnd l e) : byEnd l e = -1 ∧ ∀ m ∈ l, m.ins ≠ e := by
  unfold byEnd at h ⊢
  rcases ix_cases (fun m : MapD => decide (m.ins = e)) l with ⟨h1, h2⟩ | ⟨k, x, h1, h2, h3, _⟩
  · exact ⟨h1, fun m hm => by simpa using h2 m hm⟩
  · omega
theorem byPort_neg {l : List MapD} {p : Int} (h : ¬ 0 ≤ byPort l p) : byPort l p = -1 ∧ ∀ m ∈ l, m.port ≠ p := by
  unfold byPort at h ⊢
  rcases ix_cases (fun m : MapD => decide (m.port = p)) l with ⟨h1, h2⟩ | ⟨k, x, h1, h2, h3, _⟩
  · exact ⟨h1, fun m hm => by simpa using h2 m hm⟩
  · omega
theorem byEnd_mem {l : List MapD} {m : MapD} (h : m ∈ l) : 0 ≤ byEnd l m.ins := by
  rcases Int.lt_or_le (byEnd l m.ins) 0 with h' | h'
  · exact absurd rfl ((byEnd_neg (by omega)).2 m h)
  · exact h'
theorem byPort_mem {l : List MapD} {m : MapD} (h : m ∈ l) : 0 ≤ byPort l m.port := by
  rcases Int.lt_or_le (byPort l m.port) 0 with h' | h'
  · exact absurd rfl ((byPort_neg (by omega)).2 m h)
  · exact h'

theorem freeAt_iff {l : List MapD} {p : Int} : freeAt l p = true ↔ ∀ m ∈ l, m.port ≠ p := by
  unfold freeAt
  rw [decide_eq_true_eq]
  constructor
  · intro h
    exact (byPort_neg (by omega)).2
  · intro h
    rcases Int.lt_or_le (byPort l p) 0 with h' | h'
    · exact h'
    · obtain ⟨k, m, _, h2, h3, _⟩ := byPort_some h'
      exact absurd h3 (h m (List.mem_of_getElem? h2))
theorem freePort_ok {l : List MapD} {want : Int} (h : ¬ freePort l want < 0) : 1000 ≤ freePort l want ∧ freePort l want ≤ 1007 ∧ ∀ m ∈ l, m.port ≠ freePort l want := by
  unfold freePort at h ⊢
  split at h
  case isTrue h1 =>
    rw [if_pos h1]
    rw [Bool.and_eq_true, inR_iff] at h1
    exact ⟨h1.1.1, h1.1.2, freeAt_iff.1 h1.2⟩
  case isFalse h1 =>
    rw [if_neg h1]
    split at h
    case isTrue h2 =>
      rw [if_pos h2]
      rcases firstOf_cases (freeAt l) 8 1000 with ⟨h3, _⟩ | ⟨h3, h4, h5⟩
      · omega
      · exact ⟨h3, by omega, freeAt_iff.1 h5⟩
    case isFalse h2 =>
      rw [if_neg h2]
      rcases firstOf_cases (fun n => decide (n % 2 = want % 2) && freeAt l n) 8 1000 with ⟨h3, _⟩ | ⟨h3, h4, h5⟩
      · omega
      · rw [Bool.and_eq_true] at h5
        exact ⟨h3, by omega, freeAt_iff.1 h5.2⟩
/-- Different numbers of n numbers are at most n; and n of them are all. -/
theorem pigeon : ∀ (n : Nat) (lo : Int) (l : List Int), l.Pairwise (· ≠ ·) → (∀ x ∈ l, lo ≤ x ∧ x < lo + n) → l.length ≤ n ∧ (l.length = n → ∀ y, lo ≤ y → y < lo + n → y ∈ l)
  | 0, lo, l, _, h => by
    cases l with
    | nil => exact ⟨Nat.le_refl _, fun _ y h1 h2 => by omega⟩
    | cons x l => have := h x (by simp); omega
  | n + 1, lo, l, hp, h => by
    have ih := pigeon n lo (l.filter fun x => !decide (x = lo + n)) (hp.filter _) (fun x hx => by
      simp only [List.mem_filter, Bool.not_eq_true', decide_eq_false_iff_not] at hx
      have := h x hx.1
      omega)
    by_cases hm : lo + (n : Int) ∈ l
    · have hlen : l.length = (l.filter fun x => !decide (x = lo + n)).length + 1 := by
        obtain ⟨s, t, rfl⟩ := List.append_of_mem hm
        rw [List.pairwise_append] at hp
        have h1 : (s.filter fun x => !decide (x = lo + n)) = s := List.filter_eq_self.2 fun x hx => by
          have := hp.2.2 x hx _ (List.mem_cons_self)
          simpa using this
        have h2 : (t.filter fun x => !decide (x = lo + n)) = t := List.filter_eq_self.2 fun x hx => by
          have := (List.pairwise_cons.1 hp.2.1).1 x hx
          simpa using fun e => this e.symm
        rw [List.filter_append, List.filter_cons, h1, h2]
        simp
        omega
      refine ⟨by omega, fun he y h1 h2 => ?_⟩
      by_cases hy : y = lo + n
      · rw [hy]; exact hm
      · exact (List.mem_filter.1 (ih.2 (by omega) y h1 (by omega))).1
    · have h1 : (l.filter fun x => !decide (x = lo + n)) = l := List.filter_eq_self.2 fun x hx => by
        have : x ≠ lo + n := fun e => hm (e ▸ hx)
        simpa using this
      rw [h1] at ih
      exact ⟨by omega, fun he => by omega⟩
theorem table_pigeon {l : List MapD} (hl : validTable l = true) : l.length = 8 → ∀ p, 1000 ≤ p → p ≤ 1007 → ∃ m ∈ l, m.port = p := by
  obtain ⟨h1, h2, h3⟩ := validTable_iff.1 hl
  have h := pigeon 8 1000 (l.map (·.port)) (List.pairwise_map.2 (h2.imp fun {_ _} h => h.2)) (fun x hx => by
    obtain ⟨m, hm, rfl⟩ := List.mem_map.1 hx
    have := h1 m hm
    simp only [okMap, Bool.and_eq_true, inR_iff] at this
    omega)
  intro h8 p p0 p1
  obtain ⟨m, hm, e⟩ := List.mem_map.1 (h.2 (by simpa using h8) p p0 (by omega))
  exact ⟨m, hm, e⟩
theorem freePort_full {l : List MapD} (hl : validTable l = true) (want : Int) (h : l.length = 8) : freePort l want < 0 := by
  rcases Int.lt_or_le (freePort l want) 0 with h' | h'
  · exact h'
  · obtain ⟨a, b, c⟩ := freePort_ok (l := l) (want := want) (by omega)
    obtain ⟨m, hm, e⟩ := table_pigeon hl h _ a b
    exact absurd e (c m hm)
theorem freePort_room {l : List MapD} (want : Int) (h : l.length < 8) : ¬ freePort l want < 0 := by
  have hex : ∃ p, 1000 ≤ p ∧ p < 1000 + 8 ∧ freeAt l p = true := by
    apply Classical.byContradiction
    intro hn
    have hall : ∀ p : Int, 1000 ≤ p → p < 1000 + 8 → p ∈ l.map (·.port) := by
      intro p h0 h1
      apply Classical.byContradiction
      intro hm
      exact hn ⟨p, h0, h1, freeAt_iff.2 fun m hm' e => hm (List.mem_map.2 ⟨m, hm', e⟩)⟩
    have hle : ∀ (n : Nat) (L : List Int), (∀ p : Int, 1000 ≤ p → p < 1000 + (n : Int) → p ∈ L) → n ≤ L.length := by
      intro n
      induction n with
      | zero => intro L _; omega
      | succ n ih =>
        intro L hL
        have hm := hL (1000 + (n : Int)) (by omega) (by omega)
        obtain ⟨s, t, rfl⟩ := List.append_of_mem hm
        have := ih (s ++ t) (fun p h0 h1 => by
          have := hL p h0 (by omega)
          simp only [List.mem_append, List.mem_cons] at this ⊢
          rcases this with h | h | h
          · exact .inl h
          · omega
          · exact .inr h)
        simp only [List.length_append, List.length_cons] at this ⊢
        omega
    have := hle 8 _ hall
    simp at this
    omega
  obtain ⟨p, p0, p1, pf⟩ := hex
  unfold freePort
  split
  case isTrue h1 =>
    rw [Bool.and_eq_true, inR_iff] at h1
    omega
  case isFalse h1 =>
    split
    case isTrue h2 =>
      rcases firstOf_cases (freeAt l) 8 1000 with ⟨_, h4⟩ | ⟨h3, _, _⟩
      · rw [h4 p p0 p1] at pf; cases pf
      · omega
    case isFalse h2 => exact h2

/-- What mapping an end makes of a table in which nothing is newer than now. -/
structure Mapped (l t : List MapD) (e : EndD) (port now : Int) : Prop where
  valid : validTable t = true
  lo : 1000 ≤ port
  hi : port ≤ 1007
  len0 : l.length ≤ t.length
  len1 : t.length ≤ l.length + 1
  at_ : ∃ k : Nat, t[k]? = some (⟨e, port, now⟩ : MapD)
  old : ∀ m ∈ t, m ∈ l ∨ m = ⟨e, port, now⟩
  all : ∀ m ∈ l, ∃ q ∈ t, q.port = m.port ∧ q.ins = m.ins
theorem mapEnd_ok {l t : List MapD} {e : EndD} {port now : Int} (hl : validTable l = true) (he : validEnd e = true) (h0 : 0 ≤ now) (h1 : now ≤ 10000) (hn : ∀ m ∈ l, m.last ≤ now)
    (h : mapEnd l e now = some (t, port)) : Mapped l t e port now := by
  obtain ⟨v1, v2, v3⟩ := validTable_iff.1 hl
  unfold mapEnd at h
  split at h
  case isTrue hb =>
    obtain ⟨k, m, b1, b2, b3, b4⟩ := byEnd_some hb
    rw [b4, b1] at h
    simp only [Option.some.injEq, Prod.mk.injEq, Int.toNat_natCast] at h
    obtain ⟨rfl, rfl⟩ := h
    have hm : m ∈ l := List.mem_of_getElem? b2
    have hmax : max m.last now = now := by have := hn m hm; omega
    rw [hmax]
    obtain ⟨hk, hx⟩ := List.getElem?_eq_some_iff.1 b2
    have hok := v1 m hm
    have hok2 := hok
    simp only [okMap, Bool.and_eq_true, inR_iff] at hok2
    have hkey : (l.set k { m with last := now }).map (fun q => (q.ins, q.port)) = l.map (fun q => (q.ins, q.port)) := by
      rw [List.map_set]
      refine List.ext_getElem? fun i => ?_
      rw [List.getElem?_set]
      split
      · next e =>
        subst e
        simp [hk, hx]
      · rfl
    refine ⟨validTable_iff.2 ⟨fun q hq => ?_, ?_, by simpa using v3⟩, by omega, by omega, by simp, by simp, ⟨k, ?_⟩, fun q hq => ?_, fun q hq => ?_⟩
    · rcases List.mem_or_eq_of_mem_set hq with hq | rfl
      · exact v1 q hq
      · simp only [okMap, Bool.and_eq_true, inR_iff]
        exact ⟨⟨hok2.1.1, hok2.1.2⟩, h0, h1⟩
    · have hP : (l.map fun q => (q.ins, q.port)).Pairwise (fun a b => a.1 ≠ b.1 ∧ a.2 ≠ b.2) := List.pairwise_map.2 v2
      rw [← hkey] at hP
      exact (List.pairwise_map (f := fun q : MapD => (q.ins, q.port))).1 hP
    · rw [List.getElem?_set_self hk]
      simp [← b3]
    · rcases List.mem_or_eq_of_mem_set hq with hq | rfl
      · exact .inl hq
      · exact .inr (by simp [← b3])
    · have h5 : (q.ins, q.port) ∈ (l.set k { m with last := now }).map (fun q => (q.ins, q.port)) := by
        rw [hkey]; exact List.mem_map.2 ⟨q, hq, rfl⟩
      obtain ⟨q', hq', e'⟩ := List.mem_map.1 h5
      injection e' with e1 e2
      exact ⟨q', hq', e2, e1⟩
  case isFalse hb =>
    split at h
    · cases h
    case isFalse hf =>
      simp only [Option.some.injEq, Prod.mk.injEq] at h
      obtain ⟨rfl, rfl⟩ := h
      obtain ⟨f1, f2, f3⟩ := freePort_ok hf
      have hlen : l.length < 8 := by
        rcases Nat.lt_or_ge l.length 8 with h | h
        · exact h
        · exact absurd (freePort_full hl e.port (by omega)) hf
      refine ⟨validTable_iff.2 ⟨fun q hq => ?_, ?_, by simp; omega⟩, f1, f2, by simp, by simp, ⟨l.length, by simp⟩, fun q hq => ?_, fun q hq => ⟨q, by simp [hq], rfl, rfl⟩⟩
      · simp only [List.mem_append, List.mem_singleton] at hq
        rcases hq with hq | rfl
        · exact v1 q hq
        · simp only [okMap, Bool.and_eq_true, inR_iff]
          exact ⟨⟨he, f1, f2⟩, h0, h1⟩
      · rw [List.pairwise_append]
        refine ⟨v2, by simp, fun a ha b hb' => ?_⟩
        simp only [List.mem_singleton] at hb'
        subst hb'
        exact ⟨(byEnd_neg hb).2 a ha, f3 a ha⟩
      · simp only [List.mem_append, List.mem_singleton] at hq
        exact hq
theorem mapEnd_again {l t : List MapD} {e : EndD} {port now : Int} (h : Mapped l t e port now) : mapEnd t e now = some (t, port) := by
  obtain ⟨k, hk⟩ := h.at_
  have hb := byEnd_of h.valid hk
  simp only at hb
  unfold mapEnd
  rw [if_pos (by omega), hb, Int.toNat_natCast, nth_of hk]
  have hs : t.set k { (⟨e, port, now⟩ : MapD) with last := max now now } = t := by
    refine List.ext_getElem? fun i => ?_
    rw [List.getElem?_set]
    split
    · next e' =>
      subst e'
      obtain ⟨h1, h2⟩ := List.getElem?_eq_some_iff.1 hk
      rw [if_pos h1, hk]
      simp
    · rfl
  simp only [hs]
theorem mapEnd_none {l : List MapD} {e : EndD} {now : Int} (hl : validTable l = true) : mapEnd l e now = none ↔ ¬ 0 ≤ byEnd l e ∧ ¬ l.length < 8 := by
  unfold mapEnd
  split
  case isTrue h => simp [h]
  case isFalse h =>
    split
    case isTrue h2 =>
      refine ⟨fun _ => ⟨h, fun h3 => freePort_room e.port h3 h2⟩, fun _ => rfl⟩
    case isFalse h2 =>
      refine ⟨(fun h3 => by cases h3), fun ⟨_, h3⟩ => absurd (freePort_full hl e.port (by have := (validTable_iff.1 hl).2.2; omega)) h2⟩
theorem Mapped.out {l t : List MapD} {e : EndD} {port now : Int} (h : Mapped l t e port now) : outsidePort t e = port := by
  obtain ⟨k, hk⟩ := h.at_
  have hb := byEnd_of h.valid hk
  simp only at hb
  unfold outsidePort
  rw [h.valid, hb, Int.toNat_natCast, nth_of hk]
  simp
theorem Mapped.inside {l t : List MapD} {e : EndD} {port now : Int} (h : Mapped l t e port now) : 0 ≤ byPort t port ∧ nth t (byPort t port).toNat = ⟨e, port, now⟩ := by
  obtain ⟨k, hk⟩ := h.at_
  have hb := byPort_of h.valid hk
  simp only at hb
  rw [hb, Int.toNat_natCast, nth_of hk]
  exact ⟨by omega, rfl⟩

theorem note_eq (l : List ConD) (c : ConD) : note l c = (l.filter fun d => !decide (d = c)).drop ((l.filter fun d => !decide (d = c)).length + 1 - 10) ++ [c] := by
  unfold note noteAll
  rw [List.length_append, List.length_singleton, List.drop_append_of_le_length (by omega)]
theorem note_ok {l : List ConD} {c : ConD} (hl : validContacts l = true) (hc : okCon c = true) : validContacts (note l c) = true ∧ ∀ x ∈ note l c, x ∈ l ∨ x = c := by
  obtain ⟨v1, v2, v3⟩ := validContacts_iff.1 hl
  rw [note_eq]
  have hsub : ((l.filter fun d => !decide (d = c)).drop ((l.filter fun d => !decide (d = c)).length + 1 - 10)).Sublist l := (List.drop_sublist _ _).trans List.filter_sublist
  refine ⟨validContacts_iff.2 ⟨fun x hx => ?_, ?_, ?_⟩, fun x hx => ?_⟩
  · simp only [List.mem_append, List.mem_singleton] at hx
    rcases hx with hx | rfl
    · exact v1 x (hsub.subset hx)
    · exact hc
  · rw [List.pairwise_append]
    refine ⟨v2.sublist hsub, by simp, fun a ha b hb => ?_⟩
    simp only [List.mem_singleton] at hb
    subst hb
    have := (List.mem_filter.1 (List.mem_of_mem_drop ha)).2
    simpa using this
  · simp only [List.length_append, List.length_drop, List.length_singleton]
    omega
  · simp only [List.mem_append, List.mem_singleton] at hx
    rcases hx with hx | rfl
    · exact .inl (hsub.subset hx)
    · exact .inr rfl
theorem note_again (l : List ConD) (c : ConD) : note (note l c) c = note l c := by
  have hf : ((note l c).filter fun d => !decide (d = c)) = (l.filter fun d => !decide (d = c)).drop ((l.filter fun d => !decide (d = c)).length + 1 - 10) := by
    rw [note_eq, List.filter_append]
    rw [List.filter_eq_self.2 (fun x hx => (List.mem_filter.1 (List.mem_of_mem_drop hx)).2)]
    simp
  rw [note_eq (note l c) c, hf]
  rw [note_eq l c]
  rw [show ((l.filter fun d => !decide (d = c)).drop ((l.filter fun d => !decide (d = c)).length + 1 - 10)).length + 1 - 10 = 0 by rw [List.length_drop]; omega]
  rfl
theorem note_mem (l : List ConD) (c : ConD) : c ∈ note l c := by rw [note_eq]; simp
theorem note_len (l : List ConD) (c : ConD) : 0 < (note l c).length ∧ (note l c).length ≤ 10 := by
  rw [note_eq]
  simp only [List.length_append, List.length_drop, List.length_singleton]
  omega
theorem note_last (l : List ConD) (c : ConD) : nth (note l c) ((note l c).length - 1) = c := by
  refine nth_of ?_
  rw [note_eq]
  simp

/-- A valid gate, part by part. -/
structure VGate (g : GateD) : Prop where
  net : validNet g.net = true
  out : word g.out = true
  nin : has g.net g.out = false
  tab : validTable g.table = true
  con : validContacts g.cons = true
  fil : inR g.filter 0 2 = true
  now0 : 0 ≤ g.now
  now1 : g.now ≤ 10000
  hold0 : 1 ≤ g.hold
  hold1 : g.hold ≤ 500
  maps : ∀ m ∈ g.table, has g.net m.ins.addr = true ∧ m.last ≤ g.now ∧ g.now - m.last < g.hold
  cons : ∀ c ∈ g.cons, 0 ≤ byPort g.table c.port
theorem validGate_iff {g : GateD} : validGate g = true ↔ VGate g := by
  unfold validGate
  simp only [Bool.and_eq_true, Bool.not_eq_true', timer, inR_iff, List.all_eq_true, okGateMap, okGateCon, expired, decide_eq_true_eq, decide_eq_false_iff_not]
  constructor
  · rintro ⟨⟨⟨⟨⟨⟨⟨⟨h1, h2⟩, h3⟩, h4⟩, h5⟩, h6⟩, h7⟩, h8⟩, h9⟩
    exact ⟨h1, h2, h3, h4, h5, inR_iff.2 h6, h7.1.1, h7.1.2, h7.2.1, h7.2.2, fun m hm => by have := h8 m hm; exact ⟨this.1.1, this.1.2, by omega⟩, h9⟩
  · intro h
    exact ⟨⟨⟨⟨⟨⟨⟨⟨h.net, h.out⟩, h.nin⟩, h.tab⟩, h.con⟩, inR_iff.1 h.fil⟩, ⟨⟨h.now0, h.now1⟩, h.hold0, h.hold1⟩⟩, fun m hm => by have := h.maps m hm; exact ⟨⟨this.1, this.2.1⟩, by omega⟩⟩, h.cons⟩
theorem validPkt_iff {p : PktD} : validPkt p = true ↔ inR p.kind 0 2 = true ∧ validEnd p.fr = true ∧ validEnd p.to_ = true ∧ p.data.length ≤ 12 ∧ p.data.all word = true := by
  simp only [validPkt, Bool.and_eq_true, decide_eq_true_eq]
  constructor
  · rintro ⟨⟨⟨⟨a, b⟩, c⟩, d⟩, e⟩; exact ⟨a, b, c, d, e⟩
  · rintro ⟨a, b, c, d, e⟩; exact ⟨⟨⟨⟨a, b⟩, c⟩, d⟩, e⟩
theorem word_port {p : Int} (h0 : 1000 ≤ p) (h1 : p ≤ 1007) : word p = true := word_iff.2 (by omega)

/-- What sending a packet from inside gives. -/
structure Sent (g : GateD) (p q : PktD) (h : GateD) : Prop where
  mapped : Mapped g.table h.table p.fr q.fr.port g.now
  cons : h.cons = note g.cons ⟨q.fr.port, p.to_⟩
  same : h = { g with table := h.table, cons := h.cons }
  pkt : q = { p with fr := ⟨g.out, q.fr.port⟩ }
  valid : VGate h
  validq : validPkt q = true
  again : send h p = some (q, h)
theorem send_ok {g : GateD} {p q : PktD} {h : GateD} (hg : VGate g) (hp : validPkt p = true) (hin : has g.net p.fr.addr = true) (hs : send g p = some (q, h)) : Sent g p q h := by
  obtain ⟨p1, p2, p3, p4, p5⟩ := validPkt_iff.1 hp
  unfold send at hs
  cases hm : mapEnd g.table p.fr g.now with
  | none => rw [hm] at hs; cases hs
  | some r =>
    obtain ⟨t, port⟩ := r
    rw [hm] at hs
    simp only [Option.some.injEq, Prod.mk.injEq] at hs
    obtain ⟨rfl, rfl⟩ := hs
    have M := mapEnd_ok hg.tab p2 hg.now0 hg.now1 (fun m hm' => (hg.maps m hm').2.1) hm
    have hc : okCon ⟨port, p.to_⟩ = true := by
      simp only [okCon, Bool.and_eq_true, inR_iff]
      exact ⟨⟨M.lo, M.hi⟩, p3⟩
    obtain ⟨n1, n2⟩ := note_ok hg.con hc
    refine ⟨M, rfl, rfl, rfl, ⟨hg.net, hg.out, hg.nin, M.valid, n1, hg.fil, hg.now0, hg.now1, hg.hold0, hg.hold1, fun m hm' => ?_, fun c hc' => ?_⟩, validPkt_iff.2 ⟨p1, ?_, p3, p4, p5⟩, ?_⟩
    · rcases M.old m hm' with h | rfl
      · exact hg.maps m h
      · have := hg.hold0
        exact ⟨hin, by simp, by simp; omega⟩
    · rcases n2 c hc' with h | rfl
      · obtain ⟨k, m, b1, b2, b3, _⟩ := byPort_some (hg.cons c h)
        obtain ⟨q, hq, e, _⟩ := M.all m (List.mem_of_getElem? b2)
        have := byPort_mem hq
        rw [e, b3] at this
        exact this
      · exact M.inside.1
    · simp only [validEnd, Bool.and_eq_true]
      exact ⟨hg.out, word_port M.lo M.hi⟩
    · unfold send
      simp only [mapEnd_again M, note_again]
theorem send_none {g : GateD} {p : PktD} (hg : VGate g) : send g p = none ↔ ¬ 0 ≤ byEnd g.table p.fr ∧ ¬ g.table.length < 8 := by
  rw [← mapEnd_none (now := g.now) hg.tab]
  unfold send
  cases mapEnd g.table p.fr g.now with
  | none => simp
  | some r => simp
end Go.Proofs.Ytafmomocmodbhaa
/- Plain laws of the gate: ticking; looking up ends and ports. No program in sight. No condition. -/
namespace Go.Proofs.Ytafmomocmodbhaa
set_option linter.unusedVariables false
set_option linter.unusedSimpArgs false

theorem foldl_without : ∀ (ps : List Int) (l : List ConD), ps.foldl without l = l.filter fun c => !decide (c.port ∈ ps)
  | [], l => by simp only [List.foldl_nil, List.not_mem_nil, decide_false, Bool.not_false]; exact (List.filter_eq_self.2 fun _ _ => rfl).symm
  | p :: ps, l => by
    rw [List.foldl_cons, foldl_without ps]
    unfold without
    rw [List.filter_filter]
    congr 1
    funext c
    rw [Bool.eq_iff_iff]
    simp
    exact ⟨fun ⟨a, b⟩ => ⟨b, a⟩, fun ⟨a, b⟩ => ⟨b, a⟩⟩
theorem mem_expPorts {l : List MapD} {now hold p : Int} : p ∈ expPorts l now hold ↔ ∃ m ∈ l, hold ≤ now - m.last ∧ m.port = p := by
  unfold expPorts expired
  simp only [List.mem_map, List.mem_filter, decide_eq_true_eq]
  exact ⟨fun ⟨m, ⟨a, b⟩, c⟩ => ⟨m, a, b, c⟩, fun ⟨m, a, b, c⟩ => ⟨m, ⟨a, b⟩, c⟩⟩
theorem mem_expire {l : List MapD} {now hold : Int} {m : MapD} : m ∈ expire l now hold ↔ m ∈ l ∧ now - m.last < hold := by
  unfold expire expired
  simp only [List.mem_filter, Bool.not_eq_true', decide_eq_false_iff_not]
  exact ⟨fun ⟨a, b⟩ => ⟨a, by omega⟩, fun ⟨a, b⟩ => ⟨a, by omega⟩⟩
theorem validTable_sub {l l' : List MapD} (h : validTable l = true) (hs : l'.Sublist l) : validTable l' = true := by
  obtain ⟨a, b, c⟩ := validTable_iff.1 h
  exact validTable_iff.2 ⟨fun m hm => a m (hs.subset hm), b.sublist hs, Nat.le_trans hs.length_le c⟩
theorem validContacts_sub {l l' : List ConD} (h : validContacts l = true) (hs : l'.Sublist l) : validContacts l' = true := by
  obtain ⟨a, b, c⟩ := validContacts_iff.1 h
  exact validContacts_iff.2 ⟨fun m hm => a m (hs.subset hm), b.sublist hs, Nat.le_trans hs.length_le c⟩
theorem tick_valid {g : GateD} {now : Int} (hg : VGate g) (h0 : g.now ≤ now) (h1 : now ≤ 10000) : VGate (tick g now) := by
  have := hg.now0
  refine ⟨hg.net, hg.out, hg.nin, validTable_sub hg.tab List.filter_sublist, ?_, hg.fil, by simp only [tick]; omega, h1, hg.hold0, hg.hold1, fun m hm => ?_, fun c hc => ?_⟩
  · simp only [tick, foldl_without]
    exact validContacts_sub hg.con List.filter_sublist
  · simp only [tick] at hm ⊢
    obtain ⟨m1, m2⟩ := mem_expire.1 hm
    have := hg.maps m m1
    exact ⟨this.1, by omega, m2⟩
  · simp only [tick, foldl_without, List.mem_filter, Bool.not_eq_true', decide_eq_false_iff_not] at hc ⊢
    obtain ⟨k, m, b1, b2, b3, _⟩ := byPort_some (hg.cons c hc.1)
    have hm : m ∈ g.table := List.mem_of_getElem? b2
    have hne : ¬ g.hold ≤ now - m.last := fun e => hc.2 (mem_expPorts.2 ⟨m, hm, e, b3⟩)
    have := byPort_mem (mem_expire.2 ⟨hm, show now - m.last < g.hold by omega⟩)
    rw [b3] at this
    exact this
theorem tick_step {g : GateD} {mid now : Int} (h : mid ≤ now) : tick (tick g mid) now = tick g now := by
  have ht : expire (expire g.table mid g.hold) now g.hold = expire g.table now g.hold := by
    unfold expire expired
    rw [List.filter_filter]
    congr 1
    funext m
    rw [Bool.eq_iff_iff]
    simp
    omega
  have hc : ∀ p, (p ∈ expPorts g.table mid g.hold ∨ p ∈ expPorts (expire g.table mid g.hold) now g.hold) ↔ p ∈ expPorts g.table now g.hold := by
    intro p
    simp only [mem_expPorts, mem_expire]
    constructor
    · rintro (⟨m, a, b, c⟩ | ⟨m, ⟨a, _⟩, b, c⟩)
      · exact ⟨m, a, by omega, c⟩
      · exact ⟨m, a, b, c⟩
    · rintro ⟨m, a, b, c⟩
      by_cases h1 : g.hold ≤ mid - m.last
      · exact .inl ⟨m, a, h1, c⟩
      · exact .inr ⟨m, ⟨a, by omega⟩, b, c⟩
  unfold tick
  simp only [ht, foldl_without, List.filter_filter]
  congr 1
  congr 1
  funext c
  have := hc c.port
  rw [Bool.eq_iff_iff]
  simp only [Bool.and_eq_true, Bool.not_eq_true', decide_eq_false_iff_not]
  rw [← this]
  constructor
  · rintro ⟨a, b⟩ (c | c)
    · exact b c
    · exact a c
  · intro a
    exact ⟨fun b => a (.inr b), fun b => a (.inl b)⟩
theorem table_one {l : List MapD} (hl : validTable l = true) {a b : MapD} (ha : a ∈ l) (hb : b ∈ l) (h : a.ins = b.ins) : a = b := by
  obtain ⟨i, hi⟩ := List.getElem?_of_mem ha
  obtain ⟨j, hj⟩ := List.getElem?_of_mem hb
  have h1 := byEnd_of hl hi
  have h2 := byEnd_of hl hj
  rw [h] at h1
  have : i = j := by omega
  subst this
  rw [hi] at hj
  exact Option.some.inj hj
theorem table_one' {l : List MapD} (hl : validTable l = true) {a b : MapD} (ha : a ∈ l) (hb : b ∈ l) (h : a.port = b.port) : a = b := by
  obtain ⟨i, hi⟩ := List.getElem?_of_mem ha
  obtain ⟨j, hj⟩ := List.getElem?_of_mem hb
  have h1 := byPort_of hl hi
  have h2 := byPort_of hl hj
  rw [h] at h1
  have : i = j := by omega
  subst this
  rw [hi] at hj
  exact Option.some.inj hj
theorem outsidePort_mem {l : List MapD} (hl : validTable l = true) {m : MapD} (hm : m ∈ l) : outsidePort l m.ins = m.port := by
  obtain ⟨i, hi⟩ := List.getElem?_of_mem hm
  have h1 := byEnd_of hl hi
  unfold outsidePort
  rw [hl, h1, Int.toNat_natCast, nth_of hi]
  simp
theorem insideEnd_mem {l : List MapD} (hl : validTable l = true) {m : MapD} (hm : m ∈ l) : insideEnd l m.port = some m.ins := by
  obtain ⟨i, hi⟩ := List.getElem?_of_mem hm
  have h1 := byPort_of hl hi
  unfold insideEnd
  rw [hl, h1, Int.toNat_natCast, nth_of hi]
  simp
theorem outsidePort_none {l : List MapD} {e : EndD} (h : ∀ m ∈ l, m.ins ≠ e) : outsidePort l e = -1 := by
  unfold outsidePort
  rw [if_neg]
  rw [Bool.and_eq_true, decide_eq_true_eq]
  rintro ⟨_, h0⟩
  obtain ⟨k, m, _, b2, b3, _⟩ := byEnd_some h0
  exact h m (List.mem_of_getElem? b2) b3
end Go.Proofs.Ytafmomocmodbhaa
/- Finding in slices of mappings: IndexFunc, ContainsFunc at a closure; the closures of byEnd and byPort. -/
namespace Go.Proofs.Ytafmomocmodbhaa
set_option linter.unusedVariables false
set_option linter.unusedSimpArgs false
open Go.RowKit Go.Shelf

theorem IndexFunc_M (g : FuncId) (lb : Array Value) (eg : ∀ args w, (callFunc g args).run Try.prog w = .ok (.enter g args) w) (p : MapD → Bool) (a : Option Addr) (n c : Nat) (L : List MapD) (w : World) (hs : Sl encM 4 w a n c L)
    (hcall : ∀ x, x ∈ L → ∀ W, Ext w W → Calls Try.prog g (#[.agg #[.int .i64 x.ins.addr, .int .i64 x.ins.port, .int .i64 x.port, .int .i64 x.last]] ++ lb) W fun e w' => e = .returned (.bool (p x)) ∧ Ext W w') :
    Calls Try.prog 134 #[.slice a n c, .func (.func g) #[] lb] w fun e w' => e = .returned (.int .i64 (ix p L)) ∧ Ext w w' := by
  have hle := hs.le
  have hmax := hs.max
  have hlen := Lib.hid hs.len
  rcases hs.maps with ⟨h0, hL⟩ | ⟨h0, b, off, ha, hb, hc⟩
  · subst h0
    subst hL
    clear hs hcall hlen
    go_enter Try.func134, Try.ntmps134
    go_wp2
    go_loop [5, 8] (fun _ i => i = .int .i64 0) (fun _ _ => 0)
    case atStart => rfl
    case round =>
      subst hrel
      go_wp2
      go_ret
      exact ⟨rfl, Ext.refl _⟩
  · subst ha
    have HC := Lib.hid hcall
    have HC2 := Lib.hid hc
    clear hs hcall hc
    go_enter Try.func134, Try.ntmps134
    go_wp2
    go_loopw [5, 8] (fun _ i wr => ∃ k : Nat, k ≤ n ∧ i = .int .i64 k ∧ (∀ j, j < k → p (nth L j) = false) ∧ Ext w wr) (fun _ i _ => n - (intOf i).toNat)
    case atStart => exact ⟨0, Nat.zero_le _, rfl, by omega, Ext.refl _⟩
    case round =>
      obtain ⟨k, hk, rfl, hall, hX⟩ := hrel
      have HA := Lib.hid hall
      clear hall
      by_cases hlt : k < n
      · obtain ⟨d0, d1, d2, d3⟩ := HC2.out k hlt
        rw [← hX.cells _ _ hb] at d0 d1 d2 d3
        have hmem : nth L k ∈ L := nth_mem (by rw [hlen.out]; exact hlt)
        have hcall := HC.out (nth L k) hmem wr hX
        cases hp : p (nth L k) with
        | true =>
          rw [hp] at hcall
          replace hcall := Lib.hid hcall
          replace hp := Lib.hid hp
          go_wp2_with fail
          refine (hcall.out).mono ?_
          rintro e w1 ⟨rfl, hx⟩
          go_wp2
          go_ret
          refine ⟨ret_int (ix_some (k := k) (x := nth L k) ?_ (nth_some (by rw [hlen.out]; exact hlt)) hp.out).symm, hX.trans hx⟩
          intro y hy
          obtain ⟨j, hj, rfl⟩ := List.mem_take_iff_getElem.1 hy
          have h1 := HA.out j (by omega)
          rwa [nth_of (List.getElem?_eq_getElem (by omega))] at h1
        | false =>
          rw [hp] at hcall
          replace hcall := Lib.hid hcall
          replace hp := Lib.hid hp
          go_wp2_with fail
          refine (hcall.out).mono ?_
          rintro e w1 ⟨rfl, hx⟩
          have HX := Lib.hid (hX.trans hx)
          clear hX hx
          go_wp2
          go_roundw
          case rel => exact ⟨k + 1, hlt, by go_num, fun j hj => by
            rcases Nat.lt_or_ge j k with h | h
            · exact HA.out j h
            · have e : j = k := by omega
              rw [e]; exact hp.out, HX.out⟩
          case measure => simp [intOf]; omega
      · have e : k = n := by omega
        have HX := Lib.hid hX
        clear hX
        subst e
        go_wp2
        go_ret
        refine ⟨ret_int (ix_none fun x hx => ?_).symm, HX.out⟩
        obtain ⟨j, hj, rfl⟩ := List.mem_iff_getElem.1 hx
        have h1 := HA.out j (by rw [← hlen.out]; exact hj)
        rwa [nth_of (List.getElem?_eq_getElem hj)] at h1
theorem ix_any {α : Type} (p : α → Bool) (l : List α) : decide (0 ≤ ix p l) = l.any p := by
  rcases ix_cases p l with ⟨h, h2⟩ | ⟨k, x, h, h2, h3, _⟩
  · rw [h]
    have : l.any p = false := by rw [List.any_eq_false]; intro x hx; simp [h2 x hx]
    rw [this]; rfl
  · rw [h]
    have : l.any p = true := List.any_eq_true.2 ⟨x, List.mem_of_getElem? h2, h3⟩
    rw [this]
    simp
theorem ContainsFunc_M (g : FuncId) (lb : Array Value) (eg : ∀ args w, (callFunc g args).run Try.prog w = .ok (.enter g args) w) (p : MapD → Bool) (a : Option Addr) (n c : Nat) (L : List MapD) (w : World) (hs : Sl encM 4 w a n c L)
    (hcall : ∀ x, x ∈ L → ∀ W, Ext w W → Calls Try.prog g (#[.agg #[.int .i64 x.ins.addr, .int .i64 x.ins.port, .int .i64 x.port, .int .i64 x.last]] ++ lb) W fun e w' => e = .returned (.bool (p x)) ∧ Ext W w') :
    Calls Try.prog 108 #[.slice a n c, .func (.func g) #[] lb] w fun e w' => e = .returned (.bool (L.any p)) ∧ Ext w w' := by
  have H := Lib.hid (IndexFunc_M g lb eg p a n c L w hs hcall)
  rw [← ix_any]
  have hge := ix_ge p L
  clear hs hcall eg
  generalize ix p L = r at *
  go_enter Try.func108, Try.ntmps108
  go_wp2_with fail
  refine (H.out).mono ?_
  rintro e w1 ⟨rfl, hx⟩
  go_wp2
  go_ret
  exact ⟨rfl, hx⟩
theorem clo_byEnd (m : MapD) (e : EndD) (B : Nat) (W : World) (hB : Blk W B 42 #[.int .i64 e.addr, .int .i64 e.port]) :
    Calls Try.prog 135 (#[.agg #[.int .i64 m.ins.addr, .int .i64 m.ins.port, .int .i64 m.port, .int .i64 m.last]] ++ #[.pointer (some ⟨B, 0, none⟩)]) W fun r w' => r = .returned (.bool (decide (m.ins = e))) ∧ Ext W w' := by
  show Calls Try.prog 135 #[.agg #[.int .i64 m.ins.addr, .int .i64 m.ins.port, .int .i64 m.port, .int .i64 m.last], .pointer (some ⟨B, 0, none⟩)] W _
  have h1 := hB.cells
  have h2 := hB.lt
  have e1 : decide (m.ins = e) = (decide (m.ins.addr = e.addr) && decide (m.ins.port = e.port)) := by
    obtain ⟨⟨a, b⟩, c, d⟩ := m; obtain ⟨x, y⟩ := e
    rw [Bool.eq_iff_iff]
    simp
  rw [e1]
  clear e1 hB
  go_enter Try.func135, Try.ntmps135
  go_wp2
  all_goals (go_ret; exact ⟨ret_bool (by simp [*]), (by repeat (first | (with_reducible exact Ext.refl _) | (with_reducible assumption) | (with_reducible refine Ext.alloc ?_ _) | (with_reducible refine Ext.drewN ?_ _) | (with_reducible refine Ext.drew ?_) | (with_reducible refine Ext.setCell ?_ ?_ _; rotate_left; (simp only []; omega)) | (with_reducible refine Ext.trans ?_ (by assumption))))⟩)
theorem impl_byEnd (e : EndD) (a : Option Addr) (n c : Nat) (L : List MapD) (w : World) (hs : Sl encM 4 w a n c L) :
    Calls Try.prog 76 #[.slice a n c, .agg #[.int .i64 e.addr, .int .i64 e.port]] w fun r w' => r = .returned (.int .i64 (byEnd L e)) ∧ Ext w w' := by
  have eg : ∀ args w, (callFunc 135 args).run Try.prog w = .ok (.enter 135 args) w := enters_of Try.func135 (by kernel_rfl) rfl
  have H := Lib.hid (IndexFunc_M 135 #[.pointer (some ⟨w.heap.size, 0, none⟩)] eg (fun m => decide (m.ins = e)) a n c L (w.alloc (.cells #[.int .i64 e.addr, .int .i64 e.port] 42)) (hs.alloc _)
    (fun x _ W hW => clo_byEnd x e w.heap.size W (Blk.ext (Blk.new _ _ _) hW)))
  clear hs eg
  unfold byEnd
  generalize ix (fun m => decide (m.ins = e)) L = r at *
  go_enter Try.func76, Try.ntmps76
  go_wp2_with fail
  refine (H.out).mono ?_
  rintro e w1 ⟨rfl, hx⟩
  go_wp2
  go_ret
  exact ⟨rfl, (by repeat (first | (with_reducible exact Ext.refl _) | (with_reducible assumption) | (with_reducible refine Ext.alloc ?_ _) | (with_reducible refine Ext.drewN ?_ _) | (with_reducible refine Ext.drew ?_) | (with_reducible refine Ext.setCell ?_ ?_ _; rotate_left; (simp only []; omega)) | (with_reducible refine Ext.trans ?_ (by assumption))))⟩
theorem clo_byPort (m : MapD) (q : Int) (B : Nat) (W : World) (hB : Blk W B 3 #[.int .i64 q]) :
    Calls Try.prog 142 (#[.agg #[.int .i64 m.ins.addr, .int .i64 m.ins.port, .int .i64 m.port, .int .i64 m.last]] ++ #[.pointer (some ⟨B, 0, none⟩)]) W fun r w' => r = .returned (.bool (decide (m.port = q))) ∧ Ext W w' := by
  show Calls Try.prog 142 #[.agg #[.int .i64 m.ins.addr, .int .i64 m.ins.port, .int .i64 m.port, .int .i64 m.last], .pointer (some ⟨B, 0, none⟩)] W _
  have h1 := hB.cells
  have h2 := hB.lt
  clear hB
  go_enter Try.func142, Try.ntmps142
  go_wp2
  go_ret
  exact ⟨rfl, (by repeat (first | (with_reducible exact Ext.refl _) | (with_reducible assumption) | (with_reducible refine Ext.alloc ?_ _) | (with_reducible refine Ext.drewN ?_ _) | (with_reducible refine Ext.drew ?_) | (with_reducible refine Ext.setCell ?_ ?_ _; rotate_left; (simp only []; omega)) | (with_reducible refine Ext.trans ?_ (by assumption))))⟩
theorem impl_byPort (q : Int) (a : Option Addr) (n c : Nat) (L : List MapD) (w : World) (hs : Sl encM 4 w a n c L) :
    Calls Try.prog 89 #[.slice a n c, .int .i64 q] w fun r w' => r = .returned (.int .i64 (byPort L q)) ∧ Ext w w' := by
  have eg : ∀ args w, (callFunc 142 args).run Try.prog w = .ok (.enter 142 args) w := enters_of Try.func142 (by kernel_rfl) rfl
  have H := Lib.hid (IndexFunc_M 142 #[.pointer (some ⟨w.heap.size, 0, none⟩)] eg (fun m => decide (m.port = q)) a n c L (w.alloc (.cells #[.int .i64 q] 3)) (hs.alloc _)
    (fun x _ W hW => clo_byPort x q w.heap.size W (Blk.ext (Blk.new _ _ _) hW)))
  clear hs eg
  unfold byPort
  generalize ix (fun m => decide (m.port = q)) L = r at *
  go_enter Try.func89, Try.ntmps89
  go_wp2_with fail
  refine (H.out).mono ?_
  rintro e w1 ⟨rfl, hx⟩
  go_wp2
  go_ret
  exact ⟨rfl, (by repeat (first | (with_reducible exact Ext.refl _) | (with_reducible assumption) | (with_reducible refine Ext.alloc ?_ _) | (with_reducible refine Ext.drewN ?_ _) | (with_reducible refine Ext.drew ?_) | (with_reducible refine Ext.setCell ?_ ?_ _; rotate_left; (simp only []; omega)) | (with_reducible refine Ext.trans ?_ (by assumption))))⟩
end Go.Proofs.Ytafmomocmodbhaa
/- Contracts: two lists, packets, reports that read the same are told equal. -/
namespace Go.Proofs.Ytafmomocmodbhaa
set_option linter.unusedVariables false
set_option linter.unusedSimpArgs false
open Go.RowKit

theorem add_zero' (a : Option Addr) : a.map (·.add 0) = a := by
  cases a with
  | none => rfl
  | some x =>
    obtain ⟨b, o, s⟩ := x
    cases s <;> simp [Addr.add]
theorem run_take_any (a : Option Addr) (n c m : Nat) (h : m ≤ c) (W : World) : (Instr.slice 30 (.slice a n c) none (some (.int .i64 m)) none).run Try.prog W = .ok (.slice a m c) W := by
  have h2 : (m : Int) ≤ (c : Int) := by omega
  have e : ∀ s : Nat, a.map (·.add (0 * s)) = a := by intro s; rw [Nat.zero_mul]; exact add_zero' a
  rw [run_slice_h (P := Try.prog) W 30 a n c (by kernel_rfl) .i64 (m : Int) (by omega) h2]
  go_simp
theorem equalInts_same (a a' : Option Addr) (n c c' : Nat) (L : List Int) (w : World) (hs : Sl encI 1 w a n c L) (hs' : Sl encI 1 w a' n c' L) :
    Calls Try.prog 35 #[.slice a n c, .slice a' n c'] w fun e w' => e = .returned (.bool true) ∧ Ext w w' := by
  have hle := hs.le
  have hmax := hs.max
  rcases hs.ints with ⟨h0, _⟩ | ⟨h0, b, off, ha, hb, hc⟩
  · subst h0
    clear hs hs'
    go_enter Try.func35, Try.ntmps35
    go_wp2
    go_loop [5] (fun i => i = .int .i64 0) (fun _ => 0)
    case atStart => rfl
    case round =>
      subst hrel
      go_wp2
      go_ret
      exact ⟨rfl, Ext.refl _⟩
  · obtain ⟨_, b', off', ha', hb', hc'⟩ := (hs'.ints).resolve_left (by omega)
    subst ha
    subst ha'
    clear hs hs'
    go_enter Try.func35, Try.ntmps35
    go_wp2
    go_loopw [5] (fun i wr => ∃ k : Nat, k ≤ n ∧ i = .int .i64 k ∧ Ext w wr) (fun i _ => n - (intOf i).toNat)
    case atStart => exact ⟨0, Nat.zero_le _, rfl, Ext.refl _⟩
    case round =>
      obtain ⟨k, hk, rfl, hX⟩ := hrel
      have hcX := hX.cells
      by_cases hlt : k < n
      · have c1 : wr.cell? ⟨b, off + k, none⟩ = some (.int .i64 (nth L k)) := (hcX _ _ hb).trans (hc k hlt)
        have c2 : wr.cell? ⟨b', off' + k, none⟩ = some (.int .i64 (nth L k)) := (hcX _ _ hb').trans (hc' k hlt)
        clear hcX hc hc'
        go_wp2
        go_region
        go_wp2
        go_roundw
        case rel => exact ⟨k + 1, hlt, by go_num, (by repeat (first | (with_reducible exact Ext.refl _) | (with_reducible assumption) | (with_reducible refine Ext.alloc ?_ _) | (with_reducible refine Ext.drewN ?_ _) | (with_reducible refine Ext.drew ?_) | (with_reducible refine Ext.setCell ?_ ?_ _; rotate_left; (simp only []; omega)) | (with_reducible refine Ext.trans ?_ (by assumption))))⟩
        case measure => simp [intOf]; omega
      · clear hcX hc hc'
        go_wp2
        go_ret
        exact ⟨rfl, hX⟩
theorem equalPacket_same (k fa fp ta tp : Int) (a a' : Option Addr) (n c c' : Nat) (L : List Int) (w : World) (hs : Sl encI 1 w a n c L) (hs' : Sl encI 1 w a' n c' L) :
    Calls Try.prog 81 #[.agg #[.int .i64 k, .int .i64 fa, .int .i64 fp, .int .i64 ta, .int .i64 tp, .slice a n c], .agg #[.int .i64 k, .int .i64 fa, .int .i64 fp, .int .i64 ta, .int .i64 tp, .slice a' n c']] w fun e w' => e = .returned (.bool true) ∧ Ext w w' := by
  go_enter Try.func81, Try.ntmps81
  go_wp2_with (go_at_call 35; refine (equalInts_same _ _ n c c' L _ (by exact hs.ext (by repeat (first | (with_reducible exact Ext.refl _) | (with_reducible assumption) | (with_reducible refine Ext.alloc ?_ _) | (with_reducible refine Ext.drewN ?_ _) | (with_reducible refine Ext.drew ?_) | (with_reducible refine Ext.setCell ?_ ?_ _; rotate_left; (simp only []; omega)) | (with_reducible refine Ext.trans ?_ (by assumption))))) (by exact hs'.ext (by repeat (first | (with_reducible exact Ext.refl _) | (with_reducible assumption) | (with_reducible refine Ext.alloc ?_ _) | (with_reducible refine Ext.drewN ?_ _) | (with_reducible refine Ext.drew ?_) | (with_reducible refine Ext.setCell ?_ ?_ _; rotate_left; (simp only []; omega)) | (with_reducible refine Ext.trans ?_ (by assumption)))))).mono ?_; rintro e w1 ⟨rfl, hx⟩; have hc := hx.cells; have hf := hx.frozens; have hy := hx.size; (try simp at hy); have hz : w.heap.size < w1.heap.size := (by omega))
  go_ret
  exact ⟨rfl, (by repeat (first | (with_reducible exact Ext.refl _) | (with_reducible assumption) | (with_reducible refine Ext.alloc ?_ _) | (with_reducible refine Ext.drewN ?_ _) | (with_reducible refine Ext.drew ?_) | (with_reducible refine Ext.setCell ?_ ?_ _; rotate_left; (simp only []; omega)) | (with_reducible refine Ext.trans ?_ (by assumption))))⟩
theorem equalReport_same (o s t k fa fp ta tp : Int) (a a' : Option Addr) (n c c' : Nat) (L : List Int) (w : World) (hs : Sl encI 1 w a n c L) (hs' : Sl encI 1 w a' n c' L) :
    Calls Try.prog 27 #[.agg #[.int .i64 o, .int .i64 s, .int .i64 t, .int .i64 k, .int .i64 fa, .int .i64 fp, .int .i64 ta, .int .i64 tp, .slice a n c], .agg #[.int .i64 o, .int .i64 s, .int .i64 t, .int .i64 k, .int .i64 fa, .int .i64 fp, .int .i64 ta, .int .i64 tp, .slice a' n c']] w fun e w' => e = .returned (.bool true) ∧ Ext w w' := by
  go_enter Try.func27, Try.ntmps27
  go_wp2_with (go_at_call 81; refine (equalPacket_same _ _ _ _ _ _ _ n c c' L _ (by exact hs.ext (by repeat (first | (with_reducible exact Ext.refl _) | (with_reducible assumption) | (with_reducible refine Ext.alloc ?_ _) | (with_reducible refine Ext.drewN ?_ _) | (with_reducible refine Ext.drew ?_) | (with_reducible refine Ext.setCell ?_ ?_ _; rotate_left; (simp only []; omega)) | (with_reducible refine Ext.trans ?_ (by assumption))))) (by exact hs'.ext (by repeat (first | (with_reducible exact Ext.refl _) | (with_reducible assumption) | (with_reducible refine Ext.alloc ?_ _) | (with_reducible refine Ext.drewN ?_ _) | (with_reducible refine Ext.drew ?_) | (with_reducible refine Ext.setCell ?_ ?_ _; rotate_left; (simp only []; omega)) | (with_reducible refine Ext.trans ?_ (by assumption)))))).mono ?_; rintro e w1 ⟨rfl, hx⟩; have hc := hx.cells; have hf := hx.frozens; have hy := hx.size; (try simp at hy); have hz : w.heap.size < w1.heap.size := (by omega))
  go_ret
  exact ⟨rfl, (by repeat (first | (with_reducible exact Ext.refl _) | (with_reducible assumption) | (with_reducible refine Ext.alloc ?_ _) | (with_reducible refine Ext.drewN ?_ _) | (with_reducible refine Ext.drew ?_) | (with_reducible refine Ext.setCell ?_ ?_ _; rotate_left; (simp only []; omega)) | (with_reducible refine Ext.trans ?_ (by assumption))))⟩
end Go.Proofs.Ytafmomocmodbhaa
/- Contracts: valid tables of mappings, of both packages; the places of ends and ports. -/
namespace Go.Proofs.Ytafmomocmodbhaa
set_option linter.unusedVariables false
set_option linter.unusedSimpArgs false
open Go.RowKit Go.Shelf

theorem all_two {α : Type} (a b : α → Bool) (l : List α) : (l.all fun q => !a q && !b q) = (!l.any a && !l.any b) := by
  induction l with
  | nil => rfl
  | cons x l ih => rw [List.all_cons, List.any_cons, List.any_cons, ih]; cases a x <;> cases b x <;> simp
theorem okMapAt_impl (L : List MapD) (k : Nat) : okMapAt L k = (validEnd (nth L k).ins && inR (nth L k).port 1000 1007 && inR (nth L k).last 0 10000 && !decide (0 ≤ byEnd (L.take k) (nth L k).ins) && !decide (0 ≤ byPort (L.take k) (nth L k).port)) := by
  unfold okMapAt okMap byEnd byPort
  rw [all_two, ix_any, ix_any]
  simp only [Bool.and_assoc]
theorem Sl.cut {α : Type} {enc : α → List Value} {k : Nat} {w : World} {a : Option Addr} {n c : Nat} {L : List α} (h : Sl enc k w a n c L) {m : Nat} (hm : m ≤ n) : Sl enc k w a m c (L.take m) :=
  h.take hm (Nat.le_trans hm h.le) (Nat.le_refl c)
theorem run_take_M (a : Option Addr) (n c m : Nat) (h : m ≤ c) (W : World) : (Instr.slice 37 (.slice a n c) none (some (.int .i64 m)) none).run Try.prog W = .ok (.slice a m c) W := by
  have h2 : (m : Int) ≤ (c : Int) := by omega
  have e : ∀ s : Nat, a.map (·.add (0 * s)) = a := by intro s; rw [Nat.zero_mul]; exact add_zero' a
  rw [run_slice_h (P := Try.prog) W 37 a n c (by kernel_rfl) .i64 (m : Int) (by omega) h2]
  go_simp
theorem impl_isOutside (n : Int) (w : World) : Calls Try.prog 143 #[.int .i64 n] w fun e w' => e = .returned (.bool (inR n 1000 1007)) ∧ w = w' := by
  go_enter Try.func143, Try.ntmps143
  go_wp2_with (go_at_call 63; refine (impl_in _ _ _ _).mono ?_; rintro e w' ⟨rfl, rfl⟩)
  go_ret
  exact ⟨rfl, rfl⟩
theorem impl_isTime (n : Int) (w : World) : Calls Try.prog 144 #[.int .i64 n] w fun e w' => e = .returned (.bool (inR n 0 10000)) ∧ w = w' := by
  go_enter Try.func144, Try.ntmps144
  go_wp2_with (go_at_call 63; refine (impl_in _ _ _ _).mono ?_; rintro e w' ⟨rfl, rfl⟩)
  go_ret
  exact ⟨rfl, rfl⟩
theorem impl_End_valid' (e : EndD) (w : World) : Calls Try.prog 113 #[.agg #[.int .i64 e.addr, .int .i64 e.port]] w fun r w' => r = .returned (.bool (validEnd e)) ∧ Ext w w' := impl_End_valid e.addr e.port w
set_option maxHeartbeats 1000000 in
theorem impl_ValidTable (a : Option Addr) (n c : Nat) (L : List MapD) (w : World) (hs : Sl encM 4 w a n c L) :
    Calls Try.prog 91 #[.slice a n c] w fun e w' => e = .returned (.bool (validTable L)) ∧ Ext w w' := by
  have hle := hs.le
  have hmax := hs.max
  have hfin : validTable L = (upTo (okMapAt L) n && decide (n ≤ 8)) := by rw [← hs.len]; rfl
  rw [hfin]
  clear hfin
  rcases hs.maps with ⟨h0, hL⟩ | ⟨h0, b, off, ha, hb, hc⟩
  · subst h0
    subst hL
    clear hs
    go_enter Try.func91, Try.ntmps91
    go_wp2
    go_loop [3, 4, 7] (fun _ _ i => i = .int .i64 0) (fun _ _ _ => 0)
    case atStart => rfl
    case round =>
      subst hrel
      go_wp2
      go_ret
      exact ⟨rfl, Ext.refl _⟩
  · subst ha
    have HC2 := Lib.hid hc
    clear hc
    go_enter Try.func91, Try.ntmps91
    go_wp2
    go_loopw [3, 4, 7] (fun _ _ i wr => ∃ k : Nat, k ≤ n ∧ i = .int .i64 k ∧ (∀ j, j < k → okMapAt L j = true) ∧ Ext w wr) (fun _ _ i _ => n - (intOf i).toNat)
    case atStart => exact ⟨0, Nat.zero_le _, rfl, by omega, Ext.refl _⟩
    case round =>
      obtain ⟨k, hk, rfl, hall, hX⟩ := hrel
      have HA := Lib.hid hall
      clear hall
      have hsk := hs.ext hX
      by_cases hlt : k < n
      · obtain ⟨d0, d1, d2, d3⟩ := HC2.out k hlt
        rw [← hX.cells _ _ hb] at d0 d1 d2 d3
        have hbr : b < wr.heap.size := by have := hX.size; omega
        have hok := okMapAt_impl L k
        obtain ⟨B1, hB1⟩ : ∃ B1, decide (0 ≤ byEnd (L.take k) (nth L k).ins) = B1 := ⟨_, rfl⟩
        obtain ⟨B2, hB2⟩ : ∃ B2, decide (0 ≤ byPort (L.take k) (nth L k).port) = B2 := ⟨_, rfl⟩
        rw [hB1, hB2] at hok
        replace hok := Lib.hid hok
        have hcut := hsk.cut (m := k) (by omega)
        have hsl := run_take_M (some ⟨b, off, none⟩) n c k (by omega)
        go_wp2_with fail
        refine wp_region_ext (by kernel_rfl) (by kernel_rfl) ?_
        repeat' (first
          | (refine ChL.skip (by rfl) ?_
             (try simp only [Act.put, List.setIfInBounds_toArray, List.set_cons_zero, List.set_cons_succ]))
          | (refine' ChL.val (v := _) (by rfl) ?_ ?_
             rotate_left
             · (intro wS hS
                have hcS := Ext.cells hS
                go_simp
                with_reducible rfl)
             (try simp only [Act.put, List.setIfInBounds_toArray, List.set_cons_zero, List.set_cons_succ]))
          | (refine' ChL.call (v := _) (f := _) (args := _) (by rfl) ?_ ?_ ?_
             rotate_left 3
             · (intro wS
                go_simp
                (constructor <;> rfl))
             · (intro wS hS
                first | (go_at_call 113; refine (impl_End_valid' (nth L k).ins _).mono ?_; rintro e w1 ⟨rfl, hx⟩; refine ⟨?_, Ext.trans hS hx⟩; rfl) | (go_at_call 143; refine (impl_isOutside _ _).mono ?_; rintro e w1 ⟨rfl, hx⟩; subst hx; refine ⟨?_, hS⟩; rfl) | (go_at_call 144; refine (impl_isTime _ _).mono ?_; rintro e w1 ⟨rfl, hx⟩; subst hx; refine ⟨?_, hS⟩; rfl) | (go_at_call 76; refine (impl_byEnd (nth L k).ins (some ⟨b, off, none⟩) k c (L.take k) _ (by exact (hcut.ext (show Ext wr _ from (by repeat (first | (with_reducible exact Ext.refl _) | (with_reducible assumption) | (with_reducible refine Ext.alloc ?_ _) | (with_reducible refine Ext.drewN ?_ _) | (with_reducible refine Ext.drew ?_) | (with_reducible refine Ext.setCell ?_ ?_ _; rotate_left; (simp only []; omega)) | (with_reducible refine Ext.trans ?_ (by assumption)))))).ext hS)).mono ?_; rintro e w1 ⟨rfl, hx⟩; refine ⟨?_, Ext.trans hS hx⟩; rfl) | (go_at_call 89; refine (impl_byPort _ (some ⟨b, off, none⟩) k c (L.take k) _ (by exact (hcut.ext (show Ext wr _ from (by repeat (first | (with_reducible exact Ext.refl _) | (with_reducible assumption) | (with_reducible refine Ext.alloc ?_ _) | (with_reducible refine Ext.drewN ?_ _) | (with_reducible refine Ext.drew ?_) | (with_reducible refine Ext.setCell ?_ ?_ _; rotate_left; (simp only []; omega)) | (with_reducible refine Ext.trans ?_ (by assumption)))))).ext hS)).mono ?_; rintro e w1 ⟨rfl, hx⟩; refine ⟨?_, Ext.trans hS hx⟩; rfl))
             (try simp only [Act.put, List.setIfInBounds_toArray, List.set_cons_zero, List.set_cons_succ]))
          | (refine ChL.nil ?_)
          | (refine' ChL.guard (x := _) ?_ ?_ ?_
             rotate_left
             · (go_simp
                rfl)
             all_goals
               intro hg
               simp only [hg])
          | (refine' ChL.guardN (x := _) ?_ ?_ ?_
             rotate_left
             · (go_simp
                rfl)
             all_goals
               intro hg
               simp only [hg]))
        all_goals
          intro w' hw'
          have HX : Ext w w' := hX.trans (Ext.trans (show Ext wr _ from (by repeat (first | (with_reducible exact Ext.refl _) | (with_reducible assumption) | (with_reducible refine Ext.alloc ?_ _) | (with_reducible refine Ext.drewN ?_ _) | (with_reducible refine Ext.drew ?_) | (with_reducible refine Ext.setCell ?_ ?_ _; rotate_left; (simp only []; omega)) | (with_reducible refine Ext.trans ?_ (by assumption))))) hw')
          clear hX hw' hsk hcut hsl
          go_wp2
        all_goals first
          | (go_ret
             exact ⟨ret_bool (by rw [upTo_f hlt (by rw [hok.out]; simp [*])]; rfl), HX⟩)
          | (go_roundw
             case rel =>
               exact ⟨k + 1, hlt, by go_num, fun j hj => by
                 rcases Nat.lt_or_ge j k with h | h
                 · exact HA.out j h
                 · have e : j = k := by omega
                   rw [e, hok.out]; simp [*], HX⟩
             case measure => simp [intOf]; omega)
      · have e : k = n := by omega
        subst e
        clear hsk
        have HX := Lib.hid hX
        clear hX
        go_wp2
        go_ret
        exact ⟨ret_bool (by rw [upTo_iff.2 HA.out, Bool.eq_iff_iff]; simp; omega), HX.out⟩
end Go.Proofs.Ytafmomocmodbhaa
/- Comparing two ends, nets, contacts, mappings. -/
namespace Go.Proofs.Ytafmomocmodbhaa
set_option linter.unusedVariables false
set_option linter.unusedSimpArgs false
open Go.RowKit

theorem EndD.eq_iff (x q : EndD) : decide (x = q) = (decide (x.addr = q.addr) && (decide (x.port = q.port))) := by
  obtain ⟨a, b⟩ := x; obtain ⟨d, e⟩ := q
  rw [Bool.eq_iff_iff]
  simp
theorem run_eql_E (x q : EndD) (W : World) : (Go.binOp .eql 42 (.agg #[.int .i64 x.addr, .int .i64 x.port]) (.agg #[.int .i64 q.addr, .int .i64 q.port])).run Try.prog W = .ok (.bool (decide (x = q))) W := by
  rw [EndD.eq_iff]
  by_cases h0 : x.addr = q.addr
  · by_cases h1 : x.port = q.port
    · go_simp
    · go_simp
  · go_simp
theorem run_neq_E (x q : EndD) (W : World) : (Go.binOp .neq 42 (.agg #[.int .i64 x.addr, .int .i64 x.port]) (.agg #[.int .i64 q.addr, .int .i64 q.port])).run Try.prog W = .ok (.bool (!decide (x = q))) W := by
  rw [EndD.eq_iff]
  by_cases h0 : x.addr = q.addr
  · by_cases h1 : x.port = q.port
    · go_simp
    · go_simp
  · go_simp
theorem NetD.eq_iff (x q : NetD) : decide (x = q) = (decide (x.base = q.base) && (decide (x.bits = q.bits))) := by
  obtain ⟨a, b⟩ := x; obtain ⟨d, e⟩ := q
  rw [Bool.eq_iff_iff]
  simp
theorem run_eql_N (x q : NetD) (W : World) : (Go.binOp .eql 36 (.agg #[.int .i64 x.base, .int .i64 x.bits]) (.agg #[.int .i64 q.base, .int .i64 q.bits])).run Try.prog W = .ok (.bool (decide (x = q))) W := by
  rw [NetD.eq_iff]
  by_cases h0 : x.base = q.base
  · by_cases h1 : x.bits = q.bits
    · go_simp
    · go_simp
  · go_simp
theorem run_neq_N (x q : NetD) (W : World) : (Go.binOp .neq 36 (.agg #[.int .i64 x.base, .int .i64 x.bits]) (.agg #[.int .i64 q.base, .int .i64 q.bits])).run Try.prog W = .ok (.bool (!decide (x = q))) W := by
  rw [NetD.eq_iff]
  by_cases h0 : x.base = q.base
  · by_cases h1 : x.bits = q.bits
    · go_simp
    · go_simp
  · go_simp
theorem ConD.eq_iff (x q : ConD) : decide (x = q) = (decide (x.port = q.port) && (decide (x.to_.addr = q.to_.addr) && (decide (x.to_.port = q.to_.port)))) := by
  obtain ⟨a, ⟨b, c⟩⟩ := x; obtain ⟨d, ⟨e, f⟩⟩ := q
  rw [Bool.eq_iff_iff]
  simp
theorem run_eql_C (x q : ConD) (W : World) : (Go.binOp .eql 115 (.agg #[.int .i64 x.port, .int .i64 x.to_.addr, .int .i64 x.to_.port]) (.agg #[.int .i64 q.port, .int .i64 q.to_.addr, .int .i64 q.to_.port])).run Try.prog W = .ok (.bool (decide (x = q))) W := by
  rw [ConD.eq_iff]
  by_cases h0 : x.port = q.port
  · by_cases h1 : x.to_.addr = q.to_.addr
    · by_cases h2 : x.to_.port = q.to_.port
      · go_simp
      · go_simp
    · go_simp
  · go_simp
theorem run_neq_C (x q : ConD) (W : World) : (Go.binOp .neq 115 (.agg #[.int .i64 x.port, .int .i64 x.to_.addr, .int .i64 x.to_.port]) (.agg #[.int .i64 q.port, .int .i64 q.to_.addr, .int .i64 q.to_.port])).run Try.prog W = .ok (.bool (!decide (x = q))) W := by
  rw [ConD.eq_iff]
  by_cases h0 : x.port = q.port
  · by_cases h1 : x.to_.addr = q.to_.addr
    · by_cases h2 : x.to_.port = q.to_.port
      · go_simp
      · go_simp
    · go_simp
  · go_simp
theorem MapD.eq_iff (x q : MapD) : decide (x = q) = (decide (x.ins.addr = q.ins.addr) && (decide (x.ins.port = q.ins.port) && (decide (x.port = q.port) && (decide (x.last = q.last))))) := by
  obtain ⟨⟨a, b⟩, c, d⟩ := x; obtain ⟨⟨e, f⟩, g, h⟩ := q
  rw [Bool.eq_iff_iff]
  simp [and_assoc]
theorem run_eql_M (x q : MapD) (W : World) : (Go.binOp .eql 102 (.agg #[.int .i64 x.ins.addr, .int .i64 x.ins.port, .int .i64 x.port, .int .i64 x.last]) (.agg #[.int .i64 q.ins.addr, .int .i64 q.ins.port, .int .i64 q.port, .int .i64 q.last])).run Try.prog W = .ok (.bool (decide (x = q))) W := by
  rw [MapD.eq_iff]
  by_cases h0 : x.ins.addr = q.ins.addr
  · by_cases h1 : x.ins.port = q.ins.port
    · by_cases h2 : x.port = q.port
      · by_cases h3 : x.last = q.last
        · go_simp
        · go_simp
      · go_simp
    · go_simp
  · go_simp
theorem run_neq_M (x q : MapD) (W : World) : (Go.binOp .neq 102 (.agg #[.int .i64 x.ins.addr, .int .i64 x.ins.port, .int .i64 x.port, .int .i64 x.last]) (.agg #[.int .i64 q.ins.addr, .int .i64 q.ins.port, .int .i64 q.port, .int .i64 q.last])).run Try.prog W = .ok (.bool (!decide (x = q))) W := by
  rw [MapD.eq_iff]
  by_cases h0 : x.ins.addr = q.ins.addr
  · by_cases h1 : x.ins.port = q.ins.port
    · by_cases h2 : x.port = q.port
      · by_cases h3 : x.last = q.last
        · go_simp
        · go_simp
      · go_simp
    · go_simp
  · go_simp
end Go.Proofs.Ytafmomocmodbhaa
