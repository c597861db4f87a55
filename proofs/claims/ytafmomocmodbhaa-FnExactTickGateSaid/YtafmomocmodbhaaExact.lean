/- Contracts of the exact laws' own helpers on ends, packets, reports: size, copy, comparison, marking, finding the marks. -/
import Derived.Test.YtafmomocmodbhaaMark
import Derived.Test.YtafmomocmodbhaaWords
namespace Go.Proofs.Ytafmomocmodbhaa
open Go.RowKit

theorem grown_ext {a b : World} {r : Option Nat} (h : Ext a b) : a.grownBy b r := ⟨World.grownBy.os h, World.grownBy.tape h, World.grownBy.output h, h.size, fun i hi _ => h.block i hi⟩
theorem Ow.setC {α : Type} {E : TypeId} {enc : α → List Value} {k base : Nat} {w : World} {a : Option Addr} {n c : Nat} {L : List α} (h : Ow E enc k base w a n c L) {p : Addr} (hp : ∀ x, a = some x → x.block ≠ p.block) (u : Value) :
    Ow E enc k base (w.setCell p u) a n c L := h.keep fun x e _ => Below.heap_setCell w p u x.block (hp x e)
theorem Ow.setBelow {α : Type} {E : TypeId} {enc : α → List Value} {k base : Nat} {w : World} {a : Option Addr} {n c : Nat} {L : List α} (h : Ow E enc k base w a n c L) {p : Addr} (hp : p.block < base) (u : Value) :
    Ow E enc k base (w.setCell p u) a n c L := h.setC (fun x e => by have := (h.lt x e).1; omega) u
theorem toEnd_any (x y : Int) (w : World) : Calls Try.prog 50 #[.agg #[.int .i64 x, .int .i64 y]] w fun e w' => e = .returned (.agg #[.int .i64 x, .int .i64 y]) ∧ Ext w w' := by
  go_enter Try.func50, Try.ntmps50
  go_wp2
  refine' bodyPost_ret (v := _) ?_ rfl ?_
  rotate_left
  · (simp only [results, Try.results50]
     go_simp
     rfl)
  exact ⟨rfl, (by repeat (first | (with_reducible exact Ext.refl _) | (with_reducible assumption) | (with_reducible refine Ext.alloc ?_ _) | (with_reducible refine Ext.drewN ?_ _) | (with_reducible refine Ext.drew ?_) | (with_reducible refine Ext.setCell ?_ ?_ _; rotate_left; (simp only []; omega)) | (with_reducible refine Ext.trans ?_ (by assumption))))⟩
theorem eqEnd_same (x y : Int) (w : World) : Calls Try.prog 58 #[.agg #[.int .i64 x, .int .i64 y], .agg #[.int .i64 x, .int .i64 y]] w fun e w' => e = .returned (.bool true) ∧ Ext w w' := by
  go_enter Try.func58, Try.ntmps58
  go_wp2
  go_ret
  exact ⟨rfl, (by repeat (first | (with_reducible exact Ext.refl _) | (with_reducible assumption) | (with_reducible refine Ext.alloc ?_ _) | (with_reducible refine Ext.drewN ?_ _) | (with_reducible refine Ext.drew ?_) | (with_reducible refine Ext.setCell ?_ ?_ _; rotate_left; (simp only []; omega)) | (with_reducible refine Ext.trans ?_ (by assumption))))⟩
theorem szPacket_any (k fa fp ta tp : Int) (a : Option Addr) (n c : Nat) (left : Int) (w : World) (h0 : 0 ≤ left) (h1 : left ≤ 1048576) (hn : (n : Int) ≤ 9223372036854775807) :
    Calls Try.prog 13 #[.agg #[.int .i64 k, .int .i64 fa, .int .i64 fp, .int .i64 ta, .int .i64 tp, .slice a n c], .int .i64 left] w fun e w' => e = .returned (.int .i64 (if (n : Int) ≤ left then left - n else -1)) ∧ Ext w w' := by
  by_cases h : (n : Int) ≤ left
  · have c1 := szIntS_any a n c left
    rw [if_pos h] at c1 ⊢
    go_enter Try.func13, Try.ntmps13
    go_wp2_with (go_at_call 41; refine (c1 _ h0 h1 hn).mono ?_; rintro e w' ⟨rfl, rfl⟩)
    go_ret
    exact ⟨rfl, (by repeat (first | (with_reducible exact Ext.refl _) | (with_reducible assumption) | (with_reducible refine Ext.alloc ?_ _) | (with_reducible refine Ext.drewN ?_ _) | (with_reducible refine Ext.drew ?_) | (with_reducible refine Ext.setCell ?_ ?_ _; rotate_left; (simp only []; omega)) | (with_reducible refine Ext.trans ?_ (by assumption))))⟩
  · have c1 := szIntS_any a n c left
    rw [if_neg h] at c1 ⊢
    go_enter Try.func13, Try.ntmps13
    go_wp2_with (go_at_call 41; refine (c1 _ h0 h1 hn).mono ?_; rintro e w' ⟨rfl, rfl⟩)
    go_ret
    exact ⟨rfl, (by repeat (first | (with_reducible exact Ext.refl _) | (with_reducible assumption) | (with_reducible refine Ext.alloc ?_ _) | (with_reducible refine Ext.drewN ?_ _) | (with_reducible refine Ext.drew ?_) | (with_reducible refine Ext.setCell ?_ ?_ _; rotate_left; (simp only []; omega)) | (with_reducible refine Ext.trans ?_ (by assumption))))⟩
set_option maxHeartbeats 1000000 in
theorem toPacket_any (k fa fp ta tp : Int) (a : Option Addr) (n c : Nat) (L : List Int) (w : World) (hs : Sl encI 1 w a n c L) (hn : n ≤ 1048576) :
    Calls Try.prog 16 #[.agg #[.int .i64 k, .int .i64 fa, .int .i64 fp, .int .i64 ta, .int .i64 tp, .slice a n c]] w fun e w' => ∃ a', e = .returned (.agg #[.int .i64 k, .int .i64 fa, .int .i64 fp, .int .i64 ta, .int .i64 tp, .slice a' n n]) ∧
      Ow 3 encI 1 w.heap.size w' a' n n L ∧ Ext w w' := by
  go_enter Try.func16, Try.ntmps16
  go_wp2_with fail
  refine (toEnd_any _ _ _).mono ?_
  rintro e w1 ⟨rfl, hx1⟩
  have hc1 := hx1.cells
  have hf1 := hx1.frozens
  have hy1 := hx1.size
  (try simp at hy1)
  have hz1 : w.heap.size < w1.heap.size ∧ w.heap.size + 1 < w1.heap.size ∧ w.heap.size + 2 < w1.heap.size := (by omega)
  go_wp2_with fail
  refine (toEnd_any _ _ _).mono ?_
  rintro e w2 ⟨rfl, hx2⟩
  have hc2 := hx2.cells
  have hf2 := hx2.frozens
  have hy2 := hx2.size
  (try simp at hy2)
  have hz2 : w.heap.size < w2.heap.size ∧ w.heap.size + 1 < w2.heap.size ∧ w.heap.size + 2 < w2.heap.size := (by omega)
  go_wp2_with fail
  refine (toIntS_any a n c L _ (by exact hs.ext (by repeat (first | (with_reducible exact Ext.refl _) | (with_reducible assumption) | (with_reducible refine Ext.alloc ?_ _) | (with_reducible refine Ext.drewN ?_ _) | (with_reducible refine Ext.drew ?_) | (with_reducible refine Ext.setCell ?_ ?_ _; rotate_left; (simp only []; omega)) | (with_reducible refine Ext.trans ?_ (by assumption))))) hn).mono ?_
  rintro e w3 ⟨a', rfl, how, hx3⟩
  have hc3 := hx3.cells
  have hf3 := hx3.frozens
  have hy3 := hx3.size
  (try simp at hy3)
  have hz3 : w.heap.size < w3.heap.size ∧ w.heap.size + 1 < w3.heap.size ∧ w.heap.size + 2 < w3.heap.size := (by omega)
  have HO := Lib.hid how
  clear how
  go_wp2
  refine' bodyPost_ret (v := _) ?_ rfl ?_
  rotate_left
  · (simp only [results, Try.results16]
     go_simp
     rfl)
  refine ⟨a', rfl, ?_, (by repeat (first | (with_reducible exact Ext.refl _) | (with_reducible assumption) | (with_reducible refine Ext.alloc ?_ _) | (with_reducible refine Ext.drewN ?_ _) | (with_reducible refine Ext.drew ?_) | (with_reducible refine Ext.setCell ?_ ?_ _; rotate_left; (simp only []; omega)) | (with_reducible refine Ext.trans ?_ (by assumption))))⟩
  refine Ow.rebase (base := w2.heap.size) ?_ (by omega)
  repeat (refine Ow.setBelow ?_ (by simp only []; omega) _)
  simpa using HO.out
set_option maxHeartbeats 1000000 in
theorem eqPacket_same (k fa fp ta tp : Int) (a a' : Option Addr) (n c c' : Nat) (L : List Int) (w : World) (hs : Sl encI 1 w a n c L) (hs' : Sl encI 1 w a' n c' L) :
    Calls Try.prog 19 #[.agg #[.int .i64 k, .int .i64 fa, .int .i64 fp, .int .i64 ta, .int .i64 tp, .slice a n c], .agg #[.int .i64 k, .int .i64 fa, .int .i64 fp, .int .i64 ta, .int .i64 tp, .slice a' n c']] w fun e w' => e = .returned (.bool true) ∧ Ext w w' := by
  go_enter Try.func19, Try.ntmps19
  go_wp2_with (first | (go_at_call 58; refine (eqEnd_same _ _ _).mono ?_; rintro e w1 ⟨rfl, hx⟩; have hc := hx.cells; have hf := hx.frozens; have hy := hx.size; (try simp at hy); have hz : w.heap.size < w1.heap.size ∧ w.heap.size + 1 < w1.heap.size := (by omega)) | (go_at_call 59; refine (eqIntS_same _ _ n c c' L _ (by exact hs.ext (by repeat (first | (with_reducible exact Ext.refl _) | (with_reducible assumption) | (with_reducible refine Ext.alloc ?_ _) | (with_reducible refine Ext.drewN ?_ _) | (with_reducible refine Ext.drew ?_) | (with_reducible refine Ext.setCell ?_ ?_ _; rotate_left; (simp only []; omega)) | (with_reducible refine Ext.trans ?_ (by assumption))))) (by exact hs'.ext (by repeat (first | (with_reducible exact Ext.refl _) | (with_reducible assumption) | (with_reducible refine Ext.alloc ?_ _) | (with_reducible refine Ext.drewN ?_ _) | (with_reducible refine Ext.drew ?_) | (with_reducible refine Ext.setCell ?_ ?_ _; rotate_left; (simp only []; omega)) | (with_reducible refine Ext.trans ?_ (by assumption)))))).mono ?_; rintro e w1 ⟨rfl, hx⟩; have hc := hx.cells; have hf := hx.frozens; have hy := hx.size; (try simp at hy); have hz : w.heap.size < w1.heap.size ∧ w.heap.size + 1 < w1.heap.size := (by omega)))
  go_ret
  exact ⟨rfl, (by repeat (first | (with_reducible exact Ext.refl _) | (with_reducible assumption) | (with_reducible refine Ext.alloc ?_ _) | (with_reducible refine Ext.drewN ?_ _) | (with_reducible refine Ext.drew ?_) | (with_reducible refine Ext.setCell ?_ ?_ _; rotate_left; (simp only []; omega)) | (with_reducible refine Ext.trans ?_ (by assumption))))⟩
end Go.Proofs.Ytafmomocmodbhaa
