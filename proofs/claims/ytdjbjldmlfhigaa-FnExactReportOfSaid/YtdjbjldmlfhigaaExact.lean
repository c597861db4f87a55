/- Contracts of the exact laws' own helpers on ends, packets, reports: size, copy, comparison, marking, finding the marks. -/
import Derived.Test.YtdjbjldmlfhigaaMark
import Derived.Test.YtdjbjldmlfhigaaWords
namespace Go.Proofs.Ytdjbjldmlfhigaa
open Go.RowKit

theorem grown_ext {a b : World} {r : Option Nat} (h : Ext a b) : a.grownBy b r := ⟨World.grownBy.os h, World.grownBy.tape h, World.grownBy.output h, h.size, fun i hi _ => h.block i hi⟩
theorem Ow.setC {α : Type} {E : TypeId} {enc : α → List Value} {k base : Nat} {w : World} {a : Option Addr} {n c : Nat} {L : List α} (h : Ow E enc k base w a n c L) {p : Addr} (hp : ∀ x, a = some x → x.block ≠ p.block) (u : Value) :
    Ow E enc k base (w.setCell p u) a n c L := h.keep fun x e _ => Below.heap_setCell w p u x.block (hp x e)
theorem Ow.setBelow {α : Type} {E : TypeId} {enc : α → List Value} {k base : Nat} {w : World} {a : Option Addr} {n c : Nat} {L : List α} (h : Ow E enc k base w a n c L) {p : Addr} (hp : p.block < base) (u : Value) :
    Ow E enc k base (w.setCell p u) a n c L := h.setC (fun x e => by have := (h.lt x e).1; omega) u
theorem toEnd_any (x y : Int) (w : World) : Calls Try.prog 79 #[.agg #[.int .i64 x, .int .i64 y]] w fun e w' => e = .returned (.agg #[.int .i64 x, .int .i64 y]) ∧ Ext w w' := by
  go_enter Try.func79, Try.ntmps79
  go_wp2
  refine' bodyPost_ret (v := _) ?_ rfl ?_
  rotate_left
  · (simp only [results, Try.results79]
     go_simp
     rfl)
  exact ⟨rfl, (by repeat (first | (with_reducible exact Ext.refl _) | (with_reducible assumption) | (with_reducible refine Ext.alloc ?_ _) | (with_reducible refine Ext.drewN ?_ _) | (with_reducible refine Ext.drew ?_) | (with_reducible refine Ext.setCell ?_ ?_ _; rotate_left; (simp only []; omega)) | (with_reducible refine Ext.trans ?_ (by assumption))))⟩
theorem eqEnd_same (x y : Int) (w : World) : Calls Try.prog 81 #[.agg #[.int .i64 x, .int .i64 y], .agg #[.int .i64 x, .int .i64 y]] w fun e w' => e = .returned (.bool true) ∧ Ext w w' := by
  go_enter Try.func81, Try.ntmps81
  go_wp2
  go_ret
  exact ⟨rfl, (by repeat (first | (with_reducible exact Ext.refl _) | (with_reducible assumption) | (with_reducible refine Ext.alloc ?_ _) | (with_reducible refine Ext.drewN ?_ _) | (with_reducible refine Ext.drew ?_) | (with_reducible refine Ext.setCell ?_ ?_ _; rotate_left; (simp only []; omega)) | (with_reducible refine Ext.trans ?_ (by assumption))))⟩
theorem szPacket_any (k fa fp ta tp : Int) (a : Option Addr) (n c : Nat) (left : Int) (w : World) (h0 : 0 ≤ left) (h1 : left ≤ 1048576) (hn : (n : Int) ≤ 9223372036854775807) :
    Calls Try.prog 47 #[.agg #[.int .i64 k, .int .i64 fa, .int .i64 fp, .int .i64 ta, .int .i64 tp, .slice a n c], .int .i64 left] w fun e w' => e = .returned (.int .i64 (if (n : Int) ≤ left then left - n else -1)) ∧ Ext w w' := by
  by_cases h : (n : Int) ≤ left
  · have c1 := szIntS_any a n c left
    rw [if_pos h] at c1 ⊢
    go_enter Try.func47, Try.ntmps47
    go_wp2_with (go_at_call 78; refine (c1 _ h0 h1 hn).mono ?_; rintro e w' ⟨rfl, rfl⟩)
    go_ret
    exact ⟨rfl, (by repeat (first | (with_reducible exact Ext.refl _) | (with_reducible assumption) | (with_reducible refine Ext.alloc ?_ _) | (with_reducible refine Ext.drewN ?_ _) | (with_reducible refine Ext.drew ?_) | (with_reducible refine Ext.setCell ?_ ?_ _; rotate_left; (simp only []; omega)) | (with_reducible refine Ext.trans ?_ (by assumption))))⟩
  · have c1 := szIntS_any a n c left
    rw [if_neg h] at c1 ⊢
    go_enter Try.func47, Try.ntmps47
    go_wp2_with (go_at_call 78; refine (c1 _ h0 h1 hn).mono ?_; rintro e w' ⟨rfl, rfl⟩)
    go_ret
    exact ⟨rfl, (by repeat (first | (with_reducible exact Ext.refl _) | (with_reducible assumption) | (with_reducible refine Ext.alloc ?_ _) | (with_reducible refine Ext.drewN ?_ _) | (with_reducible refine Ext.drew ?_) | (with_reducible refine Ext.setCell ?_ ?_ _; rotate_left; (simp only []; omega)) | (with_reducible refine Ext.trans ?_ (by assumption))))⟩
theorem szReport_any (o s t k fa fp ta tp : Int) (a : Option Addr) (n c : Nat) (left : Int) (w : World) (h0 : 0 ≤ left) (h1 : left ≤ 1048576) (hn : (n : Int) ≤ 9223372036854775807) :
    Calls Try.prog 39 #[.agg #[.int .i64 o, .int .i64 s, .int .i64 t, .int .i64 k, .int .i64 fa, .int .i64 fp, .int .i64 ta, .int .i64 tp, .slice a n c], .int .i64 left] w fun e w' => e = .returned (.int .i64 (if (n : Int) ≤ left then left - n else -1)) ∧ Ext w w' := by
  by_cases h : (n : Int) ≤ left
  · have c1 := szPacket_any k fa fp ta tp a n c left
    rw [if_pos h] at c1 ⊢
    go_enter Try.func39, Try.ntmps39
    go_wp2_with (go_at_call 47; refine (c1 _ h0 h1 hn).mono ?_; rintro e w1 ⟨rfl, hx⟩; have hc := hx.cells; have hf := hx.frozens; have hy := hx.size; (try simp at hy); have hz : w.heap.size < w1.heap.size := (by omega))
    go_ret
    exact ⟨rfl, (by repeat (first | (with_reducible exact Ext.refl _) | (with_reducible assumption) | (with_reducible refine Ext.alloc ?_ _) | (with_reducible refine Ext.drewN ?_ _) | (with_reducible refine Ext.drew ?_) | (with_reducible refine Ext.setCell ?_ ?_ _; rotate_left; (simp only []; omega)) | (with_reducible refine Ext.trans ?_ (by assumption))))⟩
  · have c1 := szPacket_any k fa fp ta tp a n c left
    rw [if_neg h] at c1 ⊢
    go_enter Try.func39, Try.ntmps39
    go_wp2_with (go_at_call 47; refine (c1 _ h0 h1 hn).mono ?_; rintro e w1 ⟨rfl, hx⟩; have hc := hx.cells; have hf := hx.frozens; have hy := hx.size; (try simp at hy); have hz : w.heap.size < w1.heap.size := (by omega))
    go_ret
    exact ⟨rfl, (by repeat (first | (with_reducible exact Ext.refl _) | (with_reducible assumption) | (with_reducible refine Ext.alloc ?_ _) | (with_reducible refine Ext.drewN ?_ _) | (with_reducible refine Ext.drew ?_) | (with_reducible refine Ext.setCell ?_ ?_ _; rotate_left; (simp only []; omega)) | (with_reducible refine Ext.trans ?_ (by assumption))))⟩
set_option maxHeartbeats 1000000 in
theorem toPacket_any (k fa fp ta tp : Int) (a : Option Addr) (n c : Nat) (L : List Int) (w : World) (hs : Sl encI 1 w a n c L) (hn : n ≤ 1048576) :
    Calls Try.prog 48 #[.agg #[.int .i64 k, .int .i64 fa, .int .i64 fp, .int .i64 ta, .int .i64 tp, .slice a n c]] w fun e w' => ∃ a', e = .returned (.agg #[.int .i64 k, .int .i64 fa, .int .i64 fp, .int .i64 ta, .int .i64 tp, .slice a' n n]) ∧
      Ow 3 encI 1 w.heap.size w' a' n n L ∧ Ext w w' := by
  go_enter Try.func48, Try.ntmps48
  go_wp2_with fail
  refine (toEnd_any _ _ _).mono ?_
  rintro e w1 ⟨rfl, hx1⟩
  have hc1 := hx1.cells
  have hf1 := hx1.frozens
  have hy1 := hx1.size
  (try simp at hy1)
  have hz1 : w.heap.size < w1.heap.size ∧ w.heap.size + 1 < w1.heap.size ∧ w.heap.size + 2 < w1.heap.size := (by omega)
  go_wp2_with fail
  refine (toEnd_any _ _ _).mono ?_
  rintro e w2 ⟨rfl, hx2⟩
  have hc2 := hx2.cells
  have hf2 := hx2.frozens
  have hy2 := hx2.size
  (try simp at hy2)
  have hz2 : w.heap.size < w2.heap.size ∧ w.heap.size + 1 < w2.heap.size ∧ w.heap.size + 2 < w2.heap.size := (by omega)
  go_wp2_with fail
  refine (toIntS_any a n c L _ (by exact hs.ext (by repeat (first | (with_reducible exact Ext.refl _) | (with_reducible assumption) | (with_reducible refine Ext.alloc ?_ _) | (with_reducible refine Ext.drewN ?_ _) | (with_reducible refine Ext.drew ?_) | (with_reducible refine Ext.setCell ?_ ?_ _; rotate_left; (simp only []; omega)) | (with_reducible refine Ext.trans ?_ (by assumption))))) hn).mono ?_
  rintro e w3 ⟨a', rfl, how, hx3⟩
  have hc3 := hx3.cells
  have hf3 := hx3.frozens
  have hy3 := hx3.size
  (try simp at hy3)
  have hz3 : w.heap.size < w3.heap.size ∧ w.heap.size + 1 < w3.heap.size ∧ w.heap.size + 2 < w3.heap.size := (by omega)
  have HO := Lib.hid how
  clear how
  go_wp2
  refine' bodyPost_ret (v := _) ?_ rfl ?_
  rotate_left
  · (simp only [results, Try.results48]
     go_simp
     rfl)
  refine ⟨a', rfl, ?_, (by repeat (first | (with_reducible exact Ext.refl _) | (with_reducible assumption) | (with_reducible refine Ext.alloc ?_ _) | (with_reducible refine Ext.drewN ?_ _) | (with_reducible refine Ext.drew ?_) | (with_reducible refine Ext.setCell ?_ ?_ _; rotate_left; (simp only []; omega)) | (with_reducible refine Ext.trans ?_ (by assumption))))⟩
  refine Ow.rebase (base := w2.heap.size) ?_ (by omega)
  repeat (refine Ow.setBelow ?_ (by simp only []; omega) _)
  simpa using HO.out
set_option maxHeartbeats 1000000 in
theorem toReport_any (o s t k fa fp ta tp : Int) (a : Option Addr) (n c : Nat) (L : List Int) (w : World) (hs : Sl encI 1 w a n c L) (hn : n ≤ 1048576) :
    Calls Try.prog 40 #[.agg #[.int .i64 o, .int .i64 s, .int .i64 t, .int .i64 k, .int .i64 fa, .int .i64 fp, .int .i64 ta, .int .i64 tp, .slice a n c]] w fun e w' => ∃ a', e = .returned (.agg #[.int .i64 o, .int .i64 s, .int .i64 t, .int .i64 k, .int .i64 fa, .int .i64 fp, .int .i64 ta, .int .i64 tp, .slice a' n n]) ∧
      Ow 3 encI 1 w.heap.size w' a' n n L ∧ Ext w w' := by
  go_enter Try.func40, Try.ntmps40
  go_wp2_with fail
  refine (toPacket_any _ _ _ _ _ a n c L _ (by exact hs.ext (by repeat (first | (with_reducible exact Ext.refl _) | (with_reducible assumption) | (with_reducible refine Ext.alloc ?_ _) | (with_reducible refine Ext.drewN ?_ _) | (with_reducible refine Ext.drew ?_) | (with_reducible refine Ext.setCell ?_ ?_ _; rotate_left; (simp only []; omega)) | (with_reducible refine Ext.trans ?_ (by assumption))))) hn).mono ?_
  rintro e w3 ⟨a', rfl, how, hx3⟩
  have hc3 := hx3.cells
  have hf3 := hx3.frozens
  have hy3 := hx3.size
  (try simp at hy3)
  have hz3 : w.heap.size < w3.heap.size ∧ w.heap.size + 1 < w3.heap.size ∧ w.heap.size + 2 < w3.heap.size := (by omega)
  have HO := Lib.hid how
  clear how
  go_wp2
  refine' bodyPost_ret (v := _) ?_ rfl ?_
  rotate_left
  · (simp only [results, Try.results40]
     go_simp
     rfl)
  refine ⟨a', rfl, ?_, (by repeat (first | (with_reducible exact Ext.refl _) | (with_reducible assumption) | (with_reducible refine Ext.alloc ?_ _) | (with_reducible refine Ext.drewN ?_ _) | (with_reducible refine Ext.drew ?_) | (with_reducible refine Ext.setCell ?_ ?_ _; rotate_left; (simp only []; omega)) | (with_reducible refine Ext.trans ?_ (by assumption))))⟩
  refine Ow.rebase (base := w.heap.size + 3) ?_ (by omega)
  repeat (refine Ow.setBelow ?_ (by simp only []; omega) _)
  simpa using HO.out
set_option maxHeartbeats 1000000 in
theorem eqPacket_same (k fa fp ta tp : Int) (a a' : Option Addr) (n c c' : Nat) (L : List Int) (w : World) (hs : Sl encI 1 w a n c L) (hs' : Sl encI 1 w a' n c' L) :
    Calls Try.prog 49 #[.agg #[.int .i64 k, .int .i64 fa, .int .i64 fp, .int .i64 ta, .int .i64 tp, .slice a n c], .agg #[.int .i64 k, .int .i64 fa, .int .i64 fp, .int .i64 ta, .int .i64 tp, .slice a' n c']] w fun e w' => e = .returned (.bool true) ∧ Ext w w' := by
  go_enter Try.func49, Try.ntmps49
  go_wp2_with (first | (go_at_call 81; refine (eqEnd_same _ _ _).mono ?_; rintro e w1 ⟨rfl, hx⟩; have hc := hx.cells; have hf := hx.frozens; have hy := hx.size; (try simp at hy); have hz : w.heap.size < w1.heap.size ∧ w.heap.size + 1 < w1.heap.size := (by omega)) | (go_at_call 82; refine (eqIntS_same _ _ n c c' L _ (by exact hs.ext (by repeat (first | (with_reducible exact Ext.refl _) | (with_reducible assumption) | (with_reducible refine Ext.alloc ?_ _) | (with_reducible refine Ext.drewN ?_ _) | (with_reducible refine Ext.drew ?_) | (with_reducible refine Ext.setCell ?_ ?_ _; rotate_left; (simp only []; omega)) | (with_reducible refine Ext.trans ?_ (by assumption))))) (by exact hs'.ext (by repeat (first | (with_reducible exact Ext.refl _) | (with_reducible assumption) | (with_reducible refine Ext.alloc ?_ _) | (with_reducible refine Ext.drewN ?_ _) | (with_reducible refine Ext.drew ?_) | (with_reducible refine Ext.setCell ?_ ?_ _; rotate_left; (simp only []; omega)) | (with_reducible refine Ext.trans ?_ (by assumption)))))).mono ?_; rintro e w1 ⟨rfl, hx⟩; have hc := hx.cells; have hf := hx.frozens; have hy := hx.size; (try simp at hy); have hz : w.heap.size < w1.heap.size ∧ w.heap.size + 1 < w1.heap.size := (by omega)))
  go_ret
  exact ⟨rfl, (by repeat (first | (with_reducible exact Ext.refl _) | (with_reducible assumption) | (with_reducible refine Ext.alloc ?_ _) | (with_reducible refine Ext.drewN ?_ _) | (with_reducible refine Ext.drew ?_) | (with_reducible refine Ext.setCell ?_ ?_ _; rotate_left; (simp only []; omega)) | (with_reducible refine Ext.trans ?_ (by assumption))))⟩
set_option maxHeartbeats 1000000 in
theorem eqReport_same (o s t k fa fp ta tp : Int) (a a' : Option Addr) (n c c' : Nat) (L : List Int) (w : World) (hs : Sl encI 1 w a n c L) (hs' : Sl encI 1 w a' n c' L) :
    Calls Try.prog 41 #[.agg #[.int .i64 o, .int .i64 s, .int .i64 t, .int .i64 k, .int .i64 fa, .int .i64 fp, .int .i64 ta, .int .i64 tp, .slice a n c], .agg #[.int .i64 o, .int .i64 s, .int .i64 t, .int .i64 k, .int .i64 fa, .int .i64 fp, .int .i64 ta, .int .i64 tp, .slice a' n c']] w fun e w' => e = .returned (.bool true) ∧ Ext w w' := by
  go_enter Try.func41, Try.ntmps41
  go_wp2_with (go_at_call 49; refine (eqPacket_same _ _ _ _ _ _ _ n c c' L _ (by exact hs.ext (by repeat (first | (with_reducible exact Ext.refl _) | (with_reducible assumption) | (with_reducible refine Ext.alloc ?_ _) | (with_reducible refine Ext.drewN ?_ _) | (with_reducible refine Ext.drew ?_) | (with_reducible refine Ext.setCell ?_ ?_ _; rotate_left; (simp only []; omega)) | (with_reducible refine Ext.trans ?_ (by assumption))))) (by exact hs'.ext (by repeat (first | (with_reducible exact Ext.refl _) | (with_reducible assumption) | (with_reducible refine Ext.alloc ?_ _) | (with_reducible refine Ext.drewN ?_ _) | (with_reducible refine Ext.drew ?_) | (with_reducible refine Ext.setCell ?_ ?_ _; rotate_left; (simp only []; omega)) | (with_reducible refine Ext.trans ?_ (by assumption)))))).mono ?_; rintro e w1 ⟨rfl, hx⟩; have hc := hx.cells; have hf := hx.frozens; have hy := hx.size; (try simp at hy); have hz : w.heap.size < w1.heap.size ∧ w.heap.size + 1 < w1.heap.size := (by omega))
  go_ret
  exact ⟨rfl, (by repeat (first | (with_reducible exact Ext.refl _) | (with_reducible assumption) | (with_reducible refine Ext.alloc ?_ _) | (with_reducible refine Ext.drewN ?_ _) | (with_reducible refine Ext.drew ?_) | (with_reducible refine Ext.setCell ?_ ?_ _; rotate_left; (simp only []; omega)) | (with_reducible refine Ext.trans ?_ (by assumption))))⟩
theorem heldPacket_any (k fa fp ta tp : Int) (a : Option Addr) (n c : Nat) (m : Int) (w : World) (hs : Sl encI 1 w a n c (marks m n)) (h0 : 0 ≤ m) (h1 : m ≤ 100000000) (hn : n ≤ 1048576) :
    Calls Try.prog 84 #[.agg #[.int .i64 k, .int .i64 fa, .int .i64 fp, .int .i64 ta, .int .i64 tp, .slice a n c], .int .i64 m] w fun e w' => e = .returned (.int .i64 (m + n)) ∧ Ext w w' := by
  go_enter Try.func84, Try.ntmps84
  go_wp2_with (go_at_call 96; refine (heldIntS_any a n c m _ (by exact hs.ext (by repeat (first | (with_reducible exact Ext.refl _) | (with_reducible assumption) | (with_reducible refine Ext.alloc ?_ _) | (with_reducible refine Ext.drewN ?_ _) | (with_reducible refine Ext.drew ?_) | (with_reducible refine Ext.setCell ?_ ?_ _; rotate_left; (simp only []; omega)) | (with_reducible refine Ext.trans ?_ (by assumption))))) h0 h1 hn).mono ?_; rintro e w' ⟨rfl, rfl⟩)
  go_ret
  exact ⟨rfl, (by repeat (first | (with_reducible exact Ext.refl _) | (with_reducible assumption) | (with_reducible refine Ext.alloc ?_ _) | (with_reducible refine Ext.drewN ?_ _) | (with_reducible refine Ext.drew ?_) | (with_reducible refine Ext.setCell ?_ ?_ _; rotate_left; (simp only []; omega)) | (with_reducible refine Ext.trans ?_ (by assumption))))⟩
theorem heldReport_any (o s t k fa fp ta tp : Int) (a : Option Addr) (n c : Nat) (m : Int) (w : World) (hs : Sl encI 1 w a n c (marks m n)) (h0 : 0 ≤ m) (h1 : m ≤ 100000000) (hn : n ≤ 1048576) :
    Calls Try.prog 52 #[.agg #[.int .i64 o, .int .i64 s, .int .i64 t, .int .i64 k, .int .i64 fa, .int .i64 fp, .int .i64 ta, .int .i64 tp, .slice a n c], .int .i64 m] w fun e w' => e = .returned (.int .i64 (m + n)) ∧ Ext w w' := by
  go_enter Try.func52, Try.ntmps52
  go_wp2_with (go_at_call 84; refine (heldPacket_any _ _ _ _ _ a n c m _ (by exact hs.ext (by repeat (first | (with_reducible exact Ext.refl _) | (with_reducible assumption) | (with_reducible refine Ext.alloc ?_ _) | (with_reducible refine Ext.drewN ?_ _) | (with_reducible refine Ext.drew ?_) | (with_reducible refine Ext.setCell ?_ ?_ _; rotate_left; (simp only []; omega)) | (with_reducible refine Ext.trans ?_ (by assumption))))) h0 h1 hn).mono ?_; rintro e w1 ⟨rfl, hx⟩; have hc := hx.cells; have hf := hx.frozens; have hy := hx.size; (try simp at hy); have hz : w.heap.size < w1.heap.size := (by omega))
  go_ret
  exact ⟨rfl, (by repeat (first | (with_reducible exact Ext.refl _) | (with_reducible assumption) | (with_reducible refine Ext.alloc ?_ _) | (with_reducible refine Ext.drewN ?_ _) | (with_reducible refine Ext.drew ?_) | (with_reducible refine Ext.setCell ?_ ?_ _; rotate_left; (simp only []; omega)) | (with_reducible refine Ext.trans ?_ (by assumption))))⟩
theorem markPacket_any (k fa fp ta tp : Int) (a : Option Addr) (n c base : Nat) (L : List Int) (m : Int) (w : World) (hs : Ow 3 encI 1 base w a n c L) (h0 : 0 ≤ m) (h1 : m ≤ 100000000) (hn : n ≤ 1048576) :
    Calls Try.prog 50 #[.agg #[.int .i64 k, .int .i64 fa, .int .i64 fp, .int .i64 ta, .int .i64 tp, .slice a n c], .int .i64 m] w fun e w' => e = .returned (.int .i64 (m + n)) ∧ Ow 3 encI 1 base w' a n c (marks m n) ∧ w.grownBy w' (a.map (·.block)) := by
  have HS := Lib.hid hs
  go_enter Try.func50, Try.ntmps50
  go_wp2_with fail
  refine (markIntS_any a n c base L m _ (by exact HS.out.ext (by repeat (first | (with_reducible exact Ext.refl _) | (with_reducible assumption) | (with_reducible refine Ext.alloc ?_ _) | (with_reducible refine Ext.drewN ?_ _) | (with_reducible refine Ext.drew ?_) | (with_reducible refine Ext.setCell ?_ ?_ _; rotate_left; (simp only []; omega)) | (with_reducible refine Ext.trans ?_ (by assumption))))) h0 h1 hn).mono ?_
  rintro e w1 ⟨rfl, how, hg⟩
  have HO := Lib.hid how
  have HG := Lib.hid (World.grownBy.trans (grown_ext (r := a.map (·.block)) (show Ext w _ from (by repeat (first | (with_reducible exact Ext.refl _) | (with_reducible assumption) | (with_reducible refine Ext.alloc ?_ _) | (with_reducible refine Ext.drewN ?_ _) | (with_reducible refine Ext.drew ?_) | (with_reducible refine Ext.setCell ?_ ?_ _; rotate_left; (simp only []; omega)) | (with_reducible refine Ext.trans ?_ (by assumption)))))) hg)
  clear how hg
  go_wp2
  go_ret
  exact ⟨rfl, HO.out, HG.out⟩
theorem markReport_any (o s t k fa fp ta tp : Int) (a : Option Addr) (n c base : Nat) (L : List Int) (m : Int) (w : World) (hs : Ow 3 encI 1 base w a n c L) (h0 : 0 ≤ m) (h1 : m ≤ 100000000) (hn : n ≤ 1048576) :
    Calls Try.prog 51 #[.agg #[.int .i64 o, .int .i64 s, .int .i64 t, .int .i64 k, .int .i64 fa, .int .i64 fp, .int .i64 ta, .int .i64 tp, .slice a n c], .int .i64 m] w fun e w' => e = .returned (.int .i64 (m + n)) ∧ Ow 3 encI 1 base w' a n c (marks m n) ∧ w.grownBy w' (a.map (·.block)) := by
  have HS := Lib.hid hs
  go_enter Try.func51, Try.ntmps51
  go_wp2_with fail
  refine (markPacket_any _ _ _ _ _ a n c base L m _ (by exact HS.out.ext (by repeat (first | (with_reducible exact Ext.refl _) | (with_reducible assumption) | (with_reducible refine Ext.alloc ?_ _) | (with_reducible refine Ext.drewN ?_ _) | (with_reducible refine Ext.drew ?_) | (with_reducible refine Ext.setCell ?_ ?_ _; rotate_left; (simp only []; omega)) | (with_reducible refine Ext.trans ?_ (by assumption))))) h0 h1 hn).mono ?_
  rintro e w1 ⟨rfl, how, hg⟩
  have HO := Lib.hid how
  have HG := Lib.hid (World.grownBy.trans (grown_ext (r := a.map (·.block)) (show Ext w _ from (by repeat (first | (with_reducible exact Ext.refl _) | (with_reducible assumption) | (with_reducible refine Ext.alloc ?_ _) | (with_reducible refine Ext.drewN ?_ _) | (with_reducible refine Ext.drew ?_) | (with_reducible refine Ext.setCell ?_ ?_ _; rotate_left; (simp only []; omega)) | (with_reducible refine Ext.trans ?_ (by assumption)))))) hg)
  clear how hg
  go_wp2
  go_ret
  exact ⟨rfl, HO.out, HG.out⟩
end Go.Proofs.Ytdjbjldmlfhigaa
