/- Contracts: the report about a packet. -/
import Derived.Test.YtdjbjldmlfhigaaRep
import Derived.Test.YtdjbjldmlfhigaaEq
namespace Go.Proofs.Ytdjbjldmlfhigaa
open Go.RowKit

theorem Ow.setCell {α : Type} {E : TypeId} {enc : α → List Value} {k base : Nat} {w : World} {a : Option Addr} {n c : Nat} {L : List α} (h : Ow E enc k base w a n c L) {p : Addr} (hp : ∀ x, a = some x → x.block ≠ p.block) (u : Value) :
    Ow E enc k base (w.setCell p u) a n c L := h.keep fun x e _ => Below.heap_setCell w p u x.block (hp x e)
theorem spec_copyPacket (k fa fp ta tp : Int) (a : Option Addr) (n c : Nat) (L : List Int) (w : World) (hs : Sl encI 1 w a n c L) (hn : n ≤ 1048576) :
    Calls Try.prog 95 #[.agg #[.int .i64 k, .int .i64 fa, .int .i64 fp, .int .i64 ta, .int .i64 tp, .slice a n c]] w fun e w' => ∃ a' c', e = .returned (.agg #[.int .i64 k, .int .i64 fa, .int .i64 fp, .int .i64 ta, .int .i64 tp, .slice a' n c']) ∧
      Ow 3 encI 1 w.heap.size w' a' n c' L ∧ Ext w w' := by
  go_enter Try.func95, Try.ntmps95
  go_wp2_with fail
  refine (spec_copyInts a n c L _ (by exact hs.ext (by repeat (first | (with_reducible exact Ext.refl _) | (with_reducible assumption) | (with_reducible refine Ext.alloc ?_ _) | (with_reducible refine Ext.drewN ?_ _) | (with_reducible refine Ext.drew ?_) | (with_reducible refine Ext.setCell ?_ ?_ _; rotate_left; (simp only []; omega)) | (with_reducible refine Ext.trans ?_ (by assumption))))) hn).mono ?_
  rintro e w1 ⟨a', c', rfl, hown, hx⟩
  have how := Ow.of_row hown encI_len (by omega)
  have hB1 : Blk w1 w.heap.size 48 #[.int .i64 k, .int .i64 fa, .int .i64 fp, .int .i64 ta, .int .i64 tp, .slice a n c] := by refine Blk.ext ?_ hx; exact (by repeat (first | (with_reducible assumption) | (with_reducible exact Blk.new _ _ _) | exact Blk.newAt _ _ _ (by simp) | (with_reducible refine Blk.alloc ?_ _) | (with_reducible refine Blk.drew ?_) | (with_reducible refine Blk.drewN ?_ _) | refine Blk.far ?_ (by simp only []; omega) _ | refine Blk.rext ?_ (by assumption) (by omega) | refine Blk.ext ?_ (by assumption)))
  have hB2 : Blk w1 (w.heap.size + 1) 48 #[.int .i64 0, .int .i64 0, .int .i64 0, .int .i64 0, .int .i64 0, .slice none 0 0] := by refine Blk.ext ?_ hx; exact (by repeat (first | (with_reducible assumption) | (with_reducible exact Blk.new _ _ _) | exact Blk.newAt _ _ _ (by simp) | (with_reducible refine Blk.alloc ?_ _) | (with_reducible refine Blk.drew ?_) | (with_reducible refine Blk.drewN ?_ _) | refine Blk.far ?_ (by simp only []; omega) _ | refine Blk.rext ?_ (by assumption) (by omega) | refine Blk.ext ?_ (by assumption)))
  have hc1 := hB1.cells
  have hf1 := hB1.frozens
  have hc2 := hB2.cells
  have hf2 := hB2.frozens
  have hy := hx.size
  simp at hy
  have hz : w.heap.size < w1.heap.size ∧ w.heap.size + 1 < w1.heap.size := by omega
  have hlt := how.lt
  simp at hlt
  clear hown
  go_wp2
  refine' bodyPost_ret (v := _) ?_ rfl ?_
  rotate_left
  · (simp only [results, Try.results95]
     go_simp
     rfl)
  refine ⟨a', c', rfl, ?_, (by repeat (first | (with_reducible exact Ext.refl _) | (with_reducible assumption) | (with_reducible refine Ext.alloc ?_ _) | (with_reducible refine Ext.drewN ?_ _) | (with_reducible refine Ext.drew ?_) | (with_reducible refine Ext.setCell ?_ ?_ _; rotate_left; (simp only []; omega)) | (with_reducible refine Ext.trans ?_ (by assumption))))⟩
  refine Ow.rebase (base := w.heap.size + 2) ?_ (by omega)
  repeat (refine Ow.setCell ?_ (fun y hy => by have := (hlt y hy).1; simp only []; omega) _)
  simpa using how
set_option maxHeartbeats 1000000 in
theorem spec_reportOf (o s k fa fp ta tp : Int) (a : Option Addr) (n c : Nat) (L : List Int) (w : World) (hs : Sl encI 1 w a n c L) (hn : n ≤ 12) :
    Calls Try.prog 76 #[.int .i64 o, .int .i64 s, .agg #[.int .i64 k, .int .i64 fa, .int .i64 fp, .int .i64 ta, .int .i64 tp, .slice a n c]] w fun e w' => ∃ a' c',
      e = .returned (.agg #[.int .i64 o, .int .i64 s, .int .i64 fa, .int .i64 k, .int .i64 fa, .int .i64 fp, .int .i64 ta, .int .i64 tp, .slice a' (min n 4) c']) ∧ Sl encI 1 w' a' (min n 4) c' (L.take 4) ∧ (∀ x, a' = some x → w.heap.size ≤ x.block) ∧ Ext w w' := by
  have hle := hs.le
  have hmax := hs.max
  have hlen := hs.len
  by_cases hm : n ≤ 4
  · rw [show min n 4 = n by omega]
    have ht : Sl encI 1 w a n c (L.take 4) := by
      rw [List.take_of_length_le (by omega)]; exact hs
    clear hlen
    go_enter Try.func76, Try.ntmps76
    go_wp2_with fail
    refine (spec_copyPacket _ _ _ _ _ a n c L _ (by exact hs.ext (by repeat (first | (with_reducible exact Ext.refl _) | (with_reducible assumption) | (with_reducible refine Ext.alloc ?_ _) | (with_reducible refine Ext.drewN ?_ _) | (with_reducible refine Ext.drew ?_) | (with_reducible refine Ext.setCell ?_ ?_ _; rotate_left; (simp only []; omega)) | (with_reducible refine Ext.trans ?_ (by assumption))))) (by omega)).mono ?_
    rintro e w1 ⟨a1, c1, rfl, how1, hx1⟩
    have hy1 := hx1.size
    simp at hy1
    have hB1 : Blk w1 w.heap.size 48 #[.int .i64 k, .int .i64 fa, .int .i64 fp, .int .i64 ta, .int .i64 tp, .slice a n c] := by refine Blk.ext ?_ hx1; exact (by repeat (first | (with_reducible assumption) | (with_reducible exact Blk.new _ _ _) | exact Blk.newAt _ _ _ (by simp) | (with_reducible refine Blk.alloc ?_ _) | (with_reducible refine Blk.drew ?_) | (with_reducible refine Blk.drewN ?_ _) | refine Blk.far ?_ (by simp only []; omega) _ | refine Blk.rext ?_ (by assumption) (by omega) | refine Blk.ext ?_ (by assumption)))
    have hB2 : Blk w1 (w.heap.size + 1) 50 #[.int .i64 0, .int .i64 0, .int .i64 0, .int .i64 0, .int .i64 0, .int .i64 0, .int .i64 0, .int .i64 0, .slice none 0 0] := by refine Blk.ext ?_ hx1; exact (by repeat (first | (with_reducible assumption) | (with_reducible exact Blk.new _ _ _) | exact Blk.newAt _ _ _ (by simp) | (with_reducible refine Blk.alloc ?_ _) | (with_reducible refine Blk.drew ?_) | (with_reducible refine Blk.drewN ?_ _) | refine Blk.far ?_ (by simp only []; omega) _ | refine Blk.rext ?_ (by assumption) (by omega) | refine Blk.ext ?_ (by assumption)))
    have hc1 := hB1.cells
    have hc2 := hB2.cells
    have hz1 : w.heap.size < w1.heap.size ∧ w.heap.size + 1 < w1.heap.size := by omega
    go_wp2_with fail
    refine (spec_copyInts a n c (L.take 4) _ (by exact ht.ext (by repeat (first | (with_reducible exact Ext.refl _) | (with_reducible assumption) | (with_reducible refine Ext.alloc ?_ _) | (with_reducible refine Ext.drewN ?_ _) | (with_reducible refine Ext.drew ?_) | (with_reducible refine Ext.setCell ?_ ?_ _; rotate_left; (simp only []; omega)) | (with_reducible refine Ext.trans ?_ (by assumption))))) (by omega)).mono ?_
    rintro e w2 ⟨a2, c2, rfl, hown, hx2⟩
    have how := Ow.of_row hown encI_len (by omega)
    have hlt := how.lt
    have hy2 := hx2.size
    simp at hlt hy2
    have hC1 : Blk w2 w.heap.size 48 _ := Blk.ext (hB1.alloc _) hx2
    have hC2 : Blk w2 (w.heap.size + 1) 50 _ := Blk.ext (hB2.alloc _) hx2
    have hC3 : Blk w2 w1.heap.size 48 #[.int .i64 k, .int .i64 fa, .int .i64 fp, .int .i64 ta, .int .i64 tp, .slice a1 n c1] := by refine Blk.ext ?_ hx2; exact (by repeat (first | (with_reducible assumption) | (with_reducible exact Blk.new _ _ _) | exact Blk.newAt _ _ _ (by simp) | (with_reducible refine Blk.alloc ?_ _) | (with_reducible refine Blk.drew ?_) | (with_reducible refine Blk.drewN ?_ _) | refine Blk.far ?_ (by simp only []; omega) _ | refine Blk.rext ?_ (by assumption) (by omega) | refine Blk.ext ?_ (by assumption)))
    have hX : Ext w w2 := (by repeat (first | (with_reducible exact Ext.refl _) | (with_reducible assumption) | (with_reducible refine Ext.alloc ?_ _) | (with_reducible refine Ext.drewN ?_ _) | (with_reducible refine Ext.drew ?_) | (with_reducible refine Ext.setCell ?_ ?_ _; rotate_left; (simp only []; omega)) | (with_reducible refine Ext.trans ?_ (by assumption))))
    have hd1 := hC1.cells
    have hd2 := hC2.cells
    have hd3 := hC3.cells
    have he2 := hC2.frozens
    have he3 := hC3.frozens
    clear hc1 hc2 hx1 hx2 hown
    go_wp2
    refine' bodyPost_ret (v := _) ?_ rfl ?_
    rotate_left
    · (simp only [results, Try.results76]
       go_simp
       rfl)
    refine ⟨a2, c2, rfl, ?_, (fun y hy => by have := (hlt y hy).1; omega), (by repeat (first | (with_reducible exact Ext.refl _) | (with_reducible assumption) | (with_reducible refine Ext.alloc ?_ _) | (with_reducible refine Ext.drewN ?_ _) | (with_reducible refine Ext.drew ?_) | (with_reducible refine Ext.setCell ?_ ?_ _; rotate_left; (simp only []; omega)) | (with_reducible refine Ext.trans ?_ (by assumption))))⟩
    repeat (refine Sl.setCell ?_ (fun y hy => by have := (hlt y hy).1; simp only []; omega) _)
    exact how.sl encI_len
  · rw [show min n 4 = 4 by omega]
    have ht : Sl encI 1 w a 4 c (L.take 4) := by
      exact hs.take (by omega) (by omega) (by omega)
    clear hlen
    go_enter Try.func76, Try.ntmps76
    go_wp2_with fail
    refine (spec_copyPacket _ _ _ _ _ a n c L _ (by exact hs.ext (by repeat (first | (with_reducible exact Ext.refl _) | (with_reducible assumption) | (with_reducible refine Ext.alloc ?_ _) | (with_reducible refine Ext.drewN ?_ _) | (with_reducible refine Ext.drew ?_) | (with_reducible refine Ext.setCell ?_ ?_ _; rotate_left; (simp only []; omega)) | (with_reducible refine Ext.trans ?_ (by assumption))))) (by omega)).mono ?_
    rintro e w1 ⟨a1, c1, rfl, how1, hx1⟩
    have hy1 := hx1.size
    simp at hy1
    have hB1 : Blk w1 w.heap.size 48 #[.int .i64 k, .int .i64 fa, .int .i64 fp, .int .i64 ta, .int .i64 tp, .slice a n c] := by refine Blk.ext ?_ hx1; exact (by repeat (first | (with_reducible assumption) | (with_reducible exact Blk.new _ _ _) | exact Blk.newAt _ _ _ (by simp) | (with_reducible refine Blk.alloc ?_ _) | (with_reducible refine Blk.drew ?_) | (with_reducible refine Blk.drewN ?_ _) | refine Blk.far ?_ (by simp only []; omega) _ | refine Blk.rext ?_ (by assumption) (by omega) | refine Blk.ext ?_ (by assumption)))
    have hB2 : Blk w1 (w.heap.size + 1) 50 #[.int .i64 0, .int .i64 0, .int .i64 0, .int .i64 0, .int .i64 0, .int .i64 0, .int .i64 0, .int .i64 0, .slice none 0 0] := by refine Blk.ext ?_ hx1; exact (by repeat (first | (with_reducible assumption) | (with_reducible exact Blk.new _ _ _) | exact Blk.newAt _ _ _ (by simp) | (with_reducible refine Blk.alloc ?_ _) | (with_reducible refine Blk.drew ?_) | (with_reducible refine Blk.drewN ?_ _) | refine Blk.far ?_ (by simp only []; omega) _ | refine Blk.rext ?_ (by assumption) (by omega) | refine Blk.ext ?_ (by assumption)))
    have hc1 := hB1.cells
    have hc2 := hB2.cells
    have hz1 : w.heap.size < w1.heap.size ∧ w.heap.size + 1 < w1.heap.size := by omega
    go_wp2_with fail
    refine (spec_copyInts a 4 c (L.take 4) _ (by exact ht.ext (by repeat (first | (with_reducible exact Ext.refl _) | (with_reducible assumption) | (with_reducible refine Ext.alloc ?_ _) | (with_reducible refine Ext.drewN ?_ _) | (with_reducible refine Ext.drew ?_) | (with_reducible refine Ext.setCell ?_ ?_ _; rotate_left; (simp only []; omega)) | (with_reducible refine Ext.trans ?_ (by assumption))))) (by omega)).mono ?_
    rintro e w2 ⟨a2, c2, rfl, hown, hx2⟩
    have how := Ow.of_row hown encI_len (by omega)
    have hlt := how.lt
    have hy2 := hx2.size
    simp at hlt hy2
    have hC1 : Blk w2 w.heap.size 48 _ := Blk.ext (hB1.alloc _) hx2
    have hC2 : Blk w2 (w.heap.size + 1) 50 _ := Blk.ext (hB2.alloc _) hx2
    have hC3 : Blk w2 w1.heap.size 48 #[.int .i64 k, .int .i64 fa, .int .i64 fp, .int .i64 ta, .int .i64 tp, .slice a1 n c1] := by refine Blk.ext ?_ hx2; exact (by repeat (first | (with_reducible assumption) | (with_reducible exact Blk.new _ _ _) | exact Blk.newAt _ _ _ (by simp) | (with_reducible refine Blk.alloc ?_ _) | (with_reducible refine Blk.drew ?_) | (with_reducible refine Blk.drewN ?_ _) | refine Blk.far ?_ (by simp only []; omega) _ | refine Blk.rext ?_ (by assumption) (by omega) | refine Blk.ext ?_ (by assumption)))
    have hX : Ext w w2 := (by repeat (first | (with_reducible exact Ext.refl _) | (with_reducible assumption) | (with_reducible refine Ext.alloc ?_ _) | (with_reducible refine Ext.drewN ?_ _) | (with_reducible refine Ext.drew ?_) | (with_reducible refine Ext.setCell ?_ ?_ _; rotate_left; (simp only []; omega)) | (with_reducible refine Ext.trans ?_ (by assumption))))
    have hd1 := hC1.cells
    have hd2 := hC2.cells
    have hd3 := hC3.cells
    have he2 := hC2.frozens
    have he3 := hC3.frozens
    clear hc1 hc2 hx1 hx2 hown
    go_wp2
    refine' bodyPost_ret (v := _) ?_ rfl ?_
    rotate_left
    · (simp only [results, Try.results76]
       go_simp
       rfl)
    refine ⟨a2, c2, rfl, ?_, (fun y hy => by have := (hlt y hy).1; omega), (by repeat (first | (with_reducible exact Ext.refl _) | (with_reducible assumption) | (with_reducible refine Ext.alloc ?_ _) | (with_reducible refine Ext.drewN ?_ _) | (with_reducible refine Ext.drew ?_) | (with_reducible refine Ext.setCell ?_ ?_ _; rotate_left; (simp only []; omega)) | (with_reducible refine Ext.trans ?_ (by assumption))))⟩
    repeat (refine Sl.setCell ?_ (fun y hy => by have := (hlt y hy).1; simp only []; omega) _)
    exact how.sl encI_len
set_option maxHeartbeats 1000000 in
theorem spec_ReportOf_no (o s k fa fp ta tp : Int) (a : Option Addr) (n c : Nat) (L : List Int) (w : World) (hs : Sl encI 1 w a n c L) (h : (inR o 0 15 && word s && validPkt ⟨k, ⟨fa, fp⟩, ⟨ta, tp⟩, L⟩) = false) :
    Calls Try.prog 44 #[.int .i64 o, .int .i64 s, .agg #[.int .i64 k, .int .i64 fa, .int .i64 fp, .int .i64 ta, .int .i64 tp, .slice a n c]] w fun e w' => e = .returned (.tuple #[.agg #[.int .i64 0, .int .i64 0, .int .i64 0, .int .i64 0, .int .i64 0, .int .i64 0, .int .i64 0, .int .i64 0, .slice none 0 0], .bool false]) ∧ Ext w w' := by
  cases h1 : inR o 0 15 with
  | false =>
    clear h
    go_enter Try.func44, Try.ntmps44
    go_wp2_with (first | (go_at_call 53; refine (spec_inRange _ _ _ _).mono ?_; rintro e w' ⟨rfl, rfl⟩) | (go_at_call 74; refine (spec_validAddr _ _).mono ?_; rintro e w' ⟨rfl, rfl⟩) | (go_at_call 75; refine (spec_validPacket _ _ _ _ _ _ _ _ L _ (by exact hs.ext (by repeat (first | (with_reducible exact Ext.refl _) | (with_reducible assumption) | (with_reducible refine Ext.alloc ?_ _) | (with_reducible refine Ext.drewN ?_ _) | (with_reducible refine Ext.drew ?_) | (with_reducible refine Ext.setCell ?_ ?_ _; rotate_left; (simp only []; omega)) | (with_reducible refine Ext.trans ?_ (by assumption)))))).mono ?_; rintro e w1 ⟨rfl, hx⟩; have hc := hx.cells; have hf := hx.frozens; have hy := hx.size; (try simp at hy); have hz : w.heap.size < w1.heap.size ∧ w.heap.size + 1 < w1.heap.size := (by omega)))
    refine' bodyPost_ret (v := _) ?_ rfl ?_
    rotate_left
    · (simp only [results, Try.results44]
       go_simp
       rfl)
    exact ⟨rfl, (by repeat (first | (with_reducible exact Ext.refl _) | (with_reducible assumption) | (with_reducible refine Ext.alloc ?_ _) | (with_reducible refine Ext.drewN ?_ _) | (with_reducible refine Ext.drew ?_) | (with_reducible refine Ext.setCell ?_ ?_ _; rotate_left; (simp only []; omega)) | (with_reducible refine Ext.trans ?_ (by assumption))))⟩
  | true =>
    cases h2 : word s with
    | false =>
      clear h
      go_enter Try.func44, Try.ntmps44
      go_wp2_with (first | (go_at_call 53; refine (spec_inRange _ _ _ _).mono ?_; rintro e w' ⟨rfl, rfl⟩) | (go_at_call 74; refine (spec_validAddr _ _).mono ?_; rintro e w' ⟨rfl, rfl⟩) | (go_at_call 75; refine (spec_validPacket _ _ _ _ _ _ _ _ L _ (by exact hs.ext (by repeat (first | (with_reducible exact Ext.refl _) | (with_reducible assumption) | (with_reducible refine Ext.alloc ?_ _) | (with_reducible refine Ext.drewN ?_ _) | (with_reducible refine Ext.drew ?_) | (with_reducible refine Ext.setCell ?_ ?_ _; rotate_left; (simp only []; omega)) | (with_reducible refine Ext.trans ?_ (by assumption)))))).mono ?_; rintro e w1 ⟨rfl, hx⟩; have hc := hx.cells; have hf := hx.frozens; have hy := hx.size; (try simp at hy); have hz : w.heap.size < w1.heap.size ∧ w.heap.size + 1 < w1.heap.size := (by omega)))
      refine' bodyPost_ret (v := _) ?_ rfl ?_
      rotate_left
      · (simp only [results, Try.results44]
         go_simp
         rfl)
      exact ⟨rfl, (by repeat (first | (with_reducible exact Ext.refl _) | (with_reducible assumption) | (with_reducible refine Ext.alloc ?_ _) | (with_reducible refine Ext.drewN ?_ _) | (with_reducible refine Ext.drew ?_) | (with_reducible refine Ext.setCell ?_ ?_ _; rotate_left; (simp only []; omega)) | (with_reducible refine Ext.trans ?_ (by assumption))))⟩
    | true =>
      cases h3 : validPkt ⟨k, ⟨fa, fp⟩, ⟨ta, tp⟩, L⟩ with
      | false =>
        clear h
        go_enter Try.func44, Try.ntmps44
        go_wp2_with (first | (go_at_call 53; refine (spec_inRange _ _ _ _).mono ?_; rintro e w' ⟨rfl, rfl⟩) | (go_at_call 74; refine (spec_validAddr _ _).mono ?_; rintro e w' ⟨rfl, rfl⟩) | (go_at_call 75; refine (spec_validPacket _ _ _ _ _ _ _ _ L _ (by exact hs.ext (by repeat (first | (with_reducible exact Ext.refl _) | (with_reducible assumption) | (with_reducible refine Ext.alloc ?_ _) | (with_reducible refine Ext.drewN ?_ _) | (with_reducible refine Ext.drew ?_) | (with_reducible refine Ext.setCell ?_ ?_ _; rotate_left; (simp only []; omega)) | (with_reducible refine Ext.trans ?_ (by assumption)))))).mono ?_; rintro e w1 ⟨rfl, hx⟩; have hc := hx.cells; have hf := hx.frozens; have hy := hx.size; (try simp at hy); have hz : w.heap.size < w1.heap.size ∧ w.heap.size + 1 < w1.heap.size := (by omega)))
        refine' bodyPost_ret (v := _) ?_ rfl ?_
        rotate_left
        · (simp only [results, Try.results44]
           go_simp
           rfl)
        exact ⟨rfl, (by repeat (first | (with_reducible exact Ext.refl _) | (with_reducible assumption) | (with_reducible refine Ext.alloc ?_ _) | (with_reducible refine Ext.drewN ?_ _) | (with_reducible refine Ext.drew ?_) | (with_reducible refine Ext.setCell ?_ ?_ _; rotate_left; (simp only []; omega)) | (with_reducible refine Ext.trans ?_ (by assumption))))⟩
      | true => rw [h1, h2, h3] at h; cases h
set_option maxHeartbeats 1000000 in
theorem impl_ReportOf_no (o s k fa fp ta tp : Int) (a : Option Addr) (n c : Nat) (L : List Int) (w : World) (hs : Sl encI 1 w a n c L) (h : (inR o 0 15 && word s && validPkt ⟨k, ⟨fa, fp⟩, ⟨ta, tp⟩, L⟩) = false) :
    Calls Try.prog 43 #[.int .i64 o, .int .i64 s, .agg #[.int .i64 k, .int .i64 fa, .int .i64 fp, .int .i64 ta, .int .i64 tp, .slice a n c]] w fun e w' => e = .returned (.tuple #[.agg #[.int .i64 0, .int .i64 0, .int .i64 0, .int .i64 0, .int .i64 0, .int .i64 0, .int .i64 0, .int .i64 0, .slice none 0 0], .bool false]) ∧ Ext w w' := by
  cases h1 : inR o 0 15 with
  | false =>
    clear h
    go_enter Try.func43, Try.ntmps43
    go_wp2_with (first | (go_at_call 54; refine (impl_in _ _ _ _).mono ?_; rintro e w' ⟨rfl, rfl⟩) | (go_at_call 66; refine (impl_isWord _ _).mono ?_; rintro e w' ⟨rfl, rfl⟩) | (go_at_call 38; refine (impl_ValidPacket _ _ _ _ _ _ _ _ L _ (by exact hs.ext (by repeat (first | (with_reducible exact Ext.refl _) | (with_reducible assumption) | (with_reducible refine Ext.alloc ?_ _) | (with_reducible refine Ext.drewN ?_ _) | (with_reducible refine Ext.drew ?_) | (with_reducible refine Ext.setCell ?_ ?_ _; rotate_left; (simp only []; omega)) | (with_reducible refine Ext.trans ?_ (by assumption)))))).mono ?_; rintro e w1 ⟨rfl, hx⟩; have hc := hx.cells; have hf := hx.frozens; have hy := hx.size; (try simp at hy); have hz : w.heap.size < w1.heap.size ∧ w.heap.size + 1 < w1.heap.size := (by omega)))
    refine' bodyPost_ret (v := _) ?_ rfl ?_
    rotate_left
    · (simp only [results, Try.results43]
       go_simp
       rfl)
    exact ⟨rfl, (by repeat (first | (with_reducible exact Ext.refl _) | (with_reducible assumption) | (with_reducible refine Ext.alloc ?_ _) | (with_reducible refine Ext.drewN ?_ _) | (with_reducible refine Ext.drew ?_) | (with_reducible refine Ext.setCell ?_ ?_ _; rotate_left; (simp only []; omega)) | (with_reducible refine Ext.trans ?_ (by assumption))))⟩
  | true =>
    cases h2 : word s with
    | false =>
      clear h
      go_enter Try.func43, Try.ntmps43
      go_wp2_with (first | (go_at_call 54; refine (impl_in _ _ _ _).mono ?_; rintro e w' ⟨rfl, rfl⟩) | (go_at_call 66; refine (impl_isWord _ _).mono ?_; rintro e w' ⟨rfl, rfl⟩) | (go_at_call 38; refine (impl_ValidPacket _ _ _ _ _ _ _ _ L _ (by exact hs.ext (by repeat (first | (with_reducible exact Ext.refl _) | (with_reducible assumption) | (with_reducible refine Ext.alloc ?_ _) | (with_reducible refine Ext.drewN ?_ _) | (with_reducible refine Ext.drew ?_) | (with_reducible refine Ext.setCell ?_ ?_ _; rotate_left; (simp only []; omega)) | (with_reducible refine Ext.trans ?_ (by assumption)))))).mono ?_; rintro e w1 ⟨rfl, hx⟩; have hc := hx.cells; have hf := hx.frozens; have hy := hx.size; (try simp at hy); have hz : w.heap.size < w1.heap.size ∧ w.heap.size + 1 < w1.heap.size := (by omega)))
      refine' bodyPost_ret (v := _) ?_ rfl ?_
      rotate_left
      · (simp only [results, Try.results43]
         go_simp
         rfl)
      exact ⟨rfl, (by repeat (first | (with_reducible exact Ext.refl _) | (with_reducible assumption) | (with_reducible refine Ext.alloc ?_ _) | (with_reducible refine Ext.drewN ?_ _) | (with_reducible refine Ext.drew ?_) | (with_reducible refine Ext.setCell ?_ ?_ _; rotate_left; (simp only []; omega)) | (with_reducible refine Ext.trans ?_ (by assumption))))⟩
    | true =>
      cases h3 : validPkt ⟨k, ⟨fa, fp⟩, ⟨ta, tp⟩, L⟩ with
      | false =>
        clear h
        go_enter Try.func43, Try.ntmps43
        go_wp2_with (first | (go_at_call 54; refine (impl_in _ _ _ _).mono ?_; rintro e w' ⟨rfl, rfl⟩) | (go_at_call 66; refine (impl_isWord _ _).mono ?_; rintro e w' ⟨rfl, rfl⟩) | (go_at_call 38; refine (impl_ValidPacket _ _ _ _ _ _ _ _ L _ (by exact hs.ext (by repeat (first | (with_reducible exact Ext.refl _) | (with_reducible assumption) | (with_reducible refine Ext.alloc ?_ _) | (with_reducible refine Ext.drewN ?_ _) | (with_reducible refine Ext.drew ?_) | (with_reducible refine Ext.setCell ?_ ?_ _; rotate_left; (simp only []; omega)) | (with_reducible refine Ext.trans ?_ (by assumption)))))).mono ?_; rintro e w1 ⟨rfl, hx⟩; have hc := hx.cells; have hf := hx.frozens; have hy := hx.size; (try simp at hy); have hz : w.heap.size < w1.heap.size ∧ w.heap.size + 1 < w1.heap.size := (by omega)))
        refine' bodyPost_ret (v := _) ?_ rfl ?_
        rotate_left
        · (simp only [results, Try.results43]
           go_simp
           rfl)
        exact ⟨rfl, (by repeat (first | (with_reducible exact Ext.refl _) | (with_reducible assumption) | (with_reducible refine Ext.alloc ?_ _) | (with_reducible refine Ext.drewN ?_ _) | (with_reducible refine Ext.drew ?_) | (with_reducible refine Ext.setCell ?_ ?_ _; rotate_left; (simp only []; omega)) | (with_reducible refine Ext.trans ?_ (by assumption))))⟩
      | true => rw [h1, h2, h3] at h; cases h
set_option maxHeartbeats 1000000 in
theorem spec_ReportOf_ok (o s k fa fp ta tp : Int) (a : Option Addr) (n c : Nat) (L : List Int) (w : World) (hs : Sl encI 1 w a n c L) (h1 : inR o 0 15 = true) (h2 : word s = true) (h3 : validPkt ⟨k, ⟨fa, fp⟩, ⟨ta, tp⟩, L⟩ = true) :
    Calls Try.prog 44 #[.int .i64 o, .int .i64 s, .agg #[.int .i64 k, .int .i64 fa, .int .i64 fp, .int .i64 ta, .int .i64 tp, .slice a n c]] w fun e w' => ∃ a' c', e = .returned (.tuple #[.agg #[.int .i64 o, .int .i64 s, .int .i64 fa, .int .i64 k, .int .i64 fa, .int .i64 fp, .int .i64 ta, .int .i64 tp, .slice a' (min n 4) c'], .bool true]) ∧
      Sl encI 1 w' a' (min n 4) c' (L.take 4) ∧ (∀ x, a' = some x → w.heap.size ≤ x.block) ∧ Ext w w' := by
  have hn : n ≤ 12 := by
    have h4 := hs.len
    have h5 := h3
    simp only [validPkt, Bool.and_eq_true, decide_eq_true_eq] at h5
    omega
  go_enter Try.func44, Try.ntmps44
  go_wp2_with (first | (go_at_call 53; refine (spec_inRange _ _ _ _).mono ?_; rintro e w' ⟨rfl, rfl⟩) | (go_at_call 74; refine (spec_validAddr _ _).mono ?_; rintro e w' ⟨rfl, rfl⟩) | (go_at_call 75; refine (spec_validPacket _ _ _ _ _ _ _ _ L _ (by exact hs.ext (by repeat (first | (with_reducible exact Ext.refl _) | (with_reducible assumption) | (with_reducible refine Ext.alloc ?_ _) | (with_reducible refine Ext.drewN ?_ _) | (with_reducible refine Ext.drew ?_) | (with_reducible refine Ext.setCell ?_ ?_ _; rotate_left; (simp only []; omega)) | (with_reducible refine Ext.trans ?_ (by assumption)))))).mono ?_; rintro e w1 ⟨rfl, hx⟩; have hc := hx.cells; have hf := hx.frozens; have hy := hx.size; (try simp at hy); have hz : w.heap.size < w1.heap.size ∧ w.heap.size + 1 < w1.heap.size := (by omega)))
  refine (spec_reportOf _ _ _ _ _ _ _ a n c L _ (by exact hs.ext (by repeat (first | (with_reducible exact Ext.refl _) | (with_reducible assumption) | (with_reducible refine Ext.alloc ?_ _) | (with_reducible refine Ext.drewN ?_ _) | (with_reducible refine Ext.drew ?_) | (with_reducible refine Ext.setCell ?_ ?_ _; rotate_left; (simp only []; omega)) | (with_reducible refine Ext.trans ?_ (by assumption))))) hn).mono ?_
  rintro e w2 ⟨a2, c2, rfl, hs2, hfr, hx2⟩
  have hy2 := hx2.size
  have hX : Ext w w2 := (by repeat (first | (with_reducible exact Ext.refl _) | (with_reducible assumption) | (with_reducible refine Ext.alloc ?_ _) | (with_reducible refine Ext.drewN ?_ _) | (with_reducible refine Ext.drew ?_) | (with_reducible refine Ext.setCell ?_ ?_ _; rotate_left; (simp only []; omega)) | (with_reducible refine Ext.trans ?_ (by assumption))))
  have hB : Blk w2 (w.heap.size + 1) 50 #[.int .i64 0, .int .i64 0, .int .i64 0, .int .i64 0, .int .i64 0, .int .i64 0, .int .i64 0, .int .i64 0, .slice none 0 0] := by refine Blk.ext ?_ hx2; exact (by repeat (first | (with_reducible assumption) | (with_reducible exact Blk.new _ _ _) | exact Blk.newAt _ _ _ (by simp) | (with_reducible refine Blk.alloc ?_ _) | (with_reducible refine Blk.drew ?_) | (with_reducible refine Blk.drewN ?_ _) | refine Blk.far ?_ (by simp only []; omega) _ | refine Blk.rext ?_ (by assumption) (by omega) | refine Blk.ext ?_ (by assumption)))
  have hcB := hB.cells
  have hfB := hB.frozens
  clear hc hf hx2 hx
  go_wp2
  refine' bodyPost_ret (v := _) ?_ rfl ?_
  rotate_left
  · (simp only [results, Try.results44]
     go_simp
     rfl)
  refine ⟨a2, c2, rfl, ?_, (fun y hy => by have := hfr y hy; omega), (by repeat (first | (with_reducible exact Ext.refl _) | (with_reducible assumption) | (with_reducible refine Ext.alloc ?_ _) | (with_reducible refine Ext.drewN ?_ _) | (with_reducible refine Ext.drew ?_) | (with_reducible refine Ext.setCell ?_ ?_ _; rotate_left; (simp only []; omega)) | (with_reducible refine Ext.trans ?_ (by assumption))))⟩
  repeat (refine Sl.setCell ?_ (fun y hy => by have := hfr y hy; simp only []; omega) _)
  exact hs2
set_option maxHeartbeats 2000000 in
theorem impl_ReportOf_own (o s k fa fp ta tp : Int) (a : Option Addr) (n c : Nat) (L : List Int) (w : World) (hs : Sl encI 1 w a n c L) (h1 : inR o 0 15 = true) (h2 : word s = true) (h3 : validPkt ⟨k, ⟨fa, fp⟩, ⟨ta, tp⟩, L⟩ = true) :
    Calls Try.prog 43 #[.int .i64 o, .int .i64 s, .agg #[.int .i64 k, .int .i64 fa, .int .i64 fp, .int .i64 ta, .int .i64 tp, .slice a n c]] w fun e w' => ∃ a' c', e = .returned (.tuple #[.agg #[.int .i64 o, .int .i64 s, .int .i64 fa, .int .i64 k, .int .i64 fa, .int .i64 fp, .int .i64 ta, .int .i64 tp, .slice a' (min n 4) c'], .bool true]) ∧
      Ow 3 encI 1 w.heap.size w' a' (min n 4) c' (L.take 4) ∧ Ext w w' := by
  have hn : n ≤ 12 := by
    have h4 := hs.len
    have h5 := h3
    simp only [validPkt, Bool.and_eq_true, decide_eq_true_eq] at h5
    omega
  have hle := hs.le
  have hmax := hs.max
  have hlen := hs.len
  by_cases hm : n < 4
  · rw [show min n 4 = n by omega]
    have ht : Sl encI 1 w a n c (L.take 4) := by
      rw [List.take_of_length_le (by omega)]; exact hs
    clear hlen
    go_enter Try.func43, Try.ntmps43
    go_wp2_with (first | (go_at_call 54; refine (impl_in _ _ _ _).mono ?_; rintro e w' ⟨rfl, rfl⟩) | (go_at_call 66; refine (impl_isWord _ _).mono ?_; rintro e w' ⟨rfl, rfl⟩) | (go_at_call 38; refine (impl_ValidPacket _ _ _ _ _ _ _ _ L _ (by exact hs.ext (by repeat (first | (with_reducible exact Ext.refl _) | (with_reducible assumption) | (with_reducible refine Ext.alloc ?_ _) | (with_reducible refine Ext.drewN ?_ _) | (with_reducible refine Ext.drew ?_) | (with_reducible refine Ext.setCell ?_ ?_ _; rotate_left; (simp only []; omega)) | (with_reducible refine Ext.trans ?_ (by assumption)))))).mono ?_; rintro e w1 ⟨rfl, hx⟩; have hc := hx.cells; have hf := hx.frozens; have hy := hx.size; (try simp at hy); have hz : w.heap.size < w1.heap.size ∧ w.heap.size + 1 < w1.heap.size := (by omega)))
    refine (impl_clone_int a n c (L.take 4) _ (by exact ht.ext (by repeat (first | (with_reducible exact Ext.refl _) | (with_reducible assumption) | (with_reducible refine Ext.alloc ?_ _) | (with_reducible refine Ext.drewN ?_ _) | (with_reducible refine Ext.drew ?_) | (with_reducible refine Ext.setCell ?_ ?_ _; rotate_left; (simp only []; omega)) | (with_reducible refine Ext.trans ?_ (by assumption))))) (by omega)).mono ?_
    rintro e w2 ⟨a2, rfl, how, hx2⟩
    have hlt := how.lt
    have hy2 := hx2.size
    simp at hlt hy2
    have hX : Ext w w2 := (by repeat (first | (with_reducible exact Ext.refl _) | (with_reducible assumption) | (with_reducible refine Ext.alloc ?_ _) | (with_reducible refine Ext.drewN ?_ _) | (with_reducible refine Ext.drew ?_) | (with_reducible refine Ext.setCell ?_ ?_ _; rotate_left; (simp only []; omega)) | (with_reducible refine Ext.trans ?_ (by assumption))))
    have hC1 : Blk w2 w.heap.size 48 #[.int .i64 k, .int .i64 fa, .int .i64 fp, .int .i64 ta, .int .i64 tp, .slice a n c] := by refine Blk.ext ?_ hx2; exact (by repeat (first | (with_reducible assumption) | (with_reducible exact Blk.new _ _ _) | exact Blk.newAt _ _ _ (by simp) | (with_reducible refine Blk.alloc ?_ _) | (with_reducible refine Blk.drew ?_) | (with_reducible refine Blk.drewN ?_ _) | refine Blk.far ?_ (by simp only []; omega) _ | refine Blk.rext ?_ (by assumption) (by omega) | refine Blk.ext ?_ (by assumption)))
    have hC2 : Blk w2 (w.heap.size + 1) 50 #[.int .i64 0, .int .i64 0, .int .i64 0, .int .i64 0, .int .i64 0, .int .i64 0, .int .i64 0, .int .i64 0, .slice none 0 0] := by refine Blk.ext ?_ hx2; exact (by repeat (first | (with_reducible assumption) | (with_reducible exact Blk.new _ _ _) | exact Blk.newAt _ _ _ (by simp) | (with_reducible refine Blk.alloc ?_ _) | (with_reducible refine Blk.drew ?_) | (with_reducible refine Blk.drewN ?_ _) | refine Blk.far ?_ (by simp only []; omega) _ | refine Blk.rext ?_ (by assumption) (by omega) | refine Blk.ext ?_ (by assumption)))
    have hC3 : Blk w2 w1.heap.size 48 #[.int .i64 k, .int .i64 fa, .int .i64 fp, .int .i64 ta, .int .i64 tp, .slice a n c] := by refine Blk.ext ?_ hx2; exact (by repeat (first | (with_reducible assumption) | (with_reducible exact Blk.new _ _ _) | exact Blk.newAt _ _ _ (by simp) | (with_reducible refine Blk.alloc ?_ _) | (with_reducible refine Blk.drew ?_) | (with_reducible refine Blk.drewN ?_ _) | refine Blk.far ?_ (by simp only []; omega) _ | refine Blk.rext ?_ (by assumption) (by omega) | refine Blk.ext ?_ (by assumption)))
    have hd1 := hC1.cells
    have hd2 := hC2.cells
    have hd3 := hC3.cells
    have he2 := hC2.frozens
    have he3 := hC3.frozens
    clear hc hf hx2 hx
    go_wp2
    refine' bodyPost_ret (v := _) ?_ rfl ?_
    rotate_left
    · (simp only [results, Try.results43]
       go_simp
       rfl)
    refine ⟨a2, n, rfl, ?_, (by repeat (first | (with_reducible exact Ext.refl _) | (with_reducible assumption) | (with_reducible refine Ext.alloc ?_ _) | (with_reducible refine Ext.drewN ?_ _) | (with_reducible refine Ext.drew ?_) | (with_reducible refine Ext.setCell ?_ ?_ _; rotate_left; (simp only []; omega)) | (with_reducible refine Ext.trans ?_ (by assumption))))⟩
    refine Ow.rebase (base := w1.heap.size) ?_ (by omega)
    repeat (refine Ow.setCell ?_ (fun y hy => by have := (hlt y hy).1; simp only []; omega) _)
    exact how.rebase (by simp)
  · rw [show min n 4 = 4 by omega]
    have ht : Sl encI 1 w a 4 c (L.take 4) := by
      exact hs.take (by omega) (by omega) (by omega)
    clear hlen
    go_enter Try.func43, Try.ntmps43
    go_wp2_with (first | (go_at_call 54; refine (impl_in _ _ _ _).mono ?_; rintro e w' ⟨rfl, rfl⟩) | (go_at_call 66; refine (impl_isWord _ _).mono ?_; rintro e w' ⟨rfl, rfl⟩) | (go_at_call 38; refine (impl_ValidPacket _ _ _ _ _ _ _ _ L _ (by exact hs.ext (by repeat (first | (with_reducible exact Ext.refl _) | (with_reducible assumption) | (with_reducible refine Ext.alloc ?_ _) | (with_reducible refine Ext.drewN ?_ _) | (with_reducible refine Ext.drew ?_) | (with_reducible refine Ext.setCell ?_ ?_ _; rotate_left; (simp only []; omega)) | (with_reducible refine Ext.trans ?_ (by assumption)))))).mono ?_; rintro e w1 ⟨rfl, hx⟩; have hc := hx.cells; have hf := hx.frozens; have hy := hx.size; (try simp at hy); have hz : w.heap.size < w1.heap.size ∧ w.heap.size + 1 < w1.heap.size := (by omega)))
    refine (impl_clone_int a 4 c (L.take 4) _ (by exact ht.ext (by repeat (first | (with_reducible exact Ext.refl _) | (with_reducible assumption) | (with_reducible refine Ext.alloc ?_ _) | (with_reducible refine Ext.drewN ?_ _) | (with_reducible refine Ext.drew ?_) | (with_reducible refine Ext.setCell ?_ ?_ _; rotate_left; (simp only []; omega)) | (with_reducible refine Ext.trans ?_ (by assumption))))) (by omega)).mono ?_
    rintro e w2 ⟨a2, rfl, how, hx2⟩
    have hlt := how.lt
    have hy2 := hx2.size
    simp at hlt hy2
    have hX : Ext w w2 := (by repeat (first | (with_reducible exact Ext.refl _) | (with_reducible assumption) | (with_reducible refine Ext.alloc ?_ _) | (with_reducible refine Ext.drewN ?_ _) | (with_reducible refine Ext.drew ?_) | (with_reducible refine Ext.setCell ?_ ?_ _; rotate_left; (simp only []; omega)) | (with_reducible refine Ext.trans ?_ (by assumption))))
    have hC1 : Blk w2 w.heap.size 48 #[.int .i64 k, .int .i64 fa, .int .i64 fp, .int .i64 ta, .int .i64 tp, .slice a n c] := by refine Blk.ext ?_ hx2; exact (by repeat (first | (with_reducible assumption) | (with_reducible exact Blk.new _ _ _) | exact Blk.newAt _ _ _ (by simp) | (with_reducible refine Blk.alloc ?_ _) | (with_reducible refine Blk.drew ?_) | (with_reducible refine Blk.drewN ?_ _) | refine Blk.far ?_ (by simp only []; omega) _ | refine Blk.rext ?_ (by assumption) (by omega) | refine Blk.ext ?_ (by assumption)))
    have hC2 : Blk w2 (w.heap.size + 1) 50 #[.int .i64 0, .int .i64 0, .int .i64 0, .int .i64 0, .int .i64 0, .int .i64 0, .int .i64 0, .int .i64 0, .slice none 0 0] := by refine Blk.ext ?_ hx2; exact (by repeat (first | (with_reducible assumption) | (with_reducible exact Blk.new _ _ _) | exact Blk.newAt _ _ _ (by simp) | (with_reducible refine Blk.alloc ?_ _) | (with_reducible refine Blk.drew ?_) | (with_reducible refine Blk.drewN ?_ _) | refine Blk.far ?_ (by simp only []; omega) _ | refine Blk.rext ?_ (by assumption) (by omega) | refine Blk.ext ?_ (by assumption)))
    have hC3 : Blk w2 w1.heap.size 48 #[.int .i64 k, .int .i64 fa, .int .i64 fp, .int .i64 ta, .int .i64 tp, .slice a n c] := by refine Blk.ext ?_ hx2; exact (by repeat (first | (with_reducible assumption) | (with_reducible exact Blk.new _ _ _) | exact Blk.newAt _ _ _ (by simp) | (with_reducible refine Blk.alloc ?_ _) | (with_reducible refine Blk.drew ?_) | (with_reducible refine Blk.drewN ?_ _) | refine Blk.far ?_ (by simp only []; omega) _ | refine Blk.rext ?_ (by assumption) (by omega) | refine Blk.ext ?_ (by assumption)))
    have hd1 := hC1.cells
    have hd2 := hC2.cells
    have hd3 := hC3.cells
    have he2 := hC2.frozens
    have he3 := hC3.frozens
    clear hc hf hx2 hx
    go_wp2
    refine' bodyPost_ret (v := _) ?_ rfl ?_
    rotate_left
    · (simp only [results, Try.results43]
       go_simp
       rfl)
    refine ⟨a2, 4, rfl, ?_, (by repeat (first | (with_reducible exact Ext.refl _) | (with_reducible assumption) | (with_reducible refine Ext.alloc ?_ _) | (with_reducible refine Ext.drewN ?_ _) | (with_reducible refine Ext.drew ?_) | (with_reducible refine Ext.setCell ?_ ?_ _; rotate_left; (simp only []; omega)) | (with_reducible refine Ext.trans ?_ (by assumption))))⟩
    refine Ow.rebase (base := w1.heap.size) ?_ (by omega)
    repeat (refine Ow.setCell ?_ (fun y hy => by have := (hlt y hy).1; simp only []; omega) _)
    exact how.rebase (by simp)
theorem impl_ReportOf_ok (o s k fa fp ta tp : Int) (a : Option Addr) (n c : Nat) (L : List Int) (w : World) (hs : Sl encI 1 w a n c L) (h1 : inR o 0 15 = true) (h2 : word s = true) (h3 : validPkt ⟨k, ⟨fa, fp⟩, ⟨ta, tp⟩, L⟩ = true) :
    Calls Try.prog 43 #[.int .i64 o, .int .i64 s, .agg #[.int .i64 k, .int .i64 fa, .int .i64 fp, .int .i64 ta, .int .i64 tp, .slice a n c]] w fun e w' => ∃ a' c', e = .returned (.tuple #[.agg #[.int .i64 o, .int .i64 s, .int .i64 fa, .int .i64 k, .int .i64 fa, .int .i64 fp, .int .i64 ta, .int .i64 tp, .slice a' (min n 4) c'], .bool true]) ∧
      Sl encI 1 w' a' (min n 4) c' (L.take 4) ∧ (∀ x, a' = some x → w.heap.size ≤ x.block) ∧ Ext w w' :=
  (impl_ReportOf_own o s k fa fp ta tp a n c L w hs h1 h2 h3).mono fun _ _ ⟨a', c', e, how, hx⟩ => ⟨a', c', e, how.sl encI_len, fun x hx => (how.lt x hx).1, hx⟩
end Go.Proofs.Ytdjbjldmlfhigaa
