/- Contracts: valid reports; the law on them. -/
import Derived.Test.YtdjbjldmlfhigaaPktAny
import Derived.Test.YtdjbjldmlfhigaaLawHold
namespace Go.Proofs.Ytdjbjldmlfhigaa
open Go.RowKit

theorem impl_ValidReport (o s t kind fa fp ta tp : Int) (a : Option Addr) (n c : Nat) (L : List Int) (w : World) (hs : Sl encI 1 w a n c L) :
    Calls Try.prog 36 #[.agg #[.int .i64 o, .int .i64 s, .int .i64 t, .int .i64 kind, .int .i64 fa, .int .i64 fp, .int .i64 ta, .int .i64 tp, .slice a n c]] w fun e w' =>
      e = .returned (.bool (validRep ⟨o, s, t, ⟨kind, ⟨fa, fp⟩, ⟨ta, tp⟩, L⟩⟩)) ∧ Ext w w' := by
  rw [show validRep ⟨o, s, t, ⟨kind, ⟨fa, fp⟩, ⟨ta, tp⟩, L⟩⟩ = (inR o 0 15 && ([s, t].all word) && validPkt ⟨kind, ⟨fa, fp⟩, ⟨ta, tp⟩, L⟩) by simp [validRep, Bool.and_assoc]]
  go_enter Try.func36, Try.ntmps36
  go_wp2_with (first | (go_at_call 54; refine (impl_in _ _ _ _).mono ?_; rintro e w' ⟨rfl, rfl⟩) | (go_at_call 68; refine (impl_areWords _ _ _ [s, t] _ (by exact Sl.lit _ _ [s, t] (by simp))).mono ?_; rintro e w' ⟨rfl, rfl⟩) | (go_at_call 38; refine (impl_ValidPacket _ _ _ _ _ _ _ _ L _ (by exact hs.ext (by repeat (first | (with_reducible exact Ext.refl _) | (with_reducible assumption) | (with_reducible refine Ext.alloc ?_ _) | (with_reducible refine Ext.drewN ?_ _) | (with_reducible refine Ext.drew ?_) | (with_reducible refine Ext.setCell ?_ ?_ _; rotate_left; (simp only []; omega)) | (with_reducible refine Ext.trans ?_ (by assumption)))))).mono ?_; rintro e w1 ⟨rfl, hx⟩; have hc := hx.cells; have hf := hx.frozens; have hy := hx.size; (try simp at hy); have hz : w.heap.size < w1.heap.size := (by omega)))
  all_goals (go_ret; exact ⟨ret_bool (by simp [*]), (by repeat (first | (with_reducible exact Ext.refl _) | (with_reducible assumption) | (with_reducible refine Ext.alloc ?_ _) | (with_reducible refine Ext.drewN ?_ _) | (with_reducible refine Ext.drew ?_) | (with_reducible refine Ext.setCell ?_ ?_ _; rotate_left; (simp only []; omega)) | (with_reducible refine Ext.trans ?_ (by assumption))))⟩)
theorem spec_validReport (o s t kind fa fp ta tp : Int) (a : Option Addr) (n c : Nat) (L : List Int) (w : World) (hs : Sl encI 1 w a n c L) :
    Calls Try.prog 69 #[.agg #[.int .i64 o, .int .i64 s, .int .i64 t, .int .i64 kind, .int .i64 fa, .int .i64 fp, .int .i64 ta, .int .i64 tp, .slice a n c]] w fun e w' =>
      e = .returned (.bool (validRep ⟨o, s, t, ⟨kind, ⟨fa, fp⟩, ⟨ta, tp⟩, L⟩⟩)) ∧ Ext w w' := by
  rw [show validRep ⟨o, s, t, ⟨kind, ⟨fa, fp⟩, ⟨ta, tp⟩, L⟩⟩ = (inR o 0 15 && word s && word t && validPkt ⟨kind, ⟨fa, fp⟩, ⟨ta, tp⟩, L⟩) by simp [validRep, Bool.and_assoc]]
  go_enter Try.func69, Try.ntmps69
  go_wp2_with (first | (go_at_call 53; refine (spec_inRange _ _ _ _).mono ?_; rintro e w' ⟨rfl, rfl⟩) | (go_at_call 74; refine (spec_validAddr _ _).mono ?_; rintro e w' ⟨rfl, rfl⟩) | (go_at_call 75; refine (spec_validPacket _ _ _ _ _ _ _ _ L _ (by exact hs.ext (by repeat (first | (with_reducible exact Ext.refl _) | (with_reducible assumption) | (with_reducible refine Ext.alloc ?_ _) | (with_reducible refine Ext.drewN ?_ _) | (with_reducible refine Ext.drew ?_) | (with_reducible refine Ext.setCell ?_ ?_ _; rotate_left; (simp only []; omega)) | (with_reducible refine Ext.trans ?_ (by assumption)))))).mono ?_; rintro e w1 ⟨rfl, hx⟩; have hc := hx.cells; have hf := hx.frozens; have hy := hx.size; (try simp at hy); have hz : w.heap.size < w1.heap.size := (by omega)))
  all_goals (go_ret; exact ⟨ret_bool (by simp [*]), (by repeat (first | (with_reducible exact Ext.refl _) | (with_reducible assumption) | (with_reducible refine Ext.alloc ?_ _) | (with_reducible refine Ext.drewN ?_ _) | (with_reducible refine Ext.drew ?_) | (with_reducible refine Ext.setCell ?_ ?_ _; rotate_left; (simp only []; omega)) | (with_reducible refine Ext.trans ?_ (by assumption))))⟩)
theorem spec_ValidReport (o s t kind fa fp ta tp : Int) (a : Option Addr) (n c : Nat) (L : List Int) (w : World) (hs : Sl encI 1 w a n c L) :
    Calls Try.prog 37 #[.agg #[.int .i64 o, .int .i64 s, .int .i64 t, .int .i64 kind, .int .i64 fa, .int .i64 fp, .int .i64 ta, .int .i64 tp, .slice a n c]] w fun e w' =>
      e = .returned (.bool (validRep ⟨o, s, t, ⟨kind, ⟨fa, fp⟩, ⟨ta, tp⟩, L⟩⟩)) ∧ Ext w w' := by
  go_enter Try.func37, Try.ntmps37
  go_wp2_with (go_at_call 69; refine (spec_validReport _ _ _ _ _ _ _ _ _ _ _ L _ (by exact hs.ext (by repeat (first | (with_reducible exact Ext.refl _) | (with_reducible assumption) | (with_reducible refine Ext.alloc ?_ _) | (with_reducible refine Ext.drewN ?_ _) | (with_reducible refine Ext.drew ?_) | (with_reducible refine Ext.setCell ?_ ?_ _; rotate_left; (simp only []; omega)) | (with_reducible refine Ext.trans ?_ (by assumption)))))).mono ?_; rintro e w1 ⟨rfl, hx⟩)
  go_ret
  exact ⟨rfl, (by repeat (first | (with_reducible exact Ext.refl _) | (with_reducible assumption) | (with_reducible refine Ext.alloc ?_ _) | (with_reducible refine Ext.drewN ?_ _) | (with_reducible refine Ext.drew ?_) | (with_reducible refine Ext.setCell ?_ ?_ _; rotate_left; (simp only []; omega)) | (with_reducible refine Ext.trans ?_ (by assumption))))⟩
theorem DrawValidReport_any (a : Option Addr) (n c : Nat) (w : World) (hc : Code w a n c) :
    Calls Try.prog 35 #[.slice a n c] w fun e w' => ∃ o s t k fa fp ta tp a n c L, e = .returned (.agg #[.int .i64 o, .int .i64 s, .int .i64 t, .int .i64 k, .int .i64 fa, .int .i64 fp, .int .i64 ta, .int .i64 tp, .slice a n c]) ∧
      Sl encI 1 w' a n c L ∧ Ext w w' := by
  obtain ⟨zs, hs, hz⟩ := hc
  go_enter Try.func35, Try.ntmps35
  go_wp2_with fail
  refine (newReader_any a n c zs _ (hs.ext (by repeat (first | (with_reducible exact Ext.refl _) | (with_reducible assumption) | (with_reducible refine Ext.alloc ?_ _) | (with_reducible refine Ext.drewN ?_ _) | (with_reducible refine Ext.drew ?_) | (with_reducible refine Ext.setCell ?_ ?_ _; rotate_left; (simp only []; omega)) | (with_reducible refine Ext.trans ?_ (by assumption))))) hz).mono ?_
  rintro e w1 ⟨B, rfl, hB, hr, hx⟩
  have hy := hx.size
  simp at hy
  simp at hB
  go_wp2_with fail
  refine (anyReport_any _ B _ _ hr (by omega)).mono ?_
  rintro e w2 ⟨o, s, t, k, fa, fp, ta, tp, a2, n2, c2, L, rfl, hs2, _, hfr, hr2, hx2⟩
  have hBR : Blk w2 w.heap.size 50 #[.int .i64 0, .int .i64 0, .int .i64 0, .int .i64 0, .int .i64 0, .int .i64 0, .int .i64 0, .int .i64 0, .slice none 0 0] := by refine Blk.rext ?_ hx2 (by omega); exact (by repeat (first | (with_reducible assumption) | (with_reducible exact Blk.new _ _ _) | exact Blk.newAt _ _ _ (by simp) | (with_reducible refine Blk.alloc ?_ _) | (with_reducible refine Blk.drew ?_) | (with_reducible refine Blk.drewN ?_ _) | refine Blk.far ?_ (by simp only []; omega) _ | refine Blk.rext ?_ (by assumption) (by omega) | refine Blk.ext ?_ (by assumption)))
  have hcR := hBR.cells
  have hfR := hBR.frozens
  have hX : Ext w w2 := RExt.new (Ext.trans ((Ext.refl w).alloc _) hx) hx2 (by omega)
  clear hx hx2
  go_wp2
  refine' bodyPost_ret (v := _) ?_ rfl ?_
  rotate_left
  · (simp only [results, Try.results35]
     go_simp
     rfl)
  refine ⟨o, s, t, k, fa, fp, ta, tp, a2, n2, c2, L, rfl, ?_, (by repeat (first | (with_reducible exact Ext.refl _) | (with_reducible assumption) | (with_reducible refine Ext.alloc ?_ _) | (with_reducible refine Ext.drewN ?_ _) | (with_reducible refine Ext.drew ?_) | (with_reducible refine Ext.setCell ?_ ?_ _; rotate_left; (simp only []; omega)) | (with_reducible refine Ext.trans ?_ (by assumption))))⟩
  repeat (refine Sl.setFar ?_ (fun h y hy => by have := hfr y hy; simp only []; omega) _)
  exact hs2
theorem law_FnValidReport (a : Option Addr) (n c : Nat) (u : World) (hc : Code u a n c) : Calls Try.prog 14 #[.slice a n c] u fun e w' => e = .returned (.bool true) ∧ Ext u w' := by
  by_cases hn : n ≤ 1048576
  · go_enter Try.func14, Try.ntmps14
    go_wp2_with fail
    refine (DrawValidReport_any a n c _ hc).mono ?_
    rintro e w ⟨o, s, t, k, fa, fp, ta, tp, a2, n2, c2, L, rfl, hs, hx⟩
    cases hv : validRep ⟨o, s, t, ⟨k, ⟨fa, fp⟩, ⟨ta, tp⟩, L⟩⟩ with
    | false =>
      go_wp2_with (first | (go_at_call 37; refine (spec_ValidReport _ _ _ _ _ _ _ _ _ _ _ L _ (by exact hs.ext (by repeat (first | (with_reducible exact Ext.refl _) | (with_reducible assumption) | (with_reducible refine Ext.alloc ?_ _) | (with_reducible refine Ext.drewN ?_ _) | (with_reducible refine Ext.drew ?_) | (with_reducible refine Ext.setCell ?_ ?_ _; rotate_left; (simp only []; omega)) | (with_reducible refine Ext.trans ?_ (by assumption)))))).mono ?_; rintro e w1 ⟨rfl, hx⟩; have hc := hx.cells; have hf := hx.frozens; have hy := hx.size; (try simp at hy); have hz : w.heap.size < w1.heap.size := (by omega)) | (go_at_call 36; refine (impl_ValidReport _ _ _ _ _ _ _ _ _ _ _ L _ (by exact hs.ext (by repeat (first | (with_reducible exact Ext.refl _) | (with_reducible assumption) | (with_reducible refine Ext.alloc ?_ _) | (with_reducible refine Ext.drewN ?_ _) | (with_reducible refine Ext.drew ?_) | (with_reducible refine Ext.setCell ?_ ?_ _; rotate_left; (simp only []; omega)) | (with_reducible refine Ext.trans ?_ (by assumption)))))).mono ?_; rintro e w1 ⟨rfl, hx⟩; have hc := hx.cells; have hf := hx.frozens; have hy := hx.size; (try simp at hy); have hz : w.heap.size < w1.heap.size := (by omega)))
      go_ret
      exact ⟨rfl, (by repeat (first | (with_reducible exact Ext.refl _) | (with_reducible assumption) | (with_reducible refine Ext.alloc ?_ _) | (with_reducible refine Ext.drewN ?_ _) | (with_reducible refine Ext.drew ?_) | (with_reducible refine Ext.setCell ?_ ?_ _; rotate_left; (simp only []; omega)) | (with_reducible refine Ext.trans ?_ (by assumption))))⟩
    | true =>
      have h1 : validRep ⟨o, s, t, ⟨1, ⟨0, 0⟩, ⟨0, 0⟩, []⟩⟩ = true := by
        have h3 := hv
        simp only [validRep, Bool.and_eq_true] at h3 ⊢
        exact ⟨h3.1, by decide⟩
      have h2 : validRep ⟨o, s, t, ⟨3, ⟨0, 0⟩, ⟨0, 0⟩, []⟩⟩ = false := by
        simp [validRep, validPkt, inR]
      have h4 : validPkt ⟨k, ⟨fa, fp⟩, ⟨ta, tp⟩, L⟩ = true := by
        have h3 := hv
        simp only [validRep, Bool.and_eq_true] at h3
        exact h3.2
      go_wp2_with fail
      refine (impl_ValidReport _ _ _ _ _ _ _ _ a2 n2 c2 L _ (by exact hs.ext (by repeat (first | (with_reducible exact Ext.refl _) | (with_reducible assumption) | (with_reducible refine Ext.alloc ?_ _) | (with_reducible refine Ext.drewN ?_ _) | (with_reducible refine Ext.drew ?_) | (with_reducible refine Ext.setCell ?_ ?_ _; rotate_left; (simp only []; omega)) | (with_reducible refine Ext.trans ?_ (by assumption)))))).mono ?_
      rintro e w1 ⟨rfl, hx1⟩
      have hc1 := hx1.cells
      have hf1 := hx1.frozens
      have hy1 := hx1.size
      (try simp at hy1)
      have hz1 : w.heap.size < w1.heap.size := (by omega)
      go_wp2_with fail
      refine (spec_ValidReport _ _ _ _ _ _ _ _ a2 n2 c2 L _ (by exact hs.ext (by repeat (first | (with_reducible exact Ext.refl _) | (with_reducible assumption) | (with_reducible refine Ext.alloc ?_ _) | (with_reducible refine Ext.drewN ?_ _) | (with_reducible refine Ext.drew ?_) | (with_reducible refine Ext.setCell ?_ ?_ _; rotate_left; (simp only []; omega)) | (with_reducible refine Ext.trans ?_ (by assumption)))))).mono ?_
      rintro e w2 ⟨rfl, hx2⟩
      have hc2 := hx2.cells
      have hf2 := hx2.frozens
      have hy2 := hx2.size
      (try simp at hy2)
      have hz2 : w.heap.size < w2.heap.size := (by omega)
      go_wp2_with fail
      refine (impl_ValidReport _ _ _ _ _ _ _ _ none 0 0 [] _ (Sl.nils _)).mono ?_
      rintro e w3 ⟨rfl, hx3⟩
      have hc3 := hx3.cells
      have hf3 := hx3.frozens
      have hy3 := hx3.size
      (try simp at hy3)
      have hz3 : w.heap.size < w3.heap.size ∧ w.heap.size + 1 < w3.heap.size ∧ w.heap.size + 2 < w3.heap.size := (by omega)
      go_wp2_with fail
      refine (impl_ValidReport _ _ _ _ _ _ _ _ none 0 0 [] _ (Sl.nils _)).mono ?_
      rintro e w4 ⟨rfl, hx4⟩
      have hc4 := hx4.cells
      have hf4 := hx4.frozens
      have hy4 := hx4.size
      (try simp at hy4)
      have hz4 : w.heap.size < w4.heap.size ∧ w.heap.size + 1 < w4.heap.size ∧ w.heap.size + 2 < w4.heap.size := (by omega)
      have hBP : Blk w4 w.heap.size 50 #[.int .i64 o, .int .i64 s, .int .i64 t, .int .i64 k, .int .i64 fa, .int .i64 fp, .int .i64 ta, .int .i64 tp, .slice a2 n2 c2] := (by repeat (first | (with_reducible assumption) | (with_reducible exact Blk.new _ _ _) | exact Blk.newAt _ _ _ (by simp) | (with_reducible refine Blk.alloc ?_ _) | (with_reducible refine Blk.drew ?_) | (with_reducible refine Blk.drewN ?_ _) | refine Blk.far ?_ (by simp only []; omega) _ | refine Blk.rext ?_ (by assumption) (by omega) | refine Blk.ext ?_ (by assumption)))
      have hcP := hBP.cells
      clear hc1 hc2 hc3 hc4
      go_wp2_with fail
      refine (impl_ValidPacket _ _ _ _ _ a2 n2 c2 L _ (by exact hs.ext (by repeat (first | (with_reducible exact Ext.refl _) | (with_reducible assumption) | (with_reducible refine Ext.alloc ?_ _) | (with_reducible refine Ext.drewN ?_ _) | (with_reducible refine Ext.drew ?_) | (with_reducible refine Ext.setCell ?_ ?_ _; rotate_left; (simp only []; omega)) | (with_reducible refine Ext.trans ?_ (by assumption)))))).mono ?_
      rintro e w5 ⟨rfl, hx5⟩
      have hc5 := hx5.cells
      have hf5 := hx5.frozens
      have hy5 := hx5.size
      (try simp at hy5)
      have hz5 : w.heap.size < w5.heap.size ∧ w.heap.size + 1 < w5.heap.size ∧ w.heap.size + 2 < w5.heap.size := (by omega)
      go_wp2
      go_ret
      exact ⟨rfl, (by repeat (first | (with_reducible exact Ext.refl _) | (with_reducible assumption) | (with_reducible refine Ext.alloc ?_ _) | (with_reducible refine Ext.drewN ?_ _) | (with_reducible refine Ext.drew ?_) | (with_reducible refine Ext.setCell ?_ ?_ _; rotate_left; (simp only []; omega)) | (with_reducible refine Ext.trans ?_ (by assumption))))⟩
  · go_enter Try.func14, Try.ntmps14
    go_wp2
    go_ret
    exact ⟨rfl, Ext.refl _⟩
end Go.Proofs.Ytdjbjldmlfhigaa
