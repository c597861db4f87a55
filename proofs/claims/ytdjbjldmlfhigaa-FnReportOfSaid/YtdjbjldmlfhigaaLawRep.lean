/- The laws on reports about packets, walked. -/
import Derived.Test.YtdjbjldmlfhigaaRepOf
import Derived.Test.YtdjbjldmlfhigaaDrawRep
namespace Go.Proofs.Ytdjbjldmlfhigaa
open Go.RowKit

theorem validPkt_take {k : Int} {f t : EndD} {L : List Int} (h : validPkt ⟨k, f, t, L⟩ = true) : validPkt ⟨k, f, t, L.take 4⟩ = true := by
  simp only [validPkt, Bool.and_eq_true, decide_eq_true_eq, List.all_eq_true] at h ⊢
  obtain ⟨⟨⟨⟨h1, h2⟩, h3⟩, h4⟩, h5⟩ := h
  refine ⟨⟨⟨⟨h1, h2⟩, h3⟩, ?_⟩, fun x hx => h5 x (List.mem_of_mem_take hx)⟩
  simp only [List.length_take]
  omega
set_option maxHeartbeats 2000000 in
theorem law_FnReportOfCut (a : Option Addr) (n c : Nat) (u : World) (hc : Code u a n c) : Calls Try.prog 16 #[.slice a n c] u fun e w' => e = .returned (.bool true) ∧ Ext u w' := by
  by_cases hn : n ≤ 1048576
  · go_enter Try.func16, Try.ntmps16
    go_wp2_with fail
    refine (DrawReportOf_any a n c _ hc).mono ?_
    rintro e w ⟨o, s, k, fa, fp, ta, tp, a2, n2, c2, L, rfl, hs, hx⟩
    cases hv : (inR o 0 15 && word s && validPkt ⟨k, ⟨fa, fp⟩, ⟨ta, tp⟩, L⟩) with
    | false =>
      go_wp2_with fail
      refine (impl_ReportOf_no _ _ _ _ _ _ _ a2 n2 c2 L _ (by exact hs.ext (by repeat (first | (with_reducible exact Ext.refl _) | (with_reducible assumption) | (with_reducible refine Ext.alloc ?_ _) | (with_reducible refine Ext.drewN ?_ _) | (with_reducible refine Ext.drew ?_) | (with_reducible refine Ext.setCell ?_ ?_ _; rotate_left; (simp only []; omega)) | (with_reducible refine Ext.trans ?_ (by assumption))))) hv).mono ?_
      rintro e w1 ⟨rfl, hx1⟩
      have hy1 := hx1.size
      simp at hy1
      have hB1 : Blk w1 w.heap.size 48 #[.int .i64 k, .int .i64 fa, .int .i64 fp, .int .i64 ta, .int .i64 tp, .slice a2 n2 c2] := by refine Blk.ext ?_ hx1; exact (by repeat (first | (with_reducible assumption) | (with_reducible exact Blk.new _ _ _) | exact Blk.newAt _ _ _ (by simp) | (with_reducible refine Blk.alloc ?_ _) | (with_reducible refine Blk.drew ?_) | (with_reducible refine Blk.drewN ?_ _) | refine Blk.far ?_ (by simp only []; omega) _ | refine Blk.rext ?_ (by assumption) (by omega) | refine Blk.ext ?_ (by assumption)))
      have hz1 : w.heap.size < w1.heap.size := by omega
      have hd1 := hB1.cells
      go_wp2_with fail
      refine (spec_ReportOf_no _ _ _ _ _ _ _ a2 n2 c2 L _ (by exact hs.ext (by repeat (first | (with_reducible exact Ext.refl _) | (with_reducible assumption) | (with_reducible refine Ext.alloc ?_ _) | (with_reducible refine Ext.drewN ?_ _) | (with_reducible refine Ext.drew ?_) | (with_reducible refine Ext.setCell ?_ ?_ _; rotate_left; (simp only []; omega)) | (with_reducible refine Ext.trans ?_ (by assumption))))) hv).mono ?_
      rintro e w2 ⟨rfl, hx2⟩
      have hy2 := hx2.size
      simp at hy2
      have hE2 : Blk w2 w1.heap.size 50 #[.int .i64 0, .int .i64 0, .int .i64 0, .int .i64 0, .int .i64 0, .int .i64 0, .int .i64 0, .int .i64 0, .slice none 0 0] := by refine Blk.ext ?_ hx2; exact (by repeat (first | (with_reducible assumption) | (with_reducible exact Blk.new _ _ _) | exact Blk.newAt _ _ _ (by simp) | (with_reducible refine Blk.alloc ?_ _) | (with_reducible refine Blk.drew ?_) | (with_reducible refine Blk.drewN ?_ _) | refine Blk.far ?_ (by simp only []; omega) _ | refine Blk.rext ?_ (by assumption) (by omega) | refine Blk.ext ?_ (by assumption)))
      have hz2 : w1.heap.size < w2.heap.size := by omega
      clear hd1
      have hg2 := hE2.cells
      go_wp2_with fail
      refine (equalReport_same _ _ _ _ _ _ _ _ none none 0 0 0 [] _ (Sl.nils _) (Sl.nils _)).mono ?_
      rintro e w3 ⟨rfl, hx3⟩
      have hy3 := hx3.size
      simp at hy3
      have hE3 : Blk w3 w1.heap.size 50 _ := Blk.ext (hE2.alloc _) hx3
      have hW3 : Blk w3 w2.heap.size 50 #[.int .i64 0, .int .i64 0, .int .i64 0, .int .i64 0, .int .i64 0, .int .i64 0, .int .i64 0, .int .i64 0, .slice none 0 0] := by refine Blk.ext ?_ hx3; exact (by repeat (first | (with_reducible assumption) | (with_reducible exact Blk.new _ _ _) | exact Blk.newAt _ _ _ (by simp) | (with_reducible refine Blk.alloc ?_ _) | (with_reducible refine Blk.drew ?_) | (with_reducible refine Blk.drewN ?_ _) | refine Blk.far ?_ (by simp only []; omega) _ | refine Blk.rext ?_ (by assumption) (by omega) | refine Blk.ext ?_ (by assumption)))
      clear hg2
      have hd3 := hW3.cells
      have hg3 := hE3.cells
      go_wp2_with fail
      refine (equalReport_same _ _ _ _ _ _ _ _ none none 0 0 0 [] _ (Sl.nils _) (Sl.nils _)).mono ?_
      rintro e w4 ⟨rfl, hx4⟩
      go_wp2
      go_ret
      exact ⟨rfl, (by repeat (first | (with_reducible exact Ext.refl _) | (with_reducible assumption) | (with_reducible refine Ext.alloc ?_ _) | (with_reducible refine Ext.drewN ?_ _) | (with_reducible refine Ext.drew ?_) | (with_reducible refine Ext.setCell ?_ ?_ _; rotate_left; (simp only []; omega)) | (with_reducible refine Ext.trans ?_ (by assumption))))⟩
    | true =>
      simp only [Bool.and_eq_true] at hv
      obtain ⟨⟨v1, v2⟩, v3⟩ := hv
      have v5 : validPkt ⟨k, ⟨fa, fp⟩, ⟨ta, tp⟩, L.take 4⟩ = true := validPkt_take v3
      have hm1 : min n2 4 ≤ 4 := by omega
      have hm2 : min n2 4 ≤ n2 := by omega
      go_wp2_with fail
      refine (impl_ReportOf_ok _ _ _ _ _ _ _ a2 n2 c2 L _ (by exact hs.ext (by repeat (first | (with_reducible exact Ext.refl _) | (with_reducible assumption) | (with_reducible refine Ext.alloc ?_ _) | (with_reducible refine Ext.drewN ?_ _) | (with_reducible refine Ext.drew ?_) | (with_reducible refine Ext.setCell ?_ ?_ _; rotate_left; (simp only []; omega)) | (with_reducible refine Ext.trans ?_ (by assumption))))) v1 v2 v3).mono ?_
      rintro e w1 ⟨a3, c3, rfl, hs3, _, hx1⟩
      have hy1 := hx1.size
      simp at hy1
      have hB1 : Blk w1 w.heap.size 48 #[.int .i64 k, .int .i64 fa, .int .i64 fp, .int .i64 ta, .int .i64 tp, .slice a2 n2 c2] := by refine Blk.ext ?_ hx1; exact (by repeat (first | (with_reducible assumption) | (with_reducible exact Blk.new _ _ _) | exact Blk.newAt _ _ _ (by simp) | (with_reducible refine Blk.alloc ?_ _) | (with_reducible refine Blk.drew ?_) | (with_reducible refine Blk.drewN ?_ _) | refine Blk.far ?_ (by simp only []; omega) _ | refine Blk.rext ?_ (by assumption) (by omega) | refine Blk.ext ?_ (by assumption)))
      have hz1 : w.heap.size < w1.heap.size := by omega
      have hd1 := hB1.cells
      go_wp2_with fail
      refine (spec_ReportOf_ok _ _ _ _ _ _ _ a2 n2 c2 L _ (by exact hs.ext (by repeat (first | (with_reducible exact Ext.refl _) | (with_reducible assumption) | (with_reducible refine Ext.alloc ?_ _) | (with_reducible refine Ext.drewN ?_ _) | (with_reducible refine Ext.drew ?_) | (with_reducible refine Ext.setCell ?_ ?_ _; rotate_left; (simp only []; omega)) | (with_reducible refine Ext.trans ?_ (by assumption))))) v1 v2 v3).mono ?_
      rintro e w2 ⟨a4, c4, rfl, hs4, _, hx2⟩
      generalize min n2 4 = m at *
      have hy2 := hx2.size
      simp at hy2
      have hB2 : Blk w2 w.heap.size 48 _ := Blk.ext (hB1.alloc _) hx2
      have hE2 : Blk w2 w1.heap.size 50 #[.int .i64 o, .int .i64 s, .int .i64 fa, .int .i64 k, .int .i64 fa, .int .i64 fp, .int .i64 ta, .int .i64 tp, .slice a3 m c3] := by refine Blk.ext ?_ hx2; exact (by repeat (first | (with_reducible assumption) | (with_reducible exact Blk.new _ _ _) | exact Blk.newAt _ _ _ (by simp) | (with_reducible refine Blk.alloc ?_ _) | (with_reducible refine Blk.drew ?_) | (with_reducible refine Blk.drewN ?_ _) | refine Blk.far ?_ (by simp only []; omega) _ | refine Blk.rext ?_ (by assumption) (by omega) | refine Blk.ext ?_ (by assumption)))
      have hz2 : w.heap.size < w2.heap.size ∧ w1.heap.size < w2.heap.size := by omega
      clear hd1
      have hd2 := hB2.cells
      have hg2 := hE2.cells
      go_wp2_with fail
      refine (equalReport_same _ _ _ _ _ _ _ _ a3 a4 m c3 c4 (L.take 4) _ (by exact hs3.ext (by repeat (first | (with_reducible exact Ext.refl _) | (with_reducible assumption) | (with_reducible refine Ext.alloc ?_ _) | (with_reducible refine Ext.drewN ?_ _) | (with_reducible refine Ext.drew ?_) | (with_reducible refine Ext.setCell ?_ ?_ _; rotate_left; (simp only []; omega)) | (with_reducible refine Ext.trans ?_ (by assumption))))) (by exact hs4.ext (by repeat (first | (with_reducible exact Ext.refl _) | (with_reducible assumption) | (with_reducible refine Ext.alloc ?_ _) | (with_reducible refine Ext.drewN ?_ _) | (with_reducible refine Ext.drew ?_) | (with_reducible refine Ext.setCell ?_ ?_ _; rotate_left; (simp only []; omega)) | (with_reducible refine Ext.trans ?_ (by assumption)))))).mono ?_
      rintro e w3 ⟨rfl, hx3⟩
      have hy3 := hx3.size
      simp at hy3
      have hB3 : Blk w3 w.heap.size 48 _ := Blk.ext (hB2.alloc _) hx3
      have hE3 : Blk w3 w1.heap.size 50 _ := Blk.ext (hE2.alloc _) hx3
      have hz3 : w.heap.size < w3.heap.size ∧ w1.heap.size < w3.heap.size := by omega
      clear hd2 hg2
      have hd3 := hB3.cells
      have hg3 := hE3.cells
      go_wp2_with fail
      refine (impl_ValidPacket _ _ _ _ _ a3 m c3 (L.take 4) _ (by exact hs3.ext (by repeat (first | (with_reducible exact Ext.refl _) | (with_reducible assumption) | (with_reducible refine Ext.alloc ?_ _) | (with_reducible refine Ext.drewN ?_ _) | (with_reducible refine Ext.drew ?_) | (with_reducible refine Ext.setCell ?_ ?_ _; rotate_left; (simp only []; omega)) | (with_reducible refine Ext.trans ?_ (by assumption)))))).mono ?_
      rintro e w4 ⟨rfl, hx4⟩
      have hB4 : Blk w4 w.heap.size 48 _ := Blk.ext hB3 hx4
      have hE4 : Blk w4 w1.heap.size 50 _ := Blk.ext hE3 hx4
      clear hd3 hg3
      have hd4 := hB4.cells
      have hg4 := hE4.cells
      go_wp2
      go_ret
      exact ⟨rfl, (by repeat (first | (with_reducible exact Ext.refl _) | (with_reducible assumption) | (with_reducible refine Ext.alloc ?_ _) | (with_reducible refine Ext.drewN ?_ _) | (with_reducible refine Ext.drew ?_) | (with_reducible refine Ext.setCell ?_ ?_ _; rotate_left; (simp only []; omega)) | (with_reducible refine Ext.trans ?_ (by assumption))))⟩
  · go_enter Try.func16, Try.ntmps16
    go_wp2
    go_ret
    exact ⟨rfl, Ext.refl _⟩
set_option maxHeartbeats 2000000 in
theorem law_FnReportOfShort (a : Option Addr) (n c : Nat) (u : World) (hc : Code u a n c) : Calls Try.prog 17 #[.slice a n c] u fun e w' => e = .returned (.bool true) ∧ Ext u w' := by
  by_cases hn : n ≤ 1048576
  · go_enter Try.func17, Try.ntmps17
    go_wp2_with fail
    refine (DrawReportOf_any a n c _ hc).mono ?_
    rintro e w ⟨o, s, k, fa, fp, ta, tp, a2, n2, c2, L, rfl, hs, hx⟩
    cases hv : (inR o 0 15 && word s && validPkt ⟨k, ⟨fa, fp⟩, ⟨ta, tp⟩, L⟩) with
    | false =>
      go_wp2_with fail
      refine (impl_ReportOf_no _ _ _ _ _ _ _ a2 n2 c2 L _ (by exact hs.ext (by repeat (first | (with_reducible exact Ext.refl _) | (with_reducible assumption) | (with_reducible refine Ext.alloc ?_ _) | (with_reducible refine Ext.drewN ?_ _) | (with_reducible refine Ext.drew ?_) | (with_reducible refine Ext.setCell ?_ ?_ _; rotate_left; (simp only []; omega)) | (with_reducible refine Ext.trans ?_ (by assumption))))) hv).mono ?_
      rintro e w1 ⟨rfl, hx1⟩
      have hy1 := hx1.size
      simp at hy1
      have hB1 : Blk w1 w.heap.size 48 #[.int .i64 k, .int .i64 fa, .int .i64 fp, .int .i64 ta, .int .i64 tp, .slice a2 n2 c2] := by refine Blk.ext ?_ hx1; exact (by repeat (first | (with_reducible assumption) | (with_reducible exact Blk.new _ _ _) | exact Blk.newAt _ _ _ (by simp) | (with_reducible refine Blk.alloc ?_ _) | (with_reducible refine Blk.drew ?_) | (with_reducible refine Blk.drewN ?_ _) | refine Blk.far ?_ (by simp only []; omega) _ | refine Blk.rext ?_ (by assumption) (by omega) | refine Blk.ext ?_ (by assumption)))
      have hz1 : w.heap.size < w1.heap.size := by omega
      have hd1 := hB1.cells
      go_wp2_with fail
      refine (spec_ReportOf_no _ _ _ _ _ _ _ a2 n2 c2 L _ (by exact hs.ext (by repeat (first | (with_reducible exact Ext.refl _) | (with_reducible assumption) | (with_reducible refine Ext.alloc ?_ _) | (with_reducible refine Ext.drewN ?_ _) | (with_reducible refine Ext.drew ?_) | (with_reducible refine Ext.setCell ?_ ?_ _; rotate_left; (simp only []; omega)) | (with_reducible refine Ext.trans ?_ (by assumption))))) hv).mono ?_
      rintro e w2 ⟨rfl, hx2⟩
      have hy2 := hx2.size
      simp at hy2
      have hE2 : Blk w2 w1.heap.size 50 #[.int .i64 0, .int .i64 0, .int .i64 0, .int .i64 0, .int .i64 0, .int .i64 0, .int .i64 0, .int .i64 0, .slice none 0 0] := by refine Blk.ext ?_ hx2; exact (by repeat (first | (with_reducible assumption) | (with_reducible exact Blk.new _ _ _) | exact Blk.newAt _ _ _ (by simp) | (with_reducible refine Blk.alloc ?_ _) | (with_reducible refine Blk.drew ?_) | (with_reducible refine Blk.drewN ?_ _) | refine Blk.far ?_ (by simp only []; omega) _ | refine Blk.rext ?_ (by assumption) (by omega) | refine Blk.ext ?_ (by assumption)))
      have hz2 : w1.heap.size < w2.heap.size := by omega
      clear hd1
      have hg2 := hE2.cells
      go_wp2_with fail
      refine (equalReport_same _ _ _ _ _ _ _ _ none none 0 0 0 [] _ (Sl.nils _) (Sl.nils _)).mono ?_
      rintro e w3 ⟨rfl, hx3⟩
      have hy3 := hx3.size
      simp at hy3
      have hE3 : Blk w3 w1.heap.size 50 _ := Blk.ext (hE2.alloc _) hx3
      have hW3 : Blk w3 w2.heap.size 50 #[.int .i64 0, .int .i64 0, .int .i64 0, .int .i64 0, .int .i64 0, .int .i64 0, .int .i64 0, .int .i64 0, .slice none 0 0] := by refine Blk.ext ?_ hx3; exact (by repeat (first | (with_reducible assumption) | (with_reducible exact Blk.new _ _ _) | exact Blk.newAt _ _ _ (by simp) | (with_reducible refine Blk.alloc ?_ _) | (with_reducible refine Blk.drew ?_) | (with_reducible refine Blk.drewN ?_ _) | refine Blk.far ?_ (by simp only []; omega) _ | refine Blk.rext ?_ (by assumption) (by omega) | refine Blk.ext ?_ (by assumption)))
      clear hg2
      have hd3 := hW3.cells
      have hg3 := hE3.cells
      go_wp2_with fail
      refine (equalReport_same _ _ _ _ _ _ _ _ none none 0 0 0 [] _ (Sl.nils _) (Sl.nils _)).mono ?_
      rintro e w4 ⟨rfl, hx4⟩
      go_wp2
      go_ret
      exact ⟨rfl, (by repeat (first | (with_reducible exact Ext.refl _) | (with_reducible assumption) | (with_reducible refine Ext.alloc ?_ _) | (with_reducible refine Ext.drewN ?_ _) | (with_reducible refine Ext.drew ?_) | (with_reducible refine Ext.setCell ?_ ?_ _; rotate_left; (simp only []; omega)) | (with_reducible refine Ext.trans ?_ (by assumption))))⟩
    | true =>
      simp only [Bool.and_eq_true] at hv
      obtain ⟨⟨v1, v2⟩, v3⟩ := hv
      have v5 : validPkt ⟨k, ⟨fa, fp⟩, ⟨ta, tp⟩, L.take 4⟩ = true := validPkt_take v3
      have hm1 : min n2 4 ≤ 4 := by omega
      have hm2 : min n2 4 ≤ n2 := by omega
      go_wp2_with fail
      refine (impl_ReportOf_ok _ _ _ _ _ _ _ a2 n2 c2 L _ (by exact hs.ext (by repeat (first | (with_reducible exact Ext.refl _) | (with_reducible assumption) | (with_reducible refine Ext.alloc ?_ _) | (with_reducible refine Ext.drewN ?_ _) | (with_reducible refine Ext.drew ?_) | (with_reducible refine Ext.setCell ?_ ?_ _; rotate_left; (simp only []; omega)) | (with_reducible refine Ext.trans ?_ (by assumption))))) v1 v2 v3).mono ?_
      rintro e w1 ⟨a3, c3, rfl, hs3, _, hx1⟩
      have hy1 := hx1.size
      simp at hy1
      have hB1 : Blk w1 w.heap.size 48 #[.int .i64 k, .int .i64 fa, .int .i64 fp, .int .i64 ta, .int .i64 tp, .slice a2 n2 c2] := by refine Blk.ext ?_ hx1; exact (by repeat (first | (with_reducible assumption) | (with_reducible exact Blk.new _ _ _) | exact Blk.newAt _ _ _ (by simp) | (with_reducible refine Blk.alloc ?_ _) | (with_reducible refine Blk.drew ?_) | (with_reducible refine Blk.drewN ?_ _) | refine Blk.far ?_ (by simp only []; omega) _ | refine Blk.rext ?_ (by assumption) (by omega) | refine Blk.ext ?_ (by assumption)))
      have hz1 : w.heap.size < w1.heap.size := by omega
      have hd1 := hB1.cells
      go_wp2_with fail
      refine (spec_ReportOf_ok _ _ _ _ _ _ _ a2 n2 c2 L _ (by exact hs.ext (by repeat (first | (with_reducible exact Ext.refl _) | (with_reducible assumption) | (with_reducible refine Ext.alloc ?_ _) | (with_reducible refine Ext.drewN ?_ _) | (with_reducible refine Ext.drew ?_) | (with_reducible refine Ext.setCell ?_ ?_ _; rotate_left; (simp only []; omega)) | (with_reducible refine Ext.trans ?_ (by assumption))))) v1 v2 v3).mono ?_
      rintro e w2 ⟨a4, c4, rfl, hs4, _, hx2⟩
      generalize min n2 4 = m at *
      have hy2 := hx2.size
      simp at hy2
      have hB2 : Blk w2 w.heap.size 48 _ := Blk.ext (hB1.alloc _) hx2
      have hE2 : Blk w2 w1.heap.size 50 #[.int .i64 o, .int .i64 s, .int .i64 fa, .int .i64 k, .int .i64 fa, .int .i64 fp, .int .i64 ta, .int .i64 tp, .slice a3 m c3] := by refine Blk.ext ?_ hx2; exact (by repeat (first | (with_reducible assumption) | (with_reducible exact Blk.new _ _ _) | exact Blk.newAt _ _ _ (by simp) | (with_reducible refine Blk.alloc ?_ _) | (with_reducible refine Blk.drew ?_) | (with_reducible refine Blk.drewN ?_ _) | refine Blk.far ?_ (by simp only []; omega) _ | refine Blk.rext ?_ (by assumption) (by omega) | refine Blk.ext ?_ (by assumption)))
      have hz2 : w.heap.size < w2.heap.size ∧ w1.heap.size < w2.heap.size := by omega
      clear hd1
      have hd2 := hB2.cells
      have hg2 := hE2.cells
      go_wp2_with fail
      refine (equalReport_same _ _ _ _ _ _ _ _ a3 a4 m c3 c4 (L.take 4) _ (by exact hs3.ext (by repeat (first | (with_reducible exact Ext.refl _) | (with_reducible assumption) | (with_reducible refine Ext.alloc ?_ _) | (with_reducible refine Ext.drewN ?_ _) | (with_reducible refine Ext.drew ?_) | (with_reducible refine Ext.setCell ?_ ?_ _; rotate_left; (simp only []; omega)) | (with_reducible refine Ext.trans ?_ (by assumption))))) (by exact hs4.ext (by repeat (first | (with_reducible exact Ext.refl _) | (with_reducible assumption) | (with_reducible refine Ext.alloc ?_ _) | (with_reducible refine Ext.drewN ?_ _) | (with_reducible refine Ext.drew ?_) | (with_reducible refine Ext.setCell ?_ ?_ _; rotate_left; (simp only []; omega)) | (with_reducible refine Ext.trans ?_ (by assumption)))))).mono ?_
      rintro e w3 ⟨rfl, hx3⟩
      have hy3 := hx3.size
      simp at hy3
      have hB3 : Blk w3 w.heap.size 48 _ := Blk.ext (hB2.alloc _) hx3
      have hE3 : Blk w3 w1.heap.size 50 _ := Blk.ext (hE2.alloc _) hx3
      have hz3 : w.heap.size < w3.heap.size ∧ w1.heap.size < w3.heap.size := by omega
      clear hd2 hg2
      have hd3 := hB3.cells
      have hg3 := hE3.cells
      go_wp2_with fail
      refine (impl_ReportOf_ok _ _ _ _ _ _ _ a3 m c3 (L.take 4) _ (by exact hs3.ext (by repeat (first | (with_reducible exact Ext.refl _) | (with_reducible assumption) | (with_reducible refine Ext.alloc ?_ _) | (with_reducible refine Ext.drewN ?_ _) | (with_reducible refine Ext.drew ?_) | (with_reducible refine Ext.setCell ?_ ?_ _; rotate_left; (simp only []; omega)) | (with_reducible refine Ext.trans ?_ (by assumption))))) v1 v2 v5).mono ?_
      rintro e w4 ⟨a5, c5, rfl, hs5, _, hx4⟩
      rw [show min m 4 = m by omega] at hs5 ⊢
      rw [show (L.take 4).take 4 = L.take 4 by rw [List.take_take]; rfl] at hs5
      have hy4 := hx4.size
      (try simp at hy4)
      have hE4 : Blk w4 w1.heap.size 50 _ := Blk.ext hE3 hx4
      clear hd3 hg3
      have hz4 : w1.heap.size < w4.heap.size := by omega
      have hg4 := hE4.cells
      go_wp2_with fail
      refine (equalReport_same _ _ _ _ _ _ _ _ a5 a3 m c5 c3 (L.take 4) _ (by exact hs5.ext (by repeat (first | (with_reducible exact Ext.refl _) | (with_reducible assumption) | (with_reducible refine Ext.alloc ?_ _) | (with_reducible refine Ext.drewN ?_ _) | (with_reducible refine Ext.drew ?_) | (with_reducible refine Ext.setCell ?_ ?_ _; rotate_left; (simp only []; omega)) | (with_reducible refine Ext.trans ?_ (by assumption))))) (by exact hs3.ext (by repeat (first | (with_reducible exact Ext.refl _) | (with_reducible assumption) | (with_reducible refine Ext.alloc ?_ _) | (with_reducible refine Ext.drewN ?_ _) | (with_reducible refine Ext.drew ?_) | (with_reducible refine Ext.setCell ?_ ?_ _; rotate_left; (simp only []; omega)) | (with_reducible refine Ext.trans ?_ (by assumption)))))).mono ?_
      rintro e w5 ⟨rfl, hx5⟩
      go_wp2
      go_ret
      exact ⟨rfl, (by repeat (first | (with_reducible exact Ext.refl _) | (with_reducible assumption) | (with_reducible refine Ext.alloc ?_ _) | (with_reducible refine Ext.drewN ?_ _) | (with_reducible refine Ext.drew ?_) | (with_reducible refine Ext.setCell ?_ ?_ _; rotate_left; (simp only []; omega)) | (with_reducible refine Ext.trans ?_ (by assumption))))⟩
  · go_enter Try.func17, Try.ntmps17
    go_wp2
    go_ret
    exact ⟨rfl, Ext.refl _⟩
end Go.Proofs.Ytdjbjldmlfhigaa
