/- The law on whole reports, walked. -/
import Derived.Test.YtdjbjldmlfhigaaLawRep
import Derived.Test.YtdjbjldmlfhigaaChain
namespace Go.Proofs.Ytdjbjldmlfhigaa
open Go.RowKit

set_option maxHeartbeats 2000000 in
theorem law_FnReportOf (a : Option Addr) (n c : Nat) (u : World) (hc : Code u a n c) : Calls Try.prog 18 #[.slice a n c] u fun e w' => e = .returned (.bool true) ∧ Ext u w' := by
  by_cases hn : n ≤ 1048576
  · go_enter Try.func18, Try.ntmps18
    go_wp2_with fail
    refine (DrawReportOf_any a n c _ hc).mono ?_
    rintro e w ⟨o, s, k, fa, fp, ta, tp, a2, n2, c2, L, rfl, hs, hx⟩
    cases hv : (inR o 0 15 && word s && validPkt ⟨k, ⟨fa, fp⟩, ⟨ta, tp⟩, L⟩) with
    | false =>
      go_wp2_with fail
      refine (impl_ReportOf_no _ _ _ _ _ _ _ a2 n2 c2 L _ (by exact hs.ext (by repeat (first | (with_reducible exact Ext.refl _) | (with_reducible assumption) | (with_reducible refine Ext.alloc ?_ _) | (with_reducible refine Ext.drewN ?_ _) | (with_reducible refine Ext.drew ?_) | (with_reducible refine Ext.setCell ?_ ?_ _; rotate_left; (simp only []; omega)) | (with_reducible refine Ext.trans ?_ (by assumption))))) hv).mono ?_
      rintro e w1 ⟨rfl, hx1⟩
      have hy1 := hx1.size
      simp at hy1
      have hB1 : Blk w1 w.heap.size 48 #[.int .i64 k, .int .i64 fa, .int .i64 fp, .int .i64 ta, .int .i64 tp, .slice a2 n2 c2] := by refine Blk.ext ?_ hx1; exact (by repeat (first | (with_reducible assumption) | (with_reducible exact Blk.new _ _ _) | exact Blk.newAt _ _ _ (by simp) | (with_reducible refine Blk.alloc ?_ _) | (with_reducible refine Blk.drew ?_) | (with_reducible refine Blk.drewN ?_ _) | refine Blk.far ?_ (by simp only []; omega) _ | refine Blk.rext ?_ (by assumption) (by omega) | refine Blk.ext ?_ (by assumption)))
      have hz1 : w.heap.size < w1.heap.size := by omega
      have hd1 := hB1.cells
      go_wp2_with fail
      refine (spec_ReportOf_no _ _ _ _ _ _ _ a2 n2 c2 L _ (by exact hs.ext (by repeat (first | (with_reducible exact Ext.refl _) | (with_reducible assumption) | (with_reducible refine Ext.alloc ?_ _) | (with_reducible refine Ext.drewN ?_ _) | (with_reducible refine Ext.drew ?_) | (with_reducible refine Ext.setCell ?_ ?_ _; rotate_left; (simp only []; omega)) | (with_reducible refine Ext.trans ?_ (by assumption))))) hv).mono ?_
      rintro e w2 ⟨rfl, hx2⟩
      have hy2 := hx2.size
      simp at hy2
      have hE2 : Blk w2 w1.heap.size 50 #[.int .i64 0, .int .i64 0, .int .i64 0, .int .i64 0, .int .i64 0, .int .i64 0, .int .i64 0, .int .i64 0, .slice none 0 0] := by refine Blk.ext ?_ hx2; exact (by repeat (first | (with_reducible assumption) | (with_reducible exact Blk.new _ _ _) | exact Blk.newAt _ _ _ (by simp) | (with_reducible refine Blk.alloc ?_ _) | (with_reducible refine Blk.drew ?_) | (with_reducible refine Blk.drewN ?_ _) | refine Blk.far ?_ (by simp only []; omega) _ | refine Blk.rext ?_ (by assumption) (by omega) | refine Blk.ext ?_ (by assumption)))
      have hz2 : w1.heap.size < w2.heap.size := by omega
      clear hd1
      have hg2 := hE2.cells
      go_wp2_with fail
      refine (equalReport_same _ _ _ _ _ _ _ _ none none 0 0 0 [] _ (Sl.nils _) (Sl.nils _)).mono ?_
      rintro e w3 ⟨rfl, hx3⟩
      have hy3 := hx3.size
      simp at hy3
      have hE3 : Blk w3 w1.heap.size 50 _ := Blk.ext (hE2.alloc _) hx3
      have hW3 : Blk w3 w2.heap.size 50 #[.int .i64 0, .int .i64 0, .int .i64 0, .int .i64 0, .int .i64 0, .int .i64 0, .int .i64 0, .int .i64 0, .slice none 0 0] := by refine Blk.ext ?_ hx3; exact (by repeat (first | (with_reducible assumption) | (with_reducible exact Blk.new _ _ _) | exact Blk.newAt _ _ _ (by simp) | (with_reducible refine Blk.alloc ?_ _) | (with_reducible refine Blk.drew ?_) | (with_reducible refine Blk.drewN ?_ _) | refine Blk.far ?_ (by simp only []; omega) _ | refine Blk.rext ?_ (by assumption) (by omega) | refine Blk.ext ?_ (by assumption)))
      clear hg2
      have hd3 := hW3.cells
      have hg3 := hE3.cells
      go_wp2_with fail
      refine (equalReport_same _ _ _ _ _ _ _ _ none none 0 0 0 [] _ (Sl.nils _) (Sl.nils _)).mono ?_
      rintro e w4 ⟨rfl, hx4⟩
      go_wp2
      go_ret
      exact ⟨rfl, (by repeat (first | (with_reducible exact Ext.refl _) | (with_reducible assumption) | (with_reducible refine Ext.alloc ?_ _) | (with_reducible refine Ext.drewN ?_ _) | (with_reducible refine Ext.drew ?_) | (with_reducible refine Ext.setCell ?_ ?_ _; rotate_left; (simp only []; omega)) | (with_reducible refine Ext.trans ?_ (by assumption))))⟩
    | true =>
      simp only [Bool.and_eq_true] at hv
      obtain ⟨⟨v1, v2⟩, v3⟩ := hv
      have v5 : validPkt ⟨k, ⟨fa, fp⟩, ⟨ta, tp⟩, L.take 4⟩ = true := validPkt_take v3
      rcases Nat.lt_or_ge 4 n2 with hge | hge
      · have hmin : min n2 4 = 4 := by omega
        have h4 : (4 : Int) < (n2 : Int) := by omega
        go_wp2_with fail
        refine (impl_ReportOf_ok _ _ _ _ _ _ _ a2 n2 c2 L _ (by exact hs.ext (by repeat (first | (with_reducible exact Ext.refl _) | (with_reducible assumption) | (with_reducible refine Ext.alloc ?_ _) | (with_reducible refine Ext.drewN ?_ _) | (with_reducible refine Ext.drew ?_) | (with_reducible refine Ext.setCell ?_ ?_ _; rotate_left; (simp only []; omega)) | (with_reducible refine Ext.trans ?_ (by assumption))))) v1 v2 v3).mono ?_
        rw [hmin]
        rintro e w1 ⟨a3, c3, rfl, hs3, _, hx1⟩
        have hy1 := hx1.size
        simp at hy1
        have hB1 : Blk w1 w.heap.size 48 #[.int .i64 k, .int .i64 fa, .int .i64 fp, .int .i64 ta, .int .i64 tp, .slice a2 n2 c2] := by refine Blk.ext ?_ hx1; exact (by repeat (first | (with_reducible assumption) | (with_reducible exact Blk.new _ _ _) | exact Blk.newAt _ _ _ (by simp) | (with_reducible refine Blk.alloc ?_ _) | (with_reducible refine Blk.drew ?_) | (with_reducible refine Blk.drewN ?_ _) | refine Blk.far ?_ (by simp only []; omega) _ | refine Blk.rext ?_ (by assumption) (by omega) | refine Blk.ext ?_ (by assumption)))
        have hz1 : w.heap.size < w1.heap.size := by omega
        have hd1 := hB1.cells
        go_wp2_with fail
        refine (spec_ReportOf_ok _ _ _ _ _ _ _ a2 n2 c2 L _ (by exact hs.ext (by repeat (first | (with_reducible exact Ext.refl _) | (with_reducible assumption) | (with_reducible refine Ext.alloc ?_ _) | (with_reducible refine Ext.drewN ?_ _) | (with_reducible refine Ext.drew ?_) | (with_reducible refine Ext.setCell ?_ ?_ _; rotate_left; (simp only []; omega)) | (with_reducible refine Ext.trans ?_ (by assumption))))) v1 v2 v3).mono ?_
        rw [hmin]
        rintro e w2 ⟨a4, c4, rfl, hs4, _, hx2⟩
        have hy2 := hx2.size
        simp at hy2
        have hB2 : Blk w2 w.heap.size 48 _ := Blk.ext (hB1.alloc _) hx2
        have hE2 : Blk w2 w1.heap.size 50 #[.int .i64 o, .int .i64 s, .int .i64 fa, .int .i64 k, .int .i64 fa, .int .i64 fp, .int .i64 ta, .int .i64 tp, .slice a3 4 c3] := by refine Blk.ext ?_ hx2; exact (by repeat (first | (with_reducible assumption) | (with_reducible exact Blk.new _ _ _) | exact Blk.newAt _ _ _ (by simp) | (with_reducible refine Blk.alloc ?_ _) | (with_reducible refine Blk.drew ?_) | (with_reducible refine Blk.drewN ?_ _) | refine Blk.far ?_ (by simp only []; omega) _ | refine Blk.rext ?_ (by assumption) (by omega) | refine Blk.ext ?_ (by assumption)))
        have hz2 : w.heap.size < w2.heap.size ∧ w1.heap.size < w2.heap.size := by omega
        clear hd1
        have hd2 := hB2.cells
        have hg2 := hE2.cells
        go_wp2_with fail
        refine (equalReport_same _ _ _ _ _ _ _ _ a3 a4 4 c3 c4 (L.take 4) _ (by exact hs3.ext (by repeat (first | (with_reducible exact Ext.refl _) | (with_reducible assumption) | (with_reducible refine Ext.alloc ?_ _) | (with_reducible refine Ext.drewN ?_ _) | (with_reducible refine Ext.drew ?_) | (with_reducible refine Ext.setCell ?_ ?_ _; rotate_left; (simp only []; omega)) | (with_reducible refine Ext.trans ?_ (by assumption))))) (by exact hs4.ext (by repeat (first | (with_reducible exact Ext.refl _) | (with_reducible assumption) | (with_reducible refine Ext.alloc ?_ _) | (with_reducible refine Ext.drewN ?_ _) | (with_reducible refine Ext.drew ?_) | (with_reducible refine Ext.setCell ?_ ?_ _; rotate_left; (simp only []; omega)) | (with_reducible refine Ext.trans ?_ (by assumption)))))).mono ?_
        rintro e w3 ⟨rfl, hx3⟩
        have hy3 := hx3.size
        simp at hy3
        have hB3 : Blk w3 w.heap.size 48 _ := Blk.ext (hB2.alloc _) hx3
        have hE3 : Blk w3 w1.heap.size 50 _ := Blk.ext (hE2.alloc _) hx3
        have hz3 : w.heap.size < w3.heap.size ∧ w1.heap.size < w3.heap.size := by omega
        clear hd2 hg2
        have hd3 := hB3.cells
        have hg3 := hE3.cells
        go_wp2_with fail
        have hle2 := hs.le
        have hmx := hs.max
        have ht : Sl encI 1 w a2 4 c2 (L.take 4) := hs.take (by omega) (by omega) (by omega)
        have v6 : validRep ⟨o, s, fa, ⟨k, ⟨fa, fp⟩, ⟨ta, tp⟩, L.take 4⟩⟩ = true := by
          have h5 := v3
          simp only [validPkt, validEnd, Bool.and_eq_true] at h5
          simp [validRep, v1, v2, v5, h5.1.1.1.2.1]
        have hsl : ∀ W : World, (Instr.slice 46 (.slice a2 n2 c2) none (some (.int .i64 4)) none).run Try.prog W = .ok (.slice a2 4 c2) W := run_take_any a2 n2 c2 4 (by omega)
        refine wp_region_ext (by kernel_rfl) (by kernel_rfl) ?_
        repeat' (first
          | (refine ChL.skip (by rfl) ?_
             (try simp only [Act.put, List.setIfInBounds_toArray, List.set_cons_zero, List.set_cons_succ]))
          | (refine' ChL.val (v := _) (by rfl) ?_ ?_
             rotate_left
             · (intro wS hS
                have hcS := Ext.cells hS
                go_simp
                with_reducible rfl)
             (try simp only [Act.put, List.setIfInBounds_toArray, List.set_cons_zero, List.set_cons_succ]))
          | (refine' ChL.call (v := _) (f := _) (args := _) (by rfl) ?_ ?_ ?_
             rotate_left 3
             · (intro wS
                go_simp
                (constructor <;> rfl))
             · (intro wS hS
                first | (go_at_call 46; refine (equalInts_same a3 a2 4 c3 c2 (L.take 4) _ (by exact (hs3.ext (show Ext w1 _ from (by repeat (first | (with_reducible exact Ext.refl _) | (with_reducible assumption) | (with_reducible refine Ext.alloc ?_ _) | (with_reducible refine Ext.drewN ?_ _) | (with_reducible refine Ext.drew ?_) | (with_reducible refine Ext.setCell ?_ ?_ _; rotate_left; (simp only []; omega)) | (with_reducible refine Ext.trans ?_ (by assumption)))))).ext hS) (by exact (ht.ext (show Ext w _ from (by repeat (first | (with_reducible exact Ext.refl _) | (with_reducible assumption) | (with_reducible refine Ext.alloc ?_ _) | (with_reducible refine Ext.drewN ?_ _) | (with_reducible refine Ext.drew ?_) | (with_reducible refine Ext.setCell ?_ ?_ _; rotate_left; (simp only []; omega)) | (with_reducible refine Ext.trans ?_ (by assumption)))))).ext hS)).mono ?_; rintro e w1 ⟨rfl, hx⟩; refine ⟨?_, Ext.trans hS hx⟩; rfl) | (go_at_call 36; refine (impl_ValidReport _ _ _ _ _ _ _ _ a3 4 c3 (L.take 4) _ (by exact (hs3.ext (show Ext w1 _ from (by repeat (first | (with_reducible exact Ext.refl _) | (with_reducible assumption) | (with_reducible refine Ext.alloc ?_ _) | (with_reducible refine Ext.drewN ?_ _) | (with_reducible refine Ext.drew ?_) | (with_reducible refine Ext.setCell ?_ ?_ _; rotate_left; (simp only []; omega)) | (with_reducible refine Ext.trans ?_ (by assumption)))))).ext hS)).mono ?_; rintro e w1 ⟨rfl, hx⟩; refine ⟨?_, Ext.trans hS hx⟩; rfl))
             (try simp only [Act.put, List.setIfInBounds_toArray, List.set_cons_zero, List.set_cons_succ]))
          | (refine ChL.nil ?_)
          | (refine' ChL.guard (x := _) ?_ ?_ ?_
             rotate_left
             · (go_simp
                rfl)
             all_goals
               intro hg
               simp only [hg]))
        all_goals (intro w' hw'; go_wp2; go_ret; exact ⟨ret_bool (by simp [*]), (by repeat (first | (with_reducible exact Ext.refl _) | (with_reducible assumption) | (with_reducible refine Ext.alloc ?_ _) | (with_reducible refine Ext.drewN ?_ _) | (with_reducible refine Ext.drew ?_) | (with_reducible refine Ext.setCell ?_ ?_ _; rotate_left; (simp only []; omega)) | (with_reducible refine Ext.trans ?_ (by assumption))))⟩)
      · have hmin : min n2 4 = n2 := by omega
        have h4 : ¬ (4 : Int) < (n2 : Int) := by omega
        go_wp2_with fail
        refine (impl_ReportOf_ok _ _ _ _ _ _ _ a2 n2 c2 L _ (by exact hs.ext (by repeat (first | (with_reducible exact Ext.refl _) | (with_reducible assumption) | (with_reducible refine Ext.alloc ?_ _) | (with_reducible refine Ext.drewN ?_ _) | (with_reducible refine Ext.drew ?_) | (with_reducible refine Ext.setCell ?_ ?_ _; rotate_left; (simp only []; omega)) | (with_reducible refine Ext.trans ?_ (by assumption))))) v1 v2 v3).mono ?_
        rw [hmin]
        rintro e w1 ⟨a3, c3, rfl, hs3, _, hx1⟩
        have hy1 := hx1.size
        simp at hy1
        have hB1 : Blk w1 w.heap.size 48 #[.int .i64 k, .int .i64 fa, .int .i64 fp, .int .i64 ta, .int .i64 tp, .slice a2 n2 c2] := by refine Blk.ext ?_ hx1; exact (by repeat (first | (with_reducible assumption) | (with_reducible exact Blk.new _ _ _) | exact Blk.newAt _ _ _ (by simp) | (with_reducible refine Blk.alloc ?_ _) | (with_reducible refine Blk.drew ?_) | (with_reducible refine Blk.drewN ?_ _) | refine Blk.far ?_ (by simp only []; omega) _ | refine Blk.rext ?_ (by assumption) (by omega) | refine Blk.ext ?_ (by assumption)))
        have hz1 : w.heap.size < w1.heap.size := by omega
        have hd1 := hB1.cells
        go_wp2_with fail
        refine (spec_ReportOf_ok _ _ _ _ _ _ _ a2 n2 c2 L _ (by exact hs.ext (by repeat (first | (with_reducible exact Ext.refl _) | (with_reducible assumption) | (with_reducible refine Ext.alloc ?_ _) | (with_reducible refine Ext.drewN ?_ _) | (with_reducible refine Ext.drew ?_) | (with_reducible refine Ext.setCell ?_ ?_ _; rotate_left; (simp only []; omega)) | (with_reducible refine Ext.trans ?_ (by assumption))))) v1 v2 v3).mono ?_
        rw [hmin]
        rintro e w2 ⟨a4, c4, rfl, hs4, _, hx2⟩
        have hy2 := hx2.size
        simp at hy2
        have hB2 : Blk w2 w.heap.size 48 _ := Blk.ext (hB1.alloc _) hx2
        have hE2 : Blk w2 w1.heap.size 50 #[.int .i64 o, .int .i64 s, .int .i64 fa, .int .i64 k, .int .i64 fa, .int .i64 fp, .int .i64 ta, .int .i64 tp, .slice a3 n2 c3] := by refine Blk.ext ?_ hx2; exact (by repeat (first | (with_reducible assumption) | (with_reducible exact Blk.new _ _ _) | exact Blk.newAt _ _ _ (by simp) | (with_reducible refine Blk.alloc ?_ _) | (with_reducible refine Blk.drew ?_) | (with_reducible refine Blk.drewN ?_ _) | refine Blk.far ?_ (by simp only []; omega) _ | refine Blk.rext ?_ (by assumption) (by omega) | refine Blk.ext ?_ (by assumption)))
        have hz2 : w.heap.size < w2.heap.size ∧ w1.heap.size < w2.heap.size := by omega
        clear hd1
        have hd2 := hB2.cells
        have hg2 := hE2.cells
        go_wp2_with fail
        refine (equalReport_same _ _ _ _ _ _ _ _ a3 a4 n2 c3 c4 (L.take 4) _ (by exact hs3.ext (by repeat (first | (with_reducible exact Ext.refl _) | (with_reducible assumption) | (with_reducible refine Ext.alloc ?_ _) | (with_reducible refine Ext.drewN ?_ _) | (with_reducible refine Ext.drew ?_) | (with_reducible refine Ext.setCell ?_ ?_ _; rotate_left; (simp only []; omega)) | (with_reducible refine Ext.trans ?_ (by assumption))))) (by exact hs4.ext (by repeat (first | (with_reducible exact Ext.refl _) | (with_reducible assumption) | (with_reducible refine Ext.alloc ?_ _) | (with_reducible refine Ext.drewN ?_ _) | (with_reducible refine Ext.drew ?_) | (with_reducible refine Ext.setCell ?_ ?_ _; rotate_left; (simp only []; omega)) | (with_reducible refine Ext.trans ?_ (by assumption)))))).mono ?_
        rintro e w3 ⟨rfl, hx3⟩
        have hy3 := hx3.size
        simp at hy3
        have hB3 : Blk w3 w.heap.size 48 _ := Blk.ext (hB2.alloc _) hx3
        have hE3 : Blk w3 w1.heap.size 50 _ := Blk.ext (hE2.alloc _) hx3
        have hz3 : w.heap.size < w3.heap.size ∧ w1.heap.size < w3.heap.size := by omega
        clear hd2 hg2
        have hd3 := hB3.cells
        have hg3 := hE3.cells
        go_wp2_with fail
        have hle2 := hs.le
        have hmx := hs.max
        have ht : Sl encI 1 w a2 n2 c2 (L.take 4) := by
          rw [List.take_of_length_le (by rw [hs.len]; omega)]; exact hs
        have v6 : validRep ⟨o, s, fa, ⟨k, ⟨fa, fp⟩, ⟨ta, tp⟩, L.take 4⟩⟩ = true := by
          have h5 := v3
          simp only [validPkt, validEnd, Bool.and_eq_true] at h5
          simp [validRep, v1, v2, v5, h5.1.1.1.2.1]
        have hsl : ∀ W : World, (Instr.slice 46 (.slice a2 n2 c2) none (some (.int .i64 n2)) none).run Try.prog W = .ok (.slice a2 n2 c2) W := run_take_any a2 n2 c2 n2 (by omega)
        refine wp_region_ext (by kernel_rfl) (by kernel_rfl) ?_
        repeat' (first
          | (refine ChL.skip (by rfl) ?_
             (try simp only [Act.put, List.setIfInBounds_toArray, List.set_cons_zero, List.set_cons_succ]))
          | (refine' ChL.val (v := _) (by rfl) ?_ ?_
             rotate_left
             · (intro wS hS
                have hcS := Ext.cells hS
                go_simp
                with_reducible rfl)
             (try simp only [Act.put, List.setIfInBounds_toArray, List.set_cons_zero, List.set_cons_succ]))
          | (refine' ChL.call (v := _) (f := _) (args := _) (by rfl) ?_ ?_ ?_
             rotate_left 3
             · (intro wS
                go_simp
                (constructor <;> rfl))
             · (intro wS hS
                first | (go_at_call 46; refine (equalInts_same a3 a2 n2 c3 c2 (L.take 4) _ (by exact (hs3.ext (show Ext w1 _ from (by repeat (first | (with_reducible exact Ext.refl _) | (with_reducible assumption) | (with_reducible refine Ext.alloc ?_ _) | (with_reducible refine Ext.drewN ?_ _) | (with_reducible refine Ext.drew ?_) | (with_reducible refine Ext.setCell ?_ ?_ _; rotate_left; (simp only []; omega)) | (with_reducible refine Ext.trans ?_ (by assumption)))))).ext hS) (by exact (ht.ext (show Ext w _ from (by repeat (first | (with_reducible exact Ext.refl _) | (with_reducible assumption) | (with_reducible refine Ext.alloc ?_ _) | (with_reducible refine Ext.drewN ?_ _) | (with_reducible refine Ext.drew ?_) | (with_reducible refine Ext.setCell ?_ ?_ _; rotate_left; (simp only []; omega)) | (with_reducible refine Ext.trans ?_ (by assumption)))))).ext hS)).mono ?_; rintro e w1 ⟨rfl, hx⟩; refine ⟨?_, Ext.trans hS hx⟩; rfl) | (go_at_call 36; refine (impl_ValidReport _ _ _ _ _ _ _ _ a3 n2 c3 (L.take 4) _ (by exact (hs3.ext (show Ext w1 _ from (by repeat (first | (with_reducible exact Ext.refl _) | (with_reducible assumption) | (with_reducible refine Ext.alloc ?_ _) | (with_reducible refine Ext.drewN ?_ _) | (with_reducible refine Ext.drew ?_) | (with_reducible refine Ext.setCell ?_ ?_ _; rotate_left; (simp only []; omega)) | (with_reducible refine Ext.trans ?_ (by assumption)))))).ext hS)).mono ?_; rintro e w1 ⟨rfl, hx⟩; refine ⟨?_, Ext.trans hS hx⟩; rfl))
             (try simp only [Act.put, List.setIfInBounds_toArray, List.set_cons_zero, List.set_cons_succ]))
          | (refine ChL.nil ?_)
          | (refine' ChL.guard (x := _) ?_ ?_ ?_
             rotate_left
             · (go_simp
                rfl)
             all_goals
               intro hg
               simp only [hg]))
        all_goals (intro w' hw'; go_wp2; go_ret; exact ⟨ret_bool (by first | (simp [*]; done) | (exfalso; rw [if_neg (by omega)] at hg; simp at hg)), (by repeat (first | (with_reducible exact Ext.refl _) | (with_reducible assumption) | (with_reducible refine Ext.alloc ?_ _) | (with_reducible refine Ext.drewN ?_ _) | (with_reducible refine Ext.drew ?_) | (with_reducible refine Ext.setCell ?_ ?_ _; rotate_left; (simp only []; omega)) | (with_reducible refine Ext.trans ?_ (by assumption))))⟩)
  · go_enter Try.func18, Try.ntmps18
    go_wp2
    go_ret
    exact ⟨rfl, Ext.refl _⟩
end Go.Proofs.Ytdjbjldmlfhigaa
