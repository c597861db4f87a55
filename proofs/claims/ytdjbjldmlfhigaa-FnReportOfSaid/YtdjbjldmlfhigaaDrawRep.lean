/- The drawn arguments of ReportOf; the laws on it. -/
import Derived.Test.YtdjbjldmlfhigaaRep
import Derived.Deep.RegionWith
namespace Go.Proofs.Ytdjbjldmlfhigaa
open Go.RowKit

set_option maxHeartbeats 4000000 in
theorem DrawReportOf_any (a : Option Addr) (n c : Nat) (w : World) (hc : Code w a n c) :
    Calls Try.prog 42 #[.slice a n c] w fun e w' => ∃ o s k fa fp ta tp a n c L, e = .returned (.tuple #[.int .i64 o, .int .i64 s, .agg #[.int .i64 k, .int .i64 fa, .int .i64 fp, .int .i64 ta, .int .i64 tp, .slice a n c]]) ∧
      Sl encI 1 w' a n c L ∧ Ext w w' := by
  obtain ⟨zs, hs, hz⟩ := hc
  go_enter Try.func42, Try.ntmps42
  go_wp2_with fail
  refine (newReader_any a n c zs _ (hs.ext (by repeat (first | (with_reducible exact Ext.refl _) | (with_reducible assumption) | (with_reducible refine Ext.alloc ?_ _) | (with_reducible refine Ext.drewN ?_ _) | (with_reducible refine Ext.drew ?_) | (with_reducible refine Ext.setCell ?_ ?_ _; rotate_left; (simp only []; omega)) | (with_reducible refine Ext.trans ?_ (by assumption))))) hz).mono ?_
  rintro e w1 ⟨B, rfl, hB, hr, hx⟩
  have hy := hx.size
  simp at hy
  simp at hB
  have hBl := hr.lt
  have hle := hr.le
  have hX1 : Ext w w1 := (by repeat (first | (with_reducible exact Ext.refl _) | (with_reducible assumption) | (with_reducible refine Ext.alloc ?_ _) | (with_reducible refine Ext.drewN ?_ _) | (with_reducible refine Ext.drew ?_) | (with_reducible refine Ext.setCell ?_ ?_ _; rotate_left; (simp only []; omega)) | (with_reducible refine Ext.trans ?_ (by assumption))))
  have hR1 : Blk w1 w.heap.size 48 #[.int .i64 0, .int .i64 0, .int .i64 0, .int .i64 0, .int .i64 0, .slice none 0 0] := by refine Blk.ext ?_ hx; exact (by repeat (first | (with_reducible assumption) | (with_reducible exact Blk.new _ _ _) | exact Blk.newAt _ _ _ (by simp) | (with_reducible refine Blk.alloc ?_ _) | (with_reducible refine Blk.drew ?_) | (with_reducible refine Blk.drewN ?_ _) | refine Blk.far ?_ (by simp only []; omega) _ | refine Blk.rext ?_ (by assumption) (by omega) | refine Blk.ext ?_ (by assumption)))
  go_wp2_with fail
  refine (anyPacket_any _ B _ _ hr (by omega)).mono ?_
  rintro e w2 ⟨k, fa, fp, ta, tp, a2, n2, c2, L, rfl, hs2, _, hfr, hr2, hx2⟩
  have hy2 := hx2.size
  have hR2 : Blk w2 w.heap.size 48 _ := Blk.rext hR1 hx2 (by omega)
  have hfr' : 0 < n2 → ∀ x, a2 = some x → w1.heap.size ≤ x.block ∧ x.block < w2.heap.size := fun h x hx => ⟨hfr x hx, hs2.lt h x hx⟩
  go_wp2_with fail
  refine (one_lit _ B _ _ _ _ _ _ (by exact hr2.to (by repeat (first | (with_reducible exact Since.refl hr2.le) | (with_reducible refine Since.alloc ?_ _) | (with_reducible refine Since.drew ?_) | (with_reducible refine Since.drewN ?_ _) | (with_reducible refine Since.setCell ?_ ?_ _; rotate_left; (simp only []; omega)) | (with_reducible refine Since.ext ?_ (by assumption))))) (by omega) (by simp) (by rfl) (by omega) (by omega) (by simp [intOf])).mono ?_
  rintro e w3 ⟨o, rfl, _, hr3, hx3⟩
  have hy3 := hx3.size
  simp at hy3
  have hBR : Blk w3 w.heap.size 48 #[.int .i64 0, .int .i64 0, .int .i64 0, .int .i64 0, .int .i64 0, .slice none 0 0] := by refine Blk.rext ?_ hx3 (by omega); exact (by repeat (first | (with_reducible assumption) | (with_reducible exact Blk.new _ _ _) | exact Blk.newAt _ _ _ (by simp) | (with_reducible refine Blk.alloc ?_ _) | (with_reducible refine Blk.drew ?_) | (with_reducible refine Blk.drewN ?_ _) | refine Blk.far ?_ (by simp only []; omega) _ | refine Blk.rext ?_ (by assumption) (by omega) | refine Blk.ext ?_ (by assumption)))
  have hBP : Blk w3 w2.heap.size 48 #[.int .i64 k, .int .i64 fa, .int .i64 fp, .int .i64 ta, .int .i64 tp, .slice a2 n2 c2] := by refine Blk.rext ?_ hx3 (by omega); exact (by repeat (first | (with_reducible assumption) | (with_reducible exact Blk.new _ _ _) | exact Blk.newAt _ _ _ (by simp) | (with_reducible refine Blk.alloc ?_ _) | (with_reducible refine Blk.drew ?_) | (with_reducible refine Blk.drewN ?_ _) | refine Blk.far ?_ (by simp only []; omega) _ | refine Blk.rext ?_ (by assumption) (by omega) | refine Blk.ext ?_ (by assumption)))
  have hs3 : Sl encI 1 w3 a2 n2 c2 L := (hs2.alloc _).rextFar hx3 (fun h x hx => by have := hfr' h x hx; omega)
  have hX3 : RExt B w1 w3 := (by repeat (first | (with_reducible exact RExt.refl _ _) | (with_reducible assumption) | (with_reducible refine RExt.alloc ?_ _) | (with_reducible refine RExt.drewN ?_ _) | (with_reducible refine RExt.drew ?_) | (with_reducible refine RExt.setCell ?_ (.inr ?_) _; rotate_left; (simp only []; omega)) | (with_reducible refine RExt.trans ?_ (by assumption)) | (with_reducible refine RExt.ext ?_ (by assumption))))
  have hwl : w.heap.size < w3.heap.size := by omega
  have hPl : w2.heap.size < w3.heap.size := by omega
  have hw2 : w1.heap.size ≤ w2.heap.size := by omega
  have hw1 : w.heap.size < w1.heap.size := by omega
  clear hx hx2 hx3 hr hr2 hs2 hR1 hR2 hy hy2 hs hz
  generalize w2.heap.size = P at *
  have hcP := hBP.cells
  have hcR := hBR.cells
  have hfR := hBR.frozens
  go_wp2_with fail
  go_region_with (first
    | (go_at_call 72; refine (someWord_any _ B _ _ (by exact hr3.drew) (by omega)).mono ?_; rintro e w4 ⟨x4, rfl, _, _, hr4, hx4⟩; have hBR4 := (hBR.drew).rext hx4 (by omega); have hBP4 := (hBP.drew).rext hx4 (by omega); have hcP4 := hBP4.cells; have hcR4 := hBR4.cells; have hfR4 := hBR4.frozens; have hy4 := hx4.size; (try simp at hy4); have hq4 : P < w4.heap.size ∧ w.heap.size < w4.heap.size := (by omega))
    | (go_at_call 72; refine (someWord_any _ B _ _ (by exact hr4) (by omega)).mono ?_; rintro e w5 ⟨x5, rfl, _, _, hr5, hx5⟩; have hBR5 := hBR4.rext hx5 (by omega); have hBP5 := hBP4.rext hx5 (by omega); have hcP5 := hBP5.cells; have hcR5 := hBR5.cells; have hfR5 := hBR5.frozens; have hy5 := hx5.size; (try simp at hy5); have hq5 : P < w5.heap.size ∧ w.heap.size < w5.heap.size := (by omega))
    | (go_at_call 57; refine (one_lit _ B _ _ _ _ _ _ (by exact hr5) (by omega) (by simp) (by rfl) (by omega) (by omega) (by simp [intOf])).mono ?_; rintro e w6 ⟨x6, rfl, _, hr6, hx6⟩; have hBR6 := hBR5.rext hx6 (by omega); have hBP6 := hBP5.rext hx6 (by omega); have hcP6 := hBP6.cells; have hcR6 := hBR6.cells; have hfR6 := hBR6.frozens; have hy6 := hx6.size; (try simp at hy6); have hq6 : P < w6.heap.size ∧ w.heap.size < w6.heap.size := (by omega)))
  all_goals
    have hX6 := ((hX3.drew.trans hx4).trans hx5).trans hx6
    have hs6 : Sl encI 1 w6 a2 n2 c2 L := ((hs3.drew.rextFar hx4 (fun h x hx => by have := hfr x hx; omega)).rextFar hx5 (fun h x hx => by have := hfr x hx; omega)).rextFar hx6 (fun h x hx => by have := hfr x hx; omega)
    have hX : Ext w w6 := RExt.new hX1 hX6 (by omega)
    clear hx4 hx5 hx6 hcP4 hcR4 hfR4 hcP5 hcR5 hfR5 hcP hcR hfR
    go_wp2
    refine' bodyPost_ret (v := _) ?_ rfl ?_
    rotate_left
    · (simp only [results, Try.results42]
       go_simp
       rfl)
    refine ⟨o, x6, k, fa, fp, ta, tp, a2, n2, c2, L, rfl, ?_, (by repeat (first | (with_reducible exact Ext.refl _) | (with_reducible assumption) | (with_reducible refine Ext.alloc ?_ _) | (with_reducible refine Ext.drewN ?_ _) | (with_reducible refine Ext.drew ?_) | (with_reducible refine Ext.setCell ?_ ?_ _; rotate_left; (simp only []; omega)) | (with_reducible refine Ext.trans ?_ (by assumption))))⟩
    repeat (refine Sl.setCell ?_ (fun y hy => by have := hfr y hy; simp only []; omega) _)
    exact hs6
end Go.Proofs.Ytdjbjldmlfhigaa
