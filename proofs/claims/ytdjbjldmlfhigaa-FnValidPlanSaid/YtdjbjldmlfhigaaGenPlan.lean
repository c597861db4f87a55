/- Contracts of the generators: nets, plans. -/
import Derived.Test.YtdjbjldmlfhigaaGen
import Derived.Test.YtdjbjldmlfhigaaPlan
import Derived.Deep.RegionWith
namespace Go.Proofs.Ytdjbjldmlfhigaa
open Go.RowKit

set_option maxHeartbeats 4000000 in
theorem someNet_any (n0 B : Nat) (m : Int) (w : World) (hr : Rd n0 w B m) (hm : m + 6 ≤ 1000000) :
    Calls Try.prog 97 #[.pointer (some ⟨B, 0, none⟩)] w fun e w' => ∃ x y, e = .returned (.agg #[.int .i64 x, .int .i64 y]) ∧ Rd n0 w' B (m + 6) ∧ RExt B w w' := by
  have hnw : n0 ≤ w.heap.size := hr.le
  have hBw : B < w.heap.size := (by have := hr.lt; omega)
  go_enter Try.func97, Try.ntmps97
  go_wp2_with fail
  refine (one_lit n0 B _ _ _ _ _ _ (by exact hr.to (by repeat (first | (with_reducible exact Since.refl hr.le) | (with_reducible refine Since.alloc ?_ _) | (with_reducible refine Since.drew ?_) | (with_reducible refine Since.drewN ?_ _) | (with_reducible refine Since.setCell ?_ ?_ _; rotate_left; (simp only []; omega)) | (with_reducible refine Since.ext ?_ (by assumption))))) (by omega) (by simp) (by rfl) (by omega) (by omega) (by simp [intOf])).mono ?_
  rintro e w1 ⟨bits, rfl, hm1, hr, hx⟩
  have hc := hx.cellsFrom hBw; have hf := hx.frozensFrom hBw; have hy := hx.size; (try simp at hy); have hz : w.heap.size < w1.heap.size := (by omega)
  simp [intOf] at hm1
  have hb0 : 0 ≤ bits := by omega
  have hb1 : bits ≤ 16 := by omega
  clear hm1
  go_wp2_with fail
  refine (someWord_any n0 B _ _ (by exact hr.to (by repeat (first | (with_reducible exact Since.refl hr.le) | (with_reducible refine Since.alloc ?_ _) | (with_reducible refine Since.drew ?_) | (with_reducible refine Since.drewN ?_ _) | (with_reducible refine Since.setCell ?_ ?_ _; rotate_left; (simp only []; omega)) | (with_reducible refine Since.ext ?_ (by assumption))))) (by omega)).mono ?_
  rintro e w2 ⟨x, rfl, hx0, hx1, hr2, hx2⟩
  have hy2 := hx2.size
  simp at hy2
  have hB0 : Blk w1 w.heap.size 33 #[.int .i64 0, .int .i64 0] := by refine Blk.rext ?_ hx (by omega); exact (by repeat (first | (with_reducible assumption) | (with_reducible exact Blk.new _ _ _) | exact Blk.newAt _ _ _ (by simp) | (with_reducible refine Blk.alloc ?_ _) | (with_reducible refine Blk.drew ?_) | (with_reducible refine Blk.drewN ?_ _) | refine Blk.far ?_ (by simp only []; omega) _ | refine Blk.rext ?_ (by assumption) (by omega) | refine Blk.ext ?_ (by assumption)))
  have hBR : Blk w2 w.heap.size 33 #[.int .i64 0, .int .i64 0] := by refine Blk.rext ?_ hx2 (by omega); exact (by repeat (first | (with_reducible assumption) | (with_reducible exact Blk.new _ _ _) | exact Blk.newAt _ _ _ (by simp) | (with_reducible refine Blk.alloc ?_ _) | (with_reducible refine Blk.drew ?_) | (with_reducible refine Blk.drewN ?_ _) | refine Blk.far ?_ (by simp only []; omega) _ | refine Blk.rext ?_ (by assumption) (by omega) | refine Blk.ext ?_ (by assumption)))
  have hBP : Blk w2 w1.heap.size 33 #[.int .i64 0, .int .i64 bits] := Blk.rext (Blk.newAt _ _ _ (by simp)) hx2 (by omega)
  have hX2 : RExt B w w2 := (by repeat (first | (with_reducible exact RExt.refl _ _) | (with_reducible assumption) | (with_reducible refine RExt.alloc ?_ _) | (with_reducible refine RExt.drewN ?_ _) | (with_reducible refine RExt.drew ?_) | (with_reducible refine RExt.setCell ?_ (.inr ?_) _; rotate_left; (simp only []; omega)) | (with_reducible refine RExt.trans ?_ (by assumption)) | (with_reducible refine RExt.ext ?_ (by assumption))))
  have hcP := hBP.cells
  have hfP := hBP.frozens
  go_wp2_with fail
  have hPl : w1.heap.size < w2.heap.size := by omega
  have hwl : w.heap.size < w2.heap.size := by omega
  have hB2 : B < w2.heap.size := by omega
  have hr3 : Rd n0 (w2.setCell ⟨w1.heap.size, 0, none⟩ (.int .i64 x)) B (m + 6) := (Rd.mono hr2 (by omega)).setCell (by simp only []; omega) _
  have hX3 : RExt B w (w2.setCell ⟨w1.heap.size, 0, none⟩ (.int .i64 x)) := hX2.setCell (.inr (by simp only []; omega)) _
  have hBRV := hBR.far (p := ⟨w1.heap.size, 0, none⟩) (by simp only []; omega) (.int .i64 x)
  have hBPV := hBP.set 0 (.int .i64 x)
  clear hBR hBP hcP hfP
  have hcP := hBPV.cells
  have hfP := hBPV.frozens
  have hne : ¬ netSize bits = 0 := by have := netSize_pos bits; omega
  go_region_with (go_at_call 61; refine (spec_size _ _ _ hb0 hb1).mono ?_; rintro e w3 ⟨rfl, hx3⟩; have hc3 := hx3.cells; have hf3 := hx3.frozens; have hy3 := hx3.size; (try simp at hy3))
  all_goals
    have hcR := (Blk.ext (hBRV.drew) hx3).cells
    have hfR := (Blk.ext (hBRV.drew) hx3).frozens
    have hcQ := (Blk.ext (hBPV.drew) hx3).cells
    have hfQ := (Blk.ext (hBPV.drew) hx3).frozens
    have hr4 := hr3.drew.ext hx3
    have hX4 := (hX3.drew).ext hx3
    clear hc3 hf3 hcP hfP hX3 hr3 hX2 hr2 hBRV hBPV hx3
    go_wp2
    refine' bodyPost_ret (v := _) ?_ rfl ?_
    rotate_left
    · (simp only [results, Try.results97]
       go_simp
       rfl)
    exact ⟨_, _, rfl, (by exact hr4.to (by repeat (first | (with_reducible exact Since.refl hr4.le) | (with_reducible refine Since.alloc ?_ _) | (with_reducible refine Since.drew ?_) | (with_reducible refine Since.drewN ?_ _) | (with_reducible refine Since.setCell ?_ ?_ _; rotate_left; (simp only []; omega)) | (with_reducible refine Since.ext ?_ (by assumption))))), (by repeat (first | (with_reducible exact RExt.refl _ _) | (with_reducible assumption) | (with_reducible refine RExt.alloc ?_ _) | (with_reducible refine RExt.drewN ?_ _) | (with_reducible refine RExt.drew ?_) | (with_reducible refine RExt.setCell ?_ (.inr ?_) _; rotate_left; (simp only []; omega)) | (with_reducible refine RExt.trans ?_ (by assumption)) | (with_reducible refine RExt.ext ?_ (by assumption))))⟩
end Go.Proofs.Ytdjbjldmlfhigaa
