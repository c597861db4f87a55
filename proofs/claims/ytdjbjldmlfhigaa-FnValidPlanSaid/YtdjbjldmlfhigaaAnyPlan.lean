/- Contracts of the generators: nets and plans that may be invalid; the law on valid plans. -/
import Derived.Test.YtdjbjldmlfhigaaGenPlan
import Derived.Test.YtdjbjldmlfhigaaLawHold
namespace Go.Proofs.Ytdjbjldmlfhigaa
open Go.RowKit

set_option maxHeartbeats 4000000 in
theorem anyNet_any (n0 B : Nat) (m : Int) (w : World) (hr : Rd n0 w B m) (hm : m + 8 ≤ 1000000) :
    Calls Try.prog 88 #[.pointer (some ⟨B, 0, none⟩)] w fun e w' => ∃ x y, e = .returned (.agg #[.int .i64 x, .int .i64 y]) ∧ Rd n0 w' B (m + 8) ∧ RExt B w w' := by
  have hnw : n0 ≤ w.heap.size := hr.le
  have hBw : B < w.heap.size := (by have := hr.lt; omega)
  go_enter Try.func88, Try.ntmps88
  go_wp2_with fail
  refine (someNet_any n0 B m _ (by exact hr.to (by repeat (first | (with_reducible exact Since.refl hr.le) | (with_reducible refine Since.alloc ?_ _) | (with_reducible refine Since.drew ?_) | (with_reducible refine Since.drewN ?_ _) | (with_reducible refine Since.setCell ?_ ?_ _; rotate_left; (simp only []; omega)) | (with_reducible refine Since.ext ?_ (by assumption))))) (by omega)).mono ?_
  rintro e w1 ⟨x, y, rfl, hr1, hx1⟩
  have hz1 := hx1.size
  simp at hz1
  have hB0 : Blk w1 w.heap.size 33 #[.int .i64 0, .int .i64 0] := by refine Blk.rext ?_ hx1 (by omega); exact (by repeat (first | (with_reducible assumption) | (with_reducible exact Blk.new _ _ _) | exact Blk.newAt _ _ _ (by simp) | (with_reducible refine Blk.alloc ?_ _) | (with_reducible refine Blk.drew ?_) | (with_reducible refine Blk.drewN ?_ _) | refine Blk.far ?_ (by simp only []; omega) _ | refine Blk.rext ?_ (by assumption) (by omega) | refine Blk.ext ?_ (by assumption)))
  go_wp2_with fail
  refine (pick_any n0 B _ 16 _ (by exact hr1.to (by repeat (first | (with_reducible exact Since.refl hr1.le) | (with_reducible refine Since.alloc ?_ _) | (with_reducible refine Since.drew ?_) | (with_reducible refine Since.drewN ?_ _) | (with_reducible refine Since.setCell ?_ ?_ _; rotate_left; (simp only []; omega)) | (with_reducible refine Since.ext ?_ (by assumption))))) (by omega) (by omega) (by omega)).mono ?_
  rintro e w2 ⟨d, rfl, d0, d1, hr2, hx2⟩
  have hz2 := hx2.size
  simp at hz2
  have hBR : Blk w2 w.heap.size 33 #[.int .i64 0, .int .i64 0] := by refine Blk.rext ?_ hx2 (by omega); exact (by repeat (first | (with_reducible assumption) | (with_reducible exact Blk.new _ _ _) | exact Blk.newAt _ _ _ (by simp) | (with_reducible refine Blk.alloc ?_ _) | (with_reducible refine Blk.drew ?_) | (with_reducible refine Blk.drewN ?_ _) | refine Blk.far ?_ (by simp only []; omega) _ | refine Blk.rext ?_ (by assumption) (by omega) | refine Blk.ext ?_ (by assumption)))
  have hBP : Blk w2 w1.heap.size 33 #[.int .i64 x, .int .i64 y] := by refine Blk.rext ?_ hx2 (by omega); exact (by repeat (first | (with_reducible assumption) | (with_reducible exact Blk.new _ _ _) | exact Blk.newAt _ _ _ (by simp) | (with_reducible refine Blk.alloc ?_ _) | (with_reducible refine Blk.drew ?_) | (with_reducible refine Blk.drewN ?_ _) | refine Blk.far ?_ (by simp only []; omega) _ | refine Blk.rext ?_ (by assumption) (by omega) | refine Blk.ext ?_ (by assumption)))
  have hX2 : RExt B w w2 := (by repeat (first | (with_reducible exact RExt.refl _ _) | (with_reducible assumption) | (with_reducible refine RExt.alloc ?_ _) | (with_reducible refine RExt.drewN ?_ _) | (with_reducible refine RExt.drew ?_) | (with_reducible refine RExt.setCell ?_ (.inr ?_) _; rotate_left; (simp only []; omega)) | (with_reducible refine RExt.trans ?_ (by assumption)) | (with_reducible refine RExt.ext ?_ (by assumption))))
  have hwl : w.heap.size < w2.heap.size := by omega
  have hPl : w1.heap.size < w2.heap.size := by omega
  have hB2 : B < w2.heap.size := by omega
  have hw1 : w.heap.size < w1.heap.size := by omega
  clear hx1 hx2 hr1 hz1 hz2 hB0
  generalize w1.heap.size = P at *
  have hcP := hBP.cells
  have hfP := hBP.frozens
  have hcR := hBR.cells
  have hfR := hBR.frozens
  by_cases e1 : d = 1
  · subst e1
    go_wp2_with fail
    go_region_with (go_at_call 57; refine (one_lit n0 B _ _ _ _ _ _ hr2.drew (by omega) (by simp) (by rfl) (by omega) (by omega) (by simp [intOf])).mono ?_; rintro e w3 ⟨z, rfl, _, hr3, hx3⟩; have hBR3 := (hBR.drew).rext hx3 (by omega); have hBP3 := (hBP.drew).rext hx3 (by omega); have hcP3 := hBP3.cells; have hfP3 := hBP3.frozens; have hcR3 := hBR3.cells; have hfR3 := hBR3.frozens; have hy3 := hx3.size)
    all_goals
      have hX3 := (hX2.drew).trans hx3
      clear hx3 hX2
      simp at hy3
      go_wp2
      refine' bodyPost_ret (v := _) ?_ rfl ?_
      rotate_left
      · (simp only [results, Try.results88]
         go_simp
         rfl)
      exact ⟨_, _, rfl, (by exact (hr3.mono (show m + 6 + 1 + 1 ≤ m + 8 by omega)).to (by repeat (first | (with_reducible exact Since.refl (hr3.mono (show m + 6 + 1 + 1 ≤ m + 8 by omega)).le) | (with_reducible refine Since.alloc ?_ _) | (with_reducible refine Since.drew ?_) | (with_reducible refine Since.drewN ?_ _) | (with_reducible refine Since.setCell ?_ ?_ _; rotate_left; (simp only []; omega)) | (with_reducible refine Since.ext ?_ (by assumption))))), (by repeat (first | (with_reducible exact RExt.refl _ _) | (with_reducible assumption) | (with_reducible refine RExt.alloc ?_ _) | (with_reducible refine RExt.drewN ?_ _) | (with_reducible refine RExt.drew ?_) | (with_reducible refine RExt.setCell ?_ (.inr ?_) _; rotate_left; (simp only []; omega)) | (with_reducible refine RExt.trans ?_ (by assumption)) | (with_reducible refine RExt.ext ?_ (by assumption))))⟩
  · by_cases e0 : d = 0
    · subst e0
      go_wp2_with fail
      refine (one_lit n0 B _ _ _ _ _ _ hr2 (by omega) (by simp) (by rfl) (by omega) (by omega) (by simp [intOf])).mono ?_
      rintro e w3 ⟨z, rfl, _, hr3, hx3⟩
      have hBR3 := hBR.rext hx3 (by omega)
      have hBP3 := hBP.rext hx3 (by omega)
      have hcP3 := hBP3.cells
      have hfP3 := hBP3.frozens
      have hcR3 := hBR3.cells
      have hfR3 := hBR3.frozens
      have hy3 := hx3.size
      have hX3 := hX2.trans hx3
      clear hx3 hX2
      go_wp2
      refine' bodyPost_ret (v := _) ?_ rfl ?_
      rotate_left
      · (simp only [results, Try.results88]
         go_simp
         rfl)
      exact ⟨_, _, rfl, (by exact (hr3.mono (show m + 6 + 1 + 1 ≤ m + 8 by omega)).to (by repeat (first | (with_reducible exact Since.refl (hr3.mono (show m + 6 + 1 + 1 ≤ m + 8 by omega)).le) | (with_reducible refine Since.alloc ?_ _) | (with_reducible refine Since.drew ?_) | (with_reducible refine Since.drewN ?_ _) | (with_reducible refine Since.setCell ?_ ?_ _; rotate_left; (simp only []; omega)) | (with_reducible refine Since.ext ?_ (by assumption))))), (by repeat (first | (with_reducible exact RExt.refl _ _) | (with_reducible assumption) | (with_reducible refine RExt.alloc ?_ _) | (with_reducible refine RExt.drewN ?_ _) | (with_reducible refine RExt.drew ?_) | (with_reducible refine RExt.setCell ?_ (.inr ?_) _; rotate_left; (simp only []; omega)) | (with_reducible refine RExt.trans ?_ (by assumption)) | (with_reducible refine RExt.ext ?_ (by assumption))))⟩
    · go_wp2
      refine' bodyPost_ret (v := _) ?_ rfl ?_
      rotate_left
      · (simp only [results, Try.results88]
         go_simp
         rfl)
      exact ⟨_, _, rfl, (by exact (hr2.mono (show m + 6 + 1 ≤ m + 8 by omega)).to (by repeat (first | (with_reducible exact Since.refl (hr2.mono (show m + 6 + 1 ≤ m + 8 by omega)).le) | (with_reducible refine Since.alloc ?_ _) | (with_reducible refine Since.drew ?_) | (with_reducible refine Since.drewN ?_ _) | (with_reducible refine Since.setCell ?_ ?_ _; rotate_left; (simp only []; omega)) | (with_reducible refine Since.ext ?_ (by assumption))))), (by repeat (first | (with_reducible exact RExt.refl _ _) | (with_reducible assumption) | (with_reducible refine RExt.alloc ?_ _) | (with_reducible refine RExt.drewN ?_ _) | (with_reducible refine RExt.drew ?_) | (with_reducible refine RExt.setCell ?_ (.inr ?_) _; rotate_left; (simp only []; omega)) | (with_reducible refine RExt.trans ?_ (by assumption)) | (with_reducible refine RExt.ext ?_ (by assumption))))⟩
set_option maxHeartbeats 2000000 in
theorem anyPlan_any (n0 B : Nat) (m : Int) (w : World) (hr : Rd n0 w B m) (hm : m + 12 ≤ 1000000) :
    Calls Try.prog 65 #[.pointer (some ⟨B, 0, none⟩)] w fun e w' => ∃ x y f z, e = .returned (.agg #[.int .i64 x, .int .i64 y, .int .i64 f, .int .i64 z]) ∧ Rd n0 w' B (m + 12) ∧ RExt B w w' := by
  have hnw : n0 ≤ w.heap.size := hr.le
  have hBw : B < w.heap.size := (by have := hr.lt; omega)
  go_enter Try.func65, Try.ntmps65
  go_wp2_with fail
  refine (one_lit n0 B _ _ _ _ _ _ (by exact hr.to (by repeat (first | (with_reducible exact Since.refl hr.le) | (with_reducible refine Since.alloc ?_ _) | (with_reducible refine Since.drew ?_) | (with_reducible refine Since.drewN ?_ _) | (with_reducible refine Since.setCell ?_ ?_ _; rotate_left; (simp only []; omega)) | (with_reducible refine Since.ext ?_ (by assumption))))) (by omega) (by simp) (by rfl) (by omega) (by omega) (by simp [intOf])).mono ?_
  rintro e u1 ⟨y, rfl, _, hr1, hx1⟩
  have hz1 := hx1.size
  simp at hz1
  have hB1 : Blk u1 w.heap.size 35 #[.int .i64 0, .int .i64 0, .int .i64 0, .int .i64 0] := by refine Blk.rext ?_ hx1 (by omega); exact (by repeat (first | (with_reducible assumption) | (with_reducible exact Blk.new _ _ _) | exact Blk.newAt _ _ _ (by simp) | (with_reducible refine Blk.alloc ?_ _) | (with_reducible refine Blk.drew ?_) | (with_reducible refine Blk.drewN ?_ _) | refine Blk.far ?_ (by simp only []; omega) _ | refine Blk.rext ?_ (by assumption) (by omega) | refine Blk.ext ?_ (by assumption)))
  go_wp2_with fail
  refine (one_lit n0 B _ _ _ _ _ _ (by exact hr1.to (by repeat (first | (with_reducible exact Since.refl hr1.le) | (with_reducible refine Since.alloc ?_ _) | (with_reducible refine Since.drew ?_) | (with_reducible refine Since.drewN ?_ _) | (with_reducible refine Since.setCell ?_ ?_ _; rotate_left; (simp only []; omega)) | (with_reducible refine Since.ext ?_ (by assumption))))) (by omega) (by simp) (by rfl) (by omega) (by omega) (by simp [intOf])).mono ?_
  rintro e u2 ⟨f, rfl, _, hr2, hx2⟩
  have hz2 := hx2.size
  have hB2 : Blk u2 w.heap.size 35 #[.int .i64 0, .int .i64 0, .int .i64 0, .int .i64 0] := by refine Blk.rext ?_ hx2 (by omega); exact (by repeat (first | (with_reducible assumption) | (with_reducible exact Blk.new _ _ _) | exact Blk.newAt _ _ _ (by simp) | (with_reducible refine Blk.alloc ?_ _) | (with_reducible refine Blk.drew ?_) | (with_reducible refine Blk.drewN ?_ _) | refine Blk.far ?_ (by simp only []; omega) _ | refine Blk.rext ?_ (by assumption) (by omega) | refine Blk.ext ?_ (by assumption)))
  go_wp2_with fail
  refine (one_lit n0 B _ _ _ _ _ _ (by exact hr2.to (by repeat (first | (with_reducible exact Since.refl hr2.le) | (with_reducible refine Since.alloc ?_ _) | (with_reducible refine Since.drew ?_) | (with_reducible refine Since.drewN ?_ _) | (with_reducible refine Since.setCell ?_ ?_ _; rotate_left; (simp only []; omega)) | (with_reducible refine Since.ext ?_ (by assumption))))) (by omega) (by simp) (by rfl) (by omega) (by omega) (by simp [intOf])).mono ?_
  rintro e w1 ⟨z, rfl, _, hr3, hx3⟩
  have hz3 := hx3.size
  have hB3 : Blk w1 w.heap.size 35 #[.int .i64 0, .int .i64 0, .int .i64 0, .int .i64 0] := by refine Blk.rext ?_ hx3 (by omega); exact (by repeat (first | (with_reducible assumption) | (with_reducible exact Blk.new _ _ _) | exact Blk.newAt _ _ _ (by simp) | (with_reducible refine Blk.alloc ?_ _) | (with_reducible refine Blk.drew ?_) | (with_reducible refine Blk.drewN ?_ _) | refine Blk.far ?_ (by simp only []; omega) _ | refine Blk.rext ?_ (by assumption) (by omega) | refine Blk.ext ?_ (by assumption)))
  go_wp2_with fail
  refine (pick_any n0 B _ 16 _ (by exact hr3.to (by repeat (first | (with_reducible exact Since.refl hr3.le) | (with_reducible refine Since.alloc ?_ _) | (with_reducible refine Since.drew ?_) | (with_reducible refine Since.drewN ?_ _) | (with_reducible refine Since.setCell ?_ ?_ _; rotate_left; (simp only []; omega)) | (with_reducible refine Since.ext ?_ (by assumption))))) (by omega) (by omega) (by omega)).mono ?_
  rintro e w2 ⟨d, rfl, d0, d1, hr2, hx4⟩
  have hz4 := hx4.size
  simp at hz4
  have hBR : Blk w2 w.heap.size 35 #[.int .i64 0, .int .i64 0, .int .i64 0, .int .i64 0] := by refine Blk.rext ?_ hx4 (by omega); exact (by repeat (first | (with_reducible assumption) | (with_reducible exact Blk.new _ _ _) | exact Blk.newAt _ _ _ (by simp) | (with_reducible refine Blk.alloc ?_ _) | (with_reducible refine Blk.drew ?_) | (with_reducible refine Blk.drewN ?_ _) | refine Blk.far ?_ (by simp only []; omega) _ | refine Blk.rext ?_ (by assumption) (by omega) | refine Blk.ext ?_ (by assumption)))
  have hBP : Blk w2 w1.heap.size 35 #[.int .i64 2560, .int .i64 y, .int .i64 f, .int .i64 z] := by refine Blk.rext ?_ hx4 (by omega); exact (by repeat (first | (with_reducible assumption) | (with_reducible exact Blk.new _ _ _) | exact Blk.newAt _ _ _ (by simp) | (with_reducible refine Blk.alloc ?_ _) | (with_reducible refine Blk.drew ?_) | (with_reducible refine Blk.drewN ?_ _) | refine Blk.far ?_ (by simp only []; omega) _ | refine Blk.rext ?_ (by assumption) (by omega) | refine Blk.ext ?_ (by assumption)))
  have hX2 : RExt B w w2 := (by repeat (first | (with_reducible exact RExt.refl _ _) | (with_reducible assumption) | (with_reducible refine RExt.alloc ?_ _) | (with_reducible refine RExt.drewN ?_ _) | (with_reducible refine RExt.drew ?_) | (with_reducible refine RExt.setCell ?_ (.inr ?_) _; rotate_left; (simp only []; omega)) | (with_reducible refine RExt.trans ?_ (by assumption)) | (with_reducible refine RExt.ext ?_ (by assumption))))
  have hwl : w.heap.size < w2.heap.size := by omega
  have hPl : w1.heap.size < w2.heap.size := by omega
  have hBl2 : B < w2.heap.size := by omega
  have hw1 : w.heap.size < w1.heap.size := by omega
  clear hx1 hx2 hx3 hx4 hr1 hr3 hz1 hz2 hz3 hz4 hB1 hB2 hB3
  generalize w1.heap.size = P at *
  have hcP := hBP.cells
  have hfP := hBP.frozens
  have hcR := hBR.cells
  have hfR := hBR.frozens
  by_cases e0 : d = 0
  · subst e0
    go_wp2_with fail
    refine (anyNet_any n0 B _ _ hr2 (by omega)).mono ?_
    rintro e w3 ⟨x3, y3, rfl, hr3, hx3⟩
    have hBR3 := hBR.rext hx3 (by omega)
    have hBP3 := hBP.rext hx3 (by omega)
    have hcP3 := hBP3.cells
    have hfP3 := hBP3.frozens
    have hcR3 := hBR3.cells
    have hfR3 := hBR3.frozens
    have hy3 := hx3.size
    have hX3 := hX2.trans hx3
    clear hx3 hX2
    go_wp2
    refine' bodyPost_ret (v := _) ?_ rfl ?_
    rotate_left
    · (simp only [results, Try.results65]
       go_simp
       rfl)
    exact ⟨_, _, _, _, rfl, (by exact (hr3.mono (show m + 1 + 1 + 1 + 1 + 8 ≤ m + 12 by omega)).to (by repeat (first | (with_reducible exact Since.refl (hr3.mono (show m + 1 + 1 + 1 + 1 + 8 ≤ m + 12 by omega)).le) | (with_reducible refine Since.alloc ?_ _) | (with_reducible refine Since.drew ?_) | (with_reducible refine Since.drewN ?_ _) | (with_reducible refine Since.setCell ?_ ?_ _; rotate_left; (simp only []; omega)) | (with_reducible refine Since.ext ?_ (by assumption))))), (by repeat (first | (with_reducible exact RExt.refl _ _) | (with_reducible assumption) | (with_reducible refine RExt.alloc ?_ _) | (with_reducible refine RExt.drewN ?_ _) | (with_reducible refine RExt.drew ?_) | (with_reducible refine RExt.setCell ?_ (.inr ?_) _; rotate_left; (simp only []; omega)) | (with_reducible refine RExt.trans ?_ (by assumption)) | (with_reducible refine RExt.ext ?_ (by assumption))))⟩
  by_cases e1 : d = 1 ∨ d = 2
  · rcases e1 with rfl | rfl
    all_goals
      go_wp2_with fail
      refine (one_lit n0 B _ _ _ _ _ _ hr2 (by omega) (by simp) (by rfl) (by omega) (by omega) (by simp [intOf])).mono ?_
      rintro e w3 ⟨t, rfl, _, hr3, hx3⟩
      have hBR3 := hBR.rext hx3 (by omega)
      have hBP3 := hBP.rext hx3 (by omega)
      have hcP3 := hBP3.cells
      have hfP3 := hBP3.frozens
      have hcR3 := hBR3.cells
      have hfR3 := hBR3.frozens
      have hy3 := hx3.size
      have hX3 := hX2.trans hx3
      clear hx3 hX2
      go_wp2
      refine' bodyPost_ret (v := _) ?_ rfl ?_
      rotate_left
      · (simp only [results, Try.results65]
         go_simp
         rfl)
      exact ⟨_, _, _, _, rfl, (by exact (hr3.mono (show m + 1 + 1 + 1 + 1 + 1 ≤ m + 12 by omega)).to (by repeat (first | (with_reducible exact Since.refl (hr3.mono (show m + 1 + 1 + 1 + 1 + 1 ≤ m + 12 by omega)).le) | (with_reducible refine Since.alloc ?_ _) | (with_reducible refine Since.drew ?_) | (with_reducible refine Since.drewN ?_ _) | (with_reducible refine Since.setCell ?_ ?_ _; rotate_left; (simp only []; omega)) | (with_reducible refine Since.ext ?_ (by assumption))))), (by repeat (first | (with_reducible exact RExt.refl _ _) | (with_reducible assumption) | (with_reducible refine RExt.alloc ?_ _) | (with_reducible refine RExt.drewN ?_ _) | (with_reducible refine RExt.drew ?_) | (with_reducible refine RExt.setCell ?_ (.inr ?_) _; rotate_left; (simp only []; omega)) | (with_reducible refine RExt.trans ?_ (by assumption)) | (with_reducible refine RExt.ext ?_ (by assumption))))⟩
  · have e2 : ¬ d = 1 := fun h => e1 (.inl h)
    have e3 : ¬ d = 2 := fun h => e1 (.inr h)
    go_wp2
    refine' bodyPost_ret (v := _) ?_ rfl ?_
    rotate_left
    · (simp only [results, Try.results65]
       go_simp
       rfl)
    exact ⟨_, _, _, _, rfl, (by exact (hr2.mono (show m + 1 + 1 + 1 + 1 ≤ m + 12 by omega)).to (by repeat (first | (with_reducible exact Since.refl (hr2.mono (show m + 1 + 1 + 1 + 1 ≤ m + 12 by omega)).le) | (with_reducible refine Since.alloc ?_ _) | (with_reducible refine Since.drew ?_) | (with_reducible refine Since.drewN ?_ _) | (with_reducible refine Since.setCell ?_ ?_ _; rotate_left; (simp only []; omega)) | (with_reducible refine Since.ext ?_ (by assumption))))), (by repeat (first | (with_reducible exact RExt.refl _ _) | (with_reducible assumption) | (with_reducible refine RExt.alloc ?_ _) | (with_reducible refine RExt.drewN ?_ _) | (with_reducible refine RExt.drew ?_) | (with_reducible refine RExt.setCell ?_ (.inr ?_) _; rotate_left; (simp only []; omega)) | (with_reducible refine RExt.trans ?_ (by assumption)) | (with_reducible refine RExt.ext ?_ (by assumption))))⟩
theorem DrawValidPlan_any (a : Option Addr) (n c : Nat) (w : World) (hc : Code w a n c) :
    Calls Try.prog 33 #[.slice a n c] w fun e w' => ∃ x y f z, e = .returned (.agg #[.int .i64 x, .int .i64 y, .int .i64 f, .int .i64 z]) ∧ Ext w w' := by
  obtain ⟨zs, hs, hz⟩ := hc
  go_enter Try.func33, Try.ntmps33
  go_wp2_with fail
  refine (newReader_any a n c zs _ (hs.ext (by repeat (first | (with_reducible exact Ext.refl _) | (with_reducible assumption) | (with_reducible refine Ext.alloc ?_ _) | (with_reducible refine Ext.drewN ?_ _) | (with_reducible refine Ext.drew ?_) | (with_reducible refine Ext.setCell ?_ ?_ _; rotate_left; (simp only []; omega)) | (with_reducible refine Ext.trans ?_ (by assumption))))) hz).mono ?_
  rintro e w1 ⟨B, rfl, hB, hr, hx⟩
  have hy := hx.size
  simp at hy
  simp at hB
  go_wp2_with fail
  refine (anyPlan_any _ B _ _ hr (by omega)).mono ?_
  rintro e w2 ⟨x, y, f, z, rfl, hr2, hx2⟩
  have hBR : Blk w2 w.heap.size 35 #[.int .i64 0, .int .i64 0, .int .i64 0, .int .i64 0] := by refine Blk.rext ?_ hx2 (by omega); exact (by repeat (first | (with_reducible assumption) | (with_reducible exact Blk.new _ _ _) | exact Blk.newAt _ _ _ (by simp) | (with_reducible refine Blk.alloc ?_ _) | (with_reducible refine Blk.drew ?_) | (with_reducible refine Blk.drewN ?_ _) | refine Blk.far ?_ (by simp only []; omega) _ | refine Blk.rext ?_ (by assumption) (by omega) | refine Blk.ext ?_ (by assumption)))
  have hcR := hBR.cells
  have hfR := hBR.frozens
  have hX : Ext w w2 := RExt.new (Ext.trans ((Ext.refl w).alloc _) hx) hx2 (by omega)
  clear hx hx2
  go_wp2
  refine' bodyPost_ret (v := _) ?_ rfl ?_
  rotate_left
  · (simp only [results, Try.results33]
     go_simp
     rfl)
  exact ⟨x, y, f, z, rfl, (by repeat (first | (with_reducible exact Ext.refl _) | (with_reducible assumption) | (with_reducible refine Ext.alloc ?_ _) | (with_reducible refine Ext.drewN ?_ _) | (with_reducible refine Ext.drew ?_) | (with_reducible refine Ext.setCell ?_ ?_ _; rotate_left; (simp only []; omega)) | (with_reducible refine Ext.trans ?_ (by assumption))))⟩
theorem validPlan_one {n : NetD} {f z : Int} (h : validPlan ⟨n, f, z⟩ = true) : validPlan ⟨n, f, 1⟩ = true := by
  simp only [validPlan, Bool.and_eq_true, decide_eq_true_eq, inR_iff] at h ⊢
  have h1 := netSize_pos n.bits
  have h2 : 1 * netSize n.bits ≤ z * netSize n.bits := Int.mul_le_mul_of_nonneg_right (by omega) (by omega)
  refine ⟨⟨⟨h.1.1.1, h.1.1.2⟩, by omega⟩, by omega⟩
theorem law_FnValidPlan (a : Option Addr) (n c : Nat) (u : World) (hc : Code u a n c) : Calls Try.prog 13 #[.slice a n c] u fun e w' => e = .returned (.bool true) ∧ Ext u w' := by
  by_cases hn : n ≤ 1048576
  · go_enter Try.func13, Try.ntmps13
    go_wp2_with fail
    refine (DrawValidPlan_any a n c _ hc).mono ?_
    rintro e w ⟨x, y, f, z, rfl, hx⟩
    cases hv : validPlan ⟨⟨x, y⟩, f, z⟩ with
    | false =>
      go_wp2_with (first | (go_at_call 25; refine (spec_ValidPlan _ _ _ _ _).mono ?_; rintro e w1 ⟨rfl, hx⟩; have hc := hx.cells; have hf := hx.frozens; have hy := hx.size; (try simp at hy); have hz : w.heap.size < w1.heap.size := (by omega)) | (go_at_call 27; refine (impl_ValidPlan _ _ _ _ _).mono ?_; rintro e w1 ⟨rfl, hx⟩; have hc := hx.cells; have hf := hx.frozens; have hy := hx.size; (try simp at hy); have hz : w.heap.size < w1.heap.size := (by omega)))
      go_ret
      exact ⟨rfl, (by repeat (first | (with_reducible exact Ext.refl _) | (with_reducible assumption) | (with_reducible refine Ext.alloc ?_ _) | (with_reducible refine Ext.drewN ?_ _) | (with_reducible refine Ext.drew ?_) | (with_reducible refine Ext.setCell ?_ ?_ _; rotate_left; (simp only []; omega)) | (with_reducible refine Ext.trans ?_ (by assumption))))⟩
    | true =>
      have h1 : validPlan ⟨⟨x, y⟩, f, 1⟩ = true := validPlan_one hv
      have h2 : validNet ⟨x, y⟩ = true := by
        have h3 := hv
        simp only [validPlan, Bool.and_eq_true] at h3
        exact h3.1.1.1.1
      go_wp2_with (first | (go_at_call 25; refine (spec_ValidPlan _ _ _ _ _).mono ?_; rintro e w1 ⟨rfl, hx⟩; have hc := hx.cells; have hf := hx.frozens; have hy := hx.size; (try simp at hy); have hz : w.heap.size < w1.heap.size := (by omega)) | (go_at_call 27; refine (impl_ValidPlan _ _ _ _ _).mono ?_; rintro e w1 ⟨rfl, hx⟩; have hc := hx.cells; have hf := hx.frozens; have hy := hx.size; (try simp at hy); have hz : w.heap.size < w1.heap.size := (by omega)) | (go_at_call 34; refine (impl_ValidNet _ _ _).mono ?_; rintro e w1 ⟨rfl, hx⟩; have hc := hx.cells; have hf := hx.frozens; have hy := hx.size; (try simp at hy); have hz : w.heap.size < w1.heap.size := (by omega)))
      go_ret
      exact ⟨rfl, (by repeat (first | (with_reducible exact Ext.refl _) | (with_reducible assumption) | (with_reducible refine Ext.alloc ?_ _) | (with_reducible refine Ext.drewN ?_ _) | (with_reducible refine Ext.drew ?_) | (with_reducible refine Ext.setCell ?_ ?_ _; rotate_left; (simp only []; omega)) | (with_reducible refine Ext.trans ?_ (by assumption))))⟩
  · go_enter Try.func13, Try.ntmps13
    go_wp2
    go_ret
    exact ⟨rfl, Ext.refl _⟩
end Go.Proofs.Ytdjbjldmlfhigaa
