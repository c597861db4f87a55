/- The laws on packets that are sent out, further, walked. -/
import Derived.Test.YtppdcglnopoocaaKn
import Derived.Test.YtppdcglnopoocaaKm
import Derived.Test.YtppdcglnopoocaaKl
namespace Go.Proofs.Ytppdcglnopoocaa
set_option linter.unusedVariables false
set_option linter.unusedSimpArgs false
open Go.RowKit

set_option maxHeartbeats 4000000 in
theorem law_FnSendOutContact (a : Option Addr) (n c : Nat) (u : World) (hc : Code u a n c) : Calls Try.prog 5 #[.slice a n c] u fun e w' => e = .returned (.bool true) ∧ Ext u w' := by
  by_cases hn : n ≤ 1048576
  rotate_left
  · go_enter Try.func5, Try.ntmps5
    go_wp2
    go_ret
    exact ⟨rfl, Ext.refl _⟩
  · go_enter Try.func5, Try.ntmps5
    go_wp2_with fail
    refine (DrawSendOut_any a n c _ hc).mono ?_
    rintro e w ⟨g, p, ta, tn, tc, ka, kn, kc, sa, sn, sc, rfl, T0, K0, S0, _, _, _, XU⟩
    go_wp2_with fail
    refine (impl_SendOut g p ta tn tc ka kn kc sa sn sc _ (by exact T0.ext (by repeat (first | (with_reducible exact Ext.refl _) | (with_reducible assumption) | (with_reducible refine Ext.alloc ?_ _) | (with_reducible refine Ext.drewN ?_ _) | (with_reducible refine Ext.drew ?_) | (with_reducible refine Ext.setCell ?_ ?_ _; rotate_left; (simp only []; omega)) | (with_reducible refine Ext.trans ?_ (by assumption))))) (by exact K0.ext (by repeat (first | (with_reducible exact Ext.refl _) | (with_reducible assumption) | (with_reducible refine Ext.alloc ?_ _) | (with_reducible refine Ext.drewN ?_ _) | (with_reducible refine Ext.drew ?_) | (with_reducible refine Ext.setCell ?_ ?_ _; rotate_left; (simp only []; omega)) | (with_reducible refine Ext.trans ?_ (by assumption))))) (by exact S0.ext (by repeat (first | (with_reducible exact Ext.refl _) | (with_reducible assumption) | (with_reducible refine Ext.alloc ?_ _) | (with_reducible refine Ext.drewN ?_ _) | (with_reducible refine Ext.drew ?_) | (with_reducible refine Ext.setCell ?_ ?_ _; rotate_left; (simp only []; omega)) | (with_reducible refine Ext.trans ?_ (by assumption)))))).mono ?_
    rintro e w1 ⟨A1, n1, C1, xa, xn, xc, ya, yn, yc, rfl, O1, O2, O3, hx1⟩
    have hy1 := hx1.size
    (try simp at hy1)
    have eW1 := useE (fun (h : Ext _ w1) => T0.ext h) (by repeat (first | (with_reducible exact Ext.refl _) | (with_reducible assumption) | (with_reducible refine Ext.alloc ?_ _) | (with_reducible refine Ext.drewN ?_ _) | (with_reducible refine Ext.drew ?_) | (with_reducible refine Ext.setCell ?_ ?_ _; rotate_left; (simp only []; omega)) | (with_reducible refine Ext.trans ?_ (by assumption))))
    replace T0 := T0.ext eW1
    replace K0 := K0.ext eW1
    replace S0 := S0.ext eW1
    have BG : Blk w1 w.heap.size 28 (#[.int .i64 g.net.base, .int .i64 g.net.bits, .int .i64 g.out, .slice ta tn tc, .slice ka kn kc, .int .i64 g.filter, .int .i64 g.hold, .int .i64 g.now]) := by refine Blk.ext ?_ hx1; exact (by repeat (first | (with_reducible assumption) | (with_reducible exact Blk.new _ _ _) | exact Blk.newAt _ _ _ (by simp) | (with_reducible refine Blk.alloc ?_ _) | (with_reducible refine Blk.drew ?_) | (with_reducible refine Blk.drewN ?_ _) | refine Blk.far ?_ (by simp only []; omega) _ | refine Blk.rext ?_ (by assumption) (by omega) | refine Blk.ext ?_ (by assumption)))
    have BP : Blk w1 (w.heap.size+1) 33 (#[.int .i64 p.kind, .int .i64 p.fr.addr, .int .i64 p.fr.port, .int .i64 p.to_.addr, .int .i64 p.to_.port, .slice sa sn sc]) := by refine Blk.ext ?_ hx1; exact (by repeat (first | (with_reducible assumption) | (with_reducible exact Blk.new _ _ _) | exact Blk.newAt _ _ _ (by simp) | (with_reducible refine Blk.alloc ?_ _) | (with_reducible refine Blk.drew ?_) | (with_reducible refine Blk.drewN ?_ _) | refine Blk.far ?_ (by simp only []; omega) _ | refine Blk.rext ?_ (by assumption) (by omega) | refine Blk.ext ?_ (by assumption)))
    replace XU := XU.ext eW1
    have cBG := BG.cells
    have fBG := BG.frozens
    have zBG := BG.lt
    have cBP := BP.cells
    have fBP := BP.frozens
    have zBP := BP.lt
    obtain ⟨r, hr⟩ : ∃ r, r = sendOut g p := ⟨_, rfl⟩
    rw [← hr] at O1 O2 O3 ⊢
    replace hr := Lib.hid hr
    go_wp2_with fail
    refine (spec_SendOut g p ta tn tc ka kn kc sa sn sc _ (by exact T0.ext (by repeat (first | (with_reducible exact Ext.refl _) | (with_reducible assumption) | (with_reducible refine Ext.alloc ?_ _) | (with_reducible refine Ext.drewN ?_ _) | (with_reducible refine Ext.drew ?_) | (with_reducible refine Ext.setCell ?_ ?_ _; rotate_left; (simp only []; omega)) | (with_reducible refine Ext.trans ?_ (by assumption))))) (by exact K0.ext (by repeat (first | (with_reducible exact Ext.refl _) | (with_reducible assumption) | (with_reducible refine Ext.alloc ?_ _) | (with_reducible refine Ext.drewN ?_ _) | (with_reducible refine Ext.drew ?_) | (with_reducible refine Ext.setCell ?_ ?_ _; rotate_left; (simp only []; omega)) | (with_reducible refine Ext.trans ?_ (by assumption))))) (by exact S0.ext (by repeat (first | (with_reducible exact Ext.refl _) | (with_reducible assumption) | (with_reducible refine Ext.alloc ?_ _) | (with_reducible refine Ext.drewN ?_ _) | (with_reducible refine Ext.drew ?_) | (with_reducible refine Ext.setCell ?_ ?_ _; rotate_left; (simp only []; omega)) | (with_reducible refine Ext.trans ?_ (by assumption)))))).mono ?_
    rintro e w2 ⟨A2, n2, C2, xb, xm, xd, yb, ym, yd, rfl, O4, O5, O6, hx2⟩
    have hy2 := hx2.size
    (try simp at hy2)
    have eW2 := useE (fun (h : Ext _ w2) => T0.ext h) (by repeat (first | (with_reducible exact Ext.refl _) | (with_reducible assumption) | (with_reducible refine Ext.alloc ?_ _) | (with_reducible refine Ext.drewN ?_ _) | (with_reducible refine Ext.drew ?_) | (with_reducible refine Ext.setCell ?_ ?_ _; rotate_left; (simp only []; omega)) | (with_reducible refine Ext.trans ?_ (by assumption))))
    replace T0 := T0.ext eW2
    replace K0 := K0.ext eW2
    replace S0 := S0.ext eW2
    clear cBG fBG zBG
    replace BG := BG.ext eW2
    clear cBP fBP zBP
    replace BP := BP.ext eW2
    replace O1 := O1.ext eW2
    replace O2 := O2.ext eW2
    replace O3 := O3.ext eW2
    have BQ : Blk w2 w1.heap.size 33 (#[.int .i64 (rP r).kind, .int .i64 (rP r).fr.addr, .int .i64 (rP r).fr.port, .int .i64 (rP r).to_.addr, .int .i64 (rP r).to_.port, .slice A1 n1 C1]) := by refine Blk.ext ?_ hx2; exact (by repeat (first | (with_reducible assumption) | (with_reducible exact Blk.new _ _ _) | exact Blk.newAt _ _ _ (by simp) | (with_reducible refine Blk.alloc ?_ _) | (with_reducible refine Blk.drew ?_) | (with_reducible refine Blk.drewN ?_ _) | refine Blk.far ?_ (by simp only []; omega) _ | refine Blk.rext ?_ (by assumption) (by omega) | refine Blk.ext ?_ (by assumption)))
    have BH : Blk w2 (w1.heap.size+1) 28 (#[.int .i64 (rG r).net.base, .int .i64 (rG r).net.bits, .int .i64 (rG r).out, .slice xa xn xc, .slice ya yn yc, .int .i64 (rG r).filter, .int .i64 (rG r).hold, .int .i64 (rG r).now]) := by refine Blk.ext ?_ hx2; exact (by repeat (first | (with_reducible assumption) | (with_reducible exact Blk.new _ _ _) | exact Blk.newAt _ _ _ (by simp) | (with_reducible refine Blk.alloc ?_ _) | (with_reducible refine Blk.drew ?_) | (with_reducible refine Blk.drewN ?_ _) | refine Blk.far ?_ (by simp only []; omega) _ | refine Blk.rext ?_ (by assumption) (by omega) | refine Blk.ext ?_ (by assumption)))
    replace XU := XU.ext eW2
    have cBG := BG.cells
    have fBG := BG.frozens
    have zBG := BG.lt
    have cBP := BP.cells
    have fBP := BP.frozens
    have zBP := BP.lt
    have cBQ := BQ.cells
    have fBQ := BQ.frozens
    have zBQ := BQ.lt
    have cBH := BH.cells
    have fBH := BH.frozens
    have zBH := BH.lt
    rw [← hr.out] at O4 O5 O6 ⊢
    go_wp2_with fail
    refine (equalPacket_ow (rP r) A1 A2 n1 n2 C1 C2 _ (by exact (O1.sl encI_len).ext (by repeat (first | (with_reducible exact Ext.refl _) | (with_reducible assumption) | (with_reducible refine Ext.alloc ?_ _) | (with_reducible refine Ext.drewN ?_ _) | (with_reducible refine Ext.drew ?_) | (with_reducible refine Ext.setCell ?_ ?_ _; rotate_left; (simp only []; omega)) | (with_reducible refine Ext.trans ?_ (by assumption))))) (by exact (O4.sl encI_len).ext (by repeat (first | (with_reducible exact Ext.refl _) | (with_reducible assumption) | (with_reducible refine Ext.alloc ?_ _) | (with_reducible refine Ext.drewN ?_ _) | (with_reducible refine Ext.drew ?_) | (with_reducible refine Ext.setCell ?_ ?_ _; rotate_left; (simp only []; omega)) | (with_reducible refine Ext.trans ?_ (by assumption)))))).mono ?_
    rintro e w3 ⟨rfl, hx3⟩
    have hy3 := hx3.size
    (try simp at hy3)
    have eW3 := useE (fun (h : Ext _ w3) => T0.ext h) (by repeat (first | (with_reducible exact Ext.refl _) | (with_reducible assumption) | (with_reducible refine Ext.alloc ?_ _) | (with_reducible refine Ext.drewN ?_ _) | (with_reducible refine Ext.drew ?_) | (with_reducible refine Ext.setCell ?_ ?_ _; rotate_left; (simp only []; omega)) | (with_reducible refine Ext.trans ?_ (by assumption))))
    replace T0 := T0.ext eW3
    replace K0 := K0.ext eW3
    replace S0 := S0.ext eW3
    clear cBG fBG zBG
    replace BG := BG.ext eW3
    clear cBP fBP zBP
    replace BP := BP.ext eW3
    replace O1 := O1.ext eW3
    replace O2 := O2.ext eW3
    replace O3 := O3.ext eW3
    clear cBQ fBQ zBQ
    replace BQ := BQ.ext eW3
    clear cBH fBH zBH
    replace BH := BH.ext eW3
    replace O4 := O4.ext eW3
    replace O5 := O5.ext eW3
    replace O6 := O6.ext eW3
    have BV : Blk w3 w2.heap.size 33 (#[.int .i64 (rP r).kind, .int .i64 (rP r).fr.addr, .int .i64 (rP r).fr.port, .int .i64 (rP r).to_.addr, .int .i64 (rP r).to_.port, .slice A2 n2 C2]) := by refine Blk.ext ?_ hx3; exact (by repeat (first | (with_reducible assumption) | (with_reducible exact Blk.new _ _ _) | exact Blk.newAt _ _ _ (by simp) | (with_reducible refine Blk.alloc ?_ _) | (with_reducible refine Blk.drew ?_) | (with_reducible refine Blk.drewN ?_ _) | refine Blk.far ?_ (by simp only []; omega) _ | refine Blk.rext ?_ (by assumption) (by omega) | refine Blk.ext ?_ (by assumption)))
    have BW : Blk w3 (w2.heap.size+1) 28 (#[.int .i64 (rG r).net.base, .int .i64 (rG r).net.bits, .int .i64 (rG r).out, .slice xb xm xd, .slice yb ym yd, .int .i64 (rG r).filter, .int .i64 (rG r).hold, .int .i64 (rG r).now]) := by refine Blk.ext ?_ hx3; exact (by repeat (first | (with_reducible assumption) | (with_reducible exact Blk.new _ _ _) | exact Blk.newAt _ _ _ (by simp) | (with_reducible refine Blk.alloc ?_ _) | (with_reducible refine Blk.drew ?_) | (with_reducible refine Blk.drewN ?_ _) | refine Blk.far ?_ (by simp only []; omega) _ | refine Blk.rext ?_ (by assumption) (by omega) | refine Blk.ext ?_ (by assumption)))
    replace XU := XU.ext eW3
    have cBG := BG.cells
    have fBG := BG.frozens
    have zBG := BG.lt
    have cBP := BP.cells
    have fBP := BP.frozens
    have zBP := BP.lt
    have cBQ := BQ.cells
    have fBQ := BQ.frozens
    have zBQ := BQ.lt
    have cBH := BH.cells
    have fBH := BH.frozens
    have zBH := BH.lt
    have cBV := BV.cells
    have fBV := BV.frozens
    have zBV := BV.lt
    have cBW := BW.cells
    have fBW := BW.frozens
    have zBW := BW.lt
    go_wp2_with fail
    refine (equalGate_ow (rG r) xa xn xc ya yn yc xb xm xd yb ym yd _ (by exact (O2.sl encM_len).ext (by repeat (first | (with_reducible exact Ext.refl _) | (with_reducible assumption) | (with_reducible refine Ext.alloc ?_ _) | (with_reducible refine Ext.drewN ?_ _) | (with_reducible refine Ext.drew ?_) | (with_reducible refine Ext.setCell ?_ ?_ _; rotate_left; (simp only []; omega)) | (with_reducible refine Ext.trans ?_ (by assumption))))) (by exact (O3.sl encC_len).ext (by repeat (first | (with_reducible exact Ext.refl _) | (with_reducible assumption) | (with_reducible refine Ext.alloc ?_ _) | (with_reducible refine Ext.drewN ?_ _) | (with_reducible refine Ext.drew ?_) | (with_reducible refine Ext.setCell ?_ ?_ _; rotate_left; (simp only []; omega)) | (with_reducible refine Ext.trans ?_ (by assumption))))) (by exact (O5.sl encM_len).ext (by repeat (first | (with_reducible exact Ext.refl _) | (with_reducible assumption) | (with_reducible refine Ext.alloc ?_ _) | (with_reducible refine Ext.drewN ?_ _) | (with_reducible refine Ext.drew ?_) | (with_reducible refine Ext.setCell ?_ ?_ _; rotate_left; (simp only []; omega)) | (with_reducible refine Ext.trans ?_ (by assumption))))) (by exact (O6.sl encC_len).ext (by repeat (first | (with_reducible exact Ext.refl _) | (with_reducible assumption) | (with_reducible refine Ext.alloc ?_ _) | (with_reducible refine Ext.drewN ?_ _) | (with_reducible refine Ext.drew ?_) | (with_reducible refine Ext.setCell ?_ ?_ _; rotate_left; (simp only []; omega)) | (with_reducible refine Ext.trans ?_ (by assumption)))))).mono ?_
    rintro e w4 ⟨rfl, hx4⟩
    have hy4 := hx4.size
    (try simp at hy4)
    have eW4 := useE (fun (h : Ext _ w4) => T0.ext h) (by repeat (first | (with_reducible exact Ext.refl _) | (with_reducible assumption) | (with_reducible refine Ext.alloc ?_ _) | (with_reducible refine Ext.drewN ?_ _) | (with_reducible refine Ext.drew ?_) | (with_reducible refine Ext.setCell ?_ ?_ _; rotate_left; (simp only []; omega)) | (with_reducible refine Ext.trans ?_ (by assumption))))
    replace T0 := T0.ext eW4
    replace K0 := K0.ext eW4
    replace S0 := S0.ext eW4
    clear cBG fBG zBG
    replace BG := BG.ext eW4
    clear cBP fBP zBP
    replace BP := BP.ext eW4
    replace O1 := O1.ext eW4
    replace O2 := O2.ext eW4
    replace O3 := O3.ext eW4
    clear cBQ fBQ zBQ
    replace BQ := BQ.ext eW4
    clear cBH fBH zBH
    replace BH := BH.ext eW4
    replace O4 := O4.ext eW4
    replace O5 := O5.ext eW4
    replace O6 := O6.ext eW4
    clear cBV fBV zBV
    replace BV := BV.ext eW4
    clear cBW fBW zBW
    replace BW := BW.ext eW4
    replace XU := XU.ext eW4
    have cBG := BG.cells
    have fBG := BG.frozens
    have zBG := BG.lt
    have cBP := BP.cells
    have fBP := BP.frozens
    have zBP := BP.lt
    have cBQ := BQ.cells
    have fBQ := BQ.frozens
    have zBQ := BQ.lt
    have cBH := BH.cells
    have fBH := BH.frozens
    have zBH := BH.lt
    have cBV := BV.cells
    have fBV := BV.frozens
    have zBV := BV.lt
    have cBW := BW.cells
    have fBW := BW.frozens
    have zBW := BW.lt
    obtain ⟨ok, hok⟩ : ∃ ok, ok = r.isSome := ⟨_, rfl⟩
    rw [← hok]
    cases ok with
    | false =>
      clear hok
      go_wp2_with fail
      refine (equalPacket_ow (rP r) A1 A2 n1 n2 C1 C2 _ (by exact (O1.sl encI_len).ext (by repeat (first | (with_reducible exact Ext.refl _) | (with_reducible assumption) | (with_reducible refine Ext.alloc ?_ _) | (with_reducible refine Ext.drewN ?_ _) | (with_reducible refine Ext.drew ?_) | (with_reducible refine Ext.setCell ?_ ?_ _; rotate_left; (simp only []; omega)) | (with_reducible refine Ext.trans ?_ (by assumption))))) (by exact (O4.sl encI_len).ext (by repeat (first | (with_reducible exact Ext.refl _) | (with_reducible assumption) | (with_reducible refine Ext.alloc ?_ _) | (with_reducible refine Ext.drewN ?_ _) | (with_reducible refine Ext.drew ?_) | (with_reducible refine Ext.setCell ?_ ?_ _; rotate_left; (simp only []; omega)) | (with_reducible refine Ext.trans ?_ (by assumption)))))).mono ?_
      rintro e w5 ⟨rfl, hx5⟩
      have hy5 := hx5.size
      (try simp at hy5)
      have eW5 := useE (fun (h : Ext _ w5) => T0.ext h) (by repeat (first | (with_reducible exact Ext.refl _) | (with_reducible assumption) | (with_reducible refine Ext.alloc ?_ _) | (with_reducible refine Ext.drewN ?_ _) | (with_reducible refine Ext.drew ?_) | (with_reducible refine Ext.setCell ?_ ?_ _; rotate_left; (simp only []; omega)) | (with_reducible refine Ext.trans ?_ (by assumption))))
      replace T0 := T0.ext eW5
      replace K0 := K0.ext eW5
      replace S0 := S0.ext eW5
      clear cBG fBG zBG
      replace BG := BG.ext eW5
      clear cBP fBP zBP
      replace BP := BP.ext eW5
      replace O1 := O1.ext eW5
      replace O2 := O2.ext eW5
      replace O3 := O3.ext eW5
      clear cBQ fBQ zBQ
      replace BQ := BQ.ext eW5
      clear cBH fBH zBH
      replace BH := BH.ext eW5
      replace O4 := O4.ext eW5
      replace O5 := O5.ext eW5
      replace O6 := O6.ext eW5
      clear cBV fBV zBV
      replace BV := BV.ext eW5
      clear cBW fBW zBW
      replace BW := BW.ext eW5
      replace XU := XU.ext eW5
      have cBG := BG.cells
      have fBG := BG.frozens
      have zBG := BG.lt
      have cBP := BP.cells
      have fBP := BP.frozens
      have zBP := BP.lt
      have cBQ := BQ.cells
      have fBQ := BQ.frozens
      have zBQ := BQ.lt
      have cBH := BH.cells
      have fBH := BH.frozens
      have zBH := BH.lt
      have cBV := BV.cells
      have fBV := BV.frozens
      have zBV := BV.lt
      have cBW := BW.cells
      have fBW := BW.frozens
      have zBW := BW.lt
      go_wp2_with fail
      refine (equalGate_ow (rG r) xa xn xc ya yn yc xb xm xd yb ym yd _ (by exact (O2.sl encM_len).ext (by repeat (first | (with_reducible exact Ext.refl _) | (with_reducible assumption) | (with_reducible refine Ext.alloc ?_ _) | (with_reducible refine Ext.drewN ?_ _) | (with_reducible refine Ext.drew ?_) | (with_reducible refine Ext.setCell ?_ ?_ _; rotate_left; (simp only []; omega)) | (with_reducible refine Ext.trans ?_ (by assumption))))) (by exact (O3.sl encC_len).ext (by repeat (first | (with_reducible exact Ext.refl _) | (with_reducible assumption) | (with_reducible refine Ext.alloc ?_ _) | (with_reducible refine Ext.drewN ?_ _) | (with_reducible refine Ext.drew ?_) | (with_reducible refine Ext.setCell ?_ ?_ _; rotate_left; (simp only []; omega)) | (with_reducible refine Ext.trans ?_ (by assumption))))) (by exact (O5.sl encM_len).ext (by repeat (first | (with_reducible exact Ext.refl _) | (with_reducible assumption) | (with_reducible refine Ext.alloc ?_ _) | (with_reducible refine Ext.drewN ?_ _) | (with_reducible refine Ext.drew ?_) | (with_reducible refine Ext.setCell ?_ ?_ _; rotate_left; (simp only []; omega)) | (with_reducible refine Ext.trans ?_ (by assumption))))) (by exact (O6.sl encC_len).ext (by repeat (first | (with_reducible exact Ext.refl _) | (with_reducible assumption) | (with_reducible refine Ext.alloc ?_ _) | (with_reducible refine Ext.drewN ?_ _) | (with_reducible refine Ext.drew ?_) | (with_reducible refine Ext.setCell ?_ ?_ _; rotate_left; (simp only []; omega)) | (with_reducible refine Ext.trans ?_ (by assumption)))))).mono ?_
      rintro e w6 ⟨rfl, hx6⟩
      have hy6 := hx6.size
      (try simp at hy6)
      have eW6 := useE (fun (h : Ext _ w6) => T0.ext h) (by repeat (first | (with_reducible exact Ext.refl _) | (with_reducible assumption) | (with_reducible refine Ext.alloc ?_ _) | (with_reducible refine Ext.drewN ?_ _) | (with_reducible refine Ext.drew ?_) | (with_reducible refine Ext.setCell ?_ ?_ _; rotate_left; (simp only []; omega)) | (with_reducible refine Ext.trans ?_ (by assumption))))
      replace T0 := T0.ext eW6
      replace K0 := K0.ext eW6
      replace S0 := S0.ext eW6
      clear cBG fBG zBG
      replace BG := BG.ext eW6
      clear cBP fBP zBP
      replace BP := BP.ext eW6
      replace O1 := O1.ext eW6
      replace O2 := O2.ext eW6
      replace O3 := O3.ext eW6
      clear cBQ fBQ zBQ
      replace BQ := BQ.ext eW6
      clear cBH fBH zBH
      replace BH := BH.ext eW6
      replace O4 := O4.ext eW6
      replace O5 := O5.ext eW6
      replace O6 := O6.ext eW6
      clear cBV fBV zBV
      replace BV := BV.ext eW6
      clear cBW fBW zBW
      replace BW := BW.ext eW6
      replace XU := XU.ext eW6
      have cBG := BG.cells
      have fBG := BG.frozens
      have zBG := BG.lt
      have cBP := BP.cells
      have fBP := BP.frozens
      have zBP := BP.lt
      have cBQ := BQ.cells
      have fBQ := BQ.frozens
      have zBQ := BQ.lt
      have cBH := BH.cells
      have fBH := BH.frozens
      have zBH := BH.lt
      have cBV := BV.cells
      have fBV := BV.frozens
      have zBV := BV.lt
      have cBW := BW.cells
      have fBW := BW.frozens
      have zBW := BW.lt
      go_wp2
      go_ret
      exact ⟨rfl, XU.trans (show Ext _ _ from (by repeat (first | (with_reducible exact Ext.refl _) | (with_reducible assumption) | (with_reducible refine Ext.alloc ?_ _) | (with_reducible refine Ext.drewN ?_ _) | (with_reducible refine Ext.drew ?_) | (with_reducible refine Ext.setCell ?_ ?_ _; rotate_left; (simp only []; omega)) | (with_reducible refine Ext.trans ?_ (by assumption)))))⟩
    | true =>
      cases r with
      | none => cases hok
      | some s =>
        obtain ⟨q, h⟩ := s
        clear hok
        obtain ⟨l1, l2, l3⟩ := law_sendContact hr.out.symm
        clear cBQ fBQ zBQ cBH fBH zBH cBV fBV zBV cBW fBW zBW BV BW O4 O5 O6
        replace BQ : Blk w4 w1.heap.size 33 (#[.int .i64 q.kind, .int .i64 q.fr.addr, .int .i64 q.fr.port, .int .i64 q.to_.addr, .int .i64 q.to_.port, .slice A1 n1 C1]) := BQ
        replace BH : Blk w4 (w1.heap.size + 1) 28 (#[.int .i64 h.net.base, .int .i64 h.net.bits, .int .i64 h.out, .slice xa xn xc, .slice ya yn yc, .int .i64 h.filter, .int .i64 h.hold, .int .i64 h.now]) := BH
        replace O1 : Ow 3 encI 1 _ w4 A1 n1 C1 q.data := O1
        replace O2 : Ow 89 encM 4 _ w4 xa xn xc h.table := O2
        replace O3 : Ow 47 encC 3 _ w4 ya yn yc h.cons := O3
        have cBQ := BQ.cells
        have fBQ := BQ.frozens
        have zBQ := BQ.lt
        have cBH := BH.cells
        have fBH := BH.frozens
        have zBH := BH.lt
        have hl := (O3.sl encC_len).len
        rw [hl] at l1 l2 l3
        obtain ⟨k, hk⟩ : ∃ k, yn - 1 = k := ⟨_, rfl⟩
        rw [hk] at l2
        obtain ⟨_, b, off, rfl, hb0, hc0⟩ := ((O3.sl encC_len).cons).resolve_left (by omega)
        obtain ⟨d0, d1, d2⟩ := hc0 k (by omega)
        rw [show nth h.cons k = ⟨q.fr.port, p.to_⟩ from l2] at d0 d1 d2
        have q1 := run_eql_C ⟨q.fr.port, p.to_⟩ ⟨q.fr.port, p.to_⟩
        simp only [decide_true] at q1
        have hle := (O3.sl encC_len).le
        have hmx := (O3.sl encC_len).max
        have hlt : k < yn := by omega
        have hn10 : (yn : Int) ≤ 10 := by omega
        have hkk : (yn : Int) - 1 = k := by omega
        have hn0 : ¬ yn = 0 := by omega
        have hni : ((yn : Int) == 0) = false := by simp; omega
        have hw1 : IntKind.i64.wrap (k : Int) = k := IntWalk.i64_in _ (by omega)
        clear hr l2 hc0 hl hk
        go_wp2_with fail
        have hdrS : ∀ W : World, W.drew.heap.size = W.heap.size := fun _ => rfl
        refine wp_region_eager (R := Ext) [0, 1, 2, 3, 4, 5, 6, 7, 8, 9, 10, 11, 12, 13, 14, 15, 16, 17, 18, 19, 20, 21] (by kernel_rfl) (by kernel_rfl) Ext.refl (fun _ _ _ => Ext.trans) ?_
        repeat' (first
          | (refine ChX.skip (by rfl) (by rfl) ?_
             (try simp only [Act.put, List.setIfInBounds_toArray, List.set_cons_zero, List.set_cons_succ]))
          | (refine' ChX.quiet (v := _) (by rfl) (by rfl) (by rfl) ?_ ?_
             rotate_left
             · (intro wS hS
                have hcS := Ext.cells hS
                go_simp
                with_reducible rfl)
             (try simp only [Act.put, List.setIfInBounds_toArray, List.set_cons_zero, List.set_cons_succ]))
          | (refine ChX.nil ?_)
          | (refine' ChX.guard (x := _) (by rfl) ?_ ?_ ?_
             rotate_left
             · (go_simp
                rfl)
             all_goals
               intro hg
               simp only [hg])
          | (refine' ChX.guardN (x := _) (by rfl) ?_ ?_ ?_
             rotate_left
             · (go_simp
                rfl)
             all_goals
               intro hg
               simp only [hg]))
        go_wp2
        go_ret
        exact ⟨rfl, XU.trans (show Ext _ _ from (by repeat (first | (with_reducible exact Ext.refl _) | (with_reducible assumption) | (with_reducible refine Ext.alloc ?_ _) | (with_reducible refine Ext.drewN ?_ _) | (with_reducible refine Ext.drew ?_) | (with_reducible refine Ext.setCell ?_ ?_ _; rotate_left; (simp only []; omega)) | (with_reducible refine Ext.trans ?_ (by assumption)))))⟩
set_option maxHeartbeats 4000000 in
theorem law_FnSendOutEnds (a : Option Addr) (n c : Nat) (u : World) (hc : Code u a n c) : Calls Try.prog 6 #[.slice a n c] u fun e w' => e = .returned (.bool true) ∧ Ext u w' := by
  by_cases hn : n ≤ 1048576
  rotate_left
  · go_enter Try.func6, Try.ntmps6
    go_wp2
    go_ret
    exact ⟨rfl, Ext.refl _⟩
  · go_enter Try.func6, Try.ntmps6
    go_wp2_with fail
    refine (DrawSendOut_any a n c _ hc).mono ?_
    rintro e w ⟨g, p, ta, tn, tc, ka, kn, kc, sa, sn, sc, rfl, T0, K0, S0, _, _, _, XU⟩
    go_wp2_with fail
    refine (impl_SendOut g p ta tn tc ka kn kc sa sn sc _ (by exact T0.ext (by repeat (first | (with_reducible exact Ext.refl _) | (with_reducible assumption) | (with_reducible refine Ext.alloc ?_ _) | (with_reducible refine Ext.drewN ?_ _) | (with_reducible refine Ext.drew ?_) | (with_reducible refine Ext.setCell ?_ ?_ _; rotate_left; (simp only []; omega)) | (with_reducible refine Ext.trans ?_ (by assumption))))) (by exact K0.ext (by repeat (first | (with_reducible exact Ext.refl _) | (with_reducible assumption) | (with_reducible refine Ext.alloc ?_ _) | (with_reducible refine Ext.drewN ?_ _) | (with_reducible refine Ext.drew ?_) | (with_reducible refine Ext.setCell ?_ ?_ _; rotate_left; (simp only []; omega)) | (with_reducible refine Ext.trans ?_ (by assumption))))) (by exact S0.ext (by repeat (first | (with_reducible exact Ext.refl _) | (with_reducible assumption) | (with_reducible refine Ext.alloc ?_ _) | (with_reducible refine Ext.drewN ?_ _) | (with_reducible refine Ext.drew ?_) | (with_reducible refine Ext.setCell ?_ ?_ _; rotate_left; (simp only []; omega)) | (with_reducible refine Ext.trans ?_ (by assumption)))))).mono ?_
    rintro e w1 ⟨A1, n1, C1, xa, xn, xc, ya, yn, yc, rfl, O1, O2, O3, hx1⟩
    have hy1 := hx1.size
    (try simp at hy1)
    have eW1 := useE (fun (h : Ext _ w1) => T0.ext h) (by repeat (first | (with_reducible exact Ext.refl _) | (with_reducible assumption) | (with_reducible refine Ext.alloc ?_ _) | (with_reducible refine Ext.drewN ?_ _) | (with_reducible refine Ext.drew ?_) | (with_reducible refine Ext.setCell ?_ ?_ _; rotate_left; (simp only []; omega)) | (with_reducible refine Ext.trans ?_ (by assumption))))
    replace T0 := T0.ext eW1
    replace K0 := K0.ext eW1
    replace S0 := S0.ext eW1
    have BG : Blk w1 w.heap.size 28 (#[.int .i64 g.net.base, .int .i64 g.net.bits, .int .i64 g.out, .slice ta tn tc, .slice ka kn kc, .int .i64 g.filter, .int .i64 g.hold, .int .i64 g.now]) := by refine Blk.ext ?_ hx1; exact (by repeat (first | (with_reducible assumption) | (with_reducible exact Blk.new _ _ _) | exact Blk.newAt _ _ _ (by simp) | (with_reducible refine Blk.alloc ?_ _) | (with_reducible refine Blk.drew ?_) | (with_reducible refine Blk.drewN ?_ _) | refine Blk.far ?_ (by simp only []; omega) _ | refine Blk.rext ?_ (by assumption) (by omega) | refine Blk.ext ?_ (by assumption)))
    have BP : Blk w1 (w.heap.size+1) 33 (#[.int .i64 p.kind, .int .i64 p.fr.addr, .int .i64 p.fr.port, .int .i64 p.to_.addr, .int .i64 p.to_.port, .slice sa sn sc]) := by refine Blk.ext ?_ hx1; exact (by repeat (first | (with_reducible assumption) | (with_reducible exact Blk.new _ _ _) | exact Blk.newAt _ _ _ (by simp) | (with_reducible refine Blk.alloc ?_ _) | (with_reducible refine Blk.drew ?_) | (with_reducible refine Blk.drewN ?_ _) | refine Blk.far ?_ (by simp only []; omega) _ | refine Blk.rext ?_ (by assumption) (by omega) | refine Blk.ext ?_ (by assumption)))
    replace XU := XU.ext eW1
    have cBG := BG.cells
    have fBG := BG.frozens
    have zBG := BG.lt
    have cBP := BP.cells
    have fBP := BP.frozens
    have zBP := BP.lt
    obtain ⟨r, hr⟩ : ∃ r, r = sendOut g p := ⟨_, rfl⟩
    rw [← hr] at O1 O2 O3 ⊢
    replace hr := Lib.hid hr
    go_wp2_with fail
    refine (spec_SendOut g p ta tn tc ka kn kc sa sn sc _ (by exact T0.ext (by repeat (first | (with_reducible exact Ext.refl _) | (with_reducible assumption) | (with_reducible refine Ext.alloc ?_ _) | (with_reducible refine Ext.drewN ?_ _) | (with_reducible refine Ext.drew ?_) | (with_reducible refine Ext.setCell ?_ ?_ _; rotate_left; (simp only []; omega)) | (with_reducible refine Ext.trans ?_ (by assumption))))) (by exact K0.ext (by repeat (first | (with_reducible exact Ext.refl _) | (with_reducible assumption) | (with_reducible refine Ext.alloc ?_ _) | (with_reducible refine Ext.drewN ?_ _) | (with_reducible refine Ext.drew ?_) | (with_reducible refine Ext.setCell ?_ ?_ _; rotate_left; (simp only []; omega)) | (with_reducible refine Ext.trans ?_ (by assumption))))) (by exact S0.ext (by repeat (first | (with_reducible exact Ext.refl _) | (with_reducible assumption) | (with_reducible refine Ext.alloc ?_ _) | (with_reducible refine Ext.drewN ?_ _) | (with_reducible refine Ext.drew ?_) | (with_reducible refine Ext.setCell ?_ ?_ _; rotate_left; (simp only []; omega)) | (with_reducible refine Ext.trans ?_ (by assumption)))))).mono ?_
    rintro e w2 ⟨A2, n2, C2, xb, xm, xd, yb, ym, yd, rfl, O4, O5, O6, hx2⟩
    have hy2 := hx2.size
    (try simp at hy2)
    have eW2 := useE (fun (h : Ext _ w2) => T0.ext h) (by repeat (first | (with_reducible exact Ext.refl _) | (with_reducible assumption) | (with_reducible refine Ext.alloc ?_ _) | (with_reducible refine Ext.drewN ?_ _) | (with_reducible refine Ext.drew ?_) | (with_reducible refine Ext.setCell ?_ ?_ _; rotate_left; (simp only []; omega)) | (with_reducible refine Ext.trans ?_ (by assumption))))
    replace T0 := T0.ext eW2
    replace K0 := K0.ext eW2
    replace S0 := S0.ext eW2
    clear cBG fBG zBG
    replace BG := BG.ext eW2
    clear cBP fBP zBP
    replace BP := BP.ext eW2
    replace O1 := O1.ext eW2
    replace O2 := O2.ext eW2
    replace O3 := O3.ext eW2
    have BQ : Blk w2 w1.heap.size 33 (#[.int .i64 (rP r).kind, .int .i64 (rP r).fr.addr, .int .i64 (rP r).fr.port, .int .i64 (rP r).to_.addr, .int .i64 (rP r).to_.port, .slice A1 n1 C1]) := by refine Blk.ext ?_ hx2; exact (by repeat (first | (with_reducible assumption) | (with_reducible exact Blk.new _ _ _) | exact Blk.newAt _ _ _ (by simp) | (with_reducible refine Blk.alloc ?_ _) | (with_reducible refine Blk.drew ?_) | (with_reducible refine Blk.drewN ?_ _) | refine Blk.far ?_ (by simp only []; omega) _ | refine Blk.rext ?_ (by assumption) (by omega) | refine Blk.ext ?_ (by assumption)))
    have BH : Blk w2 (w1.heap.size+1) 28 (#[.int .i64 (rG r).net.base, .int .i64 (rG r).net.bits, .int .i64 (rG r).out, .slice xa xn xc, .slice ya yn yc, .int .i64 (rG r).filter, .int .i64 (rG r).hold, .int .i64 (rG r).now]) := by refine Blk.ext ?_ hx2; exact (by repeat (first | (with_reducible assumption) | (with_reducible exact Blk.new _ _ _) | exact Blk.newAt _ _ _ (by simp) | (with_reducible refine Blk.alloc ?_ _) | (with_reducible refine Blk.drew ?_) | (with_reducible refine Blk.drewN ?_ _) | refine Blk.far ?_ (by simp only []; omega) _ | refine Blk.rext ?_ (by assumption) (by omega) | refine Blk.ext ?_ (by assumption)))
    replace XU := XU.ext eW2
    have cBG := BG.cells
    have fBG := BG.frozens
    have zBG := BG.lt
    have cBP := BP.cells
    have fBP := BP.frozens
    have zBP := BP.lt
    have cBQ := BQ.cells
    have fBQ := BQ.frozens
    have zBQ := BQ.lt
    have cBH := BH.cells
    have fBH := BH.frozens
    have zBH := BH.lt
    rw [← hr.out] at O4 O5 O6 ⊢
    go_wp2_with fail
    refine (equalPacket_ow (rP r) A1 A2 n1 n2 C1 C2 _ (by exact (O1.sl encI_len).ext (by repeat (first | (with_reducible exact Ext.refl _) | (with_reducible assumption) | (with_reducible refine Ext.alloc ?_ _) | (with_reducible refine Ext.drewN ?_ _) | (with_reducible refine Ext.drew ?_) | (with_reducible refine Ext.setCell ?_ ?_ _; rotate_left; (simp only []; omega)) | (with_reducible refine Ext.trans ?_ (by assumption))))) (by exact (O4.sl encI_len).ext (by repeat (first | (with_reducible exact Ext.refl _) | (with_reducible assumption) | (with_reducible refine Ext.alloc ?_ _) | (with_reducible refine Ext.drewN ?_ _) | (with_reducible refine Ext.drew ?_) | (with_reducible refine Ext.setCell ?_ ?_ _; rotate_left; (simp only []; omega)) | (with_reducible refine Ext.trans ?_ (by assumption)))))).mono ?_
    rintro e w3 ⟨rfl, hx3⟩
    have hy3 := hx3.size
    (try simp at hy3)
    have eW3 := useE (fun (h : Ext _ w3) => T0.ext h) (by repeat (first | (with_reducible exact Ext.refl _) | (with_reducible assumption) | (with_reducible refine Ext.alloc ?_ _) | (with_reducible refine Ext.drewN ?_ _) | (with_reducible refine Ext.drew ?_) | (with_reducible refine Ext.setCell ?_ ?_ _; rotate_left; (simp only []; omega)) | (with_reducible refine Ext.trans ?_ (by assumption))))
    replace T0 := T0.ext eW3
    replace K0 := K0.ext eW3
    replace S0 := S0.ext eW3
    clear cBG fBG zBG
    replace BG := BG.ext eW3
    clear cBP fBP zBP
    replace BP := BP.ext eW3
    replace O1 := O1.ext eW3
    replace O2 := O2.ext eW3
    replace O3 := O3.ext eW3
    clear cBQ fBQ zBQ
    replace BQ := BQ.ext eW3
    clear cBH fBH zBH
    replace BH := BH.ext eW3
    replace O4 := O4.ext eW3
    replace O5 := O5.ext eW3
    replace O6 := O6.ext eW3
    have BV : Blk w3 w2.heap.size 33 (#[.int .i64 (rP r).kind, .int .i64 (rP r).fr.addr, .int .i64 (rP r).fr.port, .int .i64 (rP r).to_.addr, .int .i64 (rP r).to_.port, .slice A2 n2 C2]) := by refine Blk.ext ?_ hx3; exact (by repeat (first | (with_reducible assumption) | (with_reducible exact Blk.new _ _ _) | exact Blk.newAt _ _ _ (by simp) | (with_reducible refine Blk.alloc ?_ _) | (with_reducible refine Blk.drew ?_) | (with_reducible refine Blk.drewN ?_ _) | refine Blk.far ?_ (by simp only []; omega) _ | refine Blk.rext ?_ (by assumption) (by omega) | refine Blk.ext ?_ (by assumption)))
    have BW : Blk w3 (w2.heap.size+1) 28 (#[.int .i64 (rG r).net.base, .int .i64 (rG r).net.bits, .int .i64 (rG r).out, .slice xb xm xd, .slice yb ym yd, .int .i64 (rG r).filter, .int .i64 (rG r).hold, .int .i64 (rG r).now]) := by refine Blk.ext ?_ hx3; exact (by repeat (first | (with_reducible assumption) | (with_reducible exact Blk.new _ _ _) | exact Blk.newAt _ _ _ (by simp) | (with_reducible refine Blk.alloc ?_ _) | (with_reducible refine Blk.drew ?_) | (with_reducible refine Blk.drewN ?_ _) | refine Blk.far ?_ (by simp only []; omega) _ | refine Blk.rext ?_ (by assumption) (by omega) | refine Blk.ext ?_ (by assumption)))
    replace XU := XU.ext eW3
    have cBG := BG.cells
    have fBG := BG.frozens
    have zBG := BG.lt
    have cBP := BP.cells
    have fBP := BP.frozens
    have zBP := BP.lt
    have cBQ := BQ.cells
    have fBQ := BQ.frozens
    have zBQ := BQ.lt
    have cBH := BH.cells
    have fBH := BH.frozens
    have zBH := BH.lt
    have cBV := BV.cells
    have fBV := BV.frozens
    have zBV := BV.lt
    have cBW := BW.cells
    have fBW := BW.frozens
    have zBW := BW.lt
    go_wp2_with fail
    refine (equalGate_ow (rG r) xa xn xc ya yn yc xb xm xd yb ym yd _ (by exact (O2.sl encM_len).ext (by repeat (first | (with_reducible exact Ext.refl _) | (with_reducible assumption) | (with_reducible refine Ext.alloc ?_ _) | (with_reducible refine Ext.drewN ?_ _) | (with_reducible refine Ext.drew ?_) | (with_reducible refine Ext.setCell ?_ ?_ _; rotate_left; (simp only []; omega)) | (with_reducible refine Ext.trans ?_ (by assumption))))) (by exact (O3.sl encC_len).ext (by repeat (first | (with_reducible exact Ext.refl _) | (with_reducible assumption) | (with_reducible refine Ext.alloc ?_ _) | (with_reducible refine Ext.drewN ?_ _) | (with_reducible refine Ext.drew ?_) | (with_reducible refine Ext.setCell ?_ ?_ _; rotate_left; (simp only []; omega)) | (with_reducible refine Ext.trans ?_ (by assumption))))) (by exact (O5.sl encM_len).ext (by repeat (first | (with_reducible exact Ext.refl _) | (with_reducible assumption) | (with_reducible refine Ext.alloc ?_ _) | (with_reducible refine Ext.drewN ?_ _) | (with_reducible refine Ext.drew ?_) | (with_reducible refine Ext.setCell ?_ ?_ _; rotate_left; (simp only []; omega)) | (with_reducible refine Ext.trans ?_ (by assumption))))) (by exact (O6.sl encC_len).ext (by repeat (first | (with_reducible exact Ext.refl _) | (with_reducible assumption) | (with_reducible refine Ext.alloc ?_ _) | (with_reducible refine Ext.drewN ?_ _) | (with_reducible refine Ext.drew ?_) | (with_reducible refine Ext.setCell ?_ ?_ _; rotate_left; (simp only []; omega)) | (with_reducible refine Ext.trans ?_ (by assumption)))))).mono ?_
    rintro e w4 ⟨rfl, hx4⟩
    have hy4 := hx4.size
    (try simp at hy4)
    have eW4 := useE (fun (h : Ext _ w4) => T0.ext h) (by repeat (first | (with_reducible exact Ext.refl _) | (with_reducible assumption) | (with_reducible refine Ext.alloc ?_ _) | (with_reducible refine Ext.drewN ?_ _) | (with_reducible refine Ext.drew ?_) | (with_reducible refine Ext.setCell ?_ ?_ _; rotate_left; (simp only []; omega)) | (with_reducible refine Ext.trans ?_ (by assumption))))
    replace T0 := T0.ext eW4
    replace K0 := K0.ext eW4
    replace S0 := S0.ext eW4
    clear cBG fBG zBG
    replace BG := BG.ext eW4
    clear cBP fBP zBP
    replace BP := BP.ext eW4
    replace O1 := O1.ext eW4
    replace O2 := O2.ext eW4
    replace O3 := O3.ext eW4
    clear cBQ fBQ zBQ
    replace BQ := BQ.ext eW4
    clear cBH fBH zBH
    replace BH := BH.ext eW4
    replace O4 := O4.ext eW4
    replace O5 := O5.ext eW4
    replace O6 := O6.ext eW4
    clear cBV fBV zBV
    replace BV := BV.ext eW4
    clear cBW fBW zBW
    replace BW := BW.ext eW4
    replace XU := XU.ext eW4
    have cBG := BG.cells
    have fBG := BG.frozens
    have zBG := BG.lt
    have cBP := BP.cells
    have fBP := BP.frozens
    have zBP := BP.lt
    have cBQ := BQ.cells
    have fBQ := BQ.frozens
    have zBQ := BQ.lt
    have cBH := BH.cells
    have fBH := BH.frozens
    have zBH := BH.lt
    have cBV := BV.cells
    have fBV := BV.frozens
    have zBV := BV.lt
    have cBW := BW.cells
    have fBW := BW.frozens
    have zBW := BW.lt
    obtain ⟨ok, hok⟩ : ∃ ok, ok = r.isSome := ⟨_, rfl⟩
    rw [← hok]
    cases ok with
    | false =>
      clear hok
      go_wp2_with fail
      refine (equalPacket_ow (rP r) A1 A2 n1 n2 C1 C2 _ (by exact (O1.sl encI_len).ext (by repeat (first | (with_reducible exact Ext.refl _) | (with_reducible assumption) | (with_reducible refine Ext.alloc ?_ _) | (with_reducible refine Ext.drewN ?_ _) | (with_reducible refine Ext.drew ?_) | (with_reducible refine Ext.setCell ?_ ?_ _; rotate_left; (simp only []; omega)) | (with_reducible refine Ext.trans ?_ (by assumption))))) (by exact (O4.sl encI_len).ext (by repeat (first | (with_reducible exact Ext.refl _) | (with_reducible assumption) | (with_reducible refine Ext.alloc ?_ _) | (with_reducible refine Ext.drewN ?_ _) | (with_reducible refine Ext.drew ?_) | (with_reducible refine Ext.setCell ?_ ?_ _; rotate_left; (simp only []; omega)) | (with_reducible refine Ext.trans ?_ (by assumption)))))).mono ?_
      rintro e w5 ⟨rfl, hx5⟩
      have hy5 := hx5.size
      (try simp at hy5)
      have eW5 := useE (fun (h : Ext _ w5) => T0.ext h) (by repeat (first | (with_reducible exact Ext.refl _) | (with_reducible assumption) | (with_reducible refine Ext.alloc ?_ _) | (with_reducible refine Ext.drewN ?_ _) | (with_reducible refine Ext.drew ?_) | (with_reducible refine Ext.setCell ?_ ?_ _; rotate_left; (simp only []; omega)) | (with_reducible refine Ext.trans ?_ (by assumption))))
      replace T0 := T0.ext eW5
      replace K0 := K0.ext eW5
      replace S0 := S0.ext eW5
      clear cBG fBG zBG
      replace BG := BG.ext eW5
      clear cBP fBP zBP
      replace BP := BP.ext eW5
      replace O1 := O1.ext eW5
      replace O2 := O2.ext eW5
      replace O3 := O3.ext eW5
      clear cBQ fBQ zBQ
      replace BQ := BQ.ext eW5
      clear cBH fBH zBH
      replace BH := BH.ext eW5
      replace O4 := O4.ext eW5
      replace O5 := O5.ext eW5
      replace O6 := O6.ext eW5
      clear cBV fBV zBV
      replace BV := BV.ext eW5
      clear cBW fBW zBW
      replace BW := BW.ext eW5
      replace XU := XU.ext eW5
      have cBG := BG.cells
      have fBG := BG.frozens
      have zBG := BG.lt
      have cBP := BP.cells
      have fBP := BP.frozens
      have zBP := BP.lt
      have cBQ := BQ.cells
      have fBQ := BQ.frozens
      have zBQ := BQ.lt
      have cBH := BH.cells
      have fBH := BH.frozens
      have zBH := BH.lt
      have cBV := BV.cells
      have fBV := BV.frozens
      have zBV := BV.lt
      have cBW := BW.cells
      have fBW := BW.frozens
      have zBW := BW.lt
      go_wp2_with fail
      refine (equalGate_ow (rG r) xa xn xc ya yn yc xb xm xd yb ym yd _ (by exact (O2.sl encM_len).ext (by repeat (first | (with_reducible exact Ext.refl _) | (with_reducible assumption) | (with_reducible refine Ext.alloc ?_ _) | (with_reducible refine Ext.drewN ?_ _) | (with_reducible refine Ext.drew ?_) | (with_reducible refine Ext.setCell ?_ ?_ _; rotate_left; (simp only []; omega)) | (with_reducible refine Ext.trans ?_ (by assumption))))) (by exact (O3.sl encC_len).ext (by repeat (first | (with_reducible exact Ext.refl _) | (with_reducible assumption) | (with_reducible refine Ext.alloc ?_ _) | (with_reducible refine Ext.drewN ?_ _) | (with_reducible refine Ext.drew ?_) | (with_reducible refine Ext.setCell ?_ ?_ _; rotate_left; (simp only []; omega)) | (with_reducible refine Ext.trans ?_ (by assumption))))) (by exact (O5.sl encM_len).ext (by repeat (first | (with_reducible exact Ext.refl _) | (with_reducible assumption) | (with_reducible refine Ext.alloc ?_ _) | (with_reducible refine Ext.drewN ?_ _) | (with_reducible refine Ext.drew ?_) | (with_reducible refine Ext.setCell ?_ ?_ _; rotate_left; (simp only []; omega)) | (with_reducible refine Ext.trans ?_ (by assumption))))) (by exact (O6.sl encC_len).ext (by repeat (first | (with_reducible exact Ext.refl _) | (with_reducible assumption) | (with_reducible refine Ext.alloc ?_ _) | (with_reducible refine Ext.drewN ?_ _) | (with_reducible refine Ext.drew ?_) | (with_reducible refine Ext.setCell ?_ ?_ _; rotate_left; (simp only []; omega)) | (with_reducible refine Ext.trans ?_ (by assumption)))))).mono ?_
      rintro e w6 ⟨rfl, hx6⟩
      have hy6 := hx6.size
      (try simp at hy6)
      have eW6 := useE (fun (h : Ext _ w6) => T0.ext h) (by repeat (first | (with_reducible exact Ext.refl _) | (with_reducible assumption) | (with_reducible refine Ext.alloc ?_ _) | (with_reducible refine Ext.drewN ?_ _) | (with_reducible refine Ext.drew ?_) | (with_reducible refine Ext.setCell ?_ ?_ _; rotate_left; (simp only []; omega)) | (with_reducible refine Ext.trans ?_ (by assumption))))
      replace T0 := T0.ext eW6
      replace K0 := K0.ext eW6
      replace S0 := S0.ext eW6
      clear cBG fBG zBG
      replace BG := BG.ext eW6
      clear cBP fBP zBP
      replace BP := BP.ext eW6
      replace O1 := O1.ext eW6
      replace O2 := O2.ext eW6
      replace O3 := O3.ext eW6
      clear cBQ fBQ zBQ
      replace BQ := BQ.ext eW6
      clear cBH fBH zBH
      replace BH := BH.ext eW6
      replace O4 := O4.ext eW6
      replace O5 := O5.ext eW6
      replace O6 := O6.ext eW6
      clear cBV fBV zBV
      replace BV := BV.ext eW6
      clear cBW fBW zBW
      replace BW := BW.ext eW6
      replace XU := XU.ext eW6
      have cBG := BG.cells
      have fBG := BG.frozens
      have zBG := BG.lt
      have cBP := BP.cells
      have fBP := BP.frozens
      have zBP := BP.lt
      have cBQ := BQ.cells
      have fBQ := BQ.frozens
      have zBQ := BQ.lt
      have cBH := BH.cells
      have fBH := BH.frozens
      have zBH := BH.lt
      have cBV := BV.cells
      have fBV := BV.frozens
      have zBV := BV.lt
      have cBW := BW.cells
      have fBW := BW.frozens
      have zBW := BW.lt
      go_wp2
      go_ret
      exact ⟨rfl, XU.trans (show Ext _ _ from (by repeat (first | (with_reducible exact Ext.refl _) | (with_reducible assumption) | (with_reducible refine Ext.alloc ?_ _) | (with_reducible refine Ext.drewN ?_ _) | (with_reducible refine Ext.drew ?_) | (with_reducible refine Ext.setCell ?_ ?_ _; rotate_left; (simp only []; omega)) | (with_reducible refine Ext.trans ?_ (by assumption)))))⟩
    | true =>
      cases r with
      | none => cases hok
      | some s =>
        obtain ⟨q, h⟩ := s
        clear hok
        obtain ⟨v1, v2, v3, _, _, s⟩ := sendOut_some hr.out.symm
        have vp := validPkt_port v2
        have hx : (⟨p.fr.addr, (p.fr.port + 1) % 65536⟩ : EndD) ≠ p.fr := by
          intro e
          have e1 : (p.fr.port + 1) % 65536 = p.fr.port := congrArg EndD.port e
          omega
        have hL := fun o h' => law_sendEnds (o := o) (h' := h') hr.out.symm hx
        have hwr : IntKind.i64.wrap (p.fr.port + 1) = p.fr.port + 1 := IntWalk.i64_in _ (by omega)
        have c5 := fun W x y z => impl_SendOut h { p with fr := ⟨p.fr.addr, (p.fr.port + 1) % 65536⟩ } xa xn xc ya yn yc sa sn sc W x y z
        obtain ⟨r2, hr2⟩ : ∃ r2, r2 = sendOut h { p with fr := ⟨p.fr.addr, (p.fr.port + 1) % 65536⟩ } := ⟨_, rfl⟩
        rw [← hr2] at c5
        replace c5 := Lib.hid c5
        replace hr2 := Lib.hid hr2
        replace hL := Lib.hid hL
        clear hr v1 v2 v3 s hx
        clear cBQ fBQ zBQ cBH fBH zBH cBV fBV zBV cBW fBW zBW BV BW O4 O5 O6
        replace BQ : Blk w4 w1.heap.size 33 (#[.int .i64 q.kind, .int .i64 q.fr.addr, .int .i64 q.fr.port, .int .i64 q.to_.addr, .int .i64 q.to_.port, .slice A1 n1 C1]) := BQ
        replace BH : Blk w4 (w1.heap.size + 1) 28 (#[.int .i64 h.net.base, .int .i64 h.net.bits, .int .i64 h.out, .slice xa xn xc, .slice ya yn yc, .int .i64 h.filter, .int .i64 h.hold, .int .i64 h.now]) := BH
        replace O1 : Ow 3 encI 1 _ w4 A1 n1 C1 q.data := O1
        replace O2 : Ow 89 encM 4 _ w4 xa xn xc h.table := O2
        replace O3 : Ow 47 encC 3 _ w4 ya yn yc h.cons := O3
        have cBQ := BQ.cells
        have fBQ := BQ.frozens
        have zBQ := BQ.lt
        have cBH := BH.cells
        have fBH := BH.frozens
        have zBH := BH.lt
        go_wp2_with fail
        refine (c5.out _ (by exact (O2.sl encM_len).ext (by repeat (first | (with_reducible exact Ext.refl _) | (with_reducible assumption) | (with_reducible refine Ext.alloc ?_ _) | (with_reducible refine Ext.drewN ?_ _) | (with_reducible refine Ext.drew ?_) | (with_reducible refine Ext.setCell ?_ ?_ _; rotate_left; (simp only []; omega)) | (with_reducible refine Ext.trans ?_ (by assumption))))) (by exact (O3.sl encC_len).ext (by repeat (first | (with_reducible exact Ext.refl _) | (with_reducible assumption) | (with_reducible refine Ext.alloc ?_ _) | (with_reducible refine Ext.drewN ?_ _) | (with_reducible refine Ext.drew ?_) | (with_reducible refine Ext.setCell ?_ ?_ _; rotate_left; (simp only []; omega)) | (with_reducible refine Ext.trans ?_ (by assumption))))) (by exact S0.ext (by repeat (first | (with_reducible exact Ext.refl _) | (with_reducible assumption) | (with_reducible refine Ext.alloc ?_ _) | (with_reducible refine Ext.drewN ?_ _) | (with_reducible refine Ext.drew ?_) | (with_reducible refine Ext.setCell ?_ ?_ _; rotate_left; (simp only []; omega)) | (with_reducible refine Ext.trans ?_ (by assumption)))))).mono ?_
        rintro e w5 ⟨A5, n5, C5, xe, xk, xf, ye, yk, yf, rfl, O7, O8, O9, hx5⟩
        have hy5 := hx5.size
        (try simp at hy5)
        have eW5 := useE (fun (h : Ext _ w5) => T0.ext h) (by repeat (first | (with_reducible exact Ext.refl _) | (with_reducible assumption) | (with_reducible refine Ext.alloc ?_ _) | (with_reducible refine Ext.drewN ?_ _) | (with_reducible refine Ext.drew ?_) | (with_reducible refine Ext.setCell ?_ ?_ _; rotate_left; (simp only []; omega)) | (with_reducible refine Ext.trans ?_ (by assumption))))
        replace T0 := T0.ext eW5
        replace K0 := K0.ext eW5
        replace S0 := S0.ext eW5
        clear cBG fBG zBG
        replace BG := BG.ext eW5
        clear cBP fBP zBP
        replace BP := BP.ext eW5
        replace O1 := O1.ext eW5
        replace O2 := O2.ext eW5
        replace O3 := O3.ext eW5
        clear cBQ fBQ zBQ
        replace BQ := BQ.ext eW5
        clear cBH fBH zBH
        replace BH := BH.ext eW5
        replace XU := XU.ext eW5
        have cBG := BG.cells
        have fBG := BG.frozens
        have zBG := BG.lt
        have cBP := BP.cells
        have fBP := BP.frozens
        have zBP := BP.lt
        have cBQ := BQ.cells
        have fBQ := BQ.frozens
        have zBQ := BQ.lt
        have cBH := BH.cells
        have fBH := BH.frozens
        have zBH := BH.lt
        have BO : Blk (w5.alloc (.cells (#[.int .i64 (rP r2).kind, .int .i64 (rP r2).fr.addr, .int .i64 (rP r2).fr.port, .int .i64 (rP r2).to_.addr, .int .i64 (rP r2).to_.port, .slice A5 n5 C5]) 33)) w5.heap.size 33 (#[.int .i64 (rP r2).kind, .int .i64 (rP r2).fr.addr, .int .i64 (rP r2).fr.port, .int .i64 (rP r2).to_.addr, .int .i64 (rP r2).to_.port, .slice A5 n5 C5]) := Blk.new _ _ _
        clear BO
        cases r2 with
        | none =>
          go_wp2
          go_ret
          exact ⟨rfl, XU.trans (show Ext _ _ from (by repeat (first | (with_reducible exact Ext.refl _) | (with_reducible assumption) | (with_reducible refine Ext.alloc ?_ _) | (with_reducible refine Ext.drewN ?_ _) | (with_reducible refine Ext.drew ?_) | (with_reducible refine Ext.setCell ?_ ?_ _; rotate_left; (simp only []; omega)) | (with_reducible refine Ext.trans ?_ (by assumption)))))⟩
        | some s2 =>
          obtain ⟨o, h'⟩ := s2
          obtain ⟨m1, m2⟩ := hL.out o h' hr2.out.symm
          have e1 : ((rP (some (o, h'))).fr.port != q.fr.port) = true := by simpa [rP] using m1
          have e2 : ((rP (some (o, h'))).fr.addr == q.fr.addr) = true := by simpa [rP] using m2
          clear m1 m2 hL hr2
          go_wp2
          go_ret
          exact ⟨rfl, XU.trans (show Ext _ _ from (by repeat (first | (with_reducible exact Ext.refl _) | (with_reducible assumption) | (with_reducible refine Ext.alloc ?_ _) | (with_reducible refine Ext.drewN ?_ _) | (with_reducible refine Ext.drew ?_) | (with_reducible refine Ext.setCell ?_ ?_ _; rotate_left; (simp only []; omega)) | (with_reducible refine Ext.trans ?_ (by assumption)))))⟩
set_option maxHeartbeats 4000000 in
theorem law_FnSendOutFull (a : Option Addr) (n c : Nat) (u : World) (hc : Code u a n c) : Calls Try.prog 13 #[.slice a n c] u fun e w' => e = .returned (.bool true) ∧ Ext u w' := by
  by_cases hn : n ≤ 1048576
  rotate_left
  · go_enter Try.func13, Try.ntmps13
    go_wp2
    go_ret
    exact ⟨rfl, Ext.refl _⟩
  · go_enter Try.func13, Try.ntmps13
    go_wp2_with fail
    refine (DrawSendOut_any a n c _ hc).mono ?_
    rintro e w ⟨g, p, ta, tn, tc, ka, kn, kc, sa, sn, sc, rfl, T0, K0, S0, _, _, _, XU⟩
    go_wp2_with fail
    refine (impl_SendOut g p ta tn tc ka kn kc sa sn sc _ (by exact T0.ext (by repeat (first | (with_reducible exact Ext.refl _) | (with_reducible assumption) | (with_reducible refine Ext.alloc ?_ _) | (with_reducible refine Ext.drewN ?_ _) | (with_reducible refine Ext.drew ?_) | (with_reducible refine Ext.setCell ?_ ?_ _; rotate_left; (simp only []; omega)) | (with_reducible refine Ext.trans ?_ (by assumption))))) (by exact K0.ext (by repeat (first | (with_reducible exact Ext.refl _) | (with_reducible assumption) | (with_reducible refine Ext.alloc ?_ _) | (with_reducible refine Ext.drewN ?_ _) | (with_reducible refine Ext.drew ?_) | (with_reducible refine Ext.setCell ?_ ?_ _; rotate_left; (simp only []; omega)) | (with_reducible refine Ext.trans ?_ (by assumption))))) (by exact S0.ext (by repeat (first | (with_reducible exact Ext.refl _) | (with_reducible assumption) | (with_reducible refine Ext.alloc ?_ _) | (with_reducible refine Ext.drewN ?_ _) | (with_reducible refine Ext.drew ?_) | (with_reducible refine Ext.setCell ?_ ?_ _; rotate_left; (simp only []; omega)) | (with_reducible refine Ext.trans ?_ (by assumption)))))).mono ?_
    rintro e w1 ⟨A1, n1, C1, xa, xn, xc, ya, yn, yc, rfl, O1, O2, O3, hx1⟩
    have hy1 := hx1.size
    (try simp at hy1)
    have eW1 := useE (fun (h : Ext _ w1) => T0.ext h) (by repeat (first | (with_reducible exact Ext.refl _) | (with_reducible assumption) | (with_reducible refine Ext.alloc ?_ _) | (with_reducible refine Ext.drewN ?_ _) | (with_reducible refine Ext.drew ?_) | (with_reducible refine Ext.setCell ?_ ?_ _; rotate_left; (simp only []; omega)) | (with_reducible refine Ext.trans ?_ (by assumption))))
    replace T0 := T0.ext eW1
    replace K0 := K0.ext eW1
    replace S0 := S0.ext eW1
    have BG : Blk w1 w.heap.size 28 (#[.int .i64 g.net.base, .int .i64 g.net.bits, .int .i64 g.out, .slice ta tn tc, .slice ka kn kc, .int .i64 g.filter, .int .i64 g.hold, .int .i64 g.now]) := by refine Blk.ext ?_ hx1; exact (by repeat (first | (with_reducible assumption) | (with_reducible exact Blk.new _ _ _) | exact Blk.newAt _ _ _ (by simp) | (with_reducible refine Blk.alloc ?_ _) | (with_reducible refine Blk.drew ?_) | (with_reducible refine Blk.drewN ?_ _) | refine Blk.far ?_ (by simp only []; omega) _ | refine Blk.rext ?_ (by assumption) (by omega) | refine Blk.ext ?_ (by assumption)))
    have BP : Blk w1 (w.heap.size+1) 33 (#[.int .i64 p.kind, .int .i64 p.fr.addr, .int .i64 p.fr.port, .int .i64 p.to_.addr, .int .i64 p.to_.port, .slice sa sn sc]) := by refine Blk.ext ?_ hx1; exact (by repeat (first | (with_reducible assumption) | (with_reducible exact Blk.new _ _ _) | exact Blk.newAt _ _ _ (by simp) | (with_reducible refine Blk.alloc ?_ _) | (with_reducible refine Blk.drew ?_) | (with_reducible refine Blk.drewN ?_ _) | refine Blk.far ?_ (by simp only []; omega) _ | refine Blk.rext ?_ (by assumption) (by omega) | refine Blk.ext ?_ (by assumption)))
    replace XU := XU.ext eW1
    have cBG := BG.cells
    have fBG := BG.frozens
    have zBG := BG.lt
    have cBP := BP.cells
    have fBP := BP.frozens
    have zBP := BP.lt
    obtain ⟨r, hr⟩ : ∃ r, r = sendOut g p := ⟨_, rfl⟩
    rw [← hr] at O1 O2 O3 ⊢
    replace hr := Lib.hid hr
    go_wp2_with fail
    refine (spec_SendOut g p ta tn tc ka kn kc sa sn sc _ (by exact T0.ext (by repeat (first | (with_reducible exact Ext.refl _) | (with_reducible assumption) | (with_reducible refine Ext.alloc ?_ _) | (with_reducible refine Ext.drewN ?_ _) | (with_reducible refine Ext.drew ?_) | (with_reducible refine Ext.setCell ?_ ?_ _; rotate_left; (simp only []; omega)) | (with_reducible refine Ext.trans ?_ (by assumption))))) (by exact K0.ext (by repeat (first | (with_reducible exact Ext.refl _) | (with_reducible assumption) | (with_reducible refine Ext.alloc ?_ _) | (with_reducible refine Ext.drewN ?_ _) | (with_reducible refine Ext.drew ?_) | (with_reducible refine Ext.setCell ?_ ?_ _; rotate_left; (simp only []; omega)) | (with_reducible refine Ext.trans ?_ (by assumption))))) (by exact S0.ext (by repeat (first | (with_reducible exact Ext.refl _) | (with_reducible assumption) | (with_reducible refine Ext.alloc ?_ _) | (with_reducible refine Ext.drewN ?_ _) | (with_reducible refine Ext.drew ?_) | (with_reducible refine Ext.setCell ?_ ?_ _; rotate_left; (simp only []; omega)) | (with_reducible refine Ext.trans ?_ (by assumption)))))).mono ?_
    rintro e w2 ⟨A2, n2, C2, xb, xm, xd, yb, ym, yd, rfl, O4, O5, O6, hx2⟩
    have hy2 := hx2.size
    (try simp at hy2)
    have eW2 := useE (fun (h : Ext _ w2) => T0.ext h) (by repeat (first | (with_reducible exact Ext.refl _) | (with_reducible assumption) | (with_reducible refine Ext.alloc ?_ _) | (with_reducible refine Ext.drewN ?_ _) | (with_reducible refine Ext.drew ?_) | (with_reducible refine Ext.setCell ?_ ?_ _; rotate_left; (simp only []; omega)) | (with_reducible refine Ext.trans ?_ (by assumption))))
    replace T0 := T0.ext eW2
    replace K0 := K0.ext eW2
    replace S0 := S0.ext eW2
    clear cBG fBG zBG
    replace BG := BG.ext eW2
    clear cBP fBP zBP
    replace BP := BP.ext eW2
    replace O1 := O1.ext eW2
    replace O2 := O2.ext eW2
    replace O3 := O3.ext eW2
    have BQ : Blk w2 w1.heap.size 33 (#[.int .i64 (rP r).kind, .int .i64 (rP r).fr.addr, .int .i64 (rP r).fr.port, .int .i64 (rP r).to_.addr, .int .i64 (rP r).to_.port, .slice A1 n1 C1]) := by refine Blk.ext ?_ hx2; exact (by repeat (first | (with_reducible assumption) | (with_reducible exact Blk.new _ _ _) | exact Blk.newAt _ _ _ (by simp) | (with_reducible refine Blk.alloc ?_ _) | (with_reducible refine Blk.drew ?_) | (with_reducible refine Blk.drewN ?_ _) | refine Blk.far ?_ (by simp only []; omega) _ | refine Blk.rext ?_ (by assumption) (by omega) | refine Blk.ext ?_ (by assumption)))
    have BH : Blk w2 (w1.heap.size+1) 28 (#[.int .i64 (rG r).net.base, .int .i64 (rG r).net.bits, .int .i64 (rG r).out, .slice xa xn xc, .slice ya yn yc, .int .i64 (rG r).filter, .int .i64 (rG r).hold, .int .i64 (rG r).now]) := by refine Blk.ext ?_ hx2; exact (by repeat (first | (with_reducible assumption) | (with_reducible exact Blk.new _ _ _) | exact Blk.newAt _ _ _ (by simp) | (with_reducible refine Blk.alloc ?_ _) | (with_reducible refine Blk.drew ?_) | (with_reducible refine Blk.drewN ?_ _) | refine Blk.far ?_ (by simp only []; omega) _ | refine Blk.rext ?_ (by assumption) (by omega) | refine Blk.ext ?_ (by assumption)))
    replace XU := XU.ext eW2
    have cBG := BG.cells
    have fBG := BG.frozens
    have zBG := BG.lt
    have cBP := BP.cells
    have fBP := BP.frozens
    have zBP := BP.lt
    have cBQ := BQ.cells
    have fBQ := BQ.frozens
    have zBQ := BQ.lt
    have cBH := BH.cells
    have fBH := BH.frozens
    have zBH := BH.lt
    rw [← hr.out] at O4 O5 O6 ⊢
    go_wp2_with fail
    refine (equalPacket_ow (rP r) A1 A2 n1 n2 C1 C2 _ (by exact (O1.sl encI_len).ext (by repeat (first | (with_reducible exact Ext.refl _) | (with_reducible assumption) | (with_reducible refine Ext.alloc ?_ _) | (with_reducible refine Ext.drewN ?_ _) | (with_reducible refine Ext.drew ?_) | (with_reducible refine Ext.setCell ?_ ?_ _; rotate_left; (simp only []; omega)) | (with_reducible refine Ext.trans ?_ (by assumption))))) (by exact (O4.sl encI_len).ext (by repeat (first | (with_reducible exact Ext.refl _) | (with_reducible assumption) | (with_reducible refine Ext.alloc ?_ _) | (with_reducible refine Ext.drewN ?_ _) | (with_reducible refine Ext.drew ?_) | (with_reducible refine Ext.setCell ?_ ?_ _; rotate_left; (simp only []; omega)) | (with_reducible refine Ext.trans ?_ (by assumption)))))).mono ?_
    rintro e w3 ⟨rfl, hx3⟩
    have hy3 := hx3.size
    (try simp at hy3)
    have eW3 := useE (fun (h : Ext _ w3) => T0.ext h) (by repeat (first | (with_reducible exact Ext.refl _) | (with_reducible assumption) | (with_reducible refine Ext.alloc ?_ _) | (with_reducible refine Ext.drewN ?_ _) | (with_reducible refine Ext.drew ?_) | (with_reducible refine Ext.setCell ?_ ?_ _; rotate_left; (simp only []; omega)) | (with_reducible refine Ext.trans ?_ (by assumption))))
    replace T0 := T0.ext eW3
    replace K0 := K0.ext eW3
    replace S0 := S0.ext eW3
    clear cBG fBG zBG
    replace BG := BG.ext eW3
    clear cBP fBP zBP
    replace BP := BP.ext eW3
    replace O1 := O1.ext eW3
    replace O2 := O2.ext eW3
    replace O3 := O3.ext eW3
    clear cBQ fBQ zBQ
    replace BQ := BQ.ext eW3
    clear cBH fBH zBH
    replace BH := BH.ext eW3
    replace O4 := O4.ext eW3
    replace O5 := O5.ext eW3
    replace O6 := O6.ext eW3
    have BV : Blk w3 w2.heap.size 33 (#[.int .i64 (rP r).kind, .int .i64 (rP r).fr.addr, .int .i64 (rP r).fr.port, .int .i64 (rP r).to_.addr, .int .i64 (rP r).to_.port, .slice A2 n2 C2]) := by refine Blk.ext ?_ hx3; exact (by repeat (first | (with_reducible assumption) | (with_reducible exact Blk.new _ _ _) | exact Blk.newAt _ _ _ (by simp) | (with_reducible refine Blk.alloc ?_ _) | (with_reducible refine Blk.drew ?_) | (with_reducible refine Blk.drewN ?_ _) | refine Blk.far ?_ (by simp only []; omega) _ | refine Blk.rext ?_ (by assumption) (by omega) | refine Blk.ext ?_ (by assumption)))
    have BW : Blk w3 (w2.heap.size+1) 28 (#[.int .i64 (rG r).net.base, .int .i64 (rG r).net.bits, .int .i64 (rG r).out, .slice xb xm xd, .slice yb ym yd, .int .i64 (rG r).filter, .int .i64 (rG r).hold, .int .i64 (rG r).now]) := by refine Blk.ext ?_ hx3; exact (by repeat (first | (with_reducible assumption) | (with_reducible exact Blk.new _ _ _) | exact Blk.newAt _ _ _ (by simp) | (with_reducible refine Blk.alloc ?_ _) | (with_reducible refine Blk.drew ?_) | (with_reducible refine Blk.drewN ?_ _) | refine Blk.far ?_ (by simp only []; omega) _ | refine Blk.rext ?_ (by assumption) (by omega) | refine Blk.ext ?_ (by assumption)))
    replace XU := XU.ext eW3
    have cBG := BG.cells
    have fBG := BG.frozens
    have zBG := BG.lt
    have cBP := BP.cells
    have fBP := BP.frozens
    have zBP := BP.lt
    have cBQ := BQ.cells
    have fBQ := BQ.frozens
    have zBQ := BQ.lt
    have cBH := BH.cells
    have fBH := BH.frozens
    have zBH := BH.lt
    have cBV := BV.cells
    have fBV := BV.frozens
    have zBV := BV.lt
    have cBW := BW.cells
    have fBW := BW.frozens
    have zBW := BW.lt
    go_wp2_with fail
    refine (equalGate_ow (rG r) xa xn xc ya yn yc xb xm xd yb ym yd _ (by exact (O2.sl encM_len).ext (by repeat (first | (with_reducible exact Ext.refl _) | (with_reducible assumption) | (with_reducible refine Ext.alloc ?_ _) | (with_reducible refine Ext.drewN ?_ _) | (with_reducible refine Ext.drew ?_) | (with_reducible refine Ext.setCell ?_ ?_ _; rotate_left; (simp only []; omega)) | (with_reducible refine Ext.trans ?_ (by assumption))))) (by exact (O3.sl encC_len).ext (by repeat (first | (with_reducible exact Ext.refl _) | (with_reducible assumption) | (with_reducible refine Ext.alloc ?_ _) | (with_reducible refine Ext.drewN ?_ _) | (with_reducible refine Ext.drew ?_) | (with_reducible refine Ext.setCell ?_ ?_ _; rotate_left; (simp only []; omega)) | (with_reducible refine Ext.trans ?_ (by assumption))))) (by exact (O5.sl encM_len).ext (by repeat (first | (with_reducible exact Ext.refl _) | (with_reducible assumption) | (with_reducible refine Ext.alloc ?_ _) | (with_reducible refine Ext.drewN ?_ _) | (with_reducible refine Ext.drew ?_) | (with_reducible refine Ext.setCell ?_ ?_ _; rotate_left; (simp only []; omega)) | (with_reducible refine Ext.trans ?_ (by assumption))))) (by exact (O6.sl encC_len).ext (by repeat (first | (with_reducible exact Ext.refl _) | (with_reducible assumption) | (with_reducible refine Ext.alloc ?_ _) | (with_reducible refine Ext.drewN ?_ _) | (with_reducible refine Ext.drew ?_) | (with_reducible refine Ext.setCell ?_ ?_ _; rotate_left; (simp only []; omega)) | (with_reducible refine Ext.trans ?_ (by assumption)))))).mono ?_
    rintro e w4 ⟨rfl, hx4⟩
    have hy4 := hx4.size
    (try simp at hy4)
    have eW4 := useE (fun (h : Ext _ w4) => T0.ext h) (by repeat (first | (with_reducible exact Ext.refl _) | (with_reducible assumption) | (with_reducible refine Ext.alloc ?_ _) | (with_reducible refine Ext.drewN ?_ _) | (with_reducible refine Ext.drew ?_) | (with_reducible refine Ext.setCell ?_ ?_ _; rotate_left; (simp only []; omega)) | (with_reducible refine Ext.trans ?_ (by assumption))))
    replace T0 := T0.ext eW4
    replace K0 := K0.ext eW4
    replace S0 := S0.ext eW4
    clear cBG fBG zBG
    replace BG := BG.ext eW4
    clear cBP fBP zBP
    replace BP := BP.ext eW4
    replace O1 := O1.ext eW4
    replace O2 := O2.ext eW4
    replace O3 := O3.ext eW4
    clear cBQ fBQ zBQ
    replace BQ := BQ.ext eW4
    clear cBH fBH zBH
    replace BH := BH.ext eW4
    replace O4 := O4.ext eW4
    replace O5 := O5.ext eW4
    replace O6 := O6.ext eW4
    clear cBV fBV zBV
    replace BV := BV.ext eW4
    clear cBW fBW zBW
    replace BW := BW.ext eW4
    replace XU := XU.ext eW4
    have cBG := BG.cells
    have fBG := BG.frozens
    have zBG := BG.lt
    have cBP := BP.cells
    have fBP := BP.frozens
    have zBP := BP.lt
    have cBQ := BQ.cells
    have fBQ := BQ.frozens
    have zBQ := BQ.lt
    have cBH := BH.cells
    have fBH := BH.frozens
    have zBH := BH.lt
    have cBV := BV.cells
    have fBV := BV.frozens
    have zBV := BV.lt
    have cBW := BW.cells
    have fBW := BW.frozens
    have zBW := BW.lt
    obtain ⟨ok, hok⟩ : ∃ ok, ok = r.isSome := ⟨_, rfl⟩
    rw [← hok]
    obtain ⟨N, hN⟩ : ∃ N, N = wayOf g p := ⟨_, rfl⟩
    have c5 := fun W x y z => impl_WayOf g p ta tn tc ka kn kc sa sn sc W x y z
    rw [← hN] at c5
    replace c5 := Lib.hid c5
    replace hN := Lib.hid hN
    by_cases h2 : N = 1
    · subst h2
      have hL := law_sendFull hN.out.symm
      rw [← hr.out, ← hok, T0.len] at hL
      clear hok hr hN
      have c6 := fun W x => impl_OutsidePort p.fr ta tn tc g.table W x
      obtain ⟨E, hE⟩ : ∃ E, E = outsidePort g.table p.fr := ⟨_, rfl⟩
      rw [← hE] at c6 hL
      clear hE
      replace c6 := Lib.hid c6
      replace hL := Lib.hid hL
      go_wp2_with fail
      refine (c5.out _ (by exact T0.ext (by repeat (first | (with_reducible exact Ext.refl _) | (with_reducible assumption) | (with_reducible refine Ext.alloc ?_ _) | (with_reducible refine Ext.drewN ?_ _) | (with_reducible refine Ext.drew ?_) | (with_reducible refine Ext.setCell ?_ ?_ _; rotate_left; (simp only []; omega)) | (with_reducible refine Ext.trans ?_ (by assumption))))) (by exact K0.ext (by repeat (first | (with_reducible exact Ext.refl _) | (with_reducible assumption) | (with_reducible refine Ext.alloc ?_ _) | (with_reducible refine Ext.drewN ?_ _) | (with_reducible refine Ext.drew ?_) | (with_reducible refine Ext.setCell ?_ ?_ _; rotate_left; (simp only []; omega)) | (with_reducible refine Ext.trans ?_ (by assumption))))) (by exact S0.ext (by repeat (first | (with_reducible exact Ext.refl _) | (with_reducible assumption) | (with_reducible refine Ext.alloc ?_ _) | (with_reducible refine Ext.drewN ?_ _) | (with_reducible refine Ext.drew ?_) | (with_reducible refine Ext.setCell ?_ ?_ _; rotate_left; (simp only []; omega)) | (with_reducible refine Ext.trans ?_ (by assumption)))))).mono ?_
      rintro e w5 ⟨rfl, hx5⟩
      have hy5 := hx5.size
      (try simp at hy5)
      have eW5 := useE (fun (h : Ext _ w5) => T0.ext h) (by repeat (first | (with_reducible exact Ext.refl _) | (with_reducible assumption) | (with_reducible refine Ext.alloc ?_ _) | (with_reducible refine Ext.drewN ?_ _) | (with_reducible refine Ext.drew ?_) | (with_reducible refine Ext.setCell ?_ ?_ _; rotate_left; (simp only []; omega)) | (with_reducible refine Ext.trans ?_ (by assumption))))
      replace T0 := T0.ext eW5
      replace K0 := K0.ext eW5
      replace S0 := S0.ext eW5
      clear cBG fBG zBG
      replace BG := BG.ext eW5
      clear cBP fBP zBP
      replace BP := BP.ext eW5
      replace O1 := O1.ext eW5
      replace O2 := O2.ext eW5
      replace O3 := O3.ext eW5
      clear cBQ fBQ zBQ
      replace BQ := BQ.ext eW5
      clear cBH fBH zBH
      replace BH := BH.ext eW5
      replace O4 := O4.ext eW5
      replace O5 := O5.ext eW5
      replace O6 := O6.ext eW5
      clear cBV fBV zBV
      replace BV := BV.ext eW5
      clear cBW fBW zBW
      replace BW := BW.ext eW5
      replace XU := XU.ext eW5
      have cBG := BG.cells
      have fBG := BG.frozens
      have zBG := BG.lt
      have cBP := BP.cells
      have fBP := BP.frozens
      have zBP := BP.lt
      have cBQ := BQ.cells
      have fBQ := BQ.frozens
      have zBQ := BQ.lt
      have cBH := BH.cells
      have fBH := BH.frozens
      have zBH := BH.lt
      have cBV := BV.cells
      have fBV := BV.frozens
      have zBV := BV.lt
      have cBW := BW.cells
      have fBW := BW.frozens
      have zBW := BW.lt
      go_wp2_with fail
      refine (c6.out _ (by exact T0.ext (by repeat (first | (with_reducible exact Ext.refl _) | (with_reducible assumption) | (with_reducible refine Ext.alloc ?_ _) | (with_reducible refine Ext.drewN ?_ _) | (with_reducible refine Ext.drew ?_) | (with_reducible refine Ext.setCell ?_ ?_ _; rotate_left; (simp only []; omega)) | (with_reducible refine Ext.trans ?_ (by assumption)))))).mono ?_
      rintro e w6 ⟨rfl, hx6⟩
      have hy6 := hx6.size
      (try simp at hy6)
      have eW6 := useE (fun (h : Ext _ w6) => T0.ext h) (by repeat (first | (with_reducible exact Ext.refl _) | (with_reducible assumption) | (with_reducible refine Ext.alloc ?_ _) | (with_reducible refine Ext.drewN ?_ _) | (with_reducible refine Ext.drew ?_) | (with_reducible refine Ext.setCell ?_ ?_ _; rotate_left; (simp only []; omega)) | (with_reducible refine Ext.trans ?_ (by assumption))))
      replace T0 := T0.ext eW6
      replace K0 := K0.ext eW6
      replace S0 := S0.ext eW6
      clear cBG fBG zBG
      replace BG := BG.ext eW6
      clear cBP fBP zBP
      replace BP := BP.ext eW6
      replace O1 := O1.ext eW6
      replace O2 := O2.ext eW6
      replace O3 := O3.ext eW6
      clear cBQ fBQ zBQ
      replace BQ := BQ.ext eW6
      clear cBH fBH zBH
      replace BH := BH.ext eW6
      replace O4 := O4.ext eW6
      replace O5 := O5.ext eW6
      replace O6 := O6.ext eW6
      clear cBV fBV zBV
      replace BV := BV.ext eW6
      clear cBW fBW zBW
      replace BW := BW.ext eW6
      replace XU := XU.ext eW6
      have cBG := BG.cells
      have fBG := BG.frozens
      have zBG := BG.lt
      have cBP := BP.cells
      have fBP := BP.frozens
      have zBP := BP.lt
      have cBQ := BQ.cells
      have fBQ := BQ.frozens
      have zBQ := BQ.lt
      have cBH := BH.cells
      have fBH := BH.frozens
      have zBH := BH.lt
      have cBV := BV.cells
      have fBV := BV.frozens
      have zBV := BV.lt
      have cBW := BW.cells
      have fBW := BW.frozens
      have zBW := BW.lt
      by_cases h3 : 0 ≤ E
      · have ho : ok = true := by rw [hL.out]; simp [h3]
        subst ho
        clear hL
        go_wp2
        go_ret
        exact ⟨rfl, XU.trans (show Ext _ _ from (by repeat (first | (with_reducible exact Ext.refl _) | (with_reducible assumption) | (with_reducible refine Ext.alloc ?_ _) | (with_reducible refine Ext.drewN ?_ _) | (with_reducible refine Ext.drew ?_) | (with_reducible refine Ext.setCell ?_ ?_ _; rotate_left; (simp only []; omega)) | (with_reducible refine Ext.trans ?_ (by assumption)))))⟩
      · by_cases h4 : tn < 8
        · have ho : ok = true := by rw [hL.out]; simp [h4]
          have h5 : (tn : Int) < 8 := by omega
          subst ho
          clear hL
          go_wp2
          go_ret
          exact ⟨rfl, XU.trans (show Ext _ _ from (by repeat (first | (with_reducible exact Ext.refl _) | (with_reducible assumption) | (with_reducible refine Ext.alloc ?_ _) | (with_reducible refine Ext.drewN ?_ _) | (with_reducible refine Ext.drew ?_) | (with_reducible refine Ext.setCell ?_ ?_ _; rotate_left; (simp only []; omega)) | (with_reducible refine Ext.trans ?_ (by assumption)))))⟩
        · have ho : ok = false := by rw [hL.out]; simp [h3, h4]
          have h5 : ¬ (tn : Int) < 8 := by omega
          subst ho
          clear hL
          go_wp2
          go_ret
          exact ⟨ret_bool (by simp [h3, h5]), XU.trans (show Ext _ _ from (by repeat (first | (with_reducible exact Ext.refl _) | (with_reducible assumption) | (with_reducible refine Ext.alloc ?_ _) | (with_reducible refine Ext.drewN ?_ _) | (with_reducible refine Ext.drew ?_) | (with_reducible refine Ext.setCell ?_ ?_ _; rotate_left; (simp only []; omega)) | (with_reducible refine Ext.trans ?_ (by assumption)))))⟩
    · clear hok hr hN
      go_wp2_with fail
      refine (c5.out _ (by exact T0.ext (by repeat (first | (with_reducible exact Ext.refl _) | (with_reducible assumption) | (with_reducible refine Ext.alloc ?_ _) | (with_reducible refine Ext.drewN ?_ _) | (with_reducible refine Ext.drew ?_) | (with_reducible refine Ext.setCell ?_ ?_ _; rotate_left; (simp only []; omega)) | (with_reducible refine Ext.trans ?_ (by assumption))))) (by exact K0.ext (by repeat (first | (with_reducible exact Ext.refl _) | (with_reducible assumption) | (with_reducible refine Ext.alloc ?_ _) | (with_reducible refine Ext.drewN ?_ _) | (with_reducible refine Ext.drew ?_) | (with_reducible refine Ext.setCell ?_ ?_ _; rotate_left; (simp only []; omega)) | (with_reducible refine Ext.trans ?_ (by assumption))))) (by exact S0.ext (by repeat (first | (with_reducible exact Ext.refl _) | (with_reducible assumption) | (with_reducible refine Ext.alloc ?_ _) | (with_reducible refine Ext.drewN ?_ _) | (with_reducible refine Ext.drew ?_) | (with_reducible refine Ext.setCell ?_ ?_ _; rotate_left; (simp only []; omega)) | (with_reducible refine Ext.trans ?_ (by assumption)))))).mono ?_
      rintro e w5 ⟨rfl, hx5⟩
      have hy5 := hx5.size
      (try simp at hy5)
      have eW5 := useE (fun (h : Ext _ w5) => T0.ext h) (by repeat (first | (with_reducible exact Ext.refl _) | (with_reducible assumption) | (with_reducible refine Ext.alloc ?_ _) | (with_reducible refine Ext.drewN ?_ _) | (with_reducible refine Ext.drew ?_) | (with_reducible refine Ext.setCell ?_ ?_ _; rotate_left; (simp only []; omega)) | (with_reducible refine Ext.trans ?_ (by assumption))))
      replace T0 := T0.ext eW5
      replace K0 := K0.ext eW5
      replace S0 := S0.ext eW5
      clear cBG fBG zBG
      replace BG := BG.ext eW5
      clear cBP fBP zBP
      replace BP := BP.ext eW5
      replace O1 := O1.ext eW5
      replace O2 := O2.ext eW5
      replace O3 := O3.ext eW5
      clear cBQ fBQ zBQ
      replace BQ := BQ.ext eW5
      clear cBH fBH zBH
      replace BH := BH.ext eW5
      replace O4 := O4.ext eW5
      replace O5 := O5.ext eW5
      replace O6 := O6.ext eW5
      clear cBV fBV zBV
      replace BV := BV.ext eW5
      clear cBW fBW zBW
      replace BW := BW.ext eW5
      replace XU := XU.ext eW5
      have cBG := BG.cells
      have fBG := BG.frozens
      have zBG := BG.lt
      have cBP := BP.cells
      have fBP := BP.frozens
      have zBP := BP.lt
      have cBQ := BQ.cells
      have fBQ := BQ.frozens
      have zBQ := BQ.lt
      have cBH := BH.cells
      have fBH := BH.frozens
      have zBH := BH.lt
      have cBV := BV.cells
      have fBV := BV.frozens
      have zBV := BV.lt
      have cBW := BW.cells
      have fBW := BW.frozens
      have zBW := BW.lt
      go_wp2_with fail
      refine (equalPacket_ow (rP r) A1 A2 n1 n2 C1 C2 _ (by exact (O1.sl encI_len).ext (by repeat (first | (with_reducible exact Ext.refl _) | (with_reducible assumption) | (with_reducible refine Ext.alloc ?_ _) | (with_reducible refine Ext.drewN ?_ _) | (with_reducible refine Ext.drew ?_) | (with_reducible refine Ext.setCell ?_ ?_ _; rotate_left; (simp only []; omega)) | (with_reducible refine Ext.trans ?_ (by assumption))))) (by exact (O4.sl encI_len).ext (by repeat (first | (with_reducible exact Ext.refl _) | (with_reducible assumption) | (with_reducible refine Ext.alloc ?_ _) | (with_reducible refine Ext.drewN ?_ _) | (with_reducible refine Ext.drew ?_) | (with_reducible refine Ext.setCell ?_ ?_ _; rotate_left; (simp only []; omega)) | (with_reducible refine Ext.trans ?_ (by assumption)))))).mono ?_
      rintro e w6 ⟨rfl, hx6⟩
      have hy6 := hx6.size
      (try simp at hy6)
      have eW6 := useE (fun (h : Ext _ w6) => T0.ext h) (by repeat (first | (with_reducible exact Ext.refl _) | (with_reducible assumption) | (with_reducible refine Ext.alloc ?_ _) | (with_reducible refine Ext.drewN ?_ _) | (with_reducible refine Ext.drew ?_) | (with_reducible refine Ext.setCell ?_ ?_ _; rotate_left; (simp only []; omega)) | (with_reducible refine Ext.trans ?_ (by assumption))))
      replace T0 := T0.ext eW6
      replace K0 := K0.ext eW6
      replace S0 := S0.ext eW6
      clear cBG fBG zBG
      replace BG := BG.ext eW6
      clear cBP fBP zBP
      replace BP := BP.ext eW6
      replace O1 := O1.ext eW6
      replace O2 := O2.ext eW6
      replace O3 := O3.ext eW6
      clear cBQ fBQ zBQ
      replace BQ := BQ.ext eW6
      clear cBH fBH zBH
      replace BH := BH.ext eW6
      replace O4 := O4.ext eW6
      replace O5 := O5.ext eW6
      replace O6 := O6.ext eW6
      clear cBV fBV zBV
      replace BV := BV.ext eW6
      clear cBW fBW zBW
      replace BW := BW.ext eW6
      replace XU := XU.ext eW6
      have cBG := BG.cells
      have fBG := BG.frozens
      have zBG := BG.lt
      have cBP := BP.cells
      have fBP := BP.frozens
      have zBP := BP.lt
      have cBQ := BQ.cells
      have fBQ := BQ.frozens
      have zBQ := BQ.lt
      have cBH := BH.cells
      have fBH := BH.frozens
      have zBH := BH.lt
      have cBV := BV.cells
      have fBV := BV.frozens
      have zBV := BV.lt
      have cBW := BW.cells
      have fBW := BW.frozens
      have zBW := BW.lt
      go_wp2_with fail
      refine (equalGate_ow (rG r) xa xn xc ya yn yc xb xm xd yb ym yd _ (by exact (O2.sl encM_len).ext (by repeat (first | (with_reducible exact Ext.refl _) | (with_reducible assumption) | (with_reducible refine Ext.alloc ?_ _) | (with_reducible refine Ext.drewN ?_ _) | (with_reducible refine Ext.drew ?_) | (with_reducible refine Ext.setCell ?_ ?_ _; rotate_left; (simp only []; omega)) | (with_reducible refine Ext.trans ?_ (by assumption))))) (by exact (O3.sl encC_len).ext (by repeat (first | (with_reducible exact Ext.refl _) | (with_reducible assumption) | (with_reducible refine Ext.alloc ?_ _) | (with_reducible refine Ext.drewN ?_ _) | (with_reducible refine Ext.drew ?_) | (with_reducible refine Ext.setCell ?_ ?_ _; rotate_left; (simp only []; omega)) | (with_reducible refine Ext.trans ?_ (by assumption))))) (by exact (O5.sl encM_len).ext (by repeat (first | (with_reducible exact Ext.refl _) | (with_reducible assumption) | (with_reducible refine Ext.alloc ?_ _) | (with_reducible refine Ext.drewN ?_ _) | (with_reducible refine Ext.drew ?_) | (with_reducible refine Ext.setCell ?_ ?_ _; rotate_left; (simp only []; omega)) | (with_reducible refine Ext.trans ?_ (by assumption))))) (by exact (O6.sl encC_len).ext (by repeat (first | (with_reducible exact Ext.refl _) | (with_reducible assumption) | (with_reducible refine Ext.alloc ?_ _) | (with_reducible refine Ext.drewN ?_ _) | (with_reducible refine Ext.drew ?_) | (with_reducible refine Ext.setCell ?_ ?_ _; rotate_left; (simp only []; omega)) | (with_reducible refine Ext.trans ?_ (by assumption)))))).mono ?_
      rintro e w7 ⟨rfl, hx7⟩
      have hy7 := hx7.size
      (try simp at hy7)
      have eW7 := useE (fun (h : Ext _ w7) => T0.ext h) (by repeat (first | (with_reducible exact Ext.refl _) | (with_reducible assumption) | (with_reducible refine Ext.alloc ?_ _) | (with_reducible refine Ext.drewN ?_ _) | (with_reducible refine Ext.drew ?_) | (with_reducible refine Ext.setCell ?_ ?_ _; rotate_left; (simp only []; omega)) | (with_reducible refine Ext.trans ?_ (by assumption))))
      replace T0 := T0.ext eW7
      replace K0 := K0.ext eW7
      replace S0 := S0.ext eW7
      clear cBG fBG zBG
      replace BG := BG.ext eW7
      clear cBP fBP zBP
      replace BP := BP.ext eW7
      replace O1 := O1.ext eW7
      replace O2 := O2.ext eW7
      replace O3 := O3.ext eW7
      clear cBQ fBQ zBQ
      replace BQ := BQ.ext eW7
      clear cBH fBH zBH
      replace BH := BH.ext eW7
      replace O4 := O4.ext eW7
      replace O5 := O5.ext eW7
      replace O6 := O6.ext eW7
      clear cBV fBV zBV
      replace BV := BV.ext eW7
      clear cBW fBW zBW
      replace BW := BW.ext eW7
      replace XU := XU.ext eW7
      have cBG := BG.cells
      have fBG := BG.frozens
      have zBG := BG.lt
      have cBP := BP.cells
      have fBP := BP.frozens
      have zBP := BP.lt
      have cBQ := BQ.cells
      have fBQ := BQ.frozens
      have zBQ := BQ.lt
      have cBH := BH.cells
      have fBH := BH.frozens
      have zBH := BH.lt
      have cBV := BV.cells
      have fBV := BV.frozens
      have zBV := BV.lt
      have cBW := BW.cells
      have fBW := BW.frozens
      have zBW := BW.lt
      go_wp2
      go_ret
      exact ⟨rfl, XU.trans (show Ext _ _ from (by repeat (first | (with_reducible exact Ext.refl _) | (with_reducible assumption) | (with_reducible refine Ext.alloc ?_ _) | (with_reducible refine Ext.drewN ?_ _) | (with_reducible refine Ext.drew ?_) | (with_reducible refine Ext.setCell ?_ ?_ _; rotate_left; (simp only []; omega)) | (with_reducible refine Ext.trans ?_ (by assumption)))))⟩
end Go.Proofs.Ytppdcglnopoocaa
