/- The law on answers to packets that were sent out, walked. -/
import Derived.Test.YtppdcglnopoocaaKn
import Derived.Test.YtppdcglnopoocaaKm
import Derived.Test.YtppdcglnopoocaaKl
namespace Go.Proofs.Ytppdcglnopoocaa
set_option linter.unusedVariables false
set_option linter.unusedSimpArgs false
open Go.RowKit

set_option maxHeartbeats 4000000 in
theorem law_FnSendOutAnswer (a : Option Addr) (n c : Nat) (u : World) (hc : Code u a n c) : Calls Try.prog 15 #[.slice a n c] u fun e w' => e = .returned (.bool true) ∧ Ext u w' := by
  by_cases hn : n ≤ 1048576
  rotate_left
  · go_enter Try.func15, Try.ntmps15
    go_wp2
    go_ret
    exact ⟨rfl, Ext.refl _⟩
  · go_enter Try.func15, Try.ntmps15
    go_wp2_with fail
    refine (DrawSendOut_any a n c _ hc).mono ?_
    rintro e w ⟨g, p, ta, tn, tc, ka, kn, kc, sa, sn, sc, rfl, T0, K0, S0, _, _, _, XU⟩
    go_wp2_with fail
    refine (impl_SendOut g p ta tn tc ka kn kc sa sn sc _ (by exact T0.ext (by repeat (first | (with_reducible exact Ext.refl _) | (with_reducible assumption) | (with_reducible refine Ext.alloc ?_ _) | (with_reducible refine Ext.drewN ?_ _) | (with_reducible refine Ext.drew ?_) | (with_reducible refine Ext.setCell ?_ ?_ _; rotate_left; (simp only []; omega)) | (with_reducible refine Ext.trans ?_ (by assumption))))) (by exact K0.ext (by repeat (first | (with_reducible exact Ext.refl _) | (with_reducible assumption) | (with_reducible refine Ext.alloc ?_ _) | (with_reducible refine Ext.drewN ?_ _) | (with_reducible refine Ext.drew ?_) | (with_reducible refine Ext.setCell ?_ ?_ _; rotate_left; (simp only []; omega)) | (with_reducible refine Ext.trans ?_ (by assumption))))) (by exact S0.ext (by repeat (first | (with_reducible exact Ext.refl _) | (with_reducible assumption) | (with_reducible refine Ext.alloc ?_ _) | (with_reducible refine Ext.drewN ?_ _) | (with_reducible refine Ext.drew ?_) | (with_reducible refine Ext.setCell ?_ ?_ _; rotate_left; (simp only []; omega)) | (with_reducible refine Ext.trans ?_ (by assumption)))))).mono ?_
    rintro e w1 ⟨A1, n1, C1, xa, xn, xc, ya, yn, yc, rfl, O1, O2, O3, hx1⟩
    have hy1 := hx1.size
    (try simp at hy1)
    have eW1 := useE (fun (h : Ext _ w1) => T0.ext h) (by repeat (first | (with_reducible exact Ext.refl _) | (with_reducible assumption) | (with_reducible refine Ext.alloc ?_ _) | (with_reducible refine Ext.drewN ?_ _) | (with_reducible refine Ext.drew ?_) | (with_reducible refine Ext.setCell ?_ ?_ _; rotate_left; (simp only []; omega)) | (with_reducible refine Ext.trans ?_ (by assumption))))
    replace T0 := T0.ext eW1
    replace K0 := K0.ext eW1
    replace S0 := S0.ext eW1
    have BG : Blk w1 w.heap.size 28 (#[.int .i64 g.net.base, .int .i64 g.net.bits, .int .i64 g.out, .slice ta tn tc, .slice ka kn kc, .int .i64 g.filter, .int .i64 g.hold, .int .i64 g.now]) := by refine Blk.ext ?_ hx1; exact (by repeat (first | (with_reducible assumption) | (with_reducible exact Blk.new _ _ _) | exact Blk.newAt _ _ _ (by simp) | (with_reducible refine Blk.alloc ?_ _) | (with_reducible refine Blk.drew ?_) | (with_reducible refine Blk.drewN ?_ _) | refine Blk.far ?_ (by simp only []; omega) _ | refine Blk.rext ?_ (by assumption) (by omega) | refine Blk.ext ?_ (by assumption)))
    have BP : Blk w1 (w.heap.size+1) 33 (#[.int .i64 p.kind, .int .i64 p.fr.addr, .int .i64 p.fr.port, .int .i64 p.to_.addr, .int .i64 p.to_.port, .slice sa sn sc]) := by refine Blk.ext ?_ hx1; exact (by repeat (first | (with_reducible assumption) | (with_reducible exact Blk.new _ _ _) | exact Blk.newAt _ _ _ (by simp) | (with_reducible refine Blk.alloc ?_ _) | (with_reducible refine Blk.drew ?_) | (with_reducible refine Blk.drewN ?_ _) | refine Blk.far ?_ (by simp only []; omega) _ | refine Blk.rext ?_ (by assumption) (by omega) | refine Blk.ext ?_ (by assumption)))
    replace XU := XU.ext eW1
    have cBG := BG.cells
    have fBG := BG.frozens
    have zBG := BG.lt
    have cBP := BP.cells
    have fBP := BP.frozens
    have zBP := BP.lt
    obtain ⟨r, hr⟩ : ∃ r, r = sendOut g p := ⟨_, rfl⟩
    rw [← hr] at O1 O2 O3 ⊢
    replace hr := Lib.hid hr
    go_wp2_with fail
    refine (spec_SendOut g p ta tn tc ka kn kc sa sn sc _ (by exact T0.ext (by repeat (first | (with_reducible exact Ext.refl _) | (with_reducible assumption) | (with_reducible refine Ext.alloc ?_ _) | (with_reducible refine Ext.drewN ?_ _) | (with_reducible refine Ext.drew ?_) | (with_reducible refine Ext.setCell ?_ ?_ _; rotate_left; (simp only []; omega)) | (with_reducible refine Ext.trans ?_ (by assumption))))) (by exact K0.ext (by repeat (first | (with_reducible exact Ext.refl _) | (with_reducible assumption) | (with_reducible refine Ext.alloc ?_ _) | (with_reducible refine Ext.drewN ?_ _) | (with_reducible refine Ext.drew ?_) | (with_reducible refine Ext.setCell ?_ ?_ _; rotate_left; (simp only []; omega)) | (with_reducible refine Ext.trans ?_ (by assumption))))) (by exact S0.ext (by repeat (first | (with_reducible exact Ext.refl _) | (with_reducible assumption) | (with_reducible refine Ext.alloc ?_ _) | (with_reducible refine Ext.drewN ?_ _) | (with_reducible refine Ext.drew ?_) | (with_reducible refine Ext.setCell ?_ ?_ _; rotate_left; (simp only []; omega)) | (with_reducible refine Ext.trans ?_ (by assumption)))))).mono ?_
    rintro e w2 ⟨A2, n2, C2, xb, xm, xd, yb, ym, yd, rfl, O4, O5, O6, hx2⟩
    have hy2 := hx2.size
    (try simp at hy2)
    have eW2 := useE (fun (h : Ext _ w2) => T0.ext h) (by repeat (first | (with_reducible exact Ext.refl _) | (with_reducible assumption) | (with_reducible refine Ext.alloc ?_ _) | (with_reducible refine Ext.drewN ?_ _) | (with_reducible refine Ext.drew ?_) | (with_reducible refine Ext.setCell ?_ ?_ _; rotate_left; (simp only []; omega)) | (with_reducible refine Ext.trans ?_ (by assumption))))
    replace T0 := T0.ext eW2
    replace K0 := K0.ext eW2
    replace S0 := S0.ext eW2
    clear cBG fBG zBG
    replace BG := BG.ext eW2
    clear cBP fBP zBP
    replace BP := BP.ext eW2
    replace O1 := O1.ext eW2
    replace O2 := O2.ext eW2
    replace O3 := O3.ext eW2
    have BQ : Blk w2 w1.heap.size 33 (#[.int .i64 (rP r).kind, .int .i64 (rP r).fr.addr, .int .i64 (rP r).fr.port, .int .i64 (rP r).to_.addr, .int .i64 (rP r).to_.port, .slice A1 n1 C1]) := by refine Blk.ext ?_ hx2; exact (by repeat (first | (with_reducible assumption) | (with_reducible exact Blk.new _ _ _) | exact Blk.newAt _ _ _ (by simp) | (with_reducible refine Blk.alloc ?_ _) | (with_reducible refine Blk.drew ?_) | (with_reducible refine Blk.drewN ?_ _) | refine Blk.far ?_ (by simp only []; omega) _ | refine Blk.rext ?_ (by assumption) (by omega) | refine Blk.ext ?_ (by assumption)))
    have BH : Blk w2 (w1.heap.size+1) 28 (#[.int .i64 (rG r).net.base, .int .i64 (rG r).net.bits, .int .i64 (rG r).out, .slice xa xn xc, .slice ya yn yc, .int .i64 (rG r).filter, .int .i64 (rG r).hold, .int .i64 (rG r).now]) := by refine Blk.ext ?_ hx2; exact (by repeat (first | (with_reducible assumption) | (with_reducible exact Blk.new _ _ _) | exact Blk.newAt _ _ _ (by simp) | (with_reducible refine Blk.alloc ?_ _) | (with_reducible refine Blk.drew ?_) | (with_reducible refine Blk.drewN ?_ _) | refine Blk.far ?_ (by simp only []; omega) _ | refine Blk.rext ?_ (by assumption) (by omega) | refine Blk.ext ?_ (by assumption)))
    replace XU := XU.ext eW2
    have cBG := BG.cells
    have fBG := BG.frozens
    have zBG := BG.lt
    have cBP := BP.cells
    have fBP := BP.frozens
    have zBP := BP.lt
    have cBQ := BQ.cells
    have fBQ := BQ.frozens
    have zBQ := BQ.lt
    have cBH := BH.cells
    have fBH := BH.frozens
    have zBH := BH.lt
    rw [← hr.out] at O4 O5 O6 ⊢
    go_wp2_with fail
    refine (equalPacket_ow (rP r) A1 A2 n1 n2 C1 C2 _ (by exact (O1.sl encI_len).ext (by repeat (first | (with_reducible exact Ext.refl _) | (with_reducible assumption) | (with_reducible refine Ext.alloc ?_ _) | (with_reducible refine Ext.drewN ?_ _) | (with_reducible refine Ext.drew ?_) | (with_reducible refine Ext.setCell ?_ ?_ _; rotate_left; (simp only []; omega)) | (with_reducible refine Ext.trans ?_ (by assumption))))) (by exact (O4.sl encI_len).ext (by repeat (first | (with_reducible exact Ext.refl _) | (with_reducible assumption) | (with_reducible refine Ext.alloc ?_ _) | (with_reducible refine Ext.drewN ?_ _) | (with_reducible refine Ext.drew ?_) | (with_reducible refine Ext.setCell ?_ ?_ _; rotate_left; (simp only []; omega)) | (with_reducible refine Ext.trans ?_ (by assumption)))))).mono ?_
    rintro e w3 ⟨rfl, hx3⟩
    have hy3 := hx3.size
    (try simp at hy3)
    have eW3 := useE (fun (h : Ext _ w3) => T0.ext h) (by repeat (first | (with_reducible exact Ext.refl _) | (with_reducible assumption) | (with_reducible refine Ext.alloc ?_ _) | (with_reducible refine Ext.drewN ?_ _) | (with_reducible refine Ext.drew ?_) | (with_reducible refine Ext.setCell ?_ ?_ _; rotate_left; (simp only []; omega)) | (with_reducible refine Ext.trans ?_ (by assumption))))
    replace T0 := T0.ext eW3
    replace K0 := K0.ext eW3
    replace S0 := S0.ext eW3
    clear cBG fBG zBG
    replace BG := BG.ext eW3
    clear cBP fBP zBP
    replace BP := BP.ext eW3
    replace O1 := O1.ext eW3
    replace O2 := O2.ext eW3
    replace O3 := O3.ext eW3
    clear cBQ fBQ zBQ
    replace BQ := BQ.ext eW3
    clear cBH fBH zBH
    replace BH := BH.ext eW3
    replace O4 := O4.ext eW3
    replace O5 := O5.ext eW3
    replace O6 := O6.ext eW3
    have BV : Blk w3 w2.heap.size 33 (#[.int .i64 (rP r).kind, .int .i64 (rP r).fr.addr, .int .i64 (rP r).fr.port, .int .i64 (rP r).to_.addr, .int .i64 (rP r).to_.port, .slice A2 n2 C2]) := by refine Blk.ext ?_ hx3; exact (by repeat (first | (with_reducible assumption) | (with_reducible exact Blk.new _ _ _) | exact Blk.newAt _ _ _ (by simp) | (with_reducible refine Blk.alloc ?_ _) | (with_reducible refine Blk.drew ?_) | (with_reducible refine Blk.drewN ?_ _) | refine Blk.far ?_ (by simp only []; omega) _ | refine Blk.rext ?_ (by assumption) (by omega) | refine Blk.ext ?_ (by assumption)))
    have BW : Blk w3 (w2.heap.size+1) 28 (#[.int .i64 (rG r).net.base, .int .i64 (rG r).net.bits, .int .i64 (rG r).out, .slice xb xm xd, .slice yb ym yd, .int .i64 (rG r).filter, .int .i64 (rG r).hold, .int .i64 (rG r).now]) := by refine Blk.ext ?_ hx3; exact (by repeat (first | (with_reducible assumption) | (with_reducible exact Blk.new _ _ _) | exact Blk.newAt _ _ _ (by simp) | (with_reducible refine Blk.alloc ?_ _) | (with_reducible refine Blk.drew ?_) | (with_reducible refine Blk.drewN ?_ _) | refine Blk.far ?_ (by simp only []; omega) _ | refine Blk.rext ?_ (by assumption) (by omega) | refine Blk.ext ?_ (by assumption)))
    replace XU := XU.ext eW3
    have cBG := BG.cells
    have fBG := BG.frozens
    have zBG := BG.lt
    have cBP := BP.cells
    have fBP := BP.frozens
    have zBP := BP.lt
    have cBQ := BQ.cells
    have fBQ := BQ.frozens
    have zBQ := BQ.lt
    have cBH := BH.cells
    have fBH := BH.frozens
    have zBH := BH.lt
    have cBV := BV.cells
    have fBV := BV.frozens
    have zBV := BV.lt
    have cBW := BW.cells
    have fBW := BW.frozens
    have zBW := BW.lt
    go_wp2_with fail
    refine (equalGate_ow (rG r) xa xn xc ya yn yc xb xm xd yb ym yd _ (by exact (O2.sl encM_len).ext (by repeat (first | (with_reducible exact Ext.refl _) | (with_reducible assumption) | (with_reducible refine Ext.alloc ?_ _) | (with_reducible refine Ext.drewN ?_ _) | (with_reducible refine Ext.drew ?_) | (with_reducible refine Ext.setCell ?_ ?_ _; rotate_left; (simp only []; omega)) | (with_reducible refine Ext.trans ?_ (by assumption))))) (by exact (O3.sl encC_len).ext (by repeat (first | (with_reducible exact Ext.refl _) | (with_reducible assumption) | (with_reducible refine Ext.alloc ?_ _) | (with_reducible refine Ext.drewN ?_ _) | (with_reducible refine Ext.drew ?_) | (with_reducible refine Ext.setCell ?_ ?_ _; rotate_left; (simp only []; omega)) | (with_reducible refine Ext.trans ?_ (by assumption))))) (by exact (O5.sl encM_len).ext (by repeat (first | (with_reducible exact Ext.refl _) | (with_reducible assumption) | (with_reducible refine Ext.alloc ?_ _) | (with_reducible refine Ext.drewN ?_ _) | (with_reducible refine Ext.drew ?_) | (with_reducible refine Ext.setCell ?_ ?_ _; rotate_left; (simp only []; omega)) | (with_reducible refine Ext.trans ?_ (by assumption))))) (by exact (O6.sl encC_len).ext (by repeat (first | (with_reducible exact Ext.refl _) | (with_reducible assumption) | (with_reducible refine Ext.alloc ?_ _) | (with_reducible refine Ext.drewN ?_ _) | (with_reducible refine Ext.drew ?_) | (with_reducible refine Ext.setCell ?_ ?_ _; rotate_left; (simp only []; omega)) | (with_reducible refine Ext.trans ?_ (by assumption)))))).mono ?_
    rintro e w4 ⟨rfl, hx4⟩
    have hy4 := hx4.size
    (try simp at hy4)
    have eW4 := useE (fun (h : Ext _ w4) => T0.ext h) (by repeat (first | (with_reducible exact Ext.refl _) | (with_reducible assumption) | (with_reducible refine Ext.alloc ?_ _) | (with_reducible refine Ext.drewN ?_ _) | (with_reducible refine Ext.drew ?_) | (with_reducible refine Ext.setCell ?_ ?_ _; rotate_left; (simp only []; omega)) | (with_reducible refine Ext.trans ?_ (by assumption))))
    replace T0 := T0.ext eW4
    replace K0 := K0.ext eW4
    replace S0 := S0.ext eW4
    clear cBG fBG zBG
    replace BG := BG.ext eW4
    clear cBP fBP zBP
    replace BP := BP.ext eW4
    replace O1 := O1.ext eW4
    replace O2 := O2.ext eW4
    replace O3 := O3.ext eW4
    clear cBQ fBQ zBQ
    replace BQ := BQ.ext eW4
    clear cBH fBH zBH
    replace BH := BH.ext eW4
    replace O4 := O4.ext eW4
    replace O5 := O5.ext eW4
    replace O6 := O6.ext eW4
    clear cBV fBV zBV
    replace BV := BV.ext eW4
    clear cBW fBW zBW
    replace BW := BW.ext eW4
    replace XU := XU.ext eW4
    have cBG := BG.cells
    have fBG := BG.frozens
    have zBG := BG.lt
    have cBP := BP.cells
    have fBP := BP.frozens
    have zBP := BP.lt
    have cBQ := BQ.cells
    have fBQ := BQ.frozens
    have zBQ := BQ.lt
    have cBH := BH.cells
    have fBH := BH.frozens
    have zBH := BH.lt
    have cBV := BV.cells
    have fBV := BV.frozens
    have zBV := BV.lt
    have cBW := BW.cells
    have fBW := BW.frozens
    have zBW := BW.lt
    obtain ⟨ok, hok⟩ : ∃ ok, ok = r.isSome := ⟨_, rfl⟩
    rw [← hok]
    cases ok with
    | false =>
      clear hok
      go_wp2_with fail
      refine (equalPacket_ow (rP r) A1 A2 n1 n2 C1 C2 _ (by exact (O1.sl encI_len).ext (by repeat (first | (with_reducible exact Ext.refl _) | (with_reducible assumption) | (with_reducible refine Ext.alloc ?_ _) | (with_reducible refine Ext.drewN ?_ _) | (with_reducible refine Ext.drew ?_) | (with_reducible refine Ext.setCell ?_ ?_ _; rotate_left; (simp only []; omega)) | (with_reducible refine Ext.trans ?_ (by assumption))))) (by exact (O4.sl encI_len).ext (by repeat (first | (with_reducible exact Ext.refl _) | (with_reducible assumption) | (with_reducible refine Ext.alloc ?_ _) | (with_reducible refine Ext.drewN ?_ _) | (with_reducible refine Ext.drew ?_) | (with_reducible refine Ext.setCell ?_ ?_ _; rotate_left; (simp only []; omega)) | (with_reducible refine Ext.trans ?_ (by assumption)))))).mono ?_
      rintro e w5 ⟨rfl, hx5⟩
      have hy5 := hx5.size
      (try simp at hy5)
      have eW5 := useE (fun (h : Ext _ w5) => T0.ext h) (by repeat (first | (with_reducible exact Ext.refl _) | (with_reducible assumption) | (with_reducible refine Ext.alloc ?_ _) | (with_reducible refine Ext.drewN ?_ _) | (with_reducible refine Ext.drew ?_) | (with_reducible refine Ext.setCell ?_ ?_ _; rotate_left; (simp only []; omega)) | (with_reducible refine Ext.trans ?_ (by assumption))))
      replace T0 := T0.ext eW5
      replace K0 := K0.ext eW5
      replace S0 := S0.ext eW5
      clear cBG fBG zBG
      replace BG := BG.ext eW5
      clear cBP fBP zBP
      replace BP := BP.ext eW5
      replace O1 := O1.ext eW5
      replace O2 := O2.ext eW5
      replace O3 := O3.ext eW5
      clear cBQ fBQ zBQ
      replace BQ := BQ.ext eW5
      clear cBH fBH zBH
      replace BH := BH.ext eW5
      replace O4 := O4.ext eW5
      replace O5 := O5.ext eW5
      replace O6 := O6.ext eW5
      clear cBV fBV zBV
      replace BV := BV.ext eW5
      clear cBW fBW zBW
      replace BW := BW.ext eW5
      replace XU := XU.ext eW5
      have cBG := BG.cells
      have fBG := BG.frozens
      have zBG := BG.lt
      have cBP := BP.cells
      have fBP := BP.frozens
      have zBP := BP.lt
      have cBQ := BQ.cells
      have fBQ := BQ.frozens
      have zBQ := BQ.lt
      have cBH := BH.cells
      have fBH := BH.frozens
      have zBH := BH.lt
      have cBV := BV.cells
      have fBV := BV.frozens
      have zBV := BV.lt
      have cBW := BW.cells
      have fBW := BW.frozens
      have zBW := BW.lt
      go_wp2_with fail
      refine (equalGate_ow (rG r) xa xn xc ya yn yc xb xm xd yb ym yd _ (by exact (O2.sl encM_len).ext (by repeat (first | (with_reducible exact Ext.refl _) | (with_reducible assumption) | (with_reducible refine Ext.alloc ?_ _) | (with_reducible refine Ext.drewN ?_ _) | (with_reducible refine Ext.drew ?_) | (with_reducible refine Ext.setCell ?_ ?_ _; rotate_left; (simp only []; omega)) | (with_reducible refine Ext.trans ?_ (by assumption))))) (by exact (O3.sl encC_len).ext (by repeat (first | (with_reducible exact Ext.refl _) | (with_reducible assumption) | (with_reducible refine Ext.alloc ?_ _) | (with_reducible refine Ext.drewN ?_ _) | (with_reducible refine Ext.drew ?_) | (with_reducible refine Ext.setCell ?_ ?_ _; rotate_left; (simp only []; omega)) | (with_reducible refine Ext.trans ?_ (by assumption))))) (by exact (O5.sl encM_len).ext (by repeat (first | (with_reducible exact Ext.refl _) | (with_reducible assumption) | (with_reducible refine Ext.alloc ?_ _) | (with_reducible refine Ext.drewN ?_ _) | (with_reducible refine Ext.drew ?_) | (with_reducible refine Ext.setCell ?_ ?_ _; rotate_left; (simp only []; omega)) | (with_reducible refine Ext.trans ?_ (by assumption))))) (by exact (O6.sl encC_len).ext (by repeat (first | (with_reducible exact Ext.refl _) | (with_reducible assumption) | (with_reducible refine Ext.alloc ?_ _) | (with_reducible refine Ext.drewN ?_ _) | (with_reducible refine Ext.drew ?_) | (with_reducible refine Ext.setCell ?_ ?_ _; rotate_left; (simp only []; omega)) | (with_reducible refine Ext.trans ?_ (by assumption)))))).mono ?_
      rintro e w6 ⟨rfl, hx6⟩
      have hy6 := hx6.size
      (try simp at hy6)
      have eW6 := useE (fun (h : Ext _ w6) => T0.ext h) (by repeat (first | (with_reducible exact Ext.refl _) | (with_reducible assumption) | (with_reducible refine Ext.alloc ?_ _) | (with_reducible refine Ext.drewN ?_ _) | (with_reducible refine Ext.drew ?_) | (with_reducible refine Ext.setCell ?_ ?_ _; rotate_left; (simp only []; omega)) | (with_reducible refine Ext.trans ?_ (by assumption))))
      replace T0 := T0.ext eW6
      replace K0 := K0.ext eW6
      replace S0 := S0.ext eW6
      clear cBG fBG zBG
      replace BG := BG.ext eW6
      clear cBP fBP zBP
      replace BP := BP.ext eW6
      replace O1 := O1.ext eW6
      replace O2 := O2.ext eW6
      replace O3 := O3.ext eW6
      clear cBQ fBQ zBQ
      replace BQ := BQ.ext eW6
      clear cBH fBH zBH
      replace BH := BH.ext eW6
      replace O4 := O4.ext eW6
      replace O5 := O5.ext eW6
      replace O6 := O6.ext eW6
      clear cBV fBV zBV
      replace BV := BV.ext eW6
      clear cBW fBW zBW
      replace BW := BW.ext eW6
      replace XU := XU.ext eW6
      have cBG := BG.cells
      have fBG := BG.frozens
      have zBG := BG.lt
      have cBP := BP.cells
      have fBP := BP.frozens
      have zBP := BP.lt
      have cBQ := BQ.cells
      have fBQ := BQ.frozens
      have zBQ := BQ.lt
      have cBH := BH.cells
      have fBH := BH.frozens
      have zBH := BH.lt
      have cBV := BV.cells
      have fBV := BV.frozens
      have zBV := BV.lt
      have cBW := BW.cells
      have fBW := BW.frozens
      have zBW := BW.lt
      go_wp2
      go_ret
      exact ⟨rfl, XU.trans (show Ext _ _ from (by repeat (first | (with_reducible exact Ext.refl _) | (with_reducible assumption) | (with_reducible refine Ext.alloc ?_ _) | (with_reducible refine Ext.drewN ?_ _) | (with_reducible refine Ext.drew ?_) | (with_reducible refine Ext.setCell ?_ ?_ _; rotate_left; (simp only []; omega)) | (with_reducible refine Ext.trans ?_ (by assumption)))))⟩
    | true =>
      cases r with
      | none => cases hok
      | some s =>
        obtain ⟨q, h⟩ := s
        clear hok
        obtain ⟨b, i, l1, l2, l3⟩ := law_sendAnswer hr.out.symm
        have c5 := fun W x => impl_ReversePacket q A1 n1 C1 W x
        rw [l1] at c5
        have c6 := fun A n C W x y z => impl_ReceiveIn h b xa xn xc ya yn yc A n C W x y z
        rw [l2] at c6
        have c7 := fun A n C W x => impl_ReversePacket i A n C W x
        rw [l3] at c7
        replace c5 := Lib.hid c5
        replace c6 := Lib.hid c6
        replace c7 := Lib.hid c7
        clear l1 l2 l3 hr
        clear cBQ fBQ zBQ cBH fBH zBH cBV fBV zBV cBW fBW zBW BV BW O4 O5 O6
        replace BQ : Blk w4 w1.heap.size 33 (#[.int .i64 q.kind, .int .i64 q.fr.addr, .int .i64 q.fr.port, .int .i64 q.to_.addr, .int .i64 q.to_.port, .slice A1 n1 C1]) := BQ
        replace BH : Blk w4 (w1.heap.size + 1) 28 (#[.int .i64 h.net.base, .int .i64 h.net.bits, .int .i64 h.out, .slice xa xn xc, .slice ya yn yc, .int .i64 h.filter, .int .i64 h.hold, .int .i64 h.now]) := BH
        replace O1 : Ow 3 encI 1 _ w4 A1 n1 C1 q.data := O1
        replace O2 : Ow 89 encM 4 _ w4 xa xn xc h.table := O2
        replace O3 : Ow 47 encC 3 _ w4 ya yn yc h.cons := O3
        have cBQ := BQ.cells
        have fBQ := BQ.frozens
        have zBQ := BQ.lt
        have cBH := BH.cells
        have fBH := BH.frozens
        have zBH := BH.lt
        go_wp2_with fail
        refine (c5.out _ (by exact (O1.sl encI_len).ext (by repeat (first | (with_reducible exact Ext.refl _) | (with_reducible assumption) | (with_reducible refine Ext.alloc ?_ _) | (with_reducible refine Ext.drewN ?_ _) | (with_reducible refine Ext.drew ?_) | (with_reducible refine Ext.setCell ?_ ?_ _; rotate_left; (simp only []; omega)) | (with_reducible refine Ext.trans ?_ (by assumption)))))).mono ?_
        rintro e w5 ⟨A5, n5, C5, rfl, O7, hx5⟩
        have hy5 := hx5.size
        (try simp at hy5)
        have eW5 := useE (fun (h : Ext _ w5) => T0.ext h) (by repeat (first | (with_reducible exact Ext.refl _) | (with_reducible assumption) | (with_reducible refine Ext.alloc ?_ _) | (with_reducible refine Ext.drewN ?_ _) | (with_reducible refine Ext.drew ?_) | (with_reducible refine Ext.setCell ?_ ?_ _; rotate_left; (simp only []; omega)) | (with_reducible refine Ext.trans ?_ (by assumption))))
        replace T0 := T0.ext eW5
        replace K0 := K0.ext eW5
        replace S0 := S0.ext eW5
        clear cBG fBG zBG
        replace BG := BG.ext eW5
        clear cBP fBP zBP
        replace BP := BP.ext eW5
        replace O1 := O1.ext eW5
        replace O2 := O2.ext eW5
        replace O3 := O3.ext eW5
        clear cBQ fBQ zBQ
        replace BQ := BQ.ext eW5
        clear cBH fBH zBH
        replace BH := BH.ext eW5
        replace XU := XU.ext eW5
        have cBG := BG.cells
        have fBG := BG.frozens
        have zBG := BG.lt
        have cBP := BP.cells
        have fBP := BP.frozens
        have zBP := BP.lt
        have cBQ := BQ.cells
        have fBQ := BQ.frozens
        have zBQ := BQ.lt
        have cBH := BH.cells
        have fBH := BH.frozens
        have zBH := BH.lt
        go_wp2_with fail
        refine (c6.out A5 n5 C5 _ (by exact (O2.sl encM_len).ext (by repeat (first | (with_reducible exact Ext.refl _) | (with_reducible assumption) | (with_reducible refine Ext.alloc ?_ _) | (with_reducible refine Ext.drewN ?_ _) | (with_reducible refine Ext.drew ?_) | (with_reducible refine Ext.setCell ?_ ?_ _; rotate_left; (simp only []; omega)) | (with_reducible refine Ext.trans ?_ (by assumption))))) (by exact (O3.sl encC_len).ext (by repeat (first | (with_reducible exact Ext.refl _) | (with_reducible assumption) | (with_reducible refine Ext.alloc ?_ _) | (with_reducible refine Ext.drewN ?_ _) | (with_reducible refine Ext.drew ?_) | (with_reducible refine Ext.setCell ?_ ?_ _; rotate_left; (simp only []; omega)) | (with_reducible refine Ext.trans ?_ (by assumption))))) (by exact (O7.sl encI_len).ext (by repeat (first | (with_reducible exact Ext.refl _) | (with_reducible assumption) | (with_reducible refine Ext.alloc ?_ _) | (with_reducible refine Ext.drewN ?_ _) | (with_reducible refine Ext.drew ?_) | (with_reducible refine Ext.setCell ?_ ?_ _; rotate_left; (simp only []; omega)) | (with_reducible refine Ext.trans ?_ (by assumption)))))).mono ?_
        rintro e w6 ⟨A6, n6, C6, _, _, _, _, _, _, rfl, O8, _, _, hx6⟩
        have hy6 := hx6.size
        (try simp at hy6)
        have eW6 := useE (fun (h : Ext _ w6) => T0.ext h) (by repeat (first | (with_reducible exact Ext.refl _) | (with_reducible assumption) | (with_reducible refine Ext.alloc ?_ _) | (with_reducible refine Ext.drewN ?_ _) | (with_reducible refine Ext.drew ?_) | (with_reducible refine Ext.setCell ?_ ?_ _; rotate_left; (simp only []; omega)) | (with_reducible refine Ext.trans ?_ (by assumption))))
        replace T0 := T0.ext eW6
        replace K0 := K0.ext eW6
        replace S0 := S0.ext eW6
        clear cBG fBG zBG
        replace BG := BG.ext eW6
        clear cBP fBP zBP
        replace BP := BP.ext eW6
        replace O1 := O1.ext eW6
        replace O2 := O2.ext eW6
        replace O3 := O3.ext eW6
        clear cBQ fBQ zBQ
        replace BQ := BQ.ext eW6
        clear cBH fBH zBH
        replace BH := BH.ext eW6
        replace O7 := O7.ext eW6
        have BB : Blk w6 w5.heap.size 33 (#[.int .i64 b.kind, .int .i64 b.fr.addr, .int .i64 b.fr.port, .int .i64 b.to_.addr, .int .i64 b.to_.port, .slice A5 n5 C5]) := by refine Blk.ext ?_ hx6; exact (by repeat (first | (with_reducible assumption) | (with_reducible exact Blk.new _ _ _) | exact Blk.newAt _ _ _ (by simp) | (with_reducible refine Blk.alloc ?_ _) | (with_reducible refine Blk.drew ?_) | (with_reducible refine Blk.drewN ?_ _) | refine Blk.far ?_ (by simp only []; omega) _ | refine Blk.rext ?_ (by assumption) (by omega) | refine Blk.ext ?_ (by assumption)))
        replace XU := XU.ext eW6
        have cBG := BG.cells
        have fBG := BG.frozens
        have zBG := BG.lt
        have cBP := BP.cells
        have fBP := BP.frozens
        have zBP := BP.lt
        have cBQ := BQ.cells
        have fBQ := BQ.frozens
        have zBQ := BQ.lt
        have cBH := BH.cells
        have fBH := BH.frozens
        have zBH := BH.lt
        have cBB := BB.cells
        have fBB := BB.frozens
        have zBB := BB.lt
        go_wp2_with fail
        refine (c7.out A6 n6 C6 _ (by exact (O8.sl encI_len).ext (by repeat (first | (with_reducible exact Ext.refl _) | (with_reducible assumption) | (with_reducible refine Ext.alloc ?_ _) | (with_reducible refine Ext.drewN ?_ _) | (with_reducible refine Ext.drew ?_) | (with_reducible refine Ext.setCell ?_ ?_ _; rotate_left; (simp only []; omega)) | (with_reducible refine Ext.trans ?_ (by assumption)))))).mono ?_
        rintro e w7 ⟨A7, n7, C7, rfl, O9, hx7⟩
        have hy7 := hx7.size
        (try simp at hy7)
        have eW7 := useE (fun (h : Ext _ w7) => T0.ext h) (by repeat (first | (with_reducible exact Ext.refl _) | (with_reducible assumption) | (with_reducible refine Ext.alloc ?_ _) | (with_reducible refine Ext.drewN ?_ _) | (with_reducible refine Ext.drew ?_) | (with_reducible refine Ext.setCell ?_ ?_ _; rotate_left; (simp only []; omega)) | (with_reducible refine Ext.trans ?_ (by assumption))))
        replace T0 := T0.ext eW7
        replace K0 := K0.ext eW7
        replace S0 := S0.ext eW7
        clear cBG fBG zBG
        replace BG := BG.ext eW7
        clear cBP fBP zBP
        replace BP := BP.ext eW7
        replace O1 := O1.ext eW7
        replace O2 := O2.ext eW7
        replace O3 := O3.ext eW7
        clear cBQ fBQ zBQ
        replace BQ := BQ.ext eW7
        clear cBH fBH zBH
        replace BH := BH.ext eW7
        replace O7 := O7.ext eW7
        clear cBB fBB zBB
        replace BB := BB.ext eW7
        replace O8 := O8.ext eW7
        have BI : Blk w7 w6.heap.size 33 (#[.int .i64 i.kind, .int .i64 i.fr.addr, .int .i64 i.fr.port, .int .i64 i.to_.addr, .int .i64 i.to_.port, .slice A6 n6 C6]) := by refine Blk.ext ?_ hx7; exact (by repeat (first | (with_reducible assumption) | (with_reducible exact Blk.new _ _ _) | exact Blk.newAt _ _ _ (by simp) | (with_reducible refine Blk.alloc ?_ _) | (with_reducible refine Blk.drew ?_) | (with_reducible refine Blk.drewN ?_ _) | refine Blk.far ?_ (by simp only []; omega) _ | refine Blk.rext ?_ (by assumption) (by omega) | refine Blk.ext ?_ (by assumption)))
        replace XU := XU.ext eW7
        have cBG := BG.cells
        have fBG := BG.frozens
        have zBG := BG.lt
        have cBP := BP.cells
        have fBP := BP.frozens
        have zBP := BP.lt
        have cBQ := BQ.cells
        have fBQ := BQ.frozens
        have zBQ := BQ.lt
        have cBH := BH.cells
        have fBH := BH.frozens
        have zBH := BH.lt
        have cBB := BB.cells
        have fBB := BB.frozens
        have zBB := BB.lt
        have cBI := BI.cells
        have fBI := BI.frozens
        have zBI := BI.lt
        go_wp2_with fail
        refine (equalPacket_ow p A7 sa n7 sn C7 sc _ (by exact (O9.sl encI_len).ext (by repeat (first | (with_reducible exact Ext.refl _) | (with_reducible assumption) | (with_reducible refine Ext.alloc ?_ _) | (with_reducible refine Ext.drewN ?_ _) | (with_reducible refine Ext.drew ?_) | (with_reducible refine Ext.setCell ?_ ?_ _; rotate_left; (simp only []; omega)) | (with_reducible refine Ext.trans ?_ (by assumption))))) (by exact S0.ext (by repeat (first | (with_reducible exact Ext.refl _) | (with_reducible assumption) | (with_reducible refine Ext.alloc ?_ _) | (with_reducible refine Ext.drewN ?_ _) | (with_reducible refine Ext.drew ?_) | (with_reducible refine Ext.setCell ?_ ?_ _; rotate_left; (simp only []; omega)) | (with_reducible refine Ext.trans ?_ (by assumption)))))).mono ?_
        rintro e w8 ⟨rfl, hx8⟩
        have hy8 := hx8.size
        (try simp at hy8)
        have eW8 := useE (fun (h : Ext _ w8) => T0.ext h) (by repeat (first | (with_reducible exact Ext.refl _) | (with_reducible assumption) | (with_reducible refine Ext.alloc ?_ _) | (with_reducible refine Ext.drewN ?_ _) | (with_reducible refine Ext.drew ?_) | (with_reducible refine Ext.setCell ?_ ?_ _; rotate_left; (simp only []; omega)) | (with_reducible refine Ext.trans ?_ (by assumption))))
        replace T0 := T0.ext eW8
        replace K0 := K0.ext eW8
        replace S0 := S0.ext eW8
        clear cBG fBG zBG
        replace BG := BG.ext eW8
        clear cBP fBP zBP
        replace BP := BP.ext eW8
        replace O1 := O1.ext eW8
        replace O2 := O2.ext eW8
        replace O3 := O3.ext eW8
        clear cBQ fBQ zBQ
        replace BQ := BQ.ext eW8
        clear cBH fBH zBH
        replace BH := BH.ext eW8
        replace O7 := O7.ext eW8
        clear cBB fBB zBB
        replace BB := BB.ext eW8
        replace O8 := O8.ext eW8
        clear cBI fBI zBI
        replace BI := BI.ext eW8
        replace O9 := O9.ext eW8
        have BO : Blk w8 w7.heap.size 33 (#[.int .i64 p.kind, .int .i64 p.fr.addr, .int .i64 p.fr.port, .int .i64 p.to_.addr, .int .i64 p.to_.port, .slice A7 n7 C7]) := by refine Blk.ext ?_ hx8; exact (by repeat (first | (with_reducible assumption) | (with_reducible exact Blk.new _ _ _) | exact Blk.newAt _ _ _ (by simp) | (with_reducible refine Blk.alloc ?_ _) | (with_reducible refine Blk.drew ?_) | (with_reducible refine Blk.drewN ?_ _) | refine Blk.far ?_ (by simp only []; omega) _ | refine Blk.rext ?_ (by assumption) (by omega) | refine Blk.ext ?_ (by assumption)))
        replace XU := XU.ext eW8
        have cBG := BG.cells
        have fBG := BG.frozens
        have zBG := BG.lt
        have cBP := BP.cells
        have fBP := BP.frozens
        have zBP := BP.lt
        have cBQ := BQ.cells
        have fBQ := BQ.frozens
        have zBQ := BQ.lt
        have cBH := BH.cells
        have fBH := BH.frozens
        have zBH := BH.lt
        have cBB := BB.cells
        have fBB := BB.frozens
        have zBB := BB.lt
        have cBI := BI.cells
        have fBI := BI.frozens
        have zBI := BI.lt
        have cBO := BO.cells
        have fBO := BO.frozens
        have zBO := BO.lt
        go_wp2
        go_ret
        exact ⟨rfl, XU.trans (show Ext _ _ from (by repeat (first | (with_reducible exact Ext.refl _) | (with_reducible assumption) | (with_reducible refine Ext.alloc ?_ _) | (with_reducible refine Ext.drewN ?_ _) | (with_reducible refine Ext.drew ?_) | (with_reducible refine Ext.setCell ?_ ?_ _; rotate_left; (simp only []; omega)) | (with_reducible refine Ext.trans ?_ (by assumption)))))⟩
end Go.Proofs.Ytppdcglnopoocaa
