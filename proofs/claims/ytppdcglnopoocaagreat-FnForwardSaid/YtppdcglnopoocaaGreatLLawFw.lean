/- The law on packets that pass by their way, walked. -/
import Derived.Test.YtppdcglnopoocaaGreatKn
import Derived.Test.YtppdcglnopoocaaGreatKm
import Derived.Test.YtppdcglnopoocaaGreatKl
import Derived.Test.YtppdcglnopoocaaGreatKg
import Derived.Test.YtppdcglnopoocaaGreatKb
import Derived.Test.YtppdcglnopoocaaGreatKj
namespace Go.Proofs.YtppdcglnopoocaaGreat
set_option linter.unusedVariables false
set_option linter.unusedSimpArgs false
open Go.RowKit

theorem calls_gen {P : Program} {f : FuncId} {args : Array Value} {w : World} {Q : Ending → World → Prop} (Good : World → Prop) (hg : Good w) (h : ∀ W, Good W → Calls P f args W Q) : Calls P f args w Q := h w hg
theorem Blk.pg1 {w : World} {b d : Nat} {T : TypeId} {a0 a1 a2 a3 a4 a5 : Value} (h : Blk w b T #[a0, a1, a2, a3, a4, a5]) (ne : b ≠ d) (u0 u1 u2 u3 u4 u5 v0 v1 v2 v3 v4 v5 v6 v7 : Value) :
    Blk ((((((((((((((w.setCell ⟨b, 0, none⟩ u0).setCell ⟨b, 1, none⟩ u1).setCell ⟨b, 2, none⟩ u2).setCell ⟨b, 3, none⟩ u3).setCell ⟨b, 4, none⟩ u4).setCell ⟨b, 5, none⟩ u5).setCell ⟨d, 0, none⟩ v0).setCell ⟨d, 1, none⟩ v1).setCell ⟨d, 2, none⟩ v2).setCell ⟨d, 3, none⟩ v3).setCell ⟨d, 4, none⟩ v4).setCell ⟨d, 5, none⟩ v5).setCell ⟨d, 6, none⟩ v6).setCell ⟨d, 7, none⟩ v7) b T #[u0, u1, u2, u3, u4, u5] := by
  repeat (refine Blk.far ?_ (by simpa using ne) _)
  exact h.put6 _ _ _ _ _ _
theorem Blk.pg2 {w : World} {b d : Nat} {T : TypeId} {a0 a1 a2 a3 a4 a5 a6 a7 : Value} (h : Blk w d T #[a0, a1, a2, a3, a4, a5, a6, a7]) (ne : d ≠ b) (u0 u1 u2 u3 u4 u5 v0 v1 v2 v3 v4 v5 v6 v7 : Value) :
    Blk ((((((((((((((w.setCell ⟨b, 0, none⟩ u0).setCell ⟨b, 1, none⟩ u1).setCell ⟨b, 2, none⟩ u2).setCell ⟨b, 3, none⟩ u3).setCell ⟨b, 4, none⟩ u4).setCell ⟨b, 5, none⟩ u5).setCell ⟨d, 0, none⟩ v0).setCell ⟨d, 1, none⟩ v1).setCell ⟨d, 2, none⟩ v2).setCell ⟨d, 3, none⟩ v3).setCell ⟨d, 4, none⟩ v4).setCell ⟨d, 5, none⟩ v5).setCell ⟨d, 6, none⟩ v6).setCell ⟨d, 7, none⟩ v7) d T #[v0, v1, v2, v3, v4, v5, v6, v7] := by
  have h1 : Blk (((((( w.setCell ⟨b, 0, none⟩ u0).setCell ⟨b, 1, none⟩ u1).setCell ⟨b, 2, none⟩ u2).setCell ⟨b, 3, none⟩ u3).setCell ⟨b, 4, none⟩ u4).setCell ⟨b, 5, none⟩ u5) d T #[a0, a1, a2, a3, a4, a5, a6, a7] := by
    repeat (refine Blk.far ?_ (by simpa using ne) _)
    exact h
  exact h1.put8 _ _ _ _ _ _ _ _
set_option maxRecDepth 4000 in
set_option maxHeartbeats 8000000 in
theorem law_FnForward (a : Option Addr) (n c : Nat) (u : World) (hc : Code u a n c) : Calls Tryz.prog 10 #[.slice a n c] u fun e w' => e = .returned (.bool true) ∧ Ext u w' := by
  by_cases hn : n ≤ 1048576
  rotate_left
  · go_enter Tryz.func10, Tryz.ntmps10
    go_wp2
    go_ret
    exact ⟨rfl, Ext.refl _⟩
  · go_enter Tryz.func10, Tryz.ntmps10
    go_wp2_with fail
    refine (DrawForward_any a n c _ hc).mono ?_
    rintro e w ⟨g, p, ta, tn, tc, ka, kn, kc, sa, sn, sc, rfl, T0, K0, S0, _, _, _, XU⟩
    go_wp2_with fail
    refine (impl_Forward g p ta tn tc ka kn kc sa sn sc _ (by exact T0.ext (by repeat (first | (with_reducible exact Ext.refl _) | (with_reducible refine Ext.alloc ?_ _) | (with_reducible refine Ext.trans ?_ (by assumption))))) (by exact K0.ext (by repeat (first | (with_reducible exact Ext.refl _) | (with_reducible refine Ext.alloc ?_ _) | (with_reducible refine Ext.trans ?_ (by assumption))))) (by exact S0.ext (by repeat (first | (with_reducible exact Ext.refl _) | (with_reducible refine Ext.alloc ?_ _) | (with_reducible refine Ext.trans ?_ (by assumption)))))).mono ?_
    rintro e w1 ⟨A1, n1, C1, xa, xn, xc, ya, yn, yc, rfl, O1, O2, O3, hx1⟩
    have hy1 := hx1.size
    (try simp at hy1)
    have eW1 := useE (fun (h : Ext _ w1) => T0.ext h) (by repeat (first | (with_reducible exact Ext.refl _) | (with_reducible refine Ext.alloc ?_ _) | (with_reducible refine Ext.trans ?_ (by assumption))))
    replace T0 := T0.ext eW1
    replace K0 := K0.ext eW1
    replace S0 := S0.ext eW1
    have BG : Blk w1 w.heap.size 28 (#[.int .i64 g.net.base, .int .i64 g.net.bits, .int .i64 g.out, .slice ta tn tc, .slice ka kn kc, .int .i64 g.filter, .int .i64 g.hold, .int .i64 g.now]) := by refine Blk.ext ?_ hx1; exact (by repeat (first | (with_reducible assumption) | (with_reducible exact Blk.new _ _ _) | exact Blk.newAt _ _ _ (by simp) | (with_reducible refine Blk.alloc ?_ _) | (with_reducible refine Blk.drew ?_) | (with_reducible refine Blk.drewN ?_ _) | refine Blk.far ?_ (by simp only []; omega) _ | refine Blk.rext ?_ (by assumption) (by omega) | refine Blk.ext ?_ (by assumption)))
    have BP : Blk w1 (w.heap.size+1) 33 (#[.int .i64 p.kind, .int .i64 p.fr.addr, .int .i64 p.fr.port, .int .i64 p.to_.addr, .int .i64 p.to_.port, .slice sa sn sc]) := by refine Blk.ext ?_ hx1; exact (by repeat (first | (with_reducible assumption) | (with_reducible exact Blk.new _ _ _) | exact Blk.newAt _ _ _ (by simp) | (with_reducible refine Blk.alloc ?_ _) | (with_reducible refine Blk.drew ?_) | (with_reducible refine Blk.drewN ?_ _) | refine Blk.far ?_ (by simp only []; omega) _ | refine Blk.rext ?_ (by assumption) (by omega) | refine Blk.ext ?_ (by assumption)))
    replace XU := XU.ext eW1
    have cBG := BG.cells
    have fBG := BG.frozens
    have zBG := BG.lt
    have cBP := BP.cells
    have fBP := BP.frozens
    have zBP := BP.lt
    obtain ⟨r, hr⟩ : ∃ r, r = forward g p := ⟨_, rfl⟩
    rw [← hr] at O1 O2 O3 ⊢
    replace hr := Lib.hid hr
    go_wp2_with fail
    refine (spec_Forward g p ta tn tc ka kn kc sa sn sc _ (by exact T0.ext (by repeat (first | (with_reducible exact Ext.refl _) | (with_reducible refine Ext.alloc ?_ _) | (with_reducible refine Ext.trans ?_ (by assumption))))) (by exact K0.ext (by repeat (first | (with_reducible exact Ext.refl _) | (with_reducible refine Ext.alloc ?_ _) | (with_reducible refine Ext.trans ?_ (by assumption))))) (by exact S0.ext (by repeat (first | (with_reducible exact Ext.refl _) | (with_reducible refine Ext.alloc ?_ _) | (with_reducible refine Ext.trans ?_ (by assumption)))))).mono ?_
    rintro e w2 ⟨A2, n2, C2, xb, xm, xd, yb, ym, yd, rfl, O4, O5, O6, hx2⟩
    have hy2 := hx2.size
    (try simp at hy2)
    have eW2 := useE (fun (h : Ext _ w2) => T0.ext h) (by repeat (first | (with_reducible exact Ext.refl _) | (with_reducible refine Ext.alloc ?_ _) | (with_reducible refine Ext.trans ?_ (by assumption))))
    replace T0 := T0.ext eW2
    replace K0 := K0.ext eW2
    replace S0 := S0.ext eW2
    clear cBG fBG zBG
    replace BG := BG.ext eW2
    clear cBP fBP zBP
    replace BP := BP.ext eW2
    replace O1 := O1.ext eW2
    replace O2 := O2.ext eW2
    replace O3 := O3.ext eW2
    have BQ : Blk w2 w1.heap.size 33 (#[.int .i64 (rP r).kind, .int .i64 (rP r).fr.addr, .int .i64 (rP r).fr.port, .int .i64 (rP r).to_.addr, .int .i64 (rP r).to_.port, .slice A1 n1 C1]) := by refine Blk.ext ?_ hx2; exact (by repeat (first | (with_reducible assumption) | (with_reducible exact Blk.new _ _ _) | exact Blk.newAt _ _ _ (by simp) | (with_reducible refine Blk.alloc ?_ _) | (with_reducible refine Blk.drew ?_) | (with_reducible refine Blk.drewN ?_ _) | refine Blk.far ?_ (by simp only []; omega) _ | refine Blk.rext ?_ (by assumption) (by omega) | refine Blk.ext ?_ (by assumption)))
    have BH : Blk w2 (w1.heap.size+1) 28 (#[.int .i64 (rG r).net.base, .int .i64 (rG r).net.bits, .int .i64 (rG r).out, .slice xa xn xc, .slice ya yn yc, .int .i64 (rG r).filter, .int .i64 (rG r).hold, .int .i64 (rG r).now]) := by refine Blk.ext ?_ hx2; exact (by repeat (first | (with_reducible assumption) | (with_reducible exact Blk.new _ _ _) | exact Blk.newAt _ _ _ (by simp) | (with_reducible refine Blk.alloc ?_ _) | (with_reducible refine Blk.drew ?_) | (with_reducible refine Blk.drewN ?_ _) | refine Blk.far ?_ (by simp only []; omega) _ | refine Blk.rext ?_ (by assumption) (by omega) | refine Blk.ext ?_ (by assumption)))
    replace XU := XU.ext eW2
    have cBG := BG.cells
    have fBG := BG.frozens
    have zBG := BG.lt
    have cBP := BP.cells
    have fBP := BP.frozens
    have zBP := BP.lt
    have cBQ := BQ.cells
    have fBQ := BQ.frozens
    have zBQ := BQ.lt
    have cBH := BH.cells
    have fBH := BH.frozens
    have zBH := BH.lt
    rw [← hr.out] at O4 O5 O6 ⊢
    go_wp2_with fail
    refine (equalPacket_ow (rP r) A1 A2 n1 n2 C1 C2 _ (by exact (O1.sl encI_len).ext (by repeat (first | (with_reducible exact Ext.refl _) | (with_reducible refine Ext.alloc ?_ _) | (with_reducible refine Ext.trans ?_ (by assumption))))) (by exact (O4.sl encI_len).ext (by repeat (first | (with_reducible exact Ext.refl _) | (with_reducible refine Ext.alloc ?_ _) | (with_reducible refine Ext.trans ?_ (by assumption)))))).mono ?_
    rintro e w3 ⟨rfl, hx3⟩
    have hy3 := hx3.size
    (try simp at hy3)
    have eW3 := useE (fun (h : Ext _ w3) => T0.ext h) (by repeat (first | (with_reducible exact Ext.refl _) | (with_reducible refine Ext.alloc ?_ _) | (with_reducible refine Ext.trans ?_ (by assumption))))
    replace T0 := T0.ext eW3
    replace K0 := K0.ext eW3
    replace S0 := S0.ext eW3
    clear cBG fBG zBG
    replace BG := BG.ext eW3
    clear cBP fBP zBP
    replace BP := BP.ext eW3
    replace O1 := O1.ext eW3
    replace O2 := O2.ext eW3
    replace O3 := O3.ext eW3
    clear cBQ fBQ zBQ
    replace BQ := BQ.ext eW3
    clear cBH fBH zBH
    replace BH := BH.ext eW3
    replace O4 := O4.ext eW3
    replace O5 := O5.ext eW3
    replace O6 := O6.ext eW3
    have BV : Blk w3 w2.heap.size 33 (#[.int .i64 (rP r).kind, .int .i64 (rP r).fr.addr, .int .i64 (rP r).fr.port, .int .i64 (rP r).to_.addr, .int .i64 (rP r).to_.port, .slice A2 n2 C2]) := by refine Blk.ext ?_ hx3; exact (by repeat (first | (with_reducible assumption) | (with_reducible exact Blk.new _ _ _) | exact Blk.newAt _ _ _ (by simp) | (with_reducible refine Blk.alloc ?_ _) | (with_reducible refine Blk.drew ?_) | (with_reducible refine Blk.drewN ?_ _) | refine Blk.far ?_ (by simp only []; omega) _ | refine Blk.rext ?_ (by assumption) (by omega) | refine Blk.ext ?_ (by assumption)))
    have BW : Blk w3 (w2.heap.size+1) 28 (#[.int .i64 (rG r).net.base, .int .i64 (rG r).net.bits, .int .i64 (rG r).out, .slice xb xm xd, .slice yb ym yd, .int .i64 (rG r).filter, .int .i64 (rG r).hold, .int .i64 (rG r).now]) := by refine Blk.ext ?_ hx3; exact (by repeat (first | (with_reducible assumption) | (with_reducible exact Blk.new _ _ _) | exact Blk.newAt _ _ _ (by simp) | (with_reducible refine Blk.alloc ?_ _) | (with_reducible refine Blk.drew ?_) | (with_reducible refine Blk.drewN ?_ _) | refine Blk.far ?_ (by simp only []; omega) _ | refine Blk.rext ?_ (by assumption) (by omega) | refine Blk.ext ?_ (by assumption)))
    replace XU := XU.ext eW3
    have cBG := BG.cells
    have fBG := BG.frozens
    have zBG := BG.lt
    have cBP := BP.cells
    have fBP := BP.frozens
    have zBP := BP.lt
    have cBQ := BQ.cells
    have fBQ := BQ.frozens
    have zBQ := BQ.lt
    have cBH := BH.cells
    have fBH := BH.frozens
    have zBH := BH.lt
    have cBV := BV.cells
    have fBV := BV.frozens
    have zBV := BV.lt
    have cBW := BW.cells
    have fBW := BW.frozens
    have zBW := BW.lt
    go_wp2_with fail
    refine (equalGate_ow (rG r) xa xn xc ya yn yc xb xm xd yb ym yd _ (by exact (O2.sl encM_len).ext (by repeat (first | (with_reducible exact Ext.refl _) | (with_reducible refine Ext.alloc ?_ _) | (with_reducible refine Ext.trans ?_ (by assumption))))) (by exact (O3.sl encC_len).ext (by repeat (first | (with_reducible exact Ext.refl _) | (with_reducible refine Ext.alloc ?_ _) | (with_reducible refine Ext.trans ?_ (by assumption))))) (by exact (O5.sl encM_len).ext (by repeat (first | (with_reducible exact Ext.refl _) | (with_reducible refine Ext.alloc ?_ _) | (with_reducible refine Ext.trans ?_ (by assumption))))) (by exact (O6.sl encC_len).ext (by repeat (first | (with_reducible exact Ext.refl _) | (with_reducible refine Ext.alloc ?_ _) | (with_reducible refine Ext.trans ?_ (by assumption)))))).mono ?_
    rintro e w4 ⟨rfl, hx4⟩
    have hy4 := hx4.size
    (try simp at hy4)
    have eW4 := useE (fun (h : Ext _ w4) => T0.ext h) (by repeat (first | (with_reducible exact Ext.refl _) | (with_reducible refine Ext.alloc ?_ _) | (with_reducible refine Ext.trans ?_ (by assumption))))
    replace T0 := T0.ext eW4
    replace K0 := K0.ext eW4
    replace S0 := S0.ext eW4
    clear cBG fBG zBG
    replace BG := BG.ext eW4
    clear cBP fBP zBP
    replace BP := BP.ext eW4
    replace O1 := O1.ext eW4
    replace O2 := O2.ext eW4
    replace O3 := O3.ext eW4
    clear cBQ fBQ zBQ
    replace BQ := BQ.ext eW4
    clear cBH fBH zBH
    replace BH := BH.ext eW4
    replace O4 := O4.ext eW4
    replace O5 := O5.ext eW4
    replace O6 := O6.ext eW4
    clear cBV fBV zBV
    replace BV := BV.ext eW4
    clear cBW fBW zBW
    replace BW := BW.ext eW4
    replace XU := XU.ext eW4
    have cBG := BG.cells
    have fBG := BG.frozens
    have zBG := BG.lt
    have cBP := BP.cells
    have fBP := BP.frozens
    have zBP := BP.lt
    have cBQ := BQ.cells
    have fBQ := BQ.frozens
    have zBQ := BQ.lt
    have cBH := BH.cells
    have fBH := BH.frozens
    have zBH := BH.lt
    have cBV := BV.cells
    have fBV := BV.frozens
    have zBV := BV.lt
    have cBW := BW.cells
    have fBW := BW.frozens
    have zBW := BW.lt
    obtain ⟨ok, hok⟩ : ∃ ok, ok = r.isSome := ⟨_, rfl⟩
    rw [← hok]
    cases ok with
    | false =>
      clear hok
      go_wp2_with fail
      refine (equalPacket_ow (rP r) A1 A2 n1 n2 C1 C2 _ (by exact (O1.sl encI_len).ext (by repeat (first | (with_reducible exact Ext.refl _) | (with_reducible refine Ext.alloc ?_ _) | (with_reducible refine Ext.trans ?_ (by assumption))))) (by exact (O4.sl encI_len).ext (by repeat (first | (with_reducible exact Ext.refl _) | (with_reducible refine Ext.alloc ?_ _) | (with_reducible refine Ext.trans ?_ (by assumption)))))).mono ?_
      rintro e w5 ⟨rfl, hx5⟩
      have hy5 := hx5.size
      (try simp at hy5)
      have eW5 := useE (fun (h : Ext _ w5) => T0.ext h) (by repeat (first | (with_reducible exact Ext.refl _) | (with_reducible refine Ext.alloc ?_ _) | (with_reducible refine Ext.trans ?_ (by assumption))))
      replace T0 := T0.ext eW5
      replace K0 := K0.ext eW5
      replace S0 := S0.ext eW5
      clear cBG fBG zBG
      replace BG := BG.ext eW5
      clear cBP fBP zBP
      replace BP := BP.ext eW5
      replace O1 := O1.ext eW5
      replace O2 := O2.ext eW5
      replace O3 := O3.ext eW5
      clear cBQ fBQ zBQ
      replace BQ := BQ.ext eW5
      clear cBH fBH zBH
      replace BH := BH.ext eW5
      replace O4 := O4.ext eW5
      replace O5 := O5.ext eW5
      replace O6 := O6.ext eW5
      clear cBV fBV zBV
      replace BV := BV.ext eW5
      clear cBW fBW zBW
      replace BW := BW.ext eW5
      replace XU := XU.ext eW5
      have cBG := BG.cells
      have fBG := BG.frozens
      have zBG := BG.lt
      have cBP := BP.cells
      have fBP := BP.frozens
      have zBP := BP.lt
      have cBQ := BQ.cells
      have fBQ := BQ.frozens
      have zBQ := BQ.lt
      have cBH := BH.cells
      have fBH := BH.frozens
      have zBH := BH.lt
      have cBV := BV.cells
      have fBV := BV.frozens
      have zBV := BV.lt
      have cBW := BW.cells
      have fBW := BW.frozens
      have zBW := BW.lt
      go_wp2_with fail
      refine (equalGate_ow (rG r) xa xn xc ya yn yc xb xm xd yb ym yd _ (by exact (O2.sl encM_len).ext (by repeat (first | (with_reducible exact Ext.refl _) | (with_reducible refine Ext.alloc ?_ _) | (with_reducible refine Ext.trans ?_ (by assumption))))) (by exact (O3.sl encC_len).ext (by repeat (first | (with_reducible exact Ext.refl _) | (with_reducible refine Ext.alloc ?_ _) | (with_reducible refine Ext.trans ?_ (by assumption))))) (by exact (O5.sl encM_len).ext (by repeat (first | (with_reducible exact Ext.refl _) | (with_reducible refine Ext.alloc ?_ _) | (with_reducible refine Ext.trans ?_ (by assumption))))) (by exact (O6.sl encC_len).ext (by repeat (first | (with_reducible exact Ext.refl _) | (with_reducible refine Ext.alloc ?_ _) | (with_reducible refine Ext.trans ?_ (by assumption)))))).mono ?_
      rintro e w6 ⟨rfl, hx6⟩
      have hy6 := hx6.size
      (try simp at hy6)
      have eW6 := useE (fun (h : Ext _ w6) => T0.ext h) (by repeat (first | (with_reducible exact Ext.refl _) | (with_reducible refine Ext.alloc ?_ _) | (with_reducible refine Ext.trans ?_ (by assumption))))
      replace T0 := T0.ext eW6
      replace K0 := K0.ext eW6
      replace S0 := S0.ext eW6
      clear cBG fBG zBG
      replace BG := BG.ext eW6
      clear cBP fBP zBP
      replace BP := BP.ext eW6
      replace O1 := O1.ext eW6
      replace O2 := O2.ext eW6
      replace O3 := O3.ext eW6
      clear cBQ fBQ zBQ
      replace BQ := BQ.ext eW6
      clear cBH fBH zBH
      replace BH := BH.ext eW6
      replace O4 := O4.ext eW6
      replace O5 := O5.ext eW6
      replace O6 := O6.ext eW6
      clear cBV fBV zBV
      replace BV := BV.ext eW6
      clear cBW fBW zBW
      replace BW := BW.ext eW6
      replace XU := XU.ext eW6
      have cBG := BG.cells
      have fBG := BG.frozens
      have zBG := BG.lt
      have cBP := BP.cells
      have fBP := BP.frozens
      have zBP := BP.lt
      have cBQ := BQ.cells
      have fBQ := BQ.frozens
      have zBQ := BQ.lt
      have cBH := BH.cells
      have fBH := BH.frozens
      have zBH := BH.lt
      have cBV := BV.cells
      have fBV := BV.frozens
      have zBV := BV.lt
      have cBW := BW.cells
      have fBW := BW.frozens
      have zBW := BW.lt
      go_wp2
      go_ret
      exact ⟨rfl, XU.trans (show Ext _ _ from (by repeat (first | (with_reducible exact Ext.refl _) | (with_reducible assumption) | (with_reducible refine Ext.alloc ?_ _) | (with_reducible refine Ext.drewN ?_ _) | (with_reducible refine Ext.drew ?_) | (with_reducible refine Ext.setCell ?_ ?_ _; rotate_left; (simp only []; omega)) | (with_reducible refine Ext.trans ?_ (by assumption)))))⟩
    | true =>
      cases r with
      | none => cases hok
      | some s =>
        obtain ⟨q, h⟩ := s
        clear hok
        have hF := hr.out.symm
        obtain ⟨N, hN⟩ : ∃ N, N = wayOf g p := ⟨_, rfl⟩
        have cW := fun W x y z => impl_WayOf g p ta tn tc ka kn kc sa sn sc W x y z
        rw [← hN] at cW
        have c5 := fun W x y z => impl_SendOut g p ta tn tc ka kn kc sa sn sc W x y z
        have c6 := fun W x y z => impl_ReceiveIn g p ta tn tc ka kn kc sa sn sc W x y z
        have c7 := fun W x y z => impl_PassBetween g p ta tn tc ka kn kc sa sn sc W x y z
        clear hr
        clear cBQ fBQ zBQ cBH fBH zBH cBV fBV zBV cBW fBW zBW BV BW O4 O5 O6
        replace BQ : Blk w4 w1.heap.size 33 (#[.int .i64 q.kind, .int .i64 q.fr.addr, .int .i64 q.fr.port, .int .i64 q.to_.addr, .int .i64 q.to_.port, .slice A1 n1 C1]) := BQ
        replace BH : Blk w4 (w1.heap.size + 1) 28 (#[.int .i64 h.net.base, .int .i64 h.net.bits, .int .i64 h.out, .slice xa xn xc, .slice ya yn yc, .int .i64 h.filter, .int .i64 h.hold, .int .i64 h.now]) := BH
        replace O1 : Ow 3 encI 1 _ w4 A1 n1 C1 q.data := O1
        replace O2 : Ow 86 encM 4 _ w4 xa xn xc h.table := O2
        replace O3 : Ow 99 encC 3 _ w4 ya yn yc h.cons := O3
        have cBQ := BQ.cells
        have fBQ := BQ.frozens
        have zBQ := BQ.lt
        have cBH := BH.cells
        have fBH := BH.frozens
        have zBH := BH.lt
        have kT := Lib.hid (fun (h : 0 < tn) => T0.lt h)
        have kK := Lib.hid (fun (h : 0 < kn) => K0.lt h)
        have kS := Lib.hid (fun (h : 0 < sn) => S0.lt h)
        have kO1 := Lib.hid (show ∀ x, A1 = some x → x.block < w4.heap.size from fun x e => (O1.lt x e).2.1)
        have kO2 := Lib.hid (show ∀ x, xa = some x → x.block < w4.heap.size from fun x e => (O2.lt x e).2.1)
        have kO3 := Lib.hid (show ∀ x, ya = some x → x.block < w4.heap.size from fun x e => (O3.lt x e).2.1)
        have kU : u.heap.size ≤ w4.heap.size := XU.size
        rcases forward_way hF with hw | hw | hw
        · obtain rfl : N = 1 := hN.trans hw
          rw [forward_one hw] at hF
          rw [hF] at c5
          replace cW := Lib.hid cW
          replace c5 := Lib.hid c5
          clear c6 c7 hF hN hw
          go_wp2_with fail
          refine (c5.out _ (by exact T0.ext (by repeat (first | (with_reducible exact Ext.refl _) | (with_reducible refine Ext.alloc ?_ _) | (with_reducible refine Ext.trans ?_ (by assumption))))) (by exact K0.ext (by repeat (first | (with_reducible exact Ext.refl _) | (with_reducible refine Ext.alloc ?_ _) | (with_reducible refine Ext.trans ?_ (by assumption))))) (by exact S0.ext (by repeat (first | (with_reducible exact Ext.refl _) | (with_reducible refine Ext.alloc ?_ _) | (with_reducible refine Ext.trans ?_ (by assumption)))))).mono ?_
          rintro e w5 ⟨A5, n5, C5, xe, xk, xf, ye, yk, yf, rfl, O7, O8, O9, hx5⟩
          have hy5 := hx5.size
          (try simp at hy5)
          have eW5 := useE (fun (h : Ext _ w5) => T0.ext h) (by repeat (first | (with_reducible exact Ext.refl _) | (with_reducible refine Ext.alloc ?_ _) | (with_reducible refine Ext.trans ?_ (by assumption))))
          replace T0 := T0.ext eW5
          replace K0 := K0.ext eW5
          replace S0 := S0.ext eW5
          replace O1 := O1.ext eW5
          replace O2 := O2.ext eW5
          replace O3 := O3.ext eW5
          clear cBG fBG zBG
          replace BG := BG.ext eW5
          clear cBP fBP zBP
          replace BP := BP.ext eW5
          clear cBQ fBQ zBQ
          replace BQ := BQ.ext eW5
          clear cBH fBH zBH
          replace BH := BH.ext eW5
          replace XU := XU.ext eW5
          have cBG := BG.cells
          have fBG := BG.frozens
          have zBG := BG.lt
          have cBP := BP.cells
          have fBP := BP.frozens
          have zBP := BP.lt
          have cBQ := BQ.cells
          have fBQ := BQ.frozens
          have zBQ := BQ.lt
          have cBH := BH.cells
          have fBH := BH.frozens
          have zBH := BH.lt
          go_wp2_with fail
          refine (cW.out _ (by exact T0.ext (by repeat (first | (with_reducible exact Ext.refl _) | (with_reducible refine Ext.alloc ?_ _) | (with_reducible refine Ext.trans ?_ (by assumption))))) (by exact K0.ext (by repeat (first | (with_reducible exact Ext.refl _) | (with_reducible refine Ext.alloc ?_ _) | (with_reducible refine Ext.trans ?_ (by assumption))))) (by exact S0.ext (by repeat (first | (with_reducible exact Ext.refl _) | (with_reducible refine Ext.alloc ?_ _) | (with_reducible refine Ext.trans ?_ (by assumption)))))).mono ?_
          rintro e w6 ⟨rfl, hx6⟩
          have hy6 := hx6.size
          (try simp at hy6)
          have eW6 := useE (fun (h : Ext _ w6) => T0.ext h) (by repeat (first | (with_reducible exact Ext.refl _) | (with_reducible refine Ext.alloc ?_ _) | (with_reducible refine Ext.trans ?_ (by assumption))))
          replace T0 := T0.ext eW6
          replace K0 := K0.ext eW6
          replace S0 := S0.ext eW6
          replace O1 := O1.ext eW6
          replace O2 := O2.ext eW6
          replace O3 := O3.ext eW6
          clear cBG fBG zBG
          replace BG := BG.ext eW6
          clear cBP fBP zBP
          replace BP := BP.ext eW6
          clear cBQ fBQ zBQ
          replace BQ := BQ.ext eW6
          clear cBH fBH zBH
          replace BH := BH.ext eW6
          replace O7 := O7.ext eW6
          replace O8 := O8.ext eW6
          replace O9 := O9.ext eW6
          have BA : Blk w6 w5.heap.size 33 (#[.int .i64 q.kind, .int .i64 q.fr.addr, .int .i64 q.fr.port, .int .i64 q.to_.addr, .int .i64 q.to_.port, .slice A5 n5 C5]) := by refine Blk.ext ?_ hx6; exact (by repeat (first | (with_reducible assumption) | (with_reducible exact Blk.new _ _ _) | exact Blk.newAt _ _ _ (by simp) | (with_reducible refine Blk.alloc ?_ _) | (with_reducible refine Blk.drew ?_) | (with_reducible refine Blk.drewN ?_ _) | refine Blk.far ?_ (by simp only []; omega) _ | refine Blk.rext ?_ (by assumption) (by omega) | refine Blk.ext ?_ (by assumption)))
          have BB : Blk w6 (w5.heap.size + 1) 28 (#[.int .i64 h.net.base, .int .i64 h.net.bits, .int .i64 h.out, .slice xe xk xf, .slice ye yk yf, .int .i64 h.filter, .int .i64 h.hold, .int .i64 h.now]) := by refine Blk.ext ?_ hx6; exact (by repeat (first | (with_reducible assumption) | (with_reducible exact Blk.new _ _ _) | exact Blk.newAt _ _ _ (by simp) | (with_reducible refine Blk.alloc ?_ _) | (with_reducible refine Blk.drew ?_) | (with_reducible refine Blk.drewN ?_ _) | refine Blk.far ?_ (by simp only []; omega) _ | refine Blk.rext ?_ (by assumption) (by omega) | refine Blk.ext ?_ (by assumption)))
          replace XU := XU.ext eW6
          have cBG := BG.cells
          have fBG := BG.frozens
          have zBG := BG.lt
          have cBP := BP.cells
          have fBP := BP.frozens
          have zBP := BP.lt
          have cBQ := BQ.cells
          have fBQ := BQ.frozens
          have zBQ := BQ.lt
          have cBH := BH.cells
          have fBH := BH.frozens
          have zBH := BH.lt
          have cBA := BA.cells
          have fBA := BA.frozens
          have zBA := BA.lt
          have cBB := BB.cells
          have fBB := BB.frozens
          have zBB := BB.lt
          go_wp2_with fail
          refine (cW.out _ (by exact T0.ext (by repeat (first | (with_reducible exact Ext.refl _) | (with_reducible refine Ext.alloc ?_ _) | (with_reducible refine Ext.trans ?_ (by assumption))))) (by exact K0.ext (by repeat (first | (with_reducible exact Ext.refl _) | (with_reducible refine Ext.alloc ?_ _) | (with_reducible refine Ext.trans ?_ (by assumption))))) (by exact S0.ext (by repeat (first | (with_reducible exact Ext.refl _) | (with_reducible refine Ext.alloc ?_ _) | (with_reducible refine Ext.trans ?_ (by assumption)))))).mono ?_
          rintro e w7 ⟨rfl, hx7⟩
          have hy7 := hx7.size
          (try simp at hy7)
          have eW7 := useE (fun (h : Ext _ w7) => T0.ext h) (by repeat (first | (with_reducible exact Ext.refl _) | (with_reducible refine Ext.alloc ?_ _) | (with_reducible refine Ext.trans ?_ (by assumption))))
          replace T0 := T0.ext eW7
          replace K0 := K0.ext eW7
          replace S0 := S0.ext eW7
          replace O1 := O1.ext eW7
          replace O2 := O2.ext eW7
          replace O3 := O3.ext eW7
          clear cBG fBG zBG
          replace BG := BG.ext eW7
          clear cBP fBP zBP
          replace BP := BP.ext eW7
          clear cBQ fBQ zBQ
          replace BQ := BQ.ext eW7
          clear cBH fBH zBH
          replace BH := BH.ext eW7
          replace O7 := O7.ext eW7
          replace O8 := O8.ext eW7
          replace O9 := O9.ext eW7
          clear cBA fBA zBA
          replace BA := BA.ext eW7
          clear cBB fBB zBB
          replace BB := BB.ext eW7
          replace XU := XU.ext eW7
          have cBG := BG.cells
          have fBG := BG.frozens
          have zBG := BG.lt
          have cBP := BP.cells
          have fBP := BP.frozens
          have zBP := BP.lt
          have cBQ := BQ.cells
          have fBQ := BQ.frozens
          have zBQ := BQ.lt
          have cBH := BH.cells
          have fBH := BH.frozens
          have zBH := BH.lt
          have cBA := BA.cells
          have fBA := BA.frozens
          have zBA := BA.lt
          have cBB := BB.cells
          have fBB := BB.frozens
          have zBB := BB.lt
          go_wp2_with fail
          refine (equalPacket_ow q A5 A1 n5 n1 C5 C1 _ (by exact (O7.sl encI_len).ext (by repeat (first | (with_reducible exact Ext.refl _) | (with_reducible refine Ext.alloc ?_ _) | (with_reducible refine Ext.trans ?_ (by assumption))))) (by exact (O1.sl encI_len).ext (by repeat (first | (with_reducible exact Ext.refl _) | (with_reducible refine Ext.alloc ?_ _) | (with_reducible refine Ext.trans ?_ (by assumption)))))).mono ?_
          rintro e w8 ⟨rfl, hx8⟩
          have hy8 := hx8.size
          (try simp at hy8)
          have eW8 := useE (fun (h : Ext _ w8) => T0.ext h) (by repeat (first | (with_reducible exact Ext.refl _) | (with_reducible refine Ext.alloc ?_ _) | (with_reducible refine Ext.trans ?_ (by assumption))))
          replace T0 := T0.ext eW8
          replace K0 := K0.ext eW8
          replace S0 := S0.ext eW8
          replace O1 := O1.ext eW8
          replace O2 := O2.ext eW8
          replace O3 := O3.ext eW8
          clear cBG fBG zBG
          replace BG := BG.ext eW8
          clear cBP fBP zBP
          replace BP := BP.ext eW8
          clear cBQ fBQ zBQ
          replace BQ := BQ.ext eW8
          clear cBH fBH zBH
          replace BH := BH.ext eW8
          replace O7 := O7.ext eW8
          replace O8 := O8.ext eW8
          replace O9 := O9.ext eW8
          clear cBA fBA zBA
          replace BA := BA.ext eW8
          clear cBB fBB zBB
          replace BB := BB.ext eW8
          replace XU := XU.ext eW8
          have cBG := BG.cells
          have fBG := BG.frozens
          have zBG := BG.lt
          have cBP := BP.cells
          have fBP := BP.frozens
          have zBP := BP.lt
          have cBQ := BQ.cells
          have fBQ := BQ.frozens
          have zBQ := BQ.lt
          have cBH := BH.cells
          have fBH := BH.frozens
          have zBH := BH.lt
          have cBA := BA.cells
          have fBA := BA.frozens
          have zBA := BA.lt
          have cBB := BB.cells
          have fBB := BB.frozens
          have zBB := BB.lt
          go_wp2_with fail
          refine (equalGate_ow h xe xk xf ye yk yf xa xn xc ya yn yc _ (by exact (O8.sl encM_len).ext (by repeat (first | (with_reducible exact Ext.refl _) | (with_reducible refine Ext.alloc ?_ _) | (with_reducible refine Ext.trans ?_ (by assumption))))) (by exact (O9.sl encC_len).ext (by repeat (first | (with_reducible exact Ext.refl _) | (with_reducible refine Ext.alloc ?_ _) | (with_reducible refine Ext.trans ?_ (by assumption))))) (by exact (O2.sl encM_len).ext (by repeat (first | (with_reducible exact Ext.refl _) | (with_reducible refine Ext.alloc ?_ _) | (with_reducible refine Ext.trans ?_ (by assumption))))) (by exact (O3.sl encC_len).ext (by repeat (first | (with_reducible exact Ext.refl _) | (with_reducible refine Ext.alloc ?_ _) | (with_reducible refine Ext.trans ?_ (by assumption)))))).mono ?_
          rintro e w9 ⟨rfl, hx9⟩
          have hy9 := hx9.size
          (try simp at hy9)
          have eW9 := useE (fun (h : Ext _ w9) => T0.ext h) (by repeat (first | (with_reducible exact Ext.refl _) | (with_reducible refine Ext.alloc ?_ _) | (with_reducible refine Ext.trans ?_ (by assumption))))
          replace T0 := T0.ext eW9
          replace K0 := K0.ext eW9
          replace S0 := S0.ext eW9
          replace O1 := O1.ext eW9
          replace O2 := O2.ext eW9
          replace O3 := O3.ext eW9
          clear cBG fBG zBG
          replace BG := BG.ext eW9
          clear cBP fBP zBP
          replace BP := BP.ext eW9
          clear cBQ fBQ zBQ
          replace BQ := BQ.ext eW9
          clear cBH fBH zBH
          replace BH := BH.ext eW9
          replace O7 := O7.ext eW9
          replace O8 := O8.ext eW9
          replace O9 := O9.ext eW9
          clear cBA fBA zBA
          replace BA := BA.ext eW9
          clear cBB fBB zBB
          replace BB := BB.ext eW9
          replace XU := XU.ext eW9
          have cBG := BG.cells
          have fBG := BG.frozens
          have zBG := BG.lt
          have cBP := BP.cells
          have fBP := BP.frozens
          have zBP := BP.lt
          have cBQ := BQ.cells
          have fBQ := BQ.frozens
          have zBQ := BQ.lt
          have cBH := BH.cells
          have fBH := BH.frozens
          have zBH := BH.lt
          have cBA := BA.cells
          have fBA := BA.frozens
          have zBA := BA.lt
          have cBB := BB.cells
          have fBB := BB.frozens
          have zBB := BB.lt
          go_wp2
          go_ret
          exact ⟨rfl, XU.trans (show Ext _ _ from (by repeat (first | (with_reducible exact Ext.refl _) | (with_reducible assumption) | (with_reducible refine Ext.alloc ?_ _) | (with_reducible refine Ext.drewN ?_ _) | (with_reducible refine Ext.drew ?_) | (with_reducible refine Ext.setCell ?_ ?_ _; rotate_left; (simp only []; omega)) | (with_reducible refine Ext.trans ?_ (by assumption)))))⟩
        · obtain rfl : N = 2 := hN.trans hw
          rw [forward_two hw] at hF
          rw [hF] at c6
          obtain ⟨r5, hr5⟩ : ∃ r, r = sendOut g p := ⟨_, rfl⟩
          rw [← hr5] at c5
          replace cW := Lib.hid cW
          replace c5 := Lib.hid c5
          replace c6 := Lib.hid c6
          clear c7 hF hN hw hr5
          go_wp2_with fail
          refine (c5.out _ (by exact T0.ext (by repeat (first | (with_reducible exact Ext.refl _) | (with_reducible refine Ext.alloc ?_ _) | (with_reducible refine Ext.trans ?_ (by assumption))))) (by exact K0.ext (by repeat (first | (with_reducible exact Ext.refl _) | (with_reducible refine Ext.alloc ?_ _) | (with_reducible refine Ext.trans ?_ (by assumption))))) (by exact S0.ext (by repeat (first | (with_reducible exact Ext.refl _) | (with_reducible refine Ext.alloc ?_ _) | (with_reducible refine Ext.trans ?_ (by assumption)))))).mono ?_
          rintro e w5 ⟨A5, n5, C5, xe, xk, xf, ye, yk, yf, rfl, _, _, _, hx5⟩
          have hy5 := hx5.size
          (try simp at hy5)
          have eW5 := useE (fun (h : Ext _ w5) => T0.ext h) (by repeat (first | (with_reducible exact Ext.refl _) | (with_reducible refine Ext.alloc ?_ _) | (with_reducible refine Ext.trans ?_ (by assumption))))
          replace T0 := T0.ext eW5
          replace K0 := K0.ext eW5
          replace S0 := S0.ext eW5
          replace O1 := O1.ext eW5
          replace O2 := O2.ext eW5
          replace O3 := O3.ext eW5
          clear cBG fBG zBG
          replace BG := BG.ext eW5
          clear cBP fBP zBP
          replace BP := BP.ext eW5
          clear cBQ fBQ zBQ
          replace BQ := BQ.ext eW5
          clear cBH fBH zBH
          replace BH := BH.ext eW5
          replace XU := XU.ext eW5
          have cBG := BG.cells
          have fBG := BG.frozens
          have zBG := BG.lt
          have cBP := BP.cells
          have fBP := BP.frozens
          have zBP := BP.lt
          have cBQ := BQ.cells
          have fBQ := BQ.frozens
          have zBQ := BQ.lt
          have cBH := BH.cells
          have fBH := BH.frozens
          have zBH := BH.lt
          go_wp2_with fail
          refine (cW.out _ (by exact T0.ext (by repeat (first | (with_reducible exact Ext.refl _) | (with_reducible refine Ext.alloc ?_ _) | (with_reducible refine Ext.trans ?_ (by assumption))))) (by exact K0.ext (by repeat (first | (with_reducible exact Ext.refl _) | (with_reducible refine Ext.alloc ?_ _) | (with_reducible refine Ext.trans ?_ (by assumption))))) (by exact S0.ext (by repeat (first | (with_reducible exact Ext.refl _) | (with_reducible refine Ext.alloc ?_ _) | (with_reducible refine Ext.trans ?_ (by assumption)))))).mono ?_
          rintro e w6 ⟨rfl, hx6⟩
          have hy6 := hx6.size
          (try simp at hy6)
          have eW6 := useE (fun (h : Ext _ w6) => T0.ext h) (by repeat (first | (with_reducible exact Ext.refl _) | (with_reducible refine Ext.alloc ?_ _) | (with_reducible refine Ext.trans ?_ (by assumption))))
          replace T0 := T0.ext eW6
          replace K0 := K0.ext eW6
          replace S0 := S0.ext eW6
          replace O1 := O1.ext eW6
          replace O2 := O2.ext eW6
          replace O3 := O3.ext eW6
          clear cBG fBG zBG
          replace BG := BG.ext eW6
          clear cBP fBP zBP
          replace BP := BP.ext eW6
          clear cBQ fBQ zBQ
          replace BQ := BQ.ext eW6
          clear cBH fBH zBH
          replace BH := BH.ext eW6
          have BA : Blk w6 w5.heap.size 33 (#[.int .i64 (rP r5).kind, .int .i64 (rP r5).fr.addr, .int .i64 (rP r5).fr.port, .int .i64 (rP r5).to_.addr, .int .i64 (rP r5).to_.port, .slice A5 n5 C5]) := by refine Blk.ext ?_ hx6; exact (by repeat (first | (with_reducible assumption) | (with_reducible exact Blk.new _ _ _) | exact Blk.newAt _ _ _ (by simp) | (with_reducible refine Blk.alloc ?_ _) | (with_reducible refine Blk.drew ?_) | (with_reducible refine Blk.drewN ?_ _) | refine Blk.far ?_ (by simp only []; omega) _ | refine Blk.rext ?_ (by assumption) (by omega) | refine Blk.ext ?_ (by assumption)))
          have BB : Blk w6 (w5.heap.size + 1) 28 (#[.int .i64 (rG r5).net.base, .int .i64 (rG r5).net.bits, .int .i64 (rG r5).out, .slice xe xk xf, .slice ye yk yf, .int .i64 (rG r5).filter, .int .i64 (rG r5).hold, .int .i64 (rG r5).now]) := by refine Blk.ext ?_ hx6; exact (by repeat (first | (with_reducible assumption) | (with_reducible exact Blk.new _ _ _) | exact Blk.newAt _ _ _ (by simp) | (with_reducible refine Blk.alloc ?_ _) | (with_reducible refine Blk.drew ?_) | (with_reducible refine Blk.drewN ?_ _) | refine Blk.far ?_ (by simp only []; omega) _ | refine Blk.rext ?_ (by assumption) (by omega) | refine Blk.ext ?_ (by assumption)))
          replace XU := XU.ext eW6
          have cBG := BG.cells
          have fBG := BG.frozens
          have zBG := BG.lt
          have cBP := BP.cells
          have fBP := BP.frozens
          have zBP := BP.lt
          have cBQ := BQ.cells
          have fBQ := BQ.frozens
          have zBQ := BQ.lt
          have cBH := BH.cells
          have fBH := BH.frozens
          have zBH := BH.lt
          have cBA := BA.cells
          have fBA := BA.frozens
          have zBA := BA.lt
          have cBB := BB.cells
          have fBB := BB.frozens
          have zBB := BB.lt
          go_wp2_with fail
          refine (c6.out _ (by exact T0.ext (by repeat (first | (with_reducible exact Ext.refl _) | (with_reducible refine Ext.alloc ?_ _) | (with_reducible refine Ext.trans ?_ (by assumption))))) (by exact K0.ext (by repeat (first | (with_reducible exact Ext.refl _) | (with_reducible refine Ext.alloc ?_ _) | (with_reducible refine Ext.trans ?_ (by assumption))))) (by exact S0.ext (by repeat (first | (with_reducible exact Ext.refl _) | (with_reducible refine Ext.alloc ?_ _) | (with_reducible refine Ext.trans ?_ (by assumption)))))).mono ?_
          rintro e w7 ⟨A7, n7, C7, xg, xm', xh, yg, ym', yh, rfl, O7, O8, O9, hx7⟩
          have hy7 := hx7.size
          (try simp at hy7)
          have eW7 := useE (fun (h : Ext _ w7) => T0.ext h) (by repeat (first | (with_reducible exact Ext.refl _) | (with_reducible refine Ext.alloc ?_ _) | (with_reducible refine Ext.trans ?_ (by assumption))))
          replace T0 := T0.ext eW7
          replace K0 := K0.ext eW7
          replace S0 := S0.ext eW7
          replace O1 := O1.ext eW7
          replace O2 := O2.ext eW7
          replace O3 := O3.ext eW7
          clear cBG fBG zBG
          replace BG := BG.ext eW7
          clear cBP fBP zBP
          replace BP := BP.ext eW7
          clear cBQ fBQ zBQ
          replace BQ := BQ.ext eW7
          clear cBH fBH zBH
          replace BH := BH.ext eW7
          clear cBA fBA zBA
          replace BA := BA.ext eW7
          clear cBB fBB zBB
          replace BB := BB.ext eW7
          replace XU := XU.ext eW7
          have cBG := BG.cells
          have fBG := BG.frozens
          have zBG := BG.lt
          have cBP := BP.cells
          have fBP := BP.frozens
          have zBP := BP.lt
          have cBQ := BQ.cells
          have fBQ := BQ.frozens
          have zBQ := BQ.lt
          have cBH := BH.cells
          have fBH := BH.frozens
          have zBH := BH.lt
          have cBA := BA.cells
          have fBA := BA.frozens
          have zBA := BA.lt
          have cBB := BB.cells
          have fBB := BB.frozens
          have zBB := BB.lt
          go_wp2_with fail
          have k7 := Lib.hid (show ∀ x, A7 = some x → w5.heap.size + 1 < x.block from fun x e => by have h := (O7.lt x e).1; (try simp at h); omega)
          have k8 := Lib.hid (show ∀ x, xg = some x → w5.heap.size + 1 < x.block from fun x e => by have h := (O8.lt x e).1; (try simp at h); omega)
          have k9 := Lib.hid (show ∀ x, yg = some x → w5.heap.size + 1 < x.block from fun x e => by have h := (O9.lt x e).1; (try simp at h); omega)
          refine calls_gen (fun W => RX (fun i => i = w5.heap.size ∨ i = w5.heap.size + 1) w7 W ∧ Blk W w5.heap.size 33 (#[.int .i64 q.kind, .int .i64 q.fr.addr, .int .i64 q.fr.port, .int .i64 q.to_.addr, .int .i64 q.to_.port, .slice A7 n7 C7]) ∧ Blk W (w5.heap.size + 1) 28 (#[.int .i64 h.net.base, .int .i64 h.net.bits, .int .i64 h.out, .slice xg xm' xh, .slice yg ym' yh, .int .i64 h.filter, .int .i64 h.hold, .int .i64 h.now])) ⟨(by repeat (first | (with_reducible exact RX.refl _ _) | (refine RX.putc ?_ (.inl rfl) _ _) | (refine RX.putc ?_ (.inr rfl) _ _))), (by exact BA.pg1 (by omega) _ _ _ _ _ _ _ _ _ _ _ _ _ _), (by exact BB.pg2 (by omega) _ _ _ _ _ _ _ _ _ _ _ _ _ _)⟩ ?_
          rintro v8 ⟨x8, BA2, BB2⟩
          clear cBG fBG zBG cBP fBP zBP cBQ fBQ zBQ cBH fBH zBH cBA fBA zBA cBB fBB zBB BA BB
          replace BG := BG.rx x8 (by omega)
          replace BP := BP.rx x8 (by omega)
          replace BQ := BQ.rx x8 (by omega)
          replace BH := BH.rx x8 (by omega)
          replace T0 := T0.rx x8 (fun hn x e h => by have := kT.out hn x e; omega)
          replace K0 := K0.rx x8 (fun hn x e h => by have := kK.out hn x e; omega)
          replace S0 := S0.rx x8 (fun hn x e h => by have := kS.out hn x e; omega)
          replace O1 := O1.rx x8 (fun x e h => by have := kO1.out x e; omega)
          replace O2 := O2.rx x8 (fun x e h => by have := kO2.out x e; omega)
          replace O3 := O3.rx x8 (fun x e h => by have := kO3.out x e; omega)
          replace O7 := O7.rx x8 (fun x e h => by have := k7.out x e; omega)
          replace O8 := O8.rx x8 (fun x e h => by have := k8.out x e; omega)
          replace O9 := O9.rx x8 (fun x e h => by have := k9.out x e; omega)
          replace XU := RX.new XU x8 (fun i h => by omega)
          have s8 := x8.size
          have BA := BA2
          have BB := BB2
          clear x8 BA2 BB2
          have cBG := BG.cells
          have fBG := BG.frozens
          have zBG := BG.lt
          have cBP := BP.cells
          have fBP := BP.frozens
          have zBP := BP.lt
          have cBQ := BQ.cells
          have fBQ := BQ.frozens
          have zBQ := BQ.lt
          have cBH := BH.cells
          have fBH := BH.frozens
          have zBH := BH.lt
          have cBA := BA.cells
          have fBA := BA.frozens
          have zBA := BA.lt
          have cBB := BB.cells
          have fBB := BB.frozens
          have zBB := BB.lt
          refine (cW.out _ (by exact T0.ext (by repeat (first | (with_reducible exact Ext.refl _) | (with_reducible refine Ext.alloc ?_ _) | (with_reducible refine Ext.trans ?_ (by assumption))))) (by exact K0.ext (by repeat (first | (with_reducible exact Ext.refl _) | (with_reducible refine Ext.alloc ?_ _) | (with_reducible refine Ext.trans ?_ (by assumption))))) (by exact S0.ext (by repeat (first | (with_reducible exact Ext.refl _) | (with_reducible refine Ext.alloc ?_ _) | (with_reducible refine Ext.trans ?_ (by assumption)))))).mono ?_
          rintro e w8 ⟨rfl, hx8⟩
          have hy8 := hx8.size
          (try simp at hy8)
          have eW8 := useE (fun (h : Ext _ w8) => T0.ext h) (by repeat (first | (with_reducible exact Ext.refl _) | (with_reducible refine Ext.alloc ?_ _) | (with_reducible refine Ext.trans ?_ (by assumption))))
          replace T0 := T0.ext eW8
          replace K0 := K0.ext eW8
          replace S0 := S0.ext eW8
          replace O1 := O1.ext eW8
          replace O2 := O2.ext eW8
          replace O3 := O3.ext eW8
          replace O7 := O7.ext eW8
          replace O8 := O8.ext eW8
          replace O9 := O9.ext eW8
          clear cBG fBG zBG
          replace BG := BG.ext eW8
          clear cBP fBP zBP
          replace BP := BP.ext eW8
          clear cBQ fBQ zBQ
          replace BQ := BQ.ext eW8
          clear cBH fBH zBH
          replace BH := BH.ext eW8
          clear cBA fBA zBA
          replace BA := BA.ext eW8
          clear cBB fBB zBB
          replace BB := BB.ext eW8
          replace XU := XU.ext eW8
          have cBG := BG.cells
          have fBG := BG.frozens
          have zBG := BG.lt
          have cBP := BP.cells
          have fBP := BP.frozens
          have zBP := BP.lt
          have cBQ := BQ.cells
          have fBQ := BQ.frozens
          have zBQ := BQ.lt
          have cBH := BH.cells
          have fBH := BH.frozens
          have zBH := BH.lt
          have cBA := BA.cells
          have fBA := BA.frozens
          have zBA := BA.lt
          have cBB := BB.cells
          have fBB := BB.frozens
          have zBB := BB.lt
          go_wp2_with fail
          refine (equalPacket_ow q A7 A1 n7 n1 C7 C1 _ (by exact (O7.sl encI_len).ext (by repeat (first | (with_reducible exact Ext.refl _) | (with_reducible refine Ext.alloc ?_ _) | (with_reducible refine Ext.trans ?_ (by assumption))))) (by exact (O1.sl encI_len).ext (by repeat (first | (with_reducible exact Ext.refl _) | (with_reducible refine Ext.alloc ?_ _) | (with_reducible refine Ext.trans ?_ (by assumption)))))).mono ?_
          rintro e w9 ⟨rfl, hx9⟩
          have hy9 := hx9.size
          (try simp at hy9)
          have eW9 := useE (fun (h : Ext _ w9) => T0.ext h) (by repeat (first | (with_reducible exact Ext.refl _) | (with_reducible refine Ext.alloc ?_ _) | (with_reducible refine Ext.trans ?_ (by assumption))))
          replace T0 := T0.ext eW9
          replace K0 := K0.ext eW9
          replace S0 := S0.ext eW9
          replace O1 := O1.ext eW9
          replace O2 := O2.ext eW9
          replace O3 := O3.ext eW9
          replace O7 := O7.ext eW9
          replace O8 := O8.ext eW9
          replace O9 := O9.ext eW9
          clear cBG fBG zBG
          replace BG := BG.ext eW9
          clear cBP fBP zBP
          replace BP := BP.ext eW9
          clear cBQ fBQ zBQ
          replace BQ := BQ.ext eW9
          clear cBH fBH zBH
          replace BH := BH.ext eW9
          clear cBA fBA zBA
          replace BA := BA.ext eW9
          clear cBB fBB zBB
          replace BB := BB.ext eW9
          replace XU := XU.ext eW9
          have cBG := BG.cells
          have fBG := BG.frozens
          have zBG := BG.lt
          have cBP := BP.cells
          have fBP := BP.frozens
          have zBP := BP.lt
          have cBQ := BQ.cells
          have fBQ := BQ.frozens
          have zBQ := BQ.lt
          have cBH := BH.cells
          have fBH := BH.frozens
          have zBH := BH.lt
          have cBA := BA.cells
          have fBA := BA.frozens
          have zBA := BA.lt
          have cBB := BB.cells
          have fBB := BB.frozens
          have zBB := BB.lt
          go_wp2_with fail
          refine (equalGate_ow h xg xm' xh yg ym' yh xa xn xc ya yn yc _ (by exact (O8.sl encM_len).ext (by repeat (first | (with_reducible exact Ext.refl _) | (with_reducible refine Ext.alloc ?_ _) | (with_reducible refine Ext.trans ?_ (by assumption))))) (by exact (O9.sl encC_len).ext (by repeat (first | (with_reducible exact Ext.refl _) | (with_reducible refine Ext.alloc ?_ _) | (with_reducible refine Ext.trans ?_ (by assumption))))) (by exact (O2.sl encM_len).ext (by repeat (first | (with_reducible exact Ext.refl _) | (with_reducible refine Ext.alloc ?_ _) | (with_reducible refine Ext.trans ?_ (by assumption))))) (by exact (O3.sl encC_len).ext (by repeat (first | (with_reducible exact Ext.refl _) | (with_reducible refine Ext.alloc ?_ _) | (with_reducible refine Ext.trans ?_ (by assumption)))))).mono ?_
          rintro e w10 ⟨rfl, hx10⟩
          have hy10 := hx10.size
          (try simp at hy10)
          have eW10 := useE (fun (h : Ext _ w10) => T0.ext h) (by repeat (first | (with_reducible exact Ext.refl _) | (with_reducible refine Ext.alloc ?_ _) | (with_reducible refine Ext.trans ?_ (by assumption))))
          replace T0 := T0.ext eW10
          replace K0 := K0.ext eW10
          replace S0 := S0.ext eW10
          replace O1 := O1.ext eW10
          replace O2 := O2.ext eW10
          replace O3 := O3.ext eW10
          replace O7 := O7.ext eW10
          replace O8 := O8.ext eW10
          replace O9 := O9.ext eW10
          clear cBG fBG zBG
          replace BG := BG.ext eW10
          clear cBP fBP zBP
          replace BP := BP.ext eW10
          clear cBQ fBQ zBQ
          replace BQ := BQ.ext eW10
          clear cBH fBH zBH
          replace BH := BH.ext eW10
          clear cBA fBA zBA
          replace BA := BA.ext eW10
          clear cBB fBB zBB
          replace BB := BB.ext eW10
          replace XU := XU.ext eW10
          have cBG := BG.cells
          have fBG := BG.frozens
          have zBG := BG.lt
          have cBP := BP.cells
          have fBP := BP.frozens
          have zBP := BP.lt
          have cBQ := BQ.cells
          have fBQ := BQ.frozens
          have zBQ := BQ.lt
          have cBH := BH.cells
          have fBH := BH.frozens
          have zBH := BH.lt
          have cBA := BA.cells
          have fBA := BA.frozens
          have zBA := BA.lt
          have cBB := BB.cells
          have fBB := BB.frozens
          have zBB := BB.lt
          go_wp2
          go_ret
          exact ⟨rfl, XU.trans (show Ext _ _ from (by repeat (first | (with_reducible exact Ext.refl _) | (with_reducible assumption) | (with_reducible refine Ext.alloc ?_ _) | (with_reducible refine Ext.drewN ?_ _) | (with_reducible refine Ext.drew ?_) | (with_reducible refine Ext.setCell ?_ ?_ _; rotate_left; (simp only []; omega)) | (with_reducible refine Ext.trans ?_ (by assumption)))))⟩
        · obtain rfl : N = 3 := hN.trans hw
          rw [forward_three hw] at hF
          rw [hF] at c7
          obtain ⟨r5, hr5⟩ : ∃ r, r = sendOut g p := ⟨_, rfl⟩
          rw [← hr5] at c5
          replace cW := Lib.hid cW
          replace c5 := Lib.hid c5
          replace c7 := Lib.hid c7
          clear c6 hF hN hw hr5
          go_wp2_with fail
          refine (c5.out _ (by exact T0.ext (by repeat (first | (with_reducible exact Ext.refl _) | (with_reducible refine Ext.alloc ?_ _) | (with_reducible refine Ext.trans ?_ (by assumption))))) (by exact K0.ext (by repeat (first | (with_reducible exact Ext.refl _) | (with_reducible refine Ext.alloc ?_ _) | (with_reducible refine Ext.trans ?_ (by assumption))))) (by exact S0.ext (by repeat (first | (with_reducible exact Ext.refl _) | (with_reducible refine Ext.alloc ?_ _) | (with_reducible refine Ext.trans ?_ (by assumption)))))).mono ?_
          rintro e w5 ⟨A5, n5, C5, xe, xk, xf, ye, yk, yf, rfl, _, _, _, hx5⟩
          have hy5 := hx5.size
          (try simp at hy5)
          have eW5 := useE (fun (h : Ext _ w5) => T0.ext h) (by repeat (first | (with_reducible exact Ext.refl _) | (with_reducible refine Ext.alloc ?_ _) | (with_reducible refine Ext.trans ?_ (by assumption))))
          replace T0 := T0.ext eW5
          replace K0 := K0.ext eW5
          replace S0 := S0.ext eW5
          replace O1 := O1.ext eW5
          replace O2 := O2.ext eW5
          replace O3 := O3.ext eW5
          clear cBG fBG zBG
          replace BG := BG.ext eW5
          clear cBP fBP zBP
          replace BP := BP.ext eW5
          clear cBQ fBQ zBQ
          replace BQ := BQ.ext eW5
          clear cBH fBH zBH
          replace BH := BH.ext eW5
          replace XU := XU.ext eW5
          have cBG := BG.cells
          have fBG := BG.frozens
          have zBG := BG.lt
          have cBP := BP.cells
          have fBP := BP.frozens
          have zBP := BP.lt
          have cBQ := BQ.cells
          have fBQ := BQ.frozens
          have zBQ := BQ.lt
          have cBH := BH.cells
          have fBH := BH.frozens
          have zBH := BH.lt
          go_wp2_with fail
          refine (cW.out _ (by exact T0.ext (by repeat (first | (with_reducible exact Ext.refl _) | (with_reducible refine Ext.alloc ?_ _) | (with_reducible refine Ext.trans ?_ (by assumption))))) (by exact K0.ext (by repeat (first | (with_reducible exact Ext.refl _) | (with_reducible refine Ext.alloc ?_ _) | (with_reducible refine Ext.trans ?_ (by assumption))))) (by exact S0.ext (by repeat (first | (with_reducible exact Ext.refl _) | (with_reducible refine Ext.alloc ?_ _) | (with_reducible refine Ext.trans ?_ (by assumption)))))).mono ?_
          rintro e w6 ⟨rfl, hx6⟩
          have hy6 := hx6.size
          (try simp at hy6)
          have eW6 := useE (fun (h : Ext _ w6) => T0.ext h) (by repeat (first | (with_reducible exact Ext.refl _) | (with_reducible refine Ext.alloc ?_ _) | (with_reducible refine Ext.trans ?_ (by assumption))))
          replace T0 := T0.ext eW6
          replace K0 := K0.ext eW6
          replace S0 := S0.ext eW6
          replace O1 := O1.ext eW6
          replace O2 := O2.ext eW6
          replace O3 := O3.ext eW6
          clear cBG fBG zBG
          replace BG := BG.ext eW6
          clear cBP fBP zBP
          replace BP := BP.ext eW6
          clear cBQ fBQ zBQ
          replace BQ := BQ.ext eW6
          clear cBH fBH zBH
          replace BH := BH.ext eW6
          have BA : Blk w6 w5.heap.size 33 (#[.int .i64 (rP r5).kind, .int .i64 (rP r5).fr.addr, .int .i64 (rP r5).fr.port, .int .i64 (rP r5).to_.addr, .int .i64 (rP r5).to_.port, .slice A5 n5 C5]) := by refine Blk.ext ?_ hx6; exact (by repeat (first | (with_reducible assumption) | (with_reducible exact Blk.new _ _ _) | exact Blk.newAt _ _ _ (by simp) | (with_reducible refine Blk.alloc ?_ _) | (with_reducible refine Blk.drew ?_) | (with_reducible refine Blk.drewN ?_ _) | refine Blk.far ?_ (by simp only []; omega) _ | refine Blk.rext ?_ (by assumption) (by omega) | refine Blk.ext ?_ (by assumption)))
          have BB : Blk w6 (w5.heap.size + 1) 28 (#[.int .i64 (rG r5).net.base, .int .i64 (rG r5).net.bits, .int .i64 (rG r5).out, .slice xe xk xf, .slice ye yk yf, .int .i64 (rG r5).filter, .int .i64 (rG r5).hold, .int .i64 (rG r5).now]) := by refine Blk.ext ?_ hx6; exact (by repeat (first | (with_reducible assumption) | (with_reducible exact Blk.new _ _ _) | exact Blk.newAt _ _ _ (by simp) | (with_reducible refine Blk.alloc ?_ _) | (with_reducible refine Blk.drew ?_) | (with_reducible refine Blk.drewN ?_ _) | refine Blk.far ?_ (by simp only []; omega) _ | refine Blk.rext ?_ (by assumption) (by omega) | refine Blk.ext ?_ (by assumption)))
          replace XU := XU.ext eW6
          have cBG := BG.cells
          have fBG := BG.frozens
          have zBG := BG.lt
          have cBP := BP.cells
          have fBP := BP.frozens
          have zBP := BP.lt
          have cBQ := BQ.cells
          have fBQ := BQ.frozens
          have zBQ := BQ.lt
          have cBH := BH.cells
          have fBH := BH.frozens
          have zBH := BH.lt
          have cBA := BA.cells
          have fBA := BA.frozens
          have zBA := BA.lt
          have cBB := BB.cells
          have fBB := BB.frozens
          have zBB := BB.lt
          go_wp2_with fail
          refine (cW.out _ (by exact T0.ext (by repeat (first | (with_reducible exact Ext.refl _) | (with_reducible refine Ext.alloc ?_ _) | (with_reducible refine Ext.trans ?_ (by assumption))))) (by exact K0.ext (by repeat (first | (with_reducible exact Ext.refl _) | (with_reducible refine Ext.alloc ?_ _) | (with_reducible refine Ext.trans ?_ (by assumption))))) (by exact S0.ext (by repeat (first | (with_reducible exact Ext.refl _) | (with_reducible refine Ext.alloc ?_ _) | (with_reducible refine Ext.trans ?_ (by assumption)))))).mono ?_
          rintro e w7 ⟨rfl, hx7⟩
          have hy7 := hx7.size
          (try simp at hy7)
          have eW7 := useE (fun (h : Ext _ w7) => T0.ext h) (by repeat (first | (with_reducible exact Ext.refl _) | (with_reducible refine Ext.alloc ?_ _) | (with_reducible refine Ext.trans ?_ (by assumption))))
          replace T0 := T0.ext eW7
          replace K0 := K0.ext eW7
          replace S0 := S0.ext eW7
          replace O1 := O1.ext eW7
          replace O2 := O2.ext eW7
          replace O3 := O3.ext eW7
          clear cBG fBG zBG
          replace BG := BG.ext eW7
          clear cBP fBP zBP
          replace BP := BP.ext eW7
          clear cBQ fBQ zBQ
          replace BQ := BQ.ext eW7
          clear cBH fBH zBH
          replace BH := BH.ext eW7
          clear cBA fBA zBA
          replace BA := BA.ext eW7
          clear cBB fBB zBB
          replace BB := BB.ext eW7
          replace XU := XU.ext eW7
          have cBG := BG.cells
          have fBG := BG.frozens
          have zBG := BG.lt
          have cBP := BP.cells
          have fBP := BP.frozens
          have zBP := BP.lt
          have cBQ := BQ.cells
          have fBQ := BQ.frozens
          have zBQ := BQ.lt
          have cBH := BH.cells
          have fBH := BH.frozens
          have zBH := BH.lt
          have cBA := BA.cells
          have fBA := BA.frozens
          have zBA := BA.lt
          have cBB := BB.cells
          have fBB := BB.frozens
          have zBB := BB.lt
          go_wp2_with fail
          refine (c7.out _ (by exact T0.ext (by repeat (first | (with_reducible exact Ext.refl _) | (with_reducible refine Ext.alloc ?_ _) | (with_reducible refine Ext.trans ?_ (by assumption))))) (by exact K0.ext (by repeat (first | (with_reducible exact Ext.refl _) | (with_reducible refine Ext.alloc ?_ _) | (with_reducible refine Ext.trans ?_ (by assumption))))) (by exact S0.ext (by repeat (first | (with_reducible exact Ext.refl _) | (with_reducible refine Ext.alloc ?_ _) | (with_reducible refine Ext.trans ?_ (by assumption)))))).mono ?_
          rintro e w8 ⟨A7, n7, C7, xg, xm', xh, yg, ym', yh, rfl, O7, O8, O9, hx8⟩
          have hy8 := hx8.size
          (try simp at hy8)
          have eW8 := useE (fun (h : Ext _ w8) => T0.ext h) (by repeat (first | (with_reducible exact Ext.refl _) | (with_reducible refine Ext.alloc ?_ _) | (with_reducible refine Ext.trans ?_ (by assumption))))
          replace T0 := T0.ext eW8
          replace K0 := K0.ext eW8
          replace S0 := S0.ext eW8
          replace O1 := O1.ext eW8
          replace O2 := O2.ext eW8
          replace O3 := O3.ext eW8
          clear cBG fBG zBG
          replace BG := BG.ext eW8
          clear cBP fBP zBP
          replace BP := BP.ext eW8
          clear cBQ fBQ zBQ
          replace BQ := BQ.ext eW8
          clear cBH fBH zBH
          replace BH := BH.ext eW8
          clear cBA fBA zBA
          replace BA := BA.ext eW8
          clear cBB fBB zBB
          replace BB := BB.ext eW8
          replace XU := XU.ext eW8
          have cBG := BG.cells
          have fBG := BG.frozens
          have zBG := BG.lt
          have cBP := BP.cells
          have fBP := BP.frozens
          have zBP := BP.lt
          have cBQ := BQ.cells
          have fBQ := BQ.frozens
          have zBQ := BQ.lt
          have cBH := BH.cells
          have fBH := BH.frozens
          have zBH := BH.lt
          have cBA := BA.cells
          have fBA := BA.frozens
          have zBA := BA.lt
          have cBB := BB.cells
          have fBB := BB.frozens
          have zBB := BB.lt
          go_wp2_with fail
          have k7 := Lib.hid (show ∀ x, A7 = some x → w5.heap.size + 1 < x.block from fun x e => by have h := (O7.lt x e).1; (try simp at h); omega)
          have k8 := Lib.hid (show ∀ x, xg = some x → w5.heap.size + 1 < x.block from fun x e => by have h := (O8.lt x e).1; (try simp at h); omega)
          have k9 := Lib.hid (show ∀ x, yg = some x → w5.heap.size + 1 < x.block from fun x e => by have h := (O9.lt x e).1; (try simp at h); omega)
          refine calls_gen (fun W => RX (fun i => i = w5.heap.size ∨ i = w5.heap.size + 1) w8 W ∧ Blk W w5.heap.size 33 (#[.int .i64 q.kind, .int .i64 q.fr.addr, .int .i64 q.fr.port, .int .i64 q.to_.addr, .int .i64 q.to_.port, .slice A7 n7 C7]) ∧ Blk W (w5.heap.size + 1) 28 (#[.int .i64 h.net.base, .int .i64 h.net.bits, .int .i64 h.out, .slice xg xm' xh, .slice yg ym' yh, .int .i64 h.filter, .int .i64 h.hold, .int .i64 h.now])) ⟨(by repeat (first | (with_reducible exact RX.refl _ _) | (refine RX.putc ?_ (.inl rfl) _ _) | (refine RX.putc ?_ (.inr rfl) _ _))), (by exact BA.pg1 (by omega) _ _ _ _ _ _ _ _ _ _ _ _ _ _), (by exact BB.pg2 (by omega) _ _ _ _ _ _ _ _ _ _ _ _ _ _)⟩ ?_
          rintro v8 ⟨x8, BA2, BB2⟩
          clear cBG fBG zBG cBP fBP zBP cBQ fBQ zBQ cBH fBH zBH cBA fBA zBA cBB fBB zBB BA BB
          replace BG := BG.rx x8 (by omega)
          replace BP := BP.rx x8 (by omega)
          replace BQ := BQ.rx x8 (by omega)
          replace BH := BH.rx x8 (by omega)
          replace T0 := T0.rx x8 (fun hn x e h => by have := kT.out hn x e; omega)
          replace K0 := K0.rx x8 (fun hn x e h => by have := kK.out hn x e; omega)
          replace S0 := S0.rx x8 (fun hn x e h => by have := kS.out hn x e; omega)
          replace O1 := O1.rx x8 (fun x e h => by have := kO1.out x e; omega)
          replace O2 := O2.rx x8 (fun x e h => by have := kO2.out x e; omega)
          replace O3 := O3.rx x8 (fun x e h => by have := kO3.out x e; omega)
          replace O7 := O7.rx x8 (fun x e h => by have := k7.out x e; omega)
          replace O8 := O8.rx x8 (fun x e h => by have := k8.out x e; omega)
          replace O9 := O9.rx x8 (fun x e h => by have := k9.out x e; omega)
          replace XU := RX.new XU x8 (fun i h => by omega)
          have s8 := x8.size
          have BA := BA2
          have BB := BB2
          clear x8 BA2 BB2
          have cBG := BG.cells
          have fBG := BG.frozens
          have zBG := BG.lt
          have cBP := BP.cells
          have fBP := BP.frozens
          have zBP := BP.lt
          have cBQ := BQ.cells
          have fBQ := BQ.frozens
          have zBQ := BQ.lt
          have cBH := BH.cells
          have fBH := BH.frozens
          have zBH := BH.lt
          have cBA := BA.cells
          have fBA := BA.frozens
          have zBA := BA.lt
          have cBB := BB.cells
          have fBB := BB.frozens
          have zBB := BB.lt
          refine (equalPacket_ow q A7 A1 n7 n1 C7 C1 _ (by exact (O7.sl encI_len).ext (by repeat (first | (with_reducible exact Ext.refl _) | (with_reducible refine Ext.alloc ?_ _) | (with_reducible refine Ext.trans ?_ (by assumption))))) (by exact (O1.sl encI_len).ext (by repeat (first | (with_reducible exact Ext.refl _) | (with_reducible refine Ext.alloc ?_ _) | (with_reducible refine Ext.trans ?_ (by assumption)))))).mono ?_
          rintro e w9 ⟨rfl, hx9⟩
          have hy9 := hx9.size
          (try simp at hy9)
          have eW9 := useE (fun (h : Ext _ w9) => T0.ext h) (by repeat (first | (with_reducible exact Ext.refl _) | (with_reducible refine Ext.alloc ?_ _) | (with_reducible refine Ext.trans ?_ (by assumption))))
          replace T0 := T0.ext eW9
          replace K0 := K0.ext eW9
          replace S0 := S0.ext eW9
          replace O1 := O1.ext eW9
          replace O2 := O2.ext eW9
          replace O3 := O3.ext eW9
          replace O7 := O7.ext eW9
          replace O8 := O8.ext eW9
          replace O9 := O9.ext eW9
          clear cBG fBG zBG
          replace BG := BG.ext eW9
          clear cBP fBP zBP
          replace BP := BP.ext eW9
          clear cBQ fBQ zBQ
          replace BQ := BQ.ext eW9
          clear cBH fBH zBH
          replace BH := BH.ext eW9
          clear cBA fBA zBA
          replace BA := BA.ext eW9
          clear cBB fBB zBB
          replace BB := BB.ext eW9
          replace XU := XU.ext eW9
          have cBG := BG.cells
          have fBG := BG.frozens
          have zBG := BG.lt
          have cBP := BP.cells
          have fBP := BP.frozens
          have zBP := BP.lt
          have cBQ := BQ.cells
          have fBQ := BQ.frozens
          have zBQ := BQ.lt
          have cBH := BH.cells
          have fBH := BH.frozens
          have zBH := BH.lt
          have cBA := BA.cells
          have fBA := BA.frozens
          have zBA := BA.lt
          have cBB := BB.cells
          have fBB := BB.frozens
          have zBB := BB.lt
          go_wp2_with fail
          refine (equalGate_ow h xg xm' xh yg ym' yh xa xn xc ya yn yc _ (by exact (O8.sl encM_len).ext (by repeat (first | (with_reducible exact Ext.refl _) | (with_reducible refine Ext.alloc ?_ _) | (with_reducible refine Ext.trans ?_ (by assumption))))) (by exact (O9.sl encC_len).ext (by repeat (first | (with_reducible exact Ext.refl _) | (with_reducible refine Ext.alloc ?_ _) | (with_reducible refine Ext.trans ?_ (by assumption))))) (by exact (O2.sl encM_len).ext (by repeat (first | (with_reducible exact Ext.refl _) | (with_reducible refine Ext.alloc ?_ _) | (with_reducible refine Ext.trans ?_ (by assumption))))) (by exact (O3.sl encC_len).ext (by repeat (first | (with_reducible exact Ext.refl _) | (with_reducible refine Ext.alloc ?_ _) | (with_reducible refine Ext.trans ?_ (by assumption)))))).mono ?_
          rintro e w10 ⟨rfl, hx10⟩
          have hy10 := hx10.size
          (try simp at hy10)
          have eW10 := useE (fun (h : Ext _ w10) => T0.ext h) (by repeat (first | (with_reducible exact Ext.refl _) | (with_reducible refine Ext.alloc ?_ _) | (with_reducible refine Ext.trans ?_ (by assumption))))
          replace T0 := T0.ext eW10
          replace K0 := K0.ext eW10
          replace S0 := S0.ext eW10
          replace O1 := O1.ext eW10
          replace O2 := O2.ext eW10
          replace O3 := O3.ext eW10
          replace O7 := O7.ext eW10
          replace O8 := O8.ext eW10
          replace O9 := O9.ext eW10
          clear cBG fBG zBG
          replace BG := BG.ext eW10
          clear cBP fBP zBP
          replace BP := BP.ext eW10
          clear cBQ fBQ zBQ
          replace BQ := BQ.ext eW10
          clear cBH fBH zBH
          replace BH := BH.ext eW10
          clear cBA fBA zBA
          replace BA := BA.ext eW10
          clear cBB fBB zBB
          replace BB := BB.ext eW10
          replace XU := XU.ext eW10
          have cBG := BG.cells
          have fBG := BG.frozens
          have zBG := BG.lt
          have cBP := BP.cells
          have fBP := BP.frozens
          have zBP := BP.lt
          have cBQ := BQ.cells
          have fBQ := BQ.frozens
          have zBQ := BQ.lt
          have cBH := BH.cells
          have fBH := BH.frozens
          have zBH := BH.lt
          have cBA := BA.cells
          have fBA := BA.frozens
          have zBA := BA.lt
          have cBB := BB.cells
          have fBB := BB.frozens
          have zBB := BB.lt
          go_wp2
          go_ret
          exact ⟨rfl, XU.trans (show Ext _ _ from (by repeat (first | (with_reducible exact Ext.refl _) | (with_reducible assumption) | (with_reducible refine Ext.alloc ?_ _) | (with_reducible refine Ext.drewN ?_ _) | (with_reducible refine Ext.drew ?_) | (with_reducible refine Ext.setCell ?_ ?_ _; rotate_left; (simp only []; omega)) | (with_reducible refine Ext.trans ?_ (by assumption)))))⟩
end Go.Proofs.YtppdcglnopoocaaGreat
