/- The laws on ways and time steps, walked. -/
import Derived.Test.YtafmomocmodbhaaPk4
namespace Go.Proofs.Ytafmomocmodbhaa
set_option linter.unusedVariables false
set_option linter.unusedSimpArgs false
open Go.RowKit

theorem tickGate_mid {g h : GateD} {now : Int} (e : tickGate g now = some h) : ∃ m, tickGate g ((g.now + now) / 2) = some m ∧ tickGate m now = some h ∧ 0 ≤ g.now ∧ g.now ≤ now ∧ now ≤ 10000 := by
  unfold tickGate at e
  split at e
  case isFalse => cases e
  case isTrue hc =>
    rw [Bool.and_eq_true, validGate_iff, inR_iff] at hc
    injection e with e
    have h0 := hc.1.now0
    have hv := tick_valid (now := (g.now + now) / 2) hc.1 (by omega) (by omega)
    refine ⟨tick g ((g.now + now) / 2), ?_, ?_, h0, hc.2.1, hc.2.2⟩
    · unfold tickGate
      rw [if_pos]
      rw [Bool.and_eq_true, validGate_iff, inR_iff]
      exact ⟨hc.1, by omega, by omega⟩
    · unfold tickGate
      rw [if_pos]
      · rw [tick_step (by omega), e]
      · rw [Bool.and_eq_true, validGate_iff, inR_iff]
        exact ⟨hv, by simp only [tick]; omega, hc.2.2⟩
set_option maxHeartbeats 2000000 in
theorem law_FnTickGateStep (a : Option Addr) (n c : Nat) (u : World) (hc : Code u a n c) : Calls Try.prog 4 #[.slice a n c] u fun e w' => e = .returned (.bool true) ∧ Ext u w' := by
  by_cases hn : n ≤ 1048576
  rotate_left
  · go_enter Try.func4, Try.ntmps4
    go_wp2
    go_ret
    exact ⟨rfl, Ext.refl _⟩
  · go_enter Try.func4, Try.ntmps4
    go_wp2_with fail
    refine (DrawTickGate_any a n c _ hc).mono ?_
    rintro e w ⟨g, now, ta, tn, tc, ka, kn, kc, rfl, T0, K0, XU⟩
    go_wp2_with fail
    refine (impl_TickGate g now ta tn tc ka kn kc _ (by exact T0.ext (by repeat (first | (with_reducible exact Ext.refl _) | (with_reducible assumption) | (with_reducible refine Ext.alloc ?_ _) | (with_reducible refine Ext.drewN ?_ _) | (with_reducible refine Ext.drew ?_) | (with_reducible refine Ext.setCell ?_ ?_ _; rotate_left; (simp only []; omega)) | (with_reducible refine Ext.trans ?_ (by assumption))))) (by exact K0.ext (by repeat (first | (with_reducible exact Ext.refl _) | (with_reducible assumption) | (with_reducible refine Ext.alloc ?_ _) | (with_reducible refine Ext.drewN ?_ _) | (with_reducible refine Ext.drew ?_) | (with_reducible refine Ext.setCell ?_ ?_ _; rotate_left; (simp only []; omega)) | (with_reducible refine Ext.trans ?_ (by assumption)))))).mono ?_
    rintro e w1 ⟨sa, sn, sc, qa, qn, qc, rfl, O1, O2, hx1⟩
    have hy1 := hx1.size
    (try simp at hy1)
    replace T0 := T0.ext (show Ext _ w1 from (by repeat (first | (with_reducible exact Ext.refl _) | (with_reducible assumption) | (with_reducible refine Ext.alloc ?_ _) | (with_reducible refine Ext.drewN ?_ _) | (with_reducible refine Ext.drew ?_) | (with_reducible refine Ext.setCell ?_ ?_ _; rotate_left; (simp only []; omega)) | (with_reducible refine Ext.trans ?_ (by assumption)))))
    replace K0 := K0.ext (show Ext _ w1 from (by repeat (first | (with_reducible exact Ext.refl _) | (with_reducible assumption) | (with_reducible refine Ext.alloc ?_ _) | (with_reducible refine Ext.drewN ?_ _) | (with_reducible refine Ext.drew ?_) | (with_reducible refine Ext.setCell ?_ ?_ _; rotate_left; (simp only []; omega)) | (with_reducible refine Ext.trans ?_ (by assumption)))))
    have BG : Blk w1 w.heap.size 40 (#[.int .i64 g.net.base, .int .i64 g.net.bits, .int .i64 g.out, .slice ta tn tc, .slice ka kn kc, .int .i64 g.filter, .int .i64 g.hold, .int .i64 g.now]) := by refine Blk.ext ?_ hx1; exact (by repeat (first | (with_reducible assumption) | (with_reducible exact Blk.new _ _ _) | exact Blk.newAt _ _ _ (by simp) | (with_reducible refine Blk.alloc ?_ _) | (with_reducible refine Blk.drew ?_) | (with_reducible refine Blk.drewN ?_ _) | refine Blk.far ?_ (by simp only []; omega) _ | refine Blk.rext ?_ (by assumption) (by omega) | refine Blk.ext ?_ (by assumption)))
    replace XU := XU.ext (show Ext _ w1 from (by repeat (first | (with_reducible exact Ext.refl _) | (with_reducible assumption) | (with_reducible refine Ext.alloc ?_ _) | (with_reducible refine Ext.drewN ?_ _) | (with_reducible refine Ext.drew ?_) | (with_reducible refine Ext.setCell ?_ ?_ _; rotate_left; (simp only []; omega)) | (with_reducible refine Ext.trans ?_ (by assumption)))))
    have cBG := BG.cells
    have fBG := BG.frozens
    have zBG := BG.lt
    obtain ⟨r, hr⟩ : ∃ r, r = tickGate g now := ⟨_, rfl⟩
    rw [← hr] at O1 O2 ⊢
    replace hr := Lib.hid hr
    go_wp2_with fail
    refine (spec_TickGate g now ta tn tc ka kn kc _ (by exact T0.ext (by repeat (first | (with_reducible exact Ext.refl _) | (with_reducible assumption) | (with_reducible refine Ext.alloc ?_ _) | (with_reducible refine Ext.drewN ?_ _) | (with_reducible refine Ext.drew ?_) | (with_reducible refine Ext.setCell ?_ ?_ _; rotate_left; (simp only []; omega)) | (with_reducible refine Ext.trans ?_ (by assumption))))) (by exact K0.ext (by repeat (first | (with_reducible exact Ext.refl _) | (with_reducible assumption) | (with_reducible refine Ext.alloc ?_ _) | (with_reducible refine Ext.drewN ?_ _) | (with_reducible refine Ext.drew ?_) | (with_reducible refine Ext.setCell ?_ ?_ _; rotate_left; (simp only []; omega)) | (with_reducible refine Ext.trans ?_ (by assumption)))))).mono ?_
    rintro e w2 ⟨sb, sm, sd, qb, qm, qd, rfl, O3, O4, hx2⟩
    have hy2 := hx2.size
    (try simp at hy2)
    replace T0 := T0.ext (show Ext _ w2 from (by repeat (first | (with_reducible exact Ext.refl _) | (with_reducible assumption) | (with_reducible refine Ext.alloc ?_ _) | (with_reducible refine Ext.drewN ?_ _) | (with_reducible refine Ext.drew ?_) | (with_reducible refine Ext.setCell ?_ ?_ _; rotate_left; (simp only []; omega)) | (with_reducible refine Ext.trans ?_ (by assumption)))))
    replace K0 := K0.ext (show Ext _ w2 from (by repeat (first | (with_reducible exact Ext.refl _) | (with_reducible assumption) | (with_reducible refine Ext.alloc ?_ _) | (with_reducible refine Ext.drewN ?_ _) | (with_reducible refine Ext.drew ?_) | (with_reducible refine Ext.setCell ?_ ?_ _; rotate_left; (simp only []; omega)) | (with_reducible refine Ext.trans ?_ (by assumption)))))
    clear cBG fBG zBG
    replace BG := BG.ext (show Ext _ w2 from (by repeat (first | (with_reducible exact Ext.refl _) | (with_reducible assumption) | (with_reducible refine Ext.alloc ?_ _) | (with_reducible refine Ext.drewN ?_ _) | (with_reducible refine Ext.drew ?_) | (with_reducible refine Ext.setCell ?_ ?_ _; rotate_left; (simp only []; omega)) | (with_reducible refine Ext.trans ?_ (by assumption)))))
    replace O1 := O1.ext (show Ext _ w2 from (by repeat (first | (with_reducible exact Ext.refl _) | (with_reducible assumption) | (with_reducible refine Ext.alloc ?_ _) | (with_reducible refine Ext.drewN ?_ _) | (with_reducible refine Ext.drew ?_) | (with_reducible refine Ext.setCell ?_ ?_ _; rotate_left; (simp only []; omega)) | (with_reducible refine Ext.trans ?_ (by assumption)))))
    replace O2 := O2.ext (show Ext _ w2 from (by repeat (first | (with_reducible exact Ext.refl _) | (with_reducible assumption) | (with_reducible refine Ext.alloc ?_ _) | (with_reducible refine Ext.drewN ?_ _) | (with_reducible refine Ext.drew ?_) | (with_reducible refine Ext.setCell ?_ ?_ _; rotate_left; (simp only []; omega)) | (with_reducible refine Ext.trans ?_ (by assumption)))))
    have BH : Blk w2 w1.heap.size 40 (#[.int .i64 (rT r).net.base, .int .i64 (rT r).net.bits, .int .i64 (rT r).out, .slice sa sn sc, .slice qa qn qc, .int .i64 (rT r).filter, .int .i64 (rT r).hold, .int .i64 (rT r).now]) := by refine Blk.ext ?_ hx2; exact (by repeat (first | (with_reducible assumption) | (with_reducible exact Blk.new _ _ _) | exact Blk.newAt _ _ _ (by simp) | (with_reducible refine Blk.alloc ?_ _) | (with_reducible refine Blk.drew ?_) | (with_reducible refine Blk.drewN ?_ _) | refine Blk.far ?_ (by simp only []; omega) _ | refine Blk.rext ?_ (by assumption) (by omega) | refine Blk.ext ?_ (by assumption)))
    replace XU := XU.ext (show Ext _ w2 from (by repeat (first | (with_reducible exact Ext.refl _) | (with_reducible assumption) | (with_reducible refine Ext.alloc ?_ _) | (with_reducible refine Ext.drewN ?_ _) | (with_reducible refine Ext.drew ?_) | (with_reducible refine Ext.setCell ?_ ?_ _; rotate_left; (simp only []; omega)) | (with_reducible refine Ext.trans ?_ (by assumption)))))
    have cBG := BG.cells
    have fBG := BG.frozens
    have zBG := BG.lt
    have cBH := BH.cells
    have fBH := BH.frozens
    have zBH := BH.lt
    rw [← hr.out] at O3 O4 ⊢
    go_wp2_with fail
    refine (equalGate_ow (rT r) sa sn sc qa qn qc sb sm sd qb qm qd _ (by exact (O1.sl encM_len).ext (by repeat (first | (with_reducible exact Ext.refl _) | (with_reducible assumption) | (with_reducible refine Ext.alloc ?_ _) | (with_reducible refine Ext.drewN ?_ _) | (with_reducible refine Ext.drew ?_) | (with_reducible refine Ext.setCell ?_ ?_ _; rotate_left; (simp only []; omega)) | (with_reducible refine Ext.trans ?_ (by assumption))))) (by exact (O2.sl encC_len).ext (by repeat (first | (with_reducible exact Ext.refl _) | (with_reducible assumption) | (with_reducible refine Ext.alloc ?_ _) | (with_reducible refine Ext.drewN ?_ _) | (with_reducible refine Ext.drew ?_) | (with_reducible refine Ext.setCell ?_ ?_ _; rotate_left; (simp only []; omega)) | (with_reducible refine Ext.trans ?_ (by assumption))))) (by exact (O3.sl encM_len).ext (by repeat (first | (with_reducible exact Ext.refl _) | (with_reducible assumption) | (with_reducible refine Ext.alloc ?_ _) | (with_reducible refine Ext.drewN ?_ _) | (with_reducible refine Ext.drew ?_) | (with_reducible refine Ext.setCell ?_ ?_ _; rotate_left; (simp only []; omega)) | (with_reducible refine Ext.trans ?_ (by assumption))))) (by exact (O4.sl encC_len).ext (by repeat (first | (with_reducible exact Ext.refl _) | (with_reducible assumption) | (with_reducible refine Ext.alloc ?_ _) | (with_reducible refine Ext.drewN ?_ _) | (with_reducible refine Ext.drew ?_) | (with_reducible refine Ext.setCell ?_ ?_ _; rotate_left; (simp only []; omega)) | (with_reducible refine Ext.trans ?_ (by assumption)))))).mono ?_
    rintro e w3 ⟨rfl, hx3⟩
    have hy3 := hx3.size
    (try simp at hy3)
    replace T0 := T0.ext (show Ext _ w3 from (by repeat (first | (with_reducible exact Ext.refl _) | (with_reducible assumption) | (with_reducible refine Ext.alloc ?_ _) | (with_reducible refine Ext.drewN ?_ _) | (with_reducible refine Ext.drew ?_) | (with_reducible refine Ext.setCell ?_ ?_ _; rotate_left; (simp only []; omega)) | (with_reducible refine Ext.trans ?_ (by assumption)))))
    replace K0 := K0.ext (show Ext _ w3 from (by repeat (first | (with_reducible exact Ext.refl _) | (with_reducible assumption) | (with_reducible refine Ext.alloc ?_ _) | (with_reducible refine Ext.drewN ?_ _) | (with_reducible refine Ext.drew ?_) | (with_reducible refine Ext.setCell ?_ ?_ _; rotate_left; (simp only []; omega)) | (with_reducible refine Ext.trans ?_ (by assumption)))))
    clear cBG fBG zBG
    replace BG := BG.ext (show Ext _ w3 from (by repeat (first | (with_reducible exact Ext.refl _) | (with_reducible assumption) | (with_reducible refine Ext.alloc ?_ _) | (with_reducible refine Ext.drewN ?_ _) | (with_reducible refine Ext.drew ?_) | (with_reducible refine Ext.setCell ?_ ?_ _; rotate_left; (simp only []; omega)) | (with_reducible refine Ext.trans ?_ (by assumption)))))
    replace O1 := O1.ext (show Ext _ w3 from (by repeat (first | (with_reducible exact Ext.refl _) | (with_reducible assumption) | (with_reducible refine Ext.alloc ?_ _) | (with_reducible refine Ext.drewN ?_ _) | (with_reducible refine Ext.drew ?_) | (with_reducible refine Ext.setCell ?_ ?_ _; rotate_left; (simp only []; omega)) | (with_reducible refine Ext.trans ?_ (by assumption)))))
    replace O2 := O2.ext (show Ext _ w3 from (by repeat (first | (with_reducible exact Ext.refl _) | (with_reducible assumption) | (with_reducible refine Ext.alloc ?_ _) | (with_reducible refine Ext.drewN ?_ _) | (with_reducible refine Ext.drew ?_) | (with_reducible refine Ext.setCell ?_ ?_ _; rotate_left; (simp only []; omega)) | (with_reducible refine Ext.trans ?_ (by assumption)))))
    clear cBH fBH zBH
    replace BH := BH.ext (show Ext _ w3 from (by repeat (first | (with_reducible exact Ext.refl _) | (with_reducible assumption) | (with_reducible refine Ext.alloc ?_ _) | (with_reducible refine Ext.drewN ?_ _) | (with_reducible refine Ext.drew ?_) | (with_reducible refine Ext.setCell ?_ ?_ _; rotate_left; (simp only []; omega)) | (with_reducible refine Ext.trans ?_ (by assumption)))))
    replace O3 := O3.ext (show Ext _ w3 from (by repeat (first | (with_reducible exact Ext.refl _) | (with_reducible assumption) | (with_reducible refine Ext.alloc ?_ _) | (with_reducible refine Ext.drewN ?_ _) | (with_reducible refine Ext.drew ?_) | (with_reducible refine Ext.setCell ?_ ?_ _; rotate_left; (simp only []; omega)) | (with_reducible refine Ext.trans ?_ (by assumption)))))
    replace O4 := O4.ext (show Ext _ w3 from (by repeat (first | (with_reducible exact Ext.refl _) | (with_reducible assumption) | (with_reducible refine Ext.alloc ?_ _) | (with_reducible refine Ext.drewN ?_ _) | (with_reducible refine Ext.drew ?_) | (with_reducible refine Ext.setCell ?_ ?_ _; rotate_left; (simp only []; omega)) | (with_reducible refine Ext.trans ?_ (by assumption)))))
    have BI : Blk w3 w2.heap.size 40 (#[.int .i64 (rT r).net.base, .int .i64 (rT r).net.bits, .int .i64 (rT r).out, .slice sb sm sd, .slice qb qm qd, .int .i64 (rT r).filter, .int .i64 (rT r).hold, .int .i64 (rT r).now]) := by refine Blk.ext ?_ hx3; exact (by repeat (first | (with_reducible assumption) | (with_reducible exact Blk.new _ _ _) | exact Blk.newAt _ _ _ (by simp) | (with_reducible refine Blk.alloc ?_ _) | (with_reducible refine Blk.drew ?_) | (with_reducible refine Blk.drewN ?_ _) | refine Blk.far ?_ (by simp only []; omega) _ | refine Blk.rext ?_ (by assumption) (by omega) | refine Blk.ext ?_ (by assumption)))
    replace XU := XU.ext (show Ext _ w3 from (by repeat (first | (with_reducible exact Ext.refl _) | (with_reducible assumption) | (with_reducible refine Ext.alloc ?_ _) | (with_reducible refine Ext.drewN ?_ _) | (with_reducible refine Ext.drew ?_) | (with_reducible refine Ext.setCell ?_ ?_ _; rotate_left; (simp only []; omega)) | (with_reducible refine Ext.trans ?_ (by assumption)))))
    have cBG := BG.cells
    have fBG := BG.frozens
    have zBG := BG.lt
    have cBH := BH.cells
    have fBH := BH.frozens
    have zBH := BH.lt
    have cBI := BI.cells
    have fBI := BI.frozens
    have zBI := BI.lt
    obtain ⟨ok, hok⟩ : ∃ ok, ok = r.isSome := ⟨_, rfl⟩
    rw [← hok]
    cases ok with
    | false =>
      clear hok
      go_wp2_with fail
      refine (equalGate_ow (rT r) sa sn sc qa qn qc sb sm sd qb qm qd _ (by exact (O1.sl encM_len).ext (by repeat (first | (with_reducible exact Ext.refl _) | (with_reducible assumption) | (with_reducible refine Ext.alloc ?_ _) | (with_reducible refine Ext.drewN ?_ _) | (with_reducible refine Ext.drew ?_) | (with_reducible refine Ext.setCell ?_ ?_ _; rotate_left; (simp only []; omega)) | (with_reducible refine Ext.trans ?_ (by assumption))))) (by exact (O2.sl encC_len).ext (by repeat (first | (with_reducible exact Ext.refl _) | (with_reducible assumption) | (with_reducible refine Ext.alloc ?_ _) | (with_reducible refine Ext.drewN ?_ _) | (with_reducible refine Ext.drew ?_) | (with_reducible refine Ext.setCell ?_ ?_ _; rotate_left; (simp only []; omega)) | (with_reducible refine Ext.trans ?_ (by assumption))))) (by exact (O3.sl encM_len).ext (by repeat (first | (with_reducible exact Ext.refl _) | (with_reducible assumption) | (with_reducible refine Ext.alloc ?_ _) | (with_reducible refine Ext.drewN ?_ _) | (with_reducible refine Ext.drew ?_) | (with_reducible refine Ext.setCell ?_ ?_ _; rotate_left; (simp only []; omega)) | (with_reducible refine Ext.trans ?_ (by assumption))))) (by exact (O4.sl encC_len).ext (by repeat (first | (with_reducible exact Ext.refl _) | (with_reducible assumption) | (with_reducible refine Ext.alloc ?_ _) | (with_reducible refine Ext.drewN ?_ _) | (with_reducible refine Ext.drew ?_) | (with_reducible refine Ext.setCell ?_ ?_ _; rotate_left; (simp only []; omega)) | (with_reducible refine Ext.trans ?_ (by assumption)))))).mono ?_
      rintro e w4 ⟨rfl, hx4⟩
      have hy4 := hx4.size
      (try simp at hy4)
      replace T0 := T0.ext (show Ext _ w4 from (by repeat (first | (with_reducible exact Ext.refl _) | (with_reducible assumption) | (with_reducible refine Ext.alloc ?_ _) | (with_reducible refine Ext.drewN ?_ _) | (with_reducible refine Ext.drew ?_) | (with_reducible refine Ext.setCell ?_ ?_ _; rotate_left; (simp only []; omega)) | (with_reducible refine Ext.trans ?_ (by assumption)))))
      replace K0 := K0.ext (show Ext _ w4 from (by repeat (first | (with_reducible exact Ext.refl _) | (with_reducible assumption) | (with_reducible refine Ext.alloc ?_ _) | (with_reducible refine Ext.drewN ?_ _) | (with_reducible refine Ext.drew ?_) | (with_reducible refine Ext.setCell ?_ ?_ _; rotate_left; (simp only []; omega)) | (with_reducible refine Ext.trans ?_ (by assumption)))))
      clear cBG fBG zBG
      replace BG := BG.ext (show Ext _ w4 from (by repeat (first | (with_reducible exact Ext.refl _) | (with_reducible assumption) | (with_reducible refine Ext.alloc ?_ _) | (with_reducible refine Ext.drewN ?_ _) | (with_reducible refine Ext.drew ?_) | (with_reducible refine Ext.setCell ?_ ?_ _; rotate_left; (simp only []; omega)) | (with_reducible refine Ext.trans ?_ (by assumption)))))
      replace O1 := O1.ext (show Ext _ w4 from (by repeat (first | (with_reducible exact Ext.refl _) | (with_reducible assumption) | (with_reducible refine Ext.alloc ?_ _) | (with_reducible refine Ext.drewN ?_ _) | (with_reducible refine Ext.drew ?_) | (with_reducible refine Ext.setCell ?_ ?_ _; rotate_left; (simp only []; omega)) | (with_reducible refine Ext.trans ?_ (by assumption)))))
      replace O2 := O2.ext (show Ext _ w4 from (by repeat (first | (with_reducible exact Ext.refl _) | (with_reducible assumption) | (with_reducible refine Ext.alloc ?_ _) | (with_reducible refine Ext.drewN ?_ _) | (with_reducible refine Ext.drew ?_) | (with_reducible refine Ext.setCell ?_ ?_ _; rotate_left; (simp only []; omega)) | (with_reducible refine Ext.trans ?_ (by assumption)))))
      clear cBH fBH zBH
      replace BH := BH.ext (show Ext _ w4 from (by repeat (first | (with_reducible exact Ext.refl _) | (with_reducible assumption) | (with_reducible refine Ext.alloc ?_ _) | (with_reducible refine Ext.drewN ?_ _) | (with_reducible refine Ext.drew ?_) | (with_reducible refine Ext.setCell ?_ ?_ _; rotate_left; (simp only []; omega)) | (with_reducible refine Ext.trans ?_ (by assumption)))))
      replace O3 := O3.ext (show Ext _ w4 from (by repeat (first | (with_reducible exact Ext.refl _) | (with_reducible assumption) | (with_reducible refine Ext.alloc ?_ _) | (with_reducible refine Ext.drewN ?_ _) | (with_reducible refine Ext.drew ?_) | (with_reducible refine Ext.setCell ?_ ?_ _; rotate_left; (simp only []; omega)) | (with_reducible refine Ext.trans ?_ (by assumption)))))
      replace O4 := O4.ext (show Ext _ w4 from (by repeat (first | (with_reducible exact Ext.refl _) | (with_reducible assumption) | (with_reducible refine Ext.alloc ?_ _) | (with_reducible refine Ext.drewN ?_ _) | (with_reducible refine Ext.drew ?_) | (with_reducible refine Ext.setCell ?_ ?_ _; rotate_left; (simp only []; omega)) | (with_reducible refine Ext.trans ?_ (by assumption)))))
      clear cBI fBI zBI
      replace BI := BI.ext (show Ext _ w4 from (by repeat (first | (with_reducible exact Ext.refl _) | (with_reducible assumption) | (with_reducible refine Ext.alloc ?_ _) | (with_reducible refine Ext.drewN ?_ _) | (with_reducible refine Ext.drew ?_) | (with_reducible refine Ext.setCell ?_ ?_ _; rotate_left; (simp only []; omega)) | (with_reducible refine Ext.trans ?_ (by assumption)))))
      replace XU := XU.ext (show Ext _ w4 from (by repeat (first | (with_reducible exact Ext.refl _) | (with_reducible assumption) | (with_reducible refine Ext.alloc ?_ _) | (with_reducible refine Ext.drewN ?_ _) | (with_reducible refine Ext.drew ?_) | (with_reducible refine Ext.setCell ?_ ?_ _; rotate_left; (simp only []; omega)) | (with_reducible refine Ext.trans ?_ (by assumption)))))
      have cBG := BG.cells
      have fBG := BG.frozens
      have zBG := BG.lt
      have cBH := BH.cells
      have fBH := BH.frozens
      have zBH := BH.lt
      have cBI := BI.cells
      have fBI := BI.frozens
      have zBI := BI.lt
      go_wp2
      go_ret
      exact ⟨rfl, XU.trans (show Ext _ _ from (by repeat (first | (with_reducible exact Ext.refl _) | (with_reducible assumption) | (with_reducible refine Ext.alloc ?_ _) | (with_reducible refine Ext.drewN ?_ _) | (with_reducible refine Ext.drew ?_) | (with_reducible refine Ext.setCell ?_ ?_ _; rotate_left; (simp only []; omega)) | (with_reducible refine Ext.trans ?_ (by assumption)))))⟩
    | true =>
      cases r with
      | none => cases hok
      | some h =>
        clear hok
        obtain ⟨mid, hm1, hm2, hn0, hn1, hn2⟩ := tickGate_mid hr.out.symm
        have td : (g.now + now).tdiv 2 = (g.now + now) / 2 := Int.tdiv_eq_ediv_of_nonneg (by omega)
        replace hm1 := Lib.hid hm1
        replace hm2 := Lib.hid hm2
        go_wp2_with fail
        refine (impl_TickGate g ((g.now + now) / 2) ta tn tc ka kn kc _ (by exact T0.ext (by repeat (first | (with_reducible exact Ext.refl _) | (with_reducible assumption) | (with_reducible refine Ext.alloc ?_ _) | (with_reducible refine Ext.drewN ?_ _) | (with_reducible refine Ext.drew ?_) | (with_reducible refine Ext.setCell ?_ ?_ _; rotate_left; (simp only []; omega)) | (with_reducible refine Ext.trans ?_ (by assumption))))) (by exact K0.ext (by repeat (first | (with_reducible exact Ext.refl _) | (with_reducible assumption) | (with_reducible refine Ext.alloc ?_ _) | (with_reducible refine Ext.drewN ?_ _) | (with_reducible refine Ext.drew ?_) | (with_reducible refine Ext.setCell ?_ ?_ _; rotate_left; (simp only []; omega)) | (with_reducible refine Ext.trans ?_ (by assumption)))))).mono ?_
        rintro e w4 ⟨sf, sk, sg, qf, qk, qg, rfl, O5, O6, hx4⟩
        have hy4 := hx4.size
        (try simp at hy4)
        replace T0 := T0.ext (show Ext _ w4 from (by repeat (first | (with_reducible exact Ext.refl _) | (with_reducible assumption) | (with_reducible refine Ext.alloc ?_ _) | (with_reducible refine Ext.drewN ?_ _) | (with_reducible refine Ext.drew ?_) | (with_reducible refine Ext.setCell ?_ ?_ _; rotate_left; (simp only []; omega)) | (with_reducible refine Ext.trans ?_ (by assumption)))))
        replace K0 := K0.ext (show Ext _ w4 from (by repeat (first | (with_reducible exact Ext.refl _) | (with_reducible assumption) | (with_reducible refine Ext.alloc ?_ _) | (with_reducible refine Ext.drewN ?_ _) | (with_reducible refine Ext.drew ?_) | (with_reducible refine Ext.setCell ?_ ?_ _; rotate_left; (simp only []; omega)) | (with_reducible refine Ext.trans ?_ (by assumption)))))
        clear cBG fBG zBG
        replace BG := BG.ext (show Ext _ w4 from (by repeat (first | (with_reducible exact Ext.refl _) | (with_reducible assumption) | (with_reducible refine Ext.alloc ?_ _) | (with_reducible refine Ext.drewN ?_ _) | (with_reducible refine Ext.drew ?_) | (with_reducible refine Ext.setCell ?_ ?_ _; rotate_left; (simp only []; omega)) | (with_reducible refine Ext.trans ?_ (by assumption)))))
        replace O1 := O1.ext (show Ext _ w4 from (by repeat (first | (with_reducible exact Ext.refl _) | (with_reducible assumption) | (with_reducible refine Ext.alloc ?_ _) | (with_reducible refine Ext.drewN ?_ _) | (with_reducible refine Ext.drew ?_) | (with_reducible refine Ext.setCell ?_ ?_ _; rotate_left; (simp only []; omega)) | (with_reducible refine Ext.trans ?_ (by assumption)))))
        replace O2 := O2.ext (show Ext _ w4 from (by repeat (first | (with_reducible exact Ext.refl _) | (with_reducible assumption) | (with_reducible refine Ext.alloc ?_ _) | (with_reducible refine Ext.drewN ?_ _) | (with_reducible refine Ext.drew ?_) | (with_reducible refine Ext.setCell ?_ ?_ _; rotate_left; (simp only []; omega)) | (with_reducible refine Ext.trans ?_ (by assumption)))))
        clear cBH fBH zBH
        replace BH := BH.ext (show Ext _ w4 from (by repeat (first | (with_reducible exact Ext.refl _) | (with_reducible assumption) | (with_reducible refine Ext.alloc ?_ _) | (with_reducible refine Ext.drewN ?_ _) | (with_reducible refine Ext.drew ?_) | (with_reducible refine Ext.setCell ?_ ?_ _; rotate_left; (simp only []; omega)) | (with_reducible refine Ext.trans ?_ (by assumption)))))
        replace O3 := O3.ext (show Ext _ w4 from (by repeat (first | (with_reducible exact Ext.refl _) | (with_reducible assumption) | (with_reducible refine Ext.alloc ?_ _) | (with_reducible refine Ext.drewN ?_ _) | (with_reducible refine Ext.drew ?_) | (with_reducible refine Ext.setCell ?_ ?_ _; rotate_left; (simp only []; omega)) | (with_reducible refine Ext.trans ?_ (by assumption)))))
        replace O4 := O4.ext (show Ext _ w4 from (by repeat (first | (with_reducible exact Ext.refl _) | (with_reducible assumption) | (with_reducible refine Ext.alloc ?_ _) | (with_reducible refine Ext.drewN ?_ _) | (with_reducible refine Ext.drew ?_) | (with_reducible refine Ext.setCell ?_ ?_ _; rotate_left; (simp only []; omega)) | (with_reducible refine Ext.trans ?_ (by assumption)))))
        clear cBI fBI zBI
        replace BI := BI.ext (show Ext _ w4 from (by repeat (first | (with_reducible exact Ext.refl _) | (with_reducible assumption) | (with_reducible refine Ext.alloc ?_ _) | (with_reducible refine Ext.drewN ?_ _) | (with_reducible refine Ext.drew ?_) | (with_reducible refine Ext.setCell ?_ ?_ _; rotate_left; (simp only []; omega)) | (with_reducible refine Ext.trans ?_ (by assumption)))))
        replace XU := XU.ext (show Ext _ w4 from (by repeat (first | (with_reducible exact Ext.refl _) | (with_reducible assumption) | (with_reducible refine Ext.alloc ?_ _) | (with_reducible refine Ext.drewN ?_ _) | (with_reducible refine Ext.drew ?_) | (with_reducible refine Ext.setCell ?_ ?_ _; rotate_left; (simp only []; omega)) | (with_reducible refine Ext.trans ?_ (by assumption)))))
        have cBG := BG.cells
        have fBG := BG.frozens
        have zBG := BG.lt
        have cBH := BH.cells
        have fBH := BH.frozens
        have zBH := BH.lt
        have cBI := BI.cells
        have fBI := BI.frozens
        have zBI := BI.lt
        rw [hm1.out] at O5 O6 ⊢
        go_wp2_with fail
        refine (impl_TickGate mid now sf sk sg qf qk qg _ (by exact (O5.sl encM_len).ext (by repeat (first | (with_reducible exact Ext.refl _) | (with_reducible assumption) | (with_reducible refine Ext.alloc ?_ _) | (with_reducible refine Ext.drewN ?_ _) | (with_reducible refine Ext.drew ?_) | (with_reducible refine Ext.setCell ?_ ?_ _; rotate_left; (simp only []; omega)) | (with_reducible refine Ext.trans ?_ (by assumption))))) (by exact (O6.sl encC_len).ext (by repeat (first | (with_reducible exact Ext.refl _) | (with_reducible assumption) | (with_reducible refine Ext.alloc ?_ _) | (with_reducible refine Ext.drewN ?_ _) | (with_reducible refine Ext.drew ?_) | (with_reducible refine Ext.setCell ?_ ?_ _; rotate_left; (simp only []; omega)) | (with_reducible refine Ext.trans ?_ (by assumption)))))).mono ?_
        rintro e w5 ⟨si, sj, sl, qi, qj, ql, rfl, O7, O8, hx5⟩
        have hy5 := hx5.size
        (try simp at hy5)
        replace T0 := T0.ext (show Ext _ w5 from (by repeat (first | (with_reducible exact Ext.refl _) | (with_reducible assumption) | (with_reducible refine Ext.alloc ?_ _) | (with_reducible refine Ext.drewN ?_ _) | (with_reducible refine Ext.drew ?_) | (with_reducible refine Ext.setCell ?_ ?_ _; rotate_left; (simp only []; omega)) | (with_reducible refine Ext.trans ?_ (by assumption)))))
        replace K0 := K0.ext (show Ext _ w5 from (by repeat (first | (with_reducible exact Ext.refl _) | (with_reducible assumption) | (with_reducible refine Ext.alloc ?_ _) | (with_reducible refine Ext.drewN ?_ _) | (with_reducible refine Ext.drew ?_) | (with_reducible refine Ext.setCell ?_ ?_ _; rotate_left; (simp only []; omega)) | (with_reducible refine Ext.trans ?_ (by assumption)))))
        clear cBG fBG zBG
        replace BG := BG.ext (show Ext _ w5 from (by repeat (first | (with_reducible exact Ext.refl _) | (with_reducible assumption) | (with_reducible refine Ext.alloc ?_ _) | (with_reducible refine Ext.drewN ?_ _) | (with_reducible refine Ext.drew ?_) | (with_reducible refine Ext.setCell ?_ ?_ _; rotate_left; (simp only []; omega)) | (with_reducible refine Ext.trans ?_ (by assumption)))))
        replace O1 := O1.ext (show Ext _ w5 from (by repeat (first | (with_reducible exact Ext.refl _) | (with_reducible assumption) | (with_reducible refine Ext.alloc ?_ _) | (with_reducible refine Ext.drewN ?_ _) | (with_reducible refine Ext.drew ?_) | (with_reducible refine Ext.setCell ?_ ?_ _; rotate_left; (simp only []; omega)) | (with_reducible refine Ext.trans ?_ (by assumption)))))
        replace O2 := O2.ext (show Ext _ w5 from (by repeat (first | (with_reducible exact Ext.refl _) | (with_reducible assumption) | (with_reducible refine Ext.alloc ?_ _) | (with_reducible refine Ext.drewN ?_ _) | (with_reducible refine Ext.drew ?_) | (with_reducible refine Ext.setCell ?_ ?_ _; rotate_left; (simp only []; omega)) | (with_reducible refine Ext.trans ?_ (by assumption)))))
        clear cBH fBH zBH
        replace BH := BH.ext (show Ext _ w5 from (by repeat (first | (with_reducible exact Ext.refl _) | (with_reducible assumption) | (with_reducible refine Ext.alloc ?_ _) | (with_reducible refine Ext.drewN ?_ _) | (with_reducible refine Ext.drew ?_) | (with_reducible refine Ext.setCell ?_ ?_ _; rotate_left; (simp only []; omega)) | (with_reducible refine Ext.trans ?_ (by assumption)))))
        replace O3 := O3.ext (show Ext _ w5 from (by repeat (first | (with_reducible exact Ext.refl _) | (with_reducible assumption) | (with_reducible refine Ext.alloc ?_ _) | (with_reducible refine Ext.drewN ?_ _) | (with_reducible refine Ext.drew ?_) | (with_reducible refine Ext.setCell ?_ ?_ _; rotate_left; (simp only []; omega)) | (with_reducible refine Ext.trans ?_ (by assumption)))))
        replace O4 := O4.ext (show Ext _ w5 from (by repeat (first | (with_reducible exact Ext.refl _) | (with_reducible assumption) | (with_reducible refine Ext.alloc ?_ _) | (with_reducible refine Ext.drewN ?_ _) | (with_reducible refine Ext.drew ?_) | (with_reducible refine Ext.setCell ?_ ?_ _; rotate_left; (simp only []; omega)) | (with_reducible refine Ext.trans ?_ (by assumption)))))
        clear cBI fBI zBI
        replace BI := BI.ext (show Ext _ w5 from (by repeat (first | (with_reducible exact Ext.refl _) | (with_reducible assumption) | (with_reducible refine Ext.alloc ?_ _) | (with_reducible refine Ext.drewN ?_ _) | (with_reducible refine Ext.drew ?_) | (with_reducible refine Ext.setCell ?_ ?_ _; rotate_left; (simp only []; omega)) | (with_reducible refine Ext.trans ?_ (by assumption)))))
        replace O5 := O5.ext (show Ext _ w5 from (by repeat (first | (with_reducible exact Ext.refl _) | (with_reducible assumption) | (with_reducible refine Ext.alloc ?_ _) | (with_reducible refine Ext.drewN ?_ _) | (with_reducible refine Ext.drew ?_) | (with_reducible refine Ext.setCell ?_ ?_ _; rotate_left; (simp only []; omega)) | (with_reducible refine Ext.trans ?_ (by assumption)))))
        replace O6 := O6.ext (show Ext _ w5 from (by repeat (first | (with_reducible exact Ext.refl _) | (with_reducible assumption) | (with_reducible refine Ext.alloc ?_ _) | (with_reducible refine Ext.drewN ?_ _) | (with_reducible refine Ext.drew ?_) | (with_reducible refine Ext.setCell ?_ ?_ _; rotate_left; (simp only []; omega)) | (with_reducible refine Ext.trans ?_ (by assumption)))))
        have BJ : Blk w5 w4.heap.size 40 (#[.int .i64 mid.net.base, .int .i64 mid.net.bits, .int .i64 mid.out, .slice sf sk sg, .slice qf qk qg, .int .i64 mid.filter, .int .i64 mid.hold, .int .i64 mid.now]) := by refine Blk.ext ?_ hx5; exact (by repeat (first | (with_reducible assumption) | (with_reducible exact Blk.new _ _ _) | exact Blk.newAt _ _ _ (by simp) | (with_reducible refine Blk.alloc ?_ _) | (with_reducible refine Blk.drew ?_) | (with_reducible refine Blk.drewN ?_ _) | refine Blk.far ?_ (by simp only []; omega) _ | refine Blk.rext ?_ (by assumption) (by omega) | refine Blk.ext ?_ (by assumption)))
        replace XU := XU.ext (show Ext _ w5 from (by repeat (first | (with_reducible exact Ext.refl _) | (with_reducible assumption) | (with_reducible refine Ext.alloc ?_ _) | (with_reducible refine Ext.drewN ?_ _) | (with_reducible refine Ext.drew ?_) | (with_reducible refine Ext.setCell ?_ ?_ _; rotate_left; (simp only []; omega)) | (with_reducible refine Ext.trans ?_ (by assumption)))))
        have cBG := BG.cells
        have fBG := BG.frozens
        have zBG := BG.lt
        have cBH := BH.cells
        have fBH := BH.frozens
        have zBH := BH.lt
        have cBI := BI.cells
        have fBI := BI.frozens
        have zBI := BI.lt
        have cBJ := BJ.cells
        have fBJ := BJ.frozens
        have zBJ := BJ.lt
        rw [hm2.out] at O7 O8 ⊢
        go_wp2_with fail
        refine (equalGate_ow h si sj sl qi qj ql sa sn sc qa qn qc _ (by exact (O7.sl encM_len).ext (by repeat (first | (with_reducible exact Ext.refl _) | (with_reducible assumption) | (with_reducible refine Ext.alloc ?_ _) | (with_reducible refine Ext.drewN ?_ _) | (with_reducible refine Ext.drew ?_) | (with_reducible refine Ext.setCell ?_ ?_ _; rotate_left; (simp only []; omega)) | (with_reducible refine Ext.trans ?_ (by assumption))))) (by exact (O8.sl encC_len).ext (by repeat (first | (with_reducible exact Ext.refl _) | (with_reducible assumption) | (with_reducible refine Ext.alloc ?_ _) | (with_reducible refine Ext.drewN ?_ _) | (with_reducible refine Ext.drew ?_) | (with_reducible refine Ext.setCell ?_ ?_ _; rotate_left; (simp only []; omega)) | (with_reducible refine Ext.trans ?_ (by assumption))))) (by exact (O1.sl encM_len).ext (by repeat (first | (with_reducible exact Ext.refl _) | (with_reducible assumption) | (with_reducible refine Ext.alloc ?_ _) | (with_reducible refine Ext.drewN ?_ _) | (with_reducible refine Ext.drew ?_) | (with_reducible refine Ext.setCell ?_ ?_ _; rotate_left; (simp only []; omega)) | (with_reducible refine Ext.trans ?_ (by assumption))))) (by exact (O2.sl encC_len).ext (by repeat (first | (with_reducible exact Ext.refl _) | (with_reducible assumption) | (with_reducible refine Ext.alloc ?_ _) | (with_reducible refine Ext.drewN ?_ _) | (with_reducible refine Ext.drew ?_) | (with_reducible refine Ext.setCell ?_ ?_ _; rotate_left; (simp only []; omega)) | (with_reducible refine Ext.trans ?_ (by assumption)))))).mono ?_
        rintro e w6 ⟨rfl, hx6⟩
        have hy6 := hx6.size
        (try simp at hy6)
        replace T0 := T0.ext (show Ext _ w6 from (by repeat (first | (with_reducible exact Ext.refl _) | (with_reducible assumption) | (with_reducible refine Ext.alloc ?_ _) | (with_reducible refine Ext.drewN ?_ _) | (with_reducible refine Ext.drew ?_) | (with_reducible refine Ext.setCell ?_ ?_ _; rotate_left; (simp only []; omega)) | (with_reducible refine Ext.trans ?_ (by assumption)))))
        replace K0 := K0.ext (show Ext _ w6 from (by repeat (first | (with_reducible exact Ext.refl _) | (with_reducible assumption) | (with_reducible refine Ext.alloc ?_ _) | (with_reducible refine Ext.drewN ?_ _) | (with_reducible refine Ext.drew ?_) | (with_reducible refine Ext.setCell ?_ ?_ _; rotate_left; (simp only []; omega)) | (with_reducible refine Ext.trans ?_ (by assumption)))))
        clear cBG fBG zBG
        replace BG := BG.ext (show Ext _ w6 from (by repeat (first | (with_reducible exact Ext.refl _) | (with_reducible assumption) | (with_reducible refine Ext.alloc ?_ _) | (with_reducible refine Ext.drewN ?_ _) | (with_reducible refine Ext.drew ?_) | (with_reducible refine Ext.setCell ?_ ?_ _; rotate_left; (simp only []; omega)) | (with_reducible refine Ext.trans ?_ (by assumption)))))
        replace O1 := O1.ext (show Ext _ w6 from (by repeat (first | (with_reducible exact Ext.refl _) | (with_reducible assumption) | (with_reducible refine Ext.alloc ?_ _) | (with_reducible refine Ext.drewN ?_ _) | (with_reducible refine Ext.drew ?_) | (with_reducible refine Ext.setCell ?_ ?_ _; rotate_left; (simp only []; omega)) | (with_reducible refine Ext.trans ?_ (by assumption)))))
        replace O2 := O2.ext (show Ext _ w6 from (by repeat (first | (with_reducible exact Ext.refl _) | (with_reducible assumption) | (with_reducible refine Ext.alloc ?_ _) | (with_reducible refine Ext.drewN ?_ _) | (with_reducible refine Ext.drew ?_) | (with_reducible refine Ext.setCell ?_ ?_ _; rotate_left; (simp only []; omega)) | (with_reducible refine Ext.trans ?_ (by assumption)))))
        clear cBH fBH zBH
        replace BH := BH.ext (show Ext _ w6 from (by repeat (first | (with_reducible exact Ext.refl _) | (with_reducible assumption) | (with_reducible refine Ext.alloc ?_ _) | (with_reducible refine Ext.drewN ?_ _) | (with_reducible refine Ext.drew ?_) | (with_reducible refine Ext.setCell ?_ ?_ _; rotate_left; (simp only []; omega)) | (with_reducible refine Ext.trans ?_ (by assumption)))))
        replace O3 := O3.ext (show Ext _ w6 from (by repeat (first | (with_reducible exact Ext.refl _) | (with_reducible assumption) | (with_reducible refine Ext.alloc ?_ _) | (with_reducible refine Ext.drewN ?_ _) | (with_reducible refine Ext.drew ?_) | (with_reducible refine Ext.setCell ?_ ?_ _; rotate_left; (simp only []; omega)) | (with_reducible refine Ext.trans ?_ (by assumption)))))
        replace O4 := O4.ext (show Ext _ w6 from (by repeat (first | (with_reducible exact Ext.refl _) | (with_reducible assumption) | (with_reducible refine Ext.alloc ?_ _) | (with_reducible refine Ext.drewN ?_ _) | (with_reducible refine Ext.drew ?_) | (with_reducible refine Ext.setCell ?_ ?_ _; rotate_left; (simp only []; omega)) | (with_reducible refine Ext.trans ?_ (by assumption)))))
        clear cBI fBI zBI
        replace BI := BI.ext (show Ext _ w6 from (by repeat (first | (with_reducible exact Ext.refl _) | (with_reducible assumption) | (with_reducible refine Ext.alloc ?_ _) | (with_reducible refine Ext.drewN ?_ _) | (with_reducible refine Ext.drew ?_) | (with_reducible refine Ext.setCell ?_ ?_ _; rotate_left; (simp only []; omega)) | (with_reducible refine Ext.trans ?_ (by assumption)))))
        replace O5 := O5.ext (show Ext _ w6 from (by repeat (first | (with_reducible exact Ext.refl _) | (with_reducible assumption) | (with_reducible refine Ext.alloc ?_ _) | (with_reducible refine Ext.drewN ?_ _) | (with_reducible refine Ext.drew ?_) | (with_reducible refine Ext.setCell ?_ ?_ _; rotate_left; (simp only []; omega)) | (with_reducible refine Ext.trans ?_ (by assumption)))))
        replace O6 := O6.ext (show Ext _ w6 from (by repeat (first | (with_reducible exact Ext.refl _) | (with_reducible assumption) | (with_reducible refine Ext.alloc ?_ _) | (with_reducible refine Ext.drewN ?_ _) | (with_reducible refine Ext.drew ?_) | (with_reducible refine Ext.setCell ?_ ?_ _; rotate_left; (simp only []; omega)) | (with_reducible refine Ext.trans ?_ (by assumption)))))
        clear cBJ fBJ zBJ
        replace BJ := BJ.ext (show Ext _ w6 from (by repeat (first | (with_reducible exact Ext.refl _) | (with_reducible assumption) | (with_reducible refine Ext.alloc ?_ _) | (with_reducible refine Ext.drewN ?_ _) | (with_reducible refine Ext.drew ?_) | (with_reducible refine Ext.setCell ?_ ?_ _; rotate_left; (simp only []; omega)) | (with_reducible refine Ext.trans ?_ (by assumption)))))
        replace O7 := O7.ext (show Ext _ w6 from (by repeat (first | (with_reducible exact Ext.refl _) | (with_reducible assumption) | (with_reducible refine Ext.alloc ?_ _) | (with_reducible refine Ext.drewN ?_ _) | (with_reducible refine Ext.drew ?_) | (with_reducible refine Ext.setCell ?_ ?_ _; rotate_left; (simp only []; omega)) | (with_reducible refine Ext.trans ?_ (by assumption)))))
        replace O8 := O8.ext (show Ext _ w6 from (by repeat (first | (with_reducible exact Ext.refl _) | (with_reducible assumption) | (with_reducible refine Ext.alloc ?_ _) | (with_reducible refine Ext.drewN ?_ _) | (with_reducible refine Ext.drew ?_) | (with_reducible refine Ext.setCell ?_ ?_ _; rotate_left; (simp only []; omega)) | (with_reducible refine Ext.trans ?_ (by assumption)))))
        have BK : Blk w6 w5.heap.size 40 (#[.int .i64 h.net.base, .int .i64 h.net.bits, .int .i64 h.out, .slice si sj sl, .slice qi qj ql, .int .i64 h.filter, .int .i64 h.hold, .int .i64 h.now]) := by refine Blk.ext ?_ hx6; exact (by repeat (first | (with_reducible assumption) | (with_reducible exact Blk.new _ _ _) | exact Blk.newAt _ _ _ (by simp) | (with_reducible refine Blk.alloc ?_ _) | (with_reducible refine Blk.drew ?_) | (with_reducible refine Blk.drewN ?_ _) | refine Blk.far ?_ (by simp only []; omega) _ | refine Blk.rext ?_ (by assumption) (by omega) | refine Blk.ext ?_ (by assumption)))
        replace XU := XU.ext (show Ext _ w6 from (by repeat (first | (with_reducible exact Ext.refl _) | (with_reducible assumption) | (with_reducible refine Ext.alloc ?_ _) | (with_reducible refine Ext.drewN ?_ _) | (with_reducible refine Ext.drew ?_) | (with_reducible refine Ext.setCell ?_ ?_ _; rotate_left; (simp only []; omega)) | (with_reducible refine Ext.trans ?_ (by assumption)))))
        have cBG := BG.cells
        have fBG := BG.frozens
        have zBG := BG.lt
        have cBH := BH.cells
        have fBH := BH.frozens
        have zBH := BH.lt
        have cBI := BI.cells
        have fBI := BI.frozens
        have zBI := BI.lt
        have cBJ := BJ.cells
        have fBJ := BJ.frozens
        have zBJ := BJ.lt
        have cBK := BK.cells
        have fBK := BK.frozens
        have zBK := BK.lt
        go_wp2
        go_ret
        exact ⟨rfl, XU.trans (show Ext _ _ from (by repeat (first | (with_reducible exact Ext.refl _) | (with_reducible assumption) | (with_reducible refine Ext.alloc ?_ _) | (with_reducible refine Ext.drewN ?_ _) | (with_reducible refine Ext.drew ?_) | (with_reducible refine Ext.setCell ?_ ?_ _; rotate_left; (simp only []; omega)) | (with_reducible refine Ext.trans ?_ (by assumption)))))⟩
theorem wayOf_nonneg {g : GateD} {p : PktD} (h : ¬ wayOf g p < 0) : validGate g = true ∧ validPkt p = true ∧ wayOf g p = way g p := by
  unfold wayOf at h ⊢
  cases hv : (validGate g && validPkt p) with
  | false => rw [hv] at h; simp at h
  | true =>
    rw [Bool.and_eq_true] at hv
    exact ⟨hv.1, hv.2, by simp⟩
theorem end_word {p : PktD} (h : validPkt p = true) : word p.fr.addr = true ∧ word p.to_.addr = true := by
  obtain ⟨_, a, b, _⟩ := validPkt_iff.1 h
  simp only [validEnd, Bool.and_eq_true] at a b
  exact ⟨a.1, b.1⟩
set_option maxHeartbeats 2000000 in
theorem law_FnWayOf (a : Option Addr) (n c : Nat) (u : World) (hc : Code u a n c) : Calls Try.prog 7 #[.slice a n c] u fun e w' => e = .returned (.bool true) ∧ Ext u w' := by
  by_cases hn : n ≤ 1048576
  rotate_left
  · go_enter Try.func7, Try.ntmps7
    go_wp2
    go_ret
    exact ⟨rfl, Ext.refl _⟩
  · go_enter Try.func7, Try.ntmps7
    go_wp2_with fail
    refine (DrawWayOf_any a n c _ hc).mono ?_
    rintro e w ⟨g, p, ta, tn, tc, ka, kn, kc, sa, sn, sc, rfl, T0, K0, S0, _, _, _, XU⟩
    obtain ⟨N, hN⟩ : ∃ N, N = wayOf g p := ⟨_, rfl⟩
    replace hN := Lib.hid hN
    go_wp2_with fail
    refine (impl_WayOf g p ta tn tc ka kn kc sa sn sc _ (by exact T0.ext (by repeat (first | (with_reducible exact Ext.refl _) | (with_reducible assumption) | (with_reducible refine Ext.alloc ?_ _) | (with_reducible refine Ext.drewN ?_ _) | (with_reducible refine Ext.drew ?_) | (with_reducible refine Ext.setCell ?_ ?_ _; rotate_left; (simp only []; omega)) | (with_reducible refine Ext.trans ?_ (by assumption))))) (by exact K0.ext (by repeat (first | (with_reducible exact Ext.refl _) | (with_reducible assumption) | (with_reducible refine Ext.alloc ?_ _) | (with_reducible refine Ext.drewN ?_ _) | (with_reducible refine Ext.drew ?_) | (with_reducible refine Ext.setCell ?_ ?_ _; rotate_left; (simp only []; omega)) | (with_reducible refine Ext.trans ?_ (by assumption))))) (by exact S0.ext (by repeat (first | (with_reducible exact Ext.refl _) | (with_reducible assumption) | (with_reducible refine Ext.alloc ?_ _) | (with_reducible refine Ext.drewN ?_ _) | (with_reducible refine Ext.drew ?_) | (with_reducible refine Ext.setCell ?_ ?_ _; rotate_left; (simp only []; omega)) | (with_reducible refine Ext.trans ?_ (by assumption)))))).mono ?_
    rintro e w1 ⟨rfl, hx1⟩
    have hy1 := hx1.size
    (try simp at hy1)
    replace T0 := T0.ext (show Ext _ w1 from (by repeat (first | (with_reducible exact Ext.refl _) | (with_reducible assumption) | (with_reducible refine Ext.alloc ?_ _) | (with_reducible refine Ext.drewN ?_ _) | (with_reducible refine Ext.drew ?_) | (with_reducible refine Ext.setCell ?_ ?_ _; rotate_left; (simp only []; omega)) | (with_reducible refine Ext.trans ?_ (by assumption)))))
    replace K0 := K0.ext (show Ext _ w1 from (by repeat (first | (with_reducible exact Ext.refl _) | (with_reducible assumption) | (with_reducible refine Ext.alloc ?_ _) | (with_reducible refine Ext.drewN ?_ _) | (with_reducible refine Ext.drew ?_) | (with_reducible refine Ext.setCell ?_ ?_ _; rotate_left; (simp only []; omega)) | (with_reducible refine Ext.trans ?_ (by assumption)))))
    replace S0 := S0.ext (show Ext _ w1 from (by repeat (first | (with_reducible exact Ext.refl _) | (with_reducible assumption) | (with_reducible refine Ext.alloc ?_ _) | (with_reducible refine Ext.drewN ?_ _) | (with_reducible refine Ext.drew ?_) | (with_reducible refine Ext.setCell ?_ ?_ _; rotate_left; (simp only []; omega)) | (with_reducible refine Ext.trans ?_ (by assumption)))))
    have BG : Blk w1 w.heap.size 40 (#[.int .i64 g.net.base, .int .i64 g.net.bits, .int .i64 g.out, .slice ta tn tc, .slice ka kn kc, .int .i64 g.filter, .int .i64 g.hold, .int .i64 g.now]) := by refine Blk.ext ?_ hx1; exact (by repeat (first | (with_reducible assumption) | (with_reducible exact Blk.new _ _ _) | exact Blk.newAt _ _ _ (by simp) | (with_reducible refine Blk.alloc ?_ _) | (with_reducible refine Blk.drew ?_) | (with_reducible refine Blk.drewN ?_ _) | refine Blk.far ?_ (by simp only []; omega) _ | refine Blk.rext ?_ (by assumption) (by omega) | refine Blk.ext ?_ (by assumption)))
    have BP : Blk w1 (w.heap.size+1) 44 (#[.int .i64 p.kind, .int .i64 p.fr.addr, .int .i64 p.fr.port, .int .i64 p.to_.addr, .int .i64 p.to_.port, .slice sa sn sc]) := by refine Blk.ext ?_ hx1; exact (by repeat (first | (with_reducible assumption) | (with_reducible exact Blk.new _ _ _) | exact Blk.newAt _ _ _ (by simp) | (with_reducible refine Blk.alloc ?_ _) | (with_reducible refine Blk.drew ?_) | (with_reducible refine Blk.drewN ?_ _) | refine Blk.far ?_ (by simp only []; omega) _ | refine Blk.rext ?_ (by assumption) (by omega) | refine Blk.ext ?_ (by assumption)))
    replace XU := XU.ext (show Ext _ w1 from (by repeat (first | (with_reducible exact Ext.refl _) | (with_reducible assumption) | (with_reducible refine Ext.alloc ?_ _) | (with_reducible refine Ext.drewN ?_ _) | (with_reducible refine Ext.drew ?_) | (with_reducible refine Ext.setCell ?_ ?_ _; rotate_left; (simp only []; omega)) | (with_reducible refine Ext.trans ?_ (by assumption)))))
    have cBG := BG.cells
    have fBG := BG.frozens
    have zBG := BG.lt
    have cBP := BP.cells
    have fBP := BP.frozens
    have zBP := BP.lt
    rw [← hN.out]
    go_wp2_with fail
    refine (spec_WayOf g p ta tn tc ka kn kc sa sn sc _ (by exact T0.ext (by repeat (first | (with_reducible exact Ext.refl _) | (with_reducible assumption) | (with_reducible refine Ext.alloc ?_ _) | (with_reducible refine Ext.drewN ?_ _) | (with_reducible refine Ext.drew ?_) | (with_reducible refine Ext.setCell ?_ ?_ _; rotate_left; (simp only []; omega)) | (with_reducible refine Ext.trans ?_ (by assumption))))) (by exact K0.ext (by repeat (first | (with_reducible exact Ext.refl _) | (with_reducible assumption) | (with_reducible refine Ext.alloc ?_ _) | (with_reducible refine Ext.drewN ?_ _) | (with_reducible refine Ext.drew ?_) | (with_reducible refine Ext.setCell ?_ ?_ _; rotate_left; (simp only []; omega)) | (with_reducible refine Ext.trans ?_ (by assumption))))) (by exact S0.ext (by repeat (first | (with_reducible exact Ext.refl _) | (with_reducible assumption) | (with_reducible refine Ext.alloc ?_ _) | (with_reducible refine Ext.drewN ?_ _) | (with_reducible refine Ext.drew ?_) | (with_reducible refine Ext.setCell ?_ ?_ _; rotate_left; (simp only []; omega)) | (with_reducible refine Ext.trans ?_ (by assumption)))))).mono ?_
    rintro e w2 ⟨rfl, hx2⟩
    have hy2 := hx2.size
    (try simp at hy2)
    replace T0 := T0.ext (show Ext _ w2 from (by repeat (first | (with_reducible exact Ext.refl _) | (with_reducible assumption) | (with_reducible refine Ext.alloc ?_ _) | (with_reducible refine Ext.drewN ?_ _) | (with_reducible refine Ext.drew ?_) | (with_reducible refine Ext.setCell ?_ ?_ _; rotate_left; (simp only []; omega)) | (with_reducible refine Ext.trans ?_ (by assumption)))))
    replace K0 := K0.ext (show Ext _ w2 from (by repeat (first | (with_reducible exact Ext.refl _) | (with_reducible assumption) | (with_reducible refine Ext.alloc ?_ _) | (with_reducible refine Ext.drewN ?_ _) | (with_reducible refine Ext.drew ?_) | (with_reducible refine Ext.setCell ?_ ?_ _; rotate_left; (simp only []; omega)) | (with_reducible refine Ext.trans ?_ (by assumption)))))
    replace S0 := S0.ext (show Ext _ w2 from (by repeat (first | (with_reducible exact Ext.refl _) | (with_reducible assumption) | (with_reducible refine Ext.alloc ?_ _) | (with_reducible refine Ext.drewN ?_ _) | (with_reducible refine Ext.drew ?_) | (with_reducible refine Ext.setCell ?_ ?_ _; rotate_left; (simp only []; omega)) | (with_reducible refine Ext.trans ?_ (by assumption)))))
    clear cBG fBG zBG
    replace BG := BG.ext (show Ext _ w2 from (by repeat (first | (with_reducible exact Ext.refl _) | (with_reducible assumption) | (with_reducible refine Ext.alloc ?_ _) | (with_reducible refine Ext.drewN ?_ _) | (with_reducible refine Ext.drew ?_) | (with_reducible refine Ext.setCell ?_ ?_ _; rotate_left; (simp only []; omega)) | (with_reducible refine Ext.trans ?_ (by assumption)))))
    clear cBP fBP zBP
    replace BP := BP.ext (show Ext _ w2 from (by repeat (first | (with_reducible exact Ext.refl _) | (with_reducible assumption) | (with_reducible refine Ext.alloc ?_ _) | (with_reducible refine Ext.drewN ?_ _) | (with_reducible refine Ext.drew ?_) | (with_reducible refine Ext.setCell ?_ ?_ _; rotate_left; (simp only []; omega)) | (with_reducible refine Ext.trans ?_ (by assumption)))))
    replace XU := XU.ext (show Ext _ w2 from (by repeat (first | (with_reducible exact Ext.refl _) | (with_reducible assumption) | (with_reducible refine Ext.alloc ?_ _) | (with_reducible refine Ext.drewN ?_ _) | (with_reducible refine Ext.drew ?_) | (with_reducible refine Ext.setCell ?_ ?_ _; rotate_left; (simp only []; omega)) | (with_reducible refine Ext.trans ?_ (by assumption)))))
    have cBG := BG.cells
    have fBG := BG.frozens
    have zBG := BG.lt
    have cBP := BP.cells
    have fBP := BP.frozens
    have zBP := BP.lt
    rw [← hN.out]
    by_cases h0 : N < 0
    · skip
      go_wp2_with fail
      refine (spec_WayOf g p ta tn tc ka kn kc sa sn sc _ (by exact T0.ext (by repeat (first | (with_reducible exact Ext.refl _) | (with_reducible assumption) | (with_reducible refine Ext.alloc ?_ _) | (with_reducible refine Ext.drewN ?_ _) | (with_reducible refine Ext.drew ?_) | (with_reducible refine Ext.setCell ?_ ?_ _; rotate_left; (simp only []; omega)) | (with_reducible refine Ext.trans ?_ (by assumption))))) (by exact K0.ext (by repeat (first | (with_reducible exact Ext.refl _) | (with_reducible assumption) | (with_reducible refine Ext.alloc ?_ _) | (with_reducible refine Ext.drewN ?_ _) | (with_reducible refine Ext.drew ?_) | (with_reducible refine Ext.setCell ?_ ?_ _; rotate_left; (simp only []; omega)) | (with_reducible refine Ext.trans ?_ (by assumption))))) (by exact S0.ext (by repeat (first | (with_reducible exact Ext.refl _) | (with_reducible assumption) | (with_reducible refine Ext.alloc ?_ _) | (with_reducible refine Ext.drewN ?_ _) | (with_reducible refine Ext.drew ?_) | (with_reducible refine Ext.setCell ?_ ?_ _; rotate_left; (simp only []; omega)) | (with_reducible refine Ext.trans ?_ (by assumption)))))).mono ?_
      rintro e w3 ⟨rfl, hx3⟩
      have hy3 := hx3.size
      (try simp at hy3)
      replace T0 := T0.ext (show Ext _ w3 from (by repeat (first | (with_reducible exact Ext.refl _) | (with_reducible assumption) | (with_reducible refine Ext.alloc ?_ _) | (with_reducible refine Ext.drewN ?_ _) | (with_reducible refine Ext.drew ?_) | (with_reducible refine Ext.setCell ?_ ?_ _; rotate_left; (simp only []; omega)) | (with_reducible refine Ext.trans ?_ (by assumption)))))
      replace K0 := K0.ext (show Ext _ w3 from (by repeat (first | (with_reducible exact Ext.refl _) | (with_reducible assumption) | (with_reducible refine Ext.alloc ?_ _) | (with_reducible refine Ext.drewN ?_ _) | (with_reducible refine Ext.drew ?_) | (with_reducible refine Ext.setCell ?_ ?_ _; rotate_left; (simp only []; omega)) | (with_reducible refine Ext.trans ?_ (by assumption)))))
      replace S0 := S0.ext (show Ext _ w3 from (by repeat (first | (with_reducible exact Ext.refl _) | (with_reducible assumption) | (with_reducible refine Ext.alloc ?_ _) | (with_reducible refine Ext.drewN ?_ _) | (with_reducible refine Ext.drew ?_) | (with_reducible refine Ext.setCell ?_ ?_ _; rotate_left; (simp only []; omega)) | (with_reducible refine Ext.trans ?_ (by assumption)))))
      clear cBG fBG zBG
      replace BG := BG.ext (show Ext _ w3 from (by repeat (first | (with_reducible exact Ext.refl _) | (with_reducible assumption) | (with_reducible refine Ext.alloc ?_ _) | (with_reducible refine Ext.drewN ?_ _) | (with_reducible refine Ext.drew ?_) | (with_reducible refine Ext.setCell ?_ ?_ _; rotate_left; (simp only []; omega)) | (with_reducible refine Ext.trans ?_ (by assumption)))))
      clear cBP fBP zBP
      replace BP := BP.ext (show Ext _ w3 from (by repeat (first | (with_reducible exact Ext.refl _) | (with_reducible assumption) | (with_reducible refine Ext.alloc ?_ _) | (with_reducible refine Ext.drewN ?_ _) | (with_reducible refine Ext.drew ?_) | (with_reducible refine Ext.setCell ?_ ?_ _; rotate_left; (simp only []; omega)) | (with_reducible refine Ext.trans ?_ (by assumption)))))
      replace XU := XU.ext (show Ext _ w3 from (by repeat (first | (with_reducible exact Ext.refl _) | (with_reducible assumption) | (with_reducible refine Ext.alloc ?_ _) | (with_reducible refine Ext.drewN ?_ _) | (with_reducible refine Ext.drew ?_) | (with_reducible refine Ext.setCell ?_ ?_ _; rotate_left; (simp only []; omega)) | (with_reducible refine Ext.trans ?_ (by assumption)))))
      have cBG := BG.cells
      have fBG := BG.frozens
      have zBG := BG.lt
      have cBP := BP.cells
      have fBP := BP.frozens
      have zBP := BP.lt
      rw [← hN.out]
      go_wp2
      go_ret
      exact ⟨rfl, XU.trans (show Ext _ _ from (by repeat (first | (with_reducible exact Ext.refl _) | (with_reducible assumption) | (with_reducible refine Ext.alloc ?_ _) | (with_reducible refine Ext.drewN ?_ _) | (with_reducible refine Ext.drew ?_) | (with_reducible refine Ext.setCell ?_ ?_ _; rotate_left; (simp only []; omega)) | (with_reducible refine Ext.trans ?_ (by assumption)))))⟩
    · obtain ⟨v1, v2, v3⟩ := wayOf_nonneg (g := g) (p := p) (by rw [← hN.out]; exact h0)
      obtain ⟨w1', w2'⟩ := end_word v2
      have vn := (validGate_iff.1 v1).net
      have hw := hN.out
      rw [v3] at hw
      clear v1 v2 v3 hN
      unfold way at hw
      have c1 := fun W => impl_InNet g.net p.fr.addr W
      have c2 := fun W => impl_InNet g.net p.to_.addr W
      rw [vn, w1'] at c1
      rw [vn, w2'] at c2
      clear vn w1' w2'
      simp only [Bool.true_and] at c1 c2
      generalize has g.net p.fr.addr = b1 at *
      generalize has g.net p.to_.addr = b2 at *
      replace c1 := Lib.hid c1
      replace c2 := Lib.hid c2
      replace hw := Lib.hid hw
      go_wp2_with fail
      refine (c1.out _).mono ?_
      rintro e w3 ⟨rfl, hx3⟩
      have hy3 := hx3.size
      (try simp at hy3)
      replace T0 := T0.ext (show Ext _ w3 from (by repeat (first | (with_reducible exact Ext.refl _) | (with_reducible assumption) | (with_reducible refine Ext.alloc ?_ _) | (with_reducible refine Ext.drewN ?_ _) | (with_reducible refine Ext.drew ?_) | (with_reducible refine Ext.setCell ?_ ?_ _; rotate_left; (simp only []; omega)) | (with_reducible refine Ext.trans ?_ (by assumption)))))
      replace K0 := K0.ext (show Ext _ w3 from (by repeat (first | (with_reducible exact Ext.refl _) | (with_reducible assumption) | (with_reducible refine Ext.alloc ?_ _) | (with_reducible refine Ext.drewN ?_ _) | (with_reducible refine Ext.drew ?_) | (with_reducible refine Ext.setCell ?_ ?_ _; rotate_left; (simp only []; omega)) | (with_reducible refine Ext.trans ?_ (by assumption)))))
      replace S0 := S0.ext (show Ext _ w3 from (by repeat (first | (with_reducible exact Ext.refl _) | (with_reducible assumption) | (with_reducible refine Ext.alloc ?_ _) | (with_reducible refine Ext.drewN ?_ _) | (with_reducible refine Ext.drew ?_) | (with_reducible refine Ext.setCell ?_ ?_ _; rotate_left; (simp only []; omega)) | (with_reducible refine Ext.trans ?_ (by assumption)))))
      clear cBG fBG zBG
      replace BG := BG.ext (show Ext _ w3 from (by repeat (first | (with_reducible exact Ext.refl _) | (with_reducible assumption) | (with_reducible refine Ext.alloc ?_ _) | (with_reducible refine Ext.drewN ?_ _) | (with_reducible refine Ext.drew ?_) | (with_reducible refine Ext.setCell ?_ ?_ _; rotate_left; (simp only []; omega)) | (with_reducible refine Ext.trans ?_ (by assumption)))))
      clear cBP fBP zBP
      replace BP := BP.ext (show Ext _ w3 from (by repeat (first | (with_reducible exact Ext.refl _) | (with_reducible assumption) | (with_reducible refine Ext.alloc ?_ _) | (with_reducible refine Ext.drewN ?_ _) | (with_reducible refine Ext.drew ?_) | (with_reducible refine Ext.setCell ?_ ?_ _; rotate_left; (simp only []; omega)) | (with_reducible refine Ext.trans ?_ (by assumption)))))
      replace XU := XU.ext (show Ext _ w3 from (by repeat (first | (with_reducible exact Ext.refl _) | (with_reducible assumption) | (with_reducible refine Ext.alloc ?_ _) | (with_reducible refine Ext.drewN ?_ _) | (with_reducible refine Ext.drew ?_) | (with_reducible refine Ext.setCell ?_ ?_ _; rotate_left; (simp only []; omega)) | (with_reducible refine Ext.trans ?_ (by assumption)))))
      have cBG := BG.cells
      have fBG := BG.frozens
      have zBG := BG.lt
      have cBP := BP.cells
      have fBP := BP.frozens
      have zBP := BP.lt
      go_wp2_with fail
      refine (c2.out _).mono ?_
      rintro e w4 ⟨rfl, hx4⟩
      have hy4 := hx4.size
      (try simp at hy4)
      replace T0 := T0.ext (show Ext _ w4 from (by repeat (first | (with_reducible exact Ext.refl _) | (with_reducible assumption) | (with_reducible refine Ext.alloc ?_ _) | (with_reducible refine Ext.drewN ?_ _) | (with_reducible refine Ext.drew ?_) | (with_reducible refine Ext.setCell ?_ ?_ _; rotate_left; (simp only []; omega)) | (with_reducible refine Ext.trans ?_ (by assumption)))))
      replace K0 := K0.ext (show Ext _ w4 from (by repeat (first | (with_reducible exact Ext.refl _) | (with_reducible assumption) | (with_reducible refine Ext.alloc ?_ _) | (with_reducible refine Ext.drewN ?_ _) | (with_reducible refine Ext.drew ?_) | (with_reducible refine Ext.setCell ?_ ?_ _; rotate_left; (simp only []; omega)) | (with_reducible refine Ext.trans ?_ (by assumption)))))
      replace S0 := S0.ext (show Ext _ w4 from (by repeat (first | (with_reducible exact Ext.refl _) | (with_reducible assumption) | (with_reducible refine Ext.alloc ?_ _) | (with_reducible refine Ext.drewN ?_ _) | (with_reducible refine Ext.drew ?_) | (with_reducible refine Ext.setCell ?_ ?_ _; rotate_left; (simp only []; omega)) | (with_reducible refine Ext.trans ?_ (by assumption)))))
      clear cBG fBG zBG
      replace BG := BG.ext (show Ext _ w4 from (by repeat (first | (with_reducible exact Ext.refl _) | (with_reducible assumption) | (with_reducible refine Ext.alloc ?_ _) | (with_reducible refine Ext.drewN ?_ _) | (with_reducible refine Ext.drew ?_) | (with_reducible refine Ext.setCell ?_ ?_ _; rotate_left; (simp only []; omega)) | (with_reducible refine Ext.trans ?_ (by assumption)))))
      clear cBP fBP zBP
      replace BP := BP.ext (show Ext _ w4 from (by repeat (first | (with_reducible exact Ext.refl _) | (with_reducible assumption) | (with_reducible refine Ext.alloc ?_ _) | (with_reducible refine Ext.drewN ?_ _) | (with_reducible refine Ext.drew ?_) | (with_reducible refine Ext.setCell ?_ ?_ _; rotate_left; (simp only []; omega)) | (with_reducible refine Ext.trans ?_ (by assumption)))))
      replace XU := XU.ext (show Ext _ w4 from (by repeat (first | (with_reducible exact Ext.refl _) | (with_reducible assumption) | (with_reducible refine Ext.alloc ?_ _) | (with_reducible refine Ext.drewN ?_ _) | (with_reducible refine Ext.drew ?_) | (with_reducible refine Ext.setCell ?_ ?_ _; rotate_left; (simp only []; omega)) | (with_reducible refine Ext.trans ?_ (by assumption)))))
      have cBG := BG.cells
      have fBG := BG.frozens
      have zBG := BG.lt
      have cBP := BP.cells
      have fBP := BP.frozens
      have zBP := BP.lt
      replace hw := hw.out
      by_cases h3 : p.to_.addr = g.out
      · cases b1 <;> cases b2 <;> (simp [h3] at hw; subst hw)
        all_goals
          go_wp2
          go_ret
          exact ⟨rfl, XU.trans (show Ext _ _ from (by repeat (first | (with_reducible exact Ext.refl _) | (with_reducible assumption) | (with_reducible refine Ext.alloc ?_ _) | (with_reducible refine Ext.drewN ?_ _) | (with_reducible refine Ext.drew ?_) | (with_reducible refine Ext.setCell ?_ ?_ _; rotate_left; (simp only []; omega)) | (with_reducible refine Ext.trans ?_ (by assumption)))))⟩
      · have h4 : (p.to_.addr == g.out) = false := by simpa using h3
        cases b1 <;> cases b2 <;> (simp [h3] at hw; subst hw)
        all_goals
          go_wp2
          go_ret
          exact ⟨rfl, XU.trans (show Ext _ _ from (by repeat (first | (with_reducible exact Ext.refl _) | (with_reducible assumption) | (with_reducible refine Ext.alloc ?_ _) | (with_reducible refine Ext.drewN ?_ _) | (with_reducible refine Ext.drew ?_) | (with_reducible refine Ext.setCell ?_ ?_ _; rotate_left; (simp only []; omega)) | (with_reducible refine Ext.trans ?_ (by assumption)))))⟩
theorem wayOf_data {g : GateD} {p : PktD} (h : ¬ wayOf g p < 0) : wayOf g ⟨0, p.fr, p.to_, []⟩ = wayOf g p ∧ wayOf g p ≤ 3 := by
  have hle : way g p ≤ 3 := by unfold way; repeat' split <;> omega
  unfold wayOf at h ⊢
  cases hv : (validGate g && validPkt p) with
  | false => rw [hv] at h; simp at h
  | true =>
    rw [Bool.and_eq_true] at hv
    obtain ⟨_, a, b, _⟩ := validPkt_iff.1 hv.2
    have h2 : validPkt ⟨0, p.fr, p.to_, []⟩ = true := validPkt_iff.2 ⟨rfl, a, b, by simp, rfl⟩
    rw [hv.1, h2]
    exact ⟨rfl, by simpa using hle⟩
set_option maxHeartbeats 2000000 in
theorem law_FnWayOfData (a : Option Addr) (n c : Nat) (u : World) (hc : Code u a n c) : Calls Try.prog 6 #[.slice a n c] u fun e w' => e = .returned (.bool true) ∧ Ext u w' := by
  by_cases hn : n ≤ 1048576
  rotate_left
  · go_enter Try.func6, Try.ntmps6
    go_wp2
    go_ret
    exact ⟨rfl, Ext.refl _⟩
  · go_enter Try.func6, Try.ntmps6
    go_wp2_with fail
    refine (DrawWayOf_any a n c _ hc).mono ?_
    rintro e w ⟨g, p, ta, tn, tc, ka, kn, kc, sa, sn, sc, rfl, T0, K0, S0, _, _, _, XU⟩
    obtain ⟨N, hN⟩ : ∃ N, N = wayOf g p := ⟨_, rfl⟩
    replace hN := Lib.hid hN
    go_wp2_with fail
    refine (impl_WayOf g p ta tn tc ka kn kc sa sn sc _ (by exact T0.ext (by repeat (first | (with_reducible exact Ext.refl _) | (with_reducible assumption) | (with_reducible refine Ext.alloc ?_ _) | (with_reducible refine Ext.drewN ?_ _) | (with_reducible refine Ext.drew ?_) | (with_reducible refine Ext.setCell ?_ ?_ _; rotate_left; (simp only []; omega)) | (with_reducible refine Ext.trans ?_ (by assumption))))) (by exact K0.ext (by repeat (first | (with_reducible exact Ext.refl _) | (with_reducible assumption) | (with_reducible refine Ext.alloc ?_ _) | (with_reducible refine Ext.drewN ?_ _) | (with_reducible refine Ext.drew ?_) | (with_reducible refine Ext.setCell ?_ ?_ _; rotate_left; (simp only []; omega)) | (with_reducible refine Ext.trans ?_ (by assumption))))) (by exact S0.ext (by repeat (first | (with_reducible exact Ext.refl _) | (with_reducible assumption) | (with_reducible refine Ext.alloc ?_ _) | (with_reducible refine Ext.drewN ?_ _) | (with_reducible refine Ext.drew ?_) | (with_reducible refine Ext.setCell ?_ ?_ _; rotate_left; (simp only []; omega)) | (with_reducible refine Ext.trans ?_ (by assumption)))))).mono ?_
    rintro e w1 ⟨rfl, hx1⟩
    have hy1 := hx1.size
    (try simp at hy1)
    replace T0 := T0.ext (show Ext _ w1 from (by repeat (first | (with_reducible exact Ext.refl _) | (with_reducible assumption) | (with_reducible refine Ext.alloc ?_ _) | (with_reducible refine Ext.drewN ?_ _) | (with_reducible refine Ext.drew ?_) | (with_reducible refine Ext.setCell ?_ ?_ _; rotate_left; (simp only []; omega)) | (with_reducible refine Ext.trans ?_ (by assumption)))))
    replace K0 := K0.ext (show Ext _ w1 from (by repeat (first | (with_reducible exact Ext.refl _) | (with_reducible assumption) | (with_reducible refine Ext.alloc ?_ _) | (with_reducible refine Ext.drewN ?_ _) | (with_reducible refine Ext.drew ?_) | (with_reducible refine Ext.setCell ?_ ?_ _; rotate_left; (simp only []; omega)) | (with_reducible refine Ext.trans ?_ (by assumption)))))
    replace S0 := S0.ext (show Ext _ w1 from (by repeat (first | (with_reducible exact Ext.refl _) | (with_reducible assumption) | (with_reducible refine Ext.alloc ?_ _) | (with_reducible refine Ext.drewN ?_ _) | (with_reducible refine Ext.drew ?_) | (with_reducible refine Ext.setCell ?_ ?_ _; rotate_left; (simp only []; omega)) | (with_reducible refine Ext.trans ?_ (by assumption)))))
    have BG : Blk w1 w.heap.size 40 (#[.int .i64 g.net.base, .int .i64 g.net.bits, .int .i64 g.out, .slice ta tn tc, .slice ka kn kc, .int .i64 g.filter, .int .i64 g.hold, .int .i64 g.now]) := by refine Blk.ext ?_ hx1; exact (by repeat (first | (with_reducible assumption) | (with_reducible exact Blk.new _ _ _) | exact Blk.newAt _ _ _ (by simp) | (with_reducible refine Blk.alloc ?_ _) | (with_reducible refine Blk.drew ?_) | (with_reducible refine Blk.drewN ?_ _) | refine Blk.far ?_ (by simp only []; omega) _ | refine Blk.rext ?_ (by assumption) (by omega) | refine Blk.ext ?_ (by assumption)))
    have BP : Blk w1 (w.heap.size+1) 44 (#[.int .i64 p.kind, .int .i64 p.fr.addr, .int .i64 p.fr.port, .int .i64 p.to_.addr, .int .i64 p.to_.port, .slice sa sn sc]) := by refine Blk.ext ?_ hx1; exact (by repeat (first | (with_reducible assumption) | (with_reducible exact Blk.new _ _ _) | exact Blk.newAt _ _ _ (by simp) | (with_reducible refine Blk.alloc ?_ _) | (with_reducible refine Blk.drew ?_) | (with_reducible refine Blk.drewN ?_ _) | refine Blk.far ?_ (by simp only []; omega) _ | refine Blk.rext ?_ (by assumption) (by omega) | refine Blk.ext ?_ (by assumption)))
    replace XU := XU.ext (show Ext _ w1 from (by repeat (first | (with_reducible exact Ext.refl _) | (with_reducible assumption) | (with_reducible refine Ext.alloc ?_ _) | (with_reducible refine Ext.drewN ?_ _) | (with_reducible refine Ext.drew ?_) | (with_reducible refine Ext.setCell ?_ ?_ _; rotate_left; (simp only []; omega)) | (with_reducible refine Ext.trans ?_ (by assumption)))))
    have cBG := BG.cells
    have fBG := BG.frozens
    have zBG := BG.lt
    have cBP := BP.cells
    have fBP := BP.frozens
    have zBP := BP.lt
    rw [← hN.out]
    go_wp2_with fail
    refine (spec_WayOf g p ta tn tc ka kn kc sa sn sc _ (by exact T0.ext (by repeat (first | (with_reducible exact Ext.refl _) | (with_reducible assumption) | (with_reducible refine Ext.alloc ?_ _) | (with_reducible refine Ext.drewN ?_ _) | (with_reducible refine Ext.drew ?_) | (with_reducible refine Ext.setCell ?_ ?_ _; rotate_left; (simp only []; omega)) | (with_reducible refine Ext.trans ?_ (by assumption))))) (by exact K0.ext (by repeat (first | (with_reducible exact Ext.refl _) | (with_reducible assumption) | (with_reducible refine Ext.alloc ?_ _) | (with_reducible refine Ext.drewN ?_ _) | (with_reducible refine Ext.drew ?_) | (with_reducible refine Ext.setCell ?_ ?_ _; rotate_left; (simp only []; omega)) | (with_reducible refine Ext.trans ?_ (by assumption))))) (by exact S0.ext (by repeat (first | (with_reducible exact Ext.refl _) | (with_reducible assumption) | (with_reducible refine Ext.alloc ?_ _) | (with_reducible refine Ext.drewN ?_ _) | (with_reducible refine Ext.drew ?_) | (with_reducible refine Ext.setCell ?_ ?_ _; rotate_left; (simp only []; omega)) | (with_reducible refine Ext.trans ?_ (by assumption)))))).mono ?_
    rintro e w2 ⟨rfl, hx2⟩
    have hy2 := hx2.size
    (try simp at hy2)
    replace T0 := T0.ext (show Ext _ w2 from (by repeat (first | (with_reducible exact Ext.refl _) | (with_reducible assumption) | (with_reducible refine Ext.alloc ?_ _) | (with_reducible refine Ext.drewN ?_ _) | (with_reducible refine Ext.drew ?_) | (with_reducible refine Ext.setCell ?_ ?_ _; rotate_left; (simp only []; omega)) | (with_reducible refine Ext.trans ?_ (by assumption)))))
    replace K0 := K0.ext (show Ext _ w2 from (by repeat (first | (with_reducible exact Ext.refl _) | (with_reducible assumption) | (with_reducible refine Ext.alloc ?_ _) | (with_reducible refine Ext.drewN ?_ _) | (with_reducible refine Ext.drew ?_) | (with_reducible refine Ext.setCell ?_ ?_ _; rotate_left; (simp only []; omega)) | (with_reducible refine Ext.trans ?_ (by assumption)))))
    replace S0 := S0.ext (show Ext _ w2 from (by repeat (first | (with_reducible exact Ext.refl _) | (with_reducible assumption) | (with_reducible refine Ext.alloc ?_ _) | (with_reducible refine Ext.drewN ?_ _) | (with_reducible refine Ext.drew ?_) | (with_reducible refine Ext.setCell ?_ ?_ _; rotate_left; (simp only []; omega)) | (with_reducible refine Ext.trans ?_ (by assumption)))))
    clear cBG fBG zBG
    replace BG := BG.ext (show Ext _ w2 from (by repeat (first | (with_reducible exact Ext.refl _) | (with_reducible assumption) | (with_reducible refine Ext.alloc ?_ _) | (with_reducible refine Ext.drewN ?_ _) | (with_reducible refine Ext.drew ?_) | (with_reducible refine Ext.setCell ?_ ?_ _; rotate_left; (simp only []; omega)) | (with_reducible refine Ext.trans ?_ (by assumption)))))
    clear cBP fBP zBP
    replace BP := BP.ext (show Ext _ w2 from (by repeat (first | (with_reducible exact Ext.refl _) | (with_reducible assumption) | (with_reducible refine Ext.alloc ?_ _) | (with_reducible refine Ext.drewN ?_ _) | (with_reducible refine Ext.drew ?_) | (with_reducible refine Ext.setCell ?_ ?_ _; rotate_left; (simp only []; omega)) | (with_reducible refine Ext.trans ?_ (by assumption)))))
    replace XU := XU.ext (show Ext _ w2 from (by repeat (first | (with_reducible exact Ext.refl _) | (with_reducible assumption) | (with_reducible refine Ext.alloc ?_ _) | (with_reducible refine Ext.drewN ?_ _) | (with_reducible refine Ext.drew ?_) | (with_reducible refine Ext.setCell ?_ ?_ _; rotate_left; (simp only []; omega)) | (with_reducible refine Ext.trans ?_ (by assumption)))))
    have cBG := BG.cells
    have fBG := BG.frozens
    have zBG := BG.lt
    have cBP := BP.cells
    have fBP := BP.frozens
    have zBP := BP.lt
    rw [← hN.out]
    by_cases h0 : N < 0
    · skip
      go_wp2_with fail
      refine (spec_WayOf g p ta tn tc ka kn kc sa sn sc _ (by exact T0.ext (by repeat (first | (with_reducible exact Ext.refl _) | (with_reducible assumption) | (with_reducible refine Ext.alloc ?_ _) | (with_reducible refine Ext.drewN ?_ _) | (with_reducible refine Ext.drew ?_) | (with_reducible refine Ext.setCell ?_ ?_ _; rotate_left; (simp only []; omega)) | (with_reducible refine Ext.trans ?_ (by assumption))))) (by exact K0.ext (by repeat (first | (with_reducible exact Ext.refl _) | (with_reducible assumption) | (with_reducible refine Ext.alloc ?_ _) | (with_reducible refine Ext.drewN ?_ _) | (with_reducible refine Ext.drew ?_) | (with_reducible refine Ext.setCell ?_ ?_ _; rotate_left; (simp only []; omega)) | (with_reducible refine Ext.trans ?_ (by assumption))))) (by exact S0.ext (by repeat (first | (with_reducible exact Ext.refl _) | (with_reducible assumption) | (with_reducible refine Ext.alloc ?_ _) | (with_reducible refine Ext.drewN ?_ _) | (with_reducible refine Ext.drew ?_) | (with_reducible refine Ext.setCell ?_ ?_ _; rotate_left; (simp only []; omega)) | (with_reducible refine Ext.trans ?_ (by assumption)))))).mono ?_
      rintro e w3 ⟨rfl, hx3⟩
      have hy3 := hx3.size
      (try simp at hy3)
      replace T0 := T0.ext (show Ext _ w3 from (by repeat (first | (with_reducible exact Ext.refl _) | (with_reducible assumption) | (with_reducible refine Ext.alloc ?_ _) | (with_reducible refine Ext.drewN ?_ _) | (with_reducible refine Ext.drew ?_) | (with_reducible refine Ext.setCell ?_ ?_ _; rotate_left; (simp only []; omega)) | (with_reducible refine Ext.trans ?_ (by assumption)))))
      replace K0 := K0.ext (show Ext _ w3 from (by repeat (first | (with_reducible exact Ext.refl _) | (with_reducible assumption) | (with_reducible refine Ext.alloc ?_ _) | (with_reducible refine Ext.drewN ?_ _) | (with_reducible refine Ext.drew ?_) | (with_reducible refine Ext.setCell ?_ ?_ _; rotate_left; (simp only []; omega)) | (with_reducible refine Ext.trans ?_ (by assumption)))))
      replace S0 := S0.ext (show Ext _ w3 from (by repeat (first | (with_reducible exact Ext.refl _) | (with_reducible assumption) | (with_reducible refine Ext.alloc ?_ _) | (with_reducible refine Ext.drewN ?_ _) | (with_reducible refine Ext.drew ?_) | (with_reducible refine Ext.setCell ?_ ?_ _; rotate_left; (simp only []; omega)) | (with_reducible refine Ext.trans ?_ (by assumption)))))
      clear cBG fBG zBG
      replace BG := BG.ext (show Ext _ w3 from (by repeat (first | (with_reducible exact Ext.refl _) | (with_reducible assumption) | (with_reducible refine Ext.alloc ?_ _) | (with_reducible refine Ext.drewN ?_ _) | (with_reducible refine Ext.drew ?_) | (with_reducible refine Ext.setCell ?_ ?_ _; rotate_left; (simp only []; omega)) | (with_reducible refine Ext.trans ?_ (by assumption)))))
      clear cBP fBP zBP
      replace BP := BP.ext (show Ext _ w3 from (by repeat (first | (with_reducible exact Ext.refl _) | (with_reducible assumption) | (with_reducible refine Ext.alloc ?_ _) | (with_reducible refine Ext.drewN ?_ _) | (with_reducible refine Ext.drew ?_) | (with_reducible refine Ext.setCell ?_ ?_ _; rotate_left; (simp only []; omega)) | (with_reducible refine Ext.trans ?_ (by assumption)))))
      replace XU := XU.ext (show Ext _ w3 from (by repeat (first | (with_reducible exact Ext.refl _) | (with_reducible assumption) | (with_reducible refine Ext.alloc ?_ _) | (with_reducible refine Ext.drewN ?_ _) | (with_reducible refine Ext.drew ?_) | (with_reducible refine Ext.setCell ?_ ?_ _; rotate_left; (simp only []; omega)) | (with_reducible refine Ext.trans ?_ (by assumption)))))
      have cBG := BG.cells
      have fBG := BG.frozens
      have zBG := BG.lt
      have cBP := BP.cells
      have fBP := BP.frozens
      have zBP := BP.lt
      rw [← hN.out]
      go_wp2
      go_ret
      exact ⟨rfl, XU.trans (show Ext _ _ from (by repeat (first | (with_reducible exact Ext.refl _) | (with_reducible assumption) | (with_reducible refine Ext.alloc ?_ _) | (with_reducible refine Ext.drewN ?_ _) | (with_reducible refine Ext.drew ?_) | (with_reducible refine Ext.setCell ?_ ?_ _; rotate_left; (simp only []; omega)) | (with_reducible refine Ext.trans ?_ (by assumption)))))⟩
    · obtain ⟨v1, v2⟩ := wayOf_data (g := g) (p := p) (by rw [← hN.out]; exact h0)
      rw [← hN.out] at v1 v2
      replace v1 := Lib.hid v1
      go_wp2_with fail
      refine (impl_WayOf g ⟨0, p.fr, p.to_, []⟩ ta tn tc ka kn kc none 0 0 _ (by exact T0.ext (by repeat (first | (with_reducible exact Ext.refl _) | (with_reducible assumption) | (with_reducible refine Ext.alloc ?_ _) | (with_reducible refine Ext.drewN ?_ _) | (with_reducible refine Ext.drew ?_) | (with_reducible refine Ext.setCell ?_ ?_ _; rotate_left; (simp only []; omega)) | (with_reducible refine Ext.trans ?_ (by assumption))))) (by exact K0.ext (by repeat (first | (with_reducible exact Ext.refl _) | (with_reducible assumption) | (with_reducible refine Ext.alloc ?_ _) | (with_reducible refine Ext.drewN ?_ _) | (with_reducible refine Ext.drew ?_) | (with_reducible refine Ext.setCell ?_ ?_ _; rotate_left; (simp only []; omega)) | (with_reducible refine Ext.trans ?_ (by assumption))))) (Sl.nils _)).mono ?_
      rintro e w3 ⟨rfl, hx3⟩
      have hy3 := hx3.size
      (try simp at hy3)
      replace T0 := T0.ext (show Ext _ w3 from (by repeat (first | (with_reducible exact Ext.refl _) | (with_reducible assumption) | (with_reducible refine Ext.alloc ?_ _) | (with_reducible refine Ext.drewN ?_ _) | (with_reducible refine Ext.drew ?_) | (with_reducible refine Ext.setCell ?_ ?_ _; rotate_left; (simp only []; omega)) | (with_reducible refine Ext.trans ?_ (by assumption)))))
      replace K0 := K0.ext (show Ext _ w3 from (by repeat (first | (with_reducible exact Ext.refl _) | (with_reducible assumption) | (with_reducible refine Ext.alloc ?_ _) | (with_reducible refine Ext.drewN ?_ _) | (with_reducible refine Ext.drew ?_) | (with_reducible refine Ext.setCell ?_ ?_ _; rotate_left; (simp only []; omega)) | (with_reducible refine Ext.trans ?_ (by assumption)))))
      replace S0 := S0.ext (show Ext _ w3 from (by repeat (first | (with_reducible exact Ext.refl _) | (with_reducible assumption) | (with_reducible refine Ext.alloc ?_ _) | (with_reducible refine Ext.drewN ?_ _) | (with_reducible refine Ext.drew ?_) | (with_reducible refine Ext.setCell ?_ ?_ _; rotate_left; (simp only []; omega)) | (with_reducible refine Ext.trans ?_ (by assumption)))))
      clear cBG fBG zBG
      replace BG := BG.ext (show Ext _ w3 from (by repeat (first | (with_reducible exact Ext.refl _) | (with_reducible assumption) | (with_reducible refine Ext.alloc ?_ _) | (with_reducible refine Ext.drewN ?_ _) | (with_reducible refine Ext.drew ?_) | (with_reducible refine Ext.setCell ?_ ?_ _; rotate_left; (simp only []; omega)) | (with_reducible refine Ext.trans ?_ (by assumption)))))
      clear cBP fBP zBP
      replace BP := BP.ext (show Ext _ w3 from (by repeat (first | (with_reducible exact Ext.refl _) | (with_reducible assumption) | (with_reducible refine Ext.alloc ?_ _) | (with_reducible refine Ext.drewN ?_ _) | (with_reducible refine Ext.drew ?_) | (with_reducible refine Ext.setCell ?_ ?_ _; rotate_left; (simp only []; omega)) | (with_reducible refine Ext.trans ?_ (by assumption)))))
      replace XU := XU.ext (show Ext _ w3 from (by repeat (first | (with_reducible exact Ext.refl _) | (with_reducible assumption) | (with_reducible refine Ext.alloc ?_ _) | (with_reducible refine Ext.drewN ?_ _) | (with_reducible refine Ext.drew ?_) | (with_reducible refine Ext.setCell ?_ ?_ _; rotate_left; (simp only []; omega)) | (with_reducible refine Ext.trans ?_ (by assumption)))))
      have cBG := BG.cells
      have fBG := BG.frozens
      have zBG := BG.lt
      have cBP := BP.cells
      have fBP := BP.frozens
      have zBP := BP.lt
      rw [v1.out]
      go_wp2
      go_ret
      exact ⟨rfl, XU.trans (show Ext _ _ from (by repeat (first | (with_reducible exact Ext.refl _) | (with_reducible assumption) | (with_reducible refine Ext.alloc ?_ _) | (with_reducible refine Ext.drewN ?_ _) | (with_reducible refine Ext.drew ?_) | (with_reducible refine Ext.setCell ?_ ?_ _; rotate_left; (simp only []; omega)) | (with_reducible refine Ext.trans ?_ (by assumption)))))⟩
end Go.Proofs.Ytafmomocmodbhaa
