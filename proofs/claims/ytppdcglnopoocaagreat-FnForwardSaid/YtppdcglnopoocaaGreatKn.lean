/- The words, laws and contracts that the claims of this seat share: group n. No condition. -/
import Derived.Test.YtppdcglnopoocaaGreatKh
import Derived.Test.YtppdcglnopoocaaGreatKr
/- Contracts of what is drawn: gates and packets. -/
namespace Go.Proofs.YtppdcglnopoocaaGreat
set_option linter.unusedVariables false
set_option linter.unusedSimpArgs false
open Go.RowKit

set_option maxHeartbeats 400000 in
theorem DrawSendOut_any (a : Option Addr) (n c : Nat) (w : World) (hc : Code w a n c) :
    Calls Tryz.prog 15 #[.slice a n c] w fun e w' => ∃ (g : GateD) (p : PktD) (ta : Option Addr) (tn tc : Nat) (ka : Option Addr) (kn kc : Nat) (a : Option Addr) (n c : Nat), e = .returned (.tuple #[.agg #[.int .i64 g.net.base, .int .i64 g.net.bits, .int .i64 g.out, .slice ta tn tc, .slice ka kn kc, .int .i64 g.filter, .int .i64 g.hold, .int .i64 g.now], .agg #[.int .i64 p.kind, .int .i64 p.fr.addr, .int .i64 p.fr.port, .int .i64 p.to_.addr, .int .i64 p.to_.port, .slice a n c]]) ∧
          Sl encM 4 w' ta tn tc g.table ∧ Sl encC 3 w' ka kn kc g.cons ∧ Sl encI 1 w' a n c p.data ∧ (0 < tn → ∀ x, ta = some x → w.heap.size ≤ x.block) ∧ (0 < kn → ∀ x, ka = some x → w.heap.size ≤ x.block) ∧ (0 < n → ∀ x, a = some x → w.heap.size ≤ x.block) ∧ Ext w w' := by
  obtain ⟨zs, hs, hz⟩ := hc
  go_enter Tryz.func15, Tryz.ntmps15
  go_wp2_with fail
  refine (newReader_any a n c zs _ (hs.ext (by repeat (first | (with_reducible exact Ext.refl _) | (with_reducible assumption) | (with_reducible refine Ext.alloc ?_ _) | (with_reducible refine Ext.drewN ?_ _) | (with_reducible refine Ext.drew ?_) | (with_reducible refine Ext.setCell ?_ ?_ _; rotate_left; (simp only []; omega)) | (with_reducible refine Ext.trans ?_ (by assumption))))) hz).mono ?_
  rintro e w1 ⟨B, rfl, hB, hr, hx⟩
  have hy1 := hx.size
  (try simp at hy1)
  (try simp at hB)
  have hBl := hr.lt
  have BR : Blk w1 w.heap.size 28 #[.int .i64 0, .int .i64 0, .int .i64 0, .slice none 0 0, .slice none 0 0, .int .i64 0, .int .i64 0, .int .i64 0] := by refine Blk.ext ?_ hx; exact (by repeat (first | (with_reducible assumption) | (with_reducible exact Blk.new _ _ _) | exact Blk.newAt _ _ _ (by simp) | (with_reducible refine Blk.alloc ?_ _) | (with_reducible refine Blk.drew ?_) | (with_reducible refine Blk.drewN ?_ _) | refine Blk.far ?_ (by simp only []; omega) _ | refine Blk.rext ?_ (by assumption) (by omega) | refine Blk.ext ?_ (by assumption)))
  have BS : Blk w1 (w.heap.size + 1) 33 #[.int .i64 0, .int .i64 0, .int .i64 0, .int .i64 0, .int .i64 0, .slice none 0 0] := by refine Blk.ext ?_ hx; exact (by repeat (first | (with_reducible assumption) | (with_reducible exact Blk.new _ _ _) | exact Blk.newAt _ _ _ (by simp) | (with_reducible refine Blk.alloc ?_ _) | (with_reducible refine Blk.drew ?_) | (with_reducible refine Blk.drewN ?_ _) | refine Blk.far ?_ (by simp only []; omega) _ | refine Blk.rext ?_ (by assumption) (by omega) | refine Blk.ext ?_ (by assumption)))
  have X0 : Ext w w1 := (by repeat (first | (with_reducible exact Ext.refl _) | (with_reducible assumption) | (with_reducible refine Ext.alloc ?_ _) | (with_reducible refine Ext.drewN ?_ _) | (with_reducible refine Ext.drew ?_) | (with_reducible refine Ext.setCell ?_ ?_ _; rotate_left; (simp only []; omega)) | (with_reducible refine Ext.trans ?_ (by assumption))))
  clear hx
  go_wp2_with fail
  refine (anyGate_any _ B _ _ hr (by omega)).mono ?_
  rintro e w2 ⟨g, ta, tn, tc, ka, kn, kc, rfl, T0, K0, _, _, _, _, fT, fK, q2, hx2⟩
  have hy2 := hx2.size
  (try simp at hy2)
  have BR : Blk w2 w.heap.size 28 (#[.int .i64 0, .int .i64 0, .int .i64 0, .slice none 0 0, .slice none 0 0, .int .i64 0, .int .i64 0, .int .i64 0]) := by refine Blk.rext ?_ hx2 (by omega); repeat (first | (with_reducible exact BR) | (with_reducible exact Blk.new _ _ _) | exact Blk.newAt _ _ _ (by simp) | (with_reducible refine Blk.alloc ?_ _) | (with_reducible refine Blk.drew ?_) | (with_reducible refine Blk.drewN ?_ _) | refine Blk.far ?_ (by simp only []; omega) _)
  have BS : Blk w2 (w.heap.size+1) 33 (#[.int .i64 0, .int .i64 0, .int .i64 0, .int .i64 0, .int .i64 0, .slice none 0 0]) := by refine Blk.rext ?_ hx2 (by omega); repeat (first | (with_reducible exact BS) | (with_reducible exact Blk.new _ _ _) | exact Blk.newAt _ _ _ (by simp) | (with_reducible refine Blk.alloc ?_ _) | (with_reducible refine Blk.drew ?_) | (with_reducible refine Blk.drewN ?_ _) | refine Blk.far ?_ (by simp only []; omega) _)
  have cBR := BR.cells
  have fBR := BR.frozens
  have zBR := BR.lt
  have cBS := BS.cells
  have fBS := BS.frozens
  have zBS := BS.lt
  have lT0 : 0 < tn → ∀ x, ta = some x → w1.heap.size ≤ x.block ∧ x.block < w2.heap.size := fun h x e => ⟨fT x e, T0.lt h x e⟩
  have lK0 : 0 < kn → ∀ x, ka = some x → w1.heap.size ≤ x.block ∧ x.block < w2.heap.size := fun h x e => ⟨fK x e, K0.lt h x e⟩
  clear fT fK
  replace X0 : Ext w w2 := by refine RExt.new ?_ hx2 (by omega); exact (by repeat (first | (with_reducible exact Ext.refl _) | (with_reducible assumption) | (with_reducible refine Ext.alloc ?_ _) | (with_reducible refine Ext.drewN ?_ _) | (with_reducible refine Ext.drew ?_) | (with_reducible refine Ext.setCell ?_ ?_ _; rotate_left; (simp only []; omega)) | (with_reducible refine Ext.trans ?_ (by assumption))))
  go_wp2_with fail
  refine (anyPacket_any _ B _ _ (by exact q2.to (by repeat (first | (with_reducible exact Since.refl q2.le) | (with_reducible refine Since.alloc ?_ _) | (with_reducible refine Since.drew ?_) | (with_reducible refine Since.drewN ?_ _) | (with_reducible refine Since.setCell ?_ ?_ _; rotate_left; (simp only []; omega)) | (with_reducible refine Since.ext ?_ (by assumption))))) (by omega)).mono ?_
  rintro e w3 ⟨k, fa, fp, ga, gp, sa, sn, sc, L, rfl, S0, _, fS, q3, hx3⟩
  have hy3 := hx3.size
  (try simp at hy3)
  clear cBR fBR zBR
  clear cBS fBS zBS
  replace BR : Blk w3 w.heap.size 28 (#[.int .i64 0, .int .i64 0, .int .i64 0, .slice none 0 0, .slice none 0 0, .int .i64 0, .int .i64 0, .int .i64 0]) := by refine Blk.rext ?_ hx3 (by omega); repeat (first | (with_reducible exact BR) | (with_reducible exact Blk.new _ _ _) | exact Blk.newAt _ _ _ (by simp) | (with_reducible refine Blk.alloc ?_ _) | (with_reducible refine Blk.drew ?_) | (with_reducible refine Blk.drewN ?_ _) | refine Blk.far ?_ (by simp only []; omega) _)
  replace BS : Blk w3 (w.heap.size+1) 33 (#[.int .i64 0, .int .i64 0, .int .i64 0, .int .i64 0, .int .i64 0, .slice none 0 0]) := by refine Blk.rext ?_ hx3 (by omega); repeat (first | (with_reducible exact BS) | (with_reducible exact Blk.new _ _ _) | exact Blk.newAt _ _ _ (by simp) | (with_reducible refine Blk.alloc ?_ _) | (with_reducible refine Blk.drew ?_) | (with_reducible refine Blk.drewN ?_ _) | refine Blk.far ?_ (by simp only []; omega) _)
  have BG : Blk w3 w2.heap.size 28 (#[.int .i64 g.net.base, .int .i64 g.net.bits, .int .i64 g.out, .slice ta tn tc, .slice ka kn kc, .int .i64 g.filter, .int .i64 g.hold, .int .i64 g.now]) := by refine Blk.rext ?_ hx3 (by omega); repeat (first | (with_reducible exact BG) | (with_reducible exact Blk.new _ _ _) | exact Blk.newAt _ _ _ (by simp) | (with_reducible refine Blk.alloc ?_ _) | (with_reducible refine Blk.drew ?_) | (with_reducible refine Blk.drewN ?_ _) | refine Blk.far ?_ (by simp only []; omega) _)
  replace T0 : Sl encM 4 w3 ta tn tc g.table := by refine Sl.rextFar ?_ hx3 (fun hn x e => by have := lT0 hn x e; omega); repeat (first | (with_reducible exact T0) | (with_reducible refine Sl.alloc ?_ _) | (with_reducible refine Sl.drew ?_) | (with_reducible refine Sl.drewN ?_ _) | refine Sl.setFar ?_ (fun hn x e => by have := lT0 hn x e; simp only []; omega) _)
  replace K0 : Sl encC 3 w3 ka kn kc g.cons := by refine Sl.rextFar ?_ hx3 (fun hn x e => by have := lK0 hn x e; omega); repeat (first | (with_reducible exact K0) | (with_reducible refine Sl.alloc ?_ _) | (with_reducible refine Sl.drew ?_) | (with_reducible refine Sl.drewN ?_ _) | refine Sl.setFar ?_ (fun hn x e => by have := lK0 hn x e; simp only []; omega) _)
  have cBR := BR.cells
  have fBR := BR.frozens
  have zBR := BR.lt
  have cBS := BS.cells
  have fBS := BS.frozens
  have zBS := BS.lt
  have cBG := BG.cells
  have fBG := BG.frozens
  have zBG := BG.lt
  replace X0 : Ext w w3 := by refine RExt.new ?_ hx3 (by omega); exact (by repeat (first | (with_reducible exact Ext.refl _) | (with_reducible assumption) | (with_reducible refine Ext.alloc ?_ _) | (with_reducible refine Ext.drewN ?_ _) | (with_reducible refine Ext.drew ?_) | (with_reducible refine Ext.setCell ?_ ?_ _; rotate_left; (simp only []; omega)) | (with_reducible refine Ext.trans ?_ (by assumption))))
  have lS0 : 0 < sn → ∀ x, sa = some x → w2.heap.size < x.block ∧ x.block < w3.heap.size := fun h x e => ⟨by have h := fS x e; simp at h; omega, S0.lt h x e⟩
  clear fS
  go_wp2_with fail
  refine (pick_any _ B _ 4 _ (by exact q3.to (by repeat (first | (with_reducible exact Since.refl q3.le) | (with_reducible refine Since.alloc ?_ _) | (with_reducible refine Since.drew ?_) | (with_reducible refine Since.drewN ?_ _) | (with_reducible refine Since.setCell ?_ ?_ _; rotate_left; (simp only []; omega)) | (with_reducible refine Since.ext ?_ (by assumption))))) (by omega) (by omega) (by omega)).mono ?_
  rintro e w4 ⟨d, rfl, d0, d1, q4, hx4⟩
  have hy4 := hx4.size
  (try simp at hy4)
  clear cBR fBR zBR
  clear cBS fBS zBS
  clear cBG fBG zBG
  replace BR : Blk w4 w.heap.size 28 (#[.int .i64 0, .int .i64 0, .int .i64 0, .slice none 0 0, .slice none 0 0, .int .i64 0, .int .i64 0, .int .i64 0]) := by refine Blk.rext ?_ hx4 (by omega); repeat (first | (with_reducible exact BR) | (with_reducible exact Blk.new _ _ _) | exact Blk.newAt _ _ _ (by simp) | (with_reducible refine Blk.alloc ?_ _) | (with_reducible refine Blk.drew ?_) | (with_reducible refine Blk.drewN ?_ _) | refine Blk.far ?_ (by simp only []; omega) _)
  replace BS : Blk w4 (w.heap.size+1) 33 (#[.int .i64 0, .int .i64 0, .int .i64 0, .int .i64 0, .int .i64 0, .slice none 0 0]) := by refine Blk.rext ?_ hx4 (by omega); repeat (first | (with_reducible exact BS) | (with_reducible exact Blk.new _ _ _) | exact Blk.newAt _ _ _ (by simp) | (with_reducible refine Blk.alloc ?_ _) | (with_reducible refine Blk.drew ?_) | (with_reducible refine Blk.drewN ?_ _) | refine Blk.far ?_ (by simp only []; omega) _)
  replace BG : Blk w4 w2.heap.size 28 (#[.int .i64 g.net.base, .int .i64 g.net.bits, .int .i64 g.out, .slice ta tn tc, .slice ka kn kc, .int .i64 g.filter, .int .i64 g.hold, .int .i64 g.now]) := by refine Blk.rext ?_ hx4 (by omega); repeat (first | (with_reducible exact BG) | (with_reducible exact Blk.new _ _ _) | exact Blk.newAt _ _ _ (by simp) | (with_reducible refine Blk.alloc ?_ _) | (with_reducible refine Blk.drew ?_) | (with_reducible refine Blk.drewN ?_ _) | refine Blk.far ?_ (by simp only []; omega) _)
  have BP : Blk w4 w3.heap.size 33 (#[.int .i64 k, .int .i64 fa, .int .i64 fp, .int .i64 ga, .int .i64 gp, .slice sa sn sc]) := by refine Blk.rext ?_ hx4 (by omega); repeat (first | (with_reducible exact BP) | (with_reducible exact Blk.new _ _ _) | exact Blk.newAt _ _ _ (by simp) | (with_reducible refine Blk.alloc ?_ _) | (with_reducible refine Blk.drew ?_) | (with_reducible refine Blk.drewN ?_ _) | refine Blk.far ?_ (by simp only []; omega) _)
  replace T0 : Sl encM 4 w4 ta tn tc g.table := by refine Sl.rextFar ?_ hx4 (fun hn x e => by have := lT0 hn x e; omega); repeat (first | (with_reducible exact T0) | (with_reducible refine Sl.alloc ?_ _) | (with_reducible refine Sl.drew ?_) | (with_reducible refine Sl.drewN ?_ _) | refine Sl.setFar ?_ (fun hn x e => by have := lT0 hn x e; simp only []; omega) _)
  replace K0 : Sl encC 3 w4 ka kn kc g.cons := by refine Sl.rextFar ?_ hx4 (fun hn x e => by have := lK0 hn x e; omega); repeat (first | (with_reducible exact K0) | (with_reducible refine Sl.alloc ?_ _) | (with_reducible refine Sl.drew ?_) | (with_reducible refine Sl.drewN ?_ _) | refine Sl.setFar ?_ (fun hn x e => by have := lK0 hn x e; simp only []; omega) _)
  replace S0 : Sl encI 1 w4 sa sn sc L := by refine Sl.rextFar ?_ hx4 (fun hn x e => by have := lS0 hn x e; omega); repeat (first | (with_reducible exact S0) | (with_reducible refine Sl.alloc ?_ _) | (with_reducible refine Sl.drew ?_) | (with_reducible refine Sl.drewN ?_ _) | refine Sl.setFar ?_ (fun hn x e => by have := lS0 hn x e; simp only []; omega) _)
  have cBR := BR.cells
  have fBR := BR.frozens
  have zBR := BR.lt
  have cBS := BS.cells
  have fBS := BS.frozens
  have zBS := BS.lt
  have cBG := BG.cells
  have fBG := BG.frozens
  have zBG := BG.lt
  have cBP := BP.cells
  have fBP := BP.frozens
  have zBP := BP.lt
  replace X0 : Ext w w4 := by refine RExt.new ?_ hx4 (by omega); exact (by repeat (first | (with_reducible exact Ext.refl _) | (with_reducible assumption) | (with_reducible refine Ext.alloc ?_ _) | (with_reducible refine Ext.drewN ?_ _) | (with_reducible refine Ext.drew ?_) | (with_reducible refine Ext.setCell ?_ ?_ _; rotate_left; (simp only []; omega)) | (with_reducible refine Ext.trans ?_ (by assumption))))
  clear hx2 hx3 hx4 q2 q3 hr
  by_cases e0 : 0 < d
  · have e1 := e0
    go_wp2_with fail
    refine (insideEnd_any _ B _ _ q4 (by omega)).mono ?_
    rintro e w5 ⟨x1, y1, rfl, _, _, _, _, q5, hx5⟩
    have hy5 := hx5.size
    (try simp at hy5)
    clear cBR fBR zBR
    clear cBS fBS zBS
    clear cBG fBG zBG
    clear cBP fBP zBP
    replace BR : Blk w5 w.heap.size 28 (#[.int .i64 0, .int .i64 0, .int .i64 0, .slice none 0 0, .slice none 0 0, .int .i64 0, .int .i64 0, .int .i64 0]) := by refine Blk.rext ?_ hx5 (by omega); repeat (first | (with_reducible exact BR) | (with_reducible exact Blk.new _ _ _) | exact Blk.newAt _ _ _ (by simp) | (with_reducible refine Blk.alloc ?_ _) | (with_reducible refine Blk.drew ?_) | (with_reducible refine Blk.drewN ?_ _) | refine Blk.far ?_ (by simp only []; omega) _)
    replace BS : Blk w5 (w.heap.size+1) 33 (#[.int .i64 0, .int .i64 0, .int .i64 0, .int .i64 0, .int .i64 0, .slice none 0 0]) := by refine Blk.rext ?_ hx5 (by omega); repeat (first | (with_reducible exact BS) | (with_reducible exact Blk.new _ _ _) | exact Blk.newAt _ _ _ (by simp) | (with_reducible refine Blk.alloc ?_ _) | (with_reducible refine Blk.drew ?_) | (with_reducible refine Blk.drewN ?_ _) | refine Blk.far ?_ (by simp only []; omega) _)
    replace BG : Blk w5 w2.heap.size 28 (#[.int .i64 g.net.base, .int .i64 g.net.bits, .int .i64 g.out, .slice ta tn tc, .slice ka kn kc, .int .i64 g.filter, .int .i64 g.hold, .int .i64 g.now]) := by refine Blk.rext ?_ hx5 (by omega); repeat (first | (with_reducible exact BG) | (with_reducible exact Blk.new _ _ _) | exact Blk.newAt _ _ _ (by simp) | (with_reducible refine Blk.alloc ?_ _) | (with_reducible refine Blk.drew ?_) | (with_reducible refine Blk.drewN ?_ _) | refine Blk.far ?_ (by simp only []; omega) _)
    replace BP : Blk w5 w3.heap.size 33 (#[.int .i64 k, .int .i64 fa, .int .i64 fp, .int .i64 ga, .int .i64 gp, .slice sa sn sc]) := by refine Blk.rext ?_ hx5 (by omega); repeat (first | (with_reducible exact BP) | (with_reducible exact Blk.new _ _ _) | exact Blk.newAt _ _ _ (by simp) | (with_reducible refine Blk.alloc ?_ _) | (with_reducible refine Blk.drew ?_) | (with_reducible refine Blk.drewN ?_ _) | refine Blk.far ?_ (by simp only []; omega) _)
    replace T0 : Sl encM 4 w5 ta tn tc g.table := by refine Sl.rextFar ?_ hx5 (fun hn x e => by have := lT0 hn x e; omega); repeat (first | (with_reducible exact T0) | (with_reducible refine Sl.alloc ?_ _) | (with_reducible refine Sl.drew ?_) | (with_reducible refine Sl.drewN ?_ _) | refine Sl.setFar ?_ (fun hn x e => by have := lT0 hn x e; simp only []; omega) _)
    replace K0 : Sl encC 3 w5 ka kn kc g.cons := by refine Sl.rextFar ?_ hx5 (fun hn x e => by have := lK0 hn x e; omega); repeat (first | (with_reducible exact K0) | (with_reducible refine Sl.alloc ?_ _) | (with_reducible refine Sl.drew ?_) | (with_reducible refine Sl.drewN ?_ _) | refine Sl.setFar ?_ (fun hn x e => by have := lK0 hn x e; simp only []; omega) _)
    replace S0 : Sl encI 1 w5 sa sn sc L := by refine Sl.rextFar ?_ hx5 (fun hn x e => by have := lS0 hn x e; omega); repeat (first | (with_reducible exact S0) | (with_reducible refine Sl.alloc ?_ _) | (with_reducible refine Sl.drew ?_) | (with_reducible refine Sl.drewN ?_ _) | refine Sl.setFar ?_ (fun hn x e => by have := lS0 hn x e; simp only []; omega) _)
    have cBR := BR.cells
    have fBR := BR.frozens
    have zBR := BR.lt
    have cBS := BS.cells
    have fBS := BS.frozens
    have zBS := BS.lt
    have cBG := BG.cells
    have fBG := BG.frozens
    have zBG := BG.lt
    have cBP := BP.cells
    have fBP := BP.frozens
    have zBP := BP.lt
    replace X0 : Ext w w5 := by refine RExt.new ?_ hx5 (by omega); exact (by repeat (first | (with_reducible exact Ext.refl _) | (with_reducible assumption) | (with_reducible refine Ext.alloc ?_ _) | (with_reducible refine Ext.drewN ?_ _) | (with_reducible refine Ext.drew ?_) | (with_reducible refine Ext.setCell ?_ ?_ _; rotate_left; (simp only []; omega)) | (with_reducible refine Ext.trans ?_ (by assumption))))
    clear hx5 q4
    go_wp2_with fail
    refine (farEnd_any _ B _ _ (by exact q5.to (by repeat (first | (with_reducible exact Since.refl q5.le) | (with_reducible refine Since.alloc ?_ _) | (with_reducible refine Since.drew ?_) | (with_reducible refine Since.drewN ?_ _) | (with_reducible refine Since.setCell ?_ ?_ _; rotate_left; (simp only []; omega)) | (with_reducible refine Since.ext ?_ (by assumption))))) (by omega)).mono ?_
    rintro e w6 ⟨x2, y2, rfl, _, _, _, _, q6, hx6⟩
    have hy6 := hx6.size
    (try simp at hy6)
    clear cBR fBR zBR
    clear cBS fBS zBS
    clear cBG fBG zBG
    clear cBP fBP zBP
    replace BR : Blk w6 w.heap.size 28 (#[.int .i64 0, .int .i64 0, .int .i64 0, .slice none 0 0, .slice none 0 0, .int .i64 0, .int .i64 0, .int .i64 0]) := by refine Blk.rext ?_ hx6 (by omega); repeat (first | (with_reducible exact BR) | (with_reducible exact Blk.new _ _ _) | exact Blk.newAt _ _ _ (by simp) | (with_reducible refine Blk.alloc ?_ _) | (with_reducible refine Blk.drew ?_) | (with_reducible refine Blk.drewN ?_ _) | refine Blk.far ?_ (by simp only []; omega) _)
    replace BS : Blk w6 (w.heap.size+1) 33 (#[.int .i64 0, .int .i64 0, .int .i64 0, .int .i64 0, .int .i64 0, .slice none 0 0]) := by refine Blk.rext ?_ hx6 (by omega); repeat (first | (with_reducible exact BS) | (with_reducible exact Blk.new _ _ _) | exact Blk.newAt _ _ _ (by simp) | (with_reducible refine Blk.alloc ?_ _) | (with_reducible refine Blk.drew ?_) | (with_reducible refine Blk.drewN ?_ _) | refine Blk.far ?_ (by simp only []; omega) _)
    replace BG : Blk w6 w2.heap.size 28 (#[.int .i64 g.net.base, .int .i64 g.net.bits, .int .i64 g.out, .slice ta tn tc, .slice ka kn kc, .int .i64 g.filter, .int .i64 g.hold, .int .i64 g.now]) := by refine Blk.rext ?_ hx6 (by omega); repeat (first | (with_reducible exact BG) | (with_reducible exact Blk.new _ _ _) | exact Blk.newAt _ _ _ (by simp) | (with_reducible refine Blk.alloc ?_ _) | (with_reducible refine Blk.drew ?_) | (with_reducible refine Blk.drewN ?_ _) | refine Blk.far ?_ (by simp only []; omega) _)
    replace BP : Blk w6 w3.heap.size 33 (#[.int .i64 k, .int .i64 x1, .int .i64 y1, .int .i64 ga, .int .i64 gp, .slice sa sn sc]) := by refine Blk.rext ?_ hx6 (by omega); repeat (first | (exact (show Blk _ w3.heap.size 33 (#[.int .i64 k, .int .i64 x1, .int .i64 y1, .int .i64 ga, .int .i64 gp, .slice sa sn sc]) from by simpa using (BP.set 1 (.int .i64 x1)).set 2 (.int .i64 y1))) | (with_reducible exact Blk.new _ _ _) | exact Blk.newAt _ _ _ (by simp) | (with_reducible refine Blk.alloc ?_ _) | (with_reducible refine Blk.drew ?_) | (with_reducible refine Blk.drewN ?_ _) | refine Blk.far ?_ (by simp only []; omega) _)
    replace T0 : Sl encM 4 w6 ta tn tc g.table := by refine Sl.rextFar ?_ hx6 (fun hn x e => by have := lT0 hn x e; omega); repeat (first | (with_reducible exact T0) | (with_reducible refine Sl.alloc ?_ _) | (with_reducible refine Sl.drew ?_) | (with_reducible refine Sl.drewN ?_ _) | refine Sl.setFar ?_ (fun hn x e => by have := lT0 hn x e; simp only []; omega) _)
    replace K0 : Sl encC 3 w6 ka kn kc g.cons := by refine Sl.rextFar ?_ hx6 (fun hn x e => by have := lK0 hn x e; omega); repeat (first | (with_reducible exact K0) | (with_reducible refine Sl.alloc ?_ _) | (with_reducible refine Sl.drew ?_) | (with_reducible refine Sl.drewN ?_ _) | refine Sl.setFar ?_ (fun hn x e => by have := lK0 hn x e; simp only []; omega) _)
    replace S0 : Sl encI 1 w6 sa sn sc L := by refine Sl.rextFar ?_ hx6 (fun hn x e => by have := lS0 hn x e; omega); repeat (first | (with_reducible exact S0) | (with_reducible refine Sl.alloc ?_ _) | (with_reducible refine Sl.drew ?_) | (with_reducible refine Sl.drewN ?_ _) | refine Sl.setFar ?_ (fun hn x e => by have := lS0 hn x e; simp only []; omega) _)
    have cBR := BR.cells
    have fBR := BR.frozens
    have zBR := BR.lt
    have cBS := BS.cells
    have fBS := BS.frozens
    have zBS := BS.lt
    have cBG := BG.cells
    have fBG := BG.frozens
    have zBG := BG.lt
    have cBP := BP.cells
    have fBP := BP.frozens
    have zBP := BP.lt
    replace X0 : Ext w w6 := by refine RExt.new ?_ hx6 (by omega); exact (by repeat (first | (with_reducible exact Ext.refl _) | (with_reducible assumption) | (with_reducible refine Ext.alloc ?_ _) | (with_reducible refine Ext.drewN ?_ _) | (with_reducible refine Ext.drew ?_) | (with_reducible refine Ext.setCell ?_ ?_ _; rotate_left; (simp only []; omega)) | (with_reducible refine Ext.trans ?_ (by assumption))))
    clear hx6 q5 q6
    go_wp2_with fail
    refine wp_gen (fun W => RExt w3.heap.size w6 W ∧ Blk W w3.heap.size 33 #[.int .i64 k, .int .i64 x1, .int .i64 y1, .int .i64 x2, .int .i64 y2, .slice sa sn sc]) ⟨(by repeat (first | (with_reducible exact RExt.refl _ _) | (with_reducible refine RExt.putc ?_ _ _))), by simpa using (BP.set 3 (.int .i64 x2)).set 4 (.int .i64 y2)⟩ ?_
    rintro v7 ⟨x7, BP7⟩
    clear cBG fBG zBG cBP fBP cBR fBR zBR cBS fBS zBS BP
    have BP := BP7
    replace BG := BG.rext x7 (by omega)
    replace BR := BR.rext x7 (by omega)
    replace BS := BS.rext x7 (by omega)
    replace T0 := T0.rextFar x7 (fun hn x e => by have := lT0 hn x e; omega)
    replace K0 := K0.rextFar x7 (fun hn x e => by have := lK0 hn x e; omega)
    replace S0 := S0.rextFar x7 (fun hn x e => by have := lS0 hn x e; omega)
    replace X0 := RExt.new X0 x7 (by omega)
    have := (x7).size
    clear x7
    have hBv : B < v7.heap.size := by omega
    replace BG := BG.drew
    replace BP := BP.drew
    replace BR := BR.drew
    replace BS := BS.drew
    replace T0 := T0.drew
    replace K0 := K0.drew
    (try replace S0 := S0.drew)
    (try replace r0 := r0.drew)
    replace X0 := X0.drew
    have hdrS : ∀ W : World, W.drew.heap.size = W.heap.size := fun _ => rfl
    refine wp_region_eager (R := RX (fun i => i = B ∨ i = w.heap.size ∨ i = w.heap.size + 1)) [0, 1, 2, 3] (by kernel_rfl) (by kernel_rfl) (RX.refl _) (fun _ _ _ => RX.trans) ?_
    have hdrW := hdrS (v7)
    generalize (v7).drew = vD at *
    repeat' (first
      | (refine ChX.skip (by rfl) (by rfl) ?_
         (try simp only [Act.put, List.setIfInBounds_toArray, List.set_cons_zero, List.set_cons_succ]))
      | (refine' ChX.quiet (v := _) (by rfl) (by rfl) (by rfl) ?_ ?_
         rotate_left
         · (intro wS hS
            have cG := (BG.rx hS (by omega)).cells; have cP := (BP.rx hS (by omega)).cells
            go_simp
            with_reducible rfl)
         (try simp only [Act.put, List.setIfInBounds_toArray, List.set_cons_zero, List.set_cons_succ]))
      | (refine ChX.nil ?_)
      | (refine' ChX.guard (x := _) (by rfl) ?_ ?_ ?_
         rotate_left
         · (go_simp
            rfl)
         all_goals
           intro hg
           simp only [hg])
      | (refine' ChX.guardN (x := _) (by rfl) ?_ ?_ ?_
         rotate_left
         · (go_simp
            rfl)
         all_goals
           intro hg
           simp only [hg]))
    skip
    have cR := BR.cells
    have fR := BR.frozens
    refine ChX.storeP (fun W => RExt w.heap.size vD W ∧ Blk W w.heap.size 28 (#[.int .i64 g.net.base, .int .i64 g.net.bits, .int .i64 g.out, .slice ta tn tc, .slice ka kn kc, .int .i64 g.filter, .int .i64 g.hold, .int .i64 g.now])) (by rfl) (by rfl) (by rfl) ⟨_, (by go_simp; rfl), RX.of_rext (B := w.heap.size) (by repeat (first | (with_reducible exact RExt.refl _ _) | (with_reducible refine RExt.putc ?_ _ _))) (.inr (.inl rfl)), (by repeat (first | (with_reducible exact RExt.refl _ _) | (with_reducible refine RExt.putc ?_ _ _))), (by exact BR.put8 _ _ _ _ _ _ _ _)⟩ ?_
    (try simp only [Act.put, List.setIfInBounds_toArray, List.set_cons_zero, List.set_cons_succ])
    rintro yW1 _ ⟨z1, BR1⟩
    clear cR fR
    have BS1 := BS.rext z1 (by omega)
    have cS := BS1.cells
    have fS := BS1.frozens
    refine ChX.storeP (fun W => RExt (w.heap.size + 1) yW1 W ∧ Blk W (w.heap.size + 1) 33 #[.int .i64 k, .int .i64 x1, .int .i64 y1, .int .i64 x2, .int .i64 y2, .slice sa sn sc]) (by rfl) (by rfl) (by rfl) ⟨_, (by go_simp; rfl), RX.of_rext (B := w.heap.size + 1) (by repeat (first | (with_reducible exact RExt.refl _ _) | (with_reducible refine RExt.putc ?_ _ _))) (.inr (.inr rfl)), (by repeat (first | (with_reducible exact RExt.refl _ _) | (with_reducible refine RExt.putc ?_ _ _))), (by exact BS1.put6 _ _ _ _ _ _)⟩ ?_
    (try simp only [Act.put, List.setIfInBounds_toArray, List.set_cons_zero, List.set_cons_succ])
    rintro yW2 _ ⟨z2, BS2⟩
    clear cS fS BS1
    have BR2 := BR1.rext z2 (by omega)
    replace T0 := (T0.rextFar z1 (fun hn x e => by have := lT0 hn x e; omega)).rextFar z2 (fun hn x e => by have := lT0 hn x e; omega)
    replace K0 := (K0.rextFar z1 (fun hn x e => by have := lK0 hn x e; omega)).rextFar z2 (fun hn x e => by have := lK0 hn x e; omega)
    replace S0 := (S0.rextFar z1 (fun hn x e => by have := lS0 hn x e; omega)).rextFar z2 (fun hn x e => by have := lS0 hn x e; omega)
    replace X0 := RExt.new (RExt.new X0 z1 (by omega)) z2 (by omega)
    refine ChX.nil ?_
    have cR := BR2.cells
    have cS := BS2.cells
    have zR := BR2.lt
    have zS := BS2.lt
    go_wp2
    refine' bodyPost_ret (v := _) ?_ rfl ?_
    rotate_left
    · (simp only [results, Tryz.results15]
       go_simp
       rfl)
    exact ⟨g, ⟨k, ⟨x1, y1⟩, ⟨x2, y2⟩, L⟩, ta, tn, tc, ka, kn, kc, sa, sn, sc, rfl, T0, K0, S0, (fun h x e => by have := lT0 h x e; omega), (fun h x e => by have := lK0 h x e; omega), (fun h x e => by have := lS0 h x e; omega), X0⟩
  · clear cBG fBG zBG cBP fBP cBR fBR zBR cBS fBS zBS
    have hBv : B < w4.heap.size := by omega
    go_wp2_with fail
    replace BG := BG.drew
    replace BP := BP.drew
    replace BR := BR.drew
    replace BS := BS.drew
    replace T0 := T0.drew
    replace K0 := K0.drew
    (try replace S0 := S0.drew)
    (try replace r0 := r0.drew)
    replace X0 := X0.drew
    have hdrS : ∀ W : World, W.drew.heap.size = W.heap.size := fun _ => rfl
    refine wp_region_eager (R := RX (fun i => i = B ∨ i = w.heap.size ∨ i = w.heap.size + 1)) [0, 1, 2, 3] (by kernel_rfl) (by kernel_rfl) (RX.refl _) (fun _ _ _ => RX.trans) ?_
    have hdrW := hdrS (w4)
    generalize (w4).drew = vD at *
    repeat' (first
      | (refine ChX.skip (by rfl) (by rfl) ?_
         (try simp only [Act.put, List.setIfInBounds_toArray, List.set_cons_zero, List.set_cons_succ]))
      | (refine' ChX.quiet (v := _) (by rfl) (by rfl) (by rfl) ?_ ?_
         rotate_left
         · (intro wS hS
            have cG := (BG.rx hS (by omega)).cells; have cP := (BP.rx hS (by omega)).cells
            go_simp
            with_reducible rfl)
         (try simp only [Act.put, List.setIfInBounds_toArray, List.set_cons_zero, List.set_cons_succ]))
      | (refine ChX.nil ?_)
      | (refine' ChX.guard (x := _) (by rfl) ?_ ?_ ?_
         rotate_left
         · (go_simp
            rfl)
         all_goals
           intro hg
           simp only [hg])
      | (refine' ChX.guardN (x := _) (by rfl) ?_ ?_ ?_
         rotate_left
         · (go_simp
            rfl)
         all_goals
           intro hg
           simp only [hg]))
    skip
    have cR := BR.cells
    have fR := BR.frozens
    refine ChX.storeP (fun W => RExt w.heap.size vD W ∧ Blk W w.heap.size 28 (#[.int .i64 g.net.base, .int .i64 g.net.bits, .int .i64 g.out, .slice ta tn tc, .slice ka kn kc, .int .i64 g.filter, .int .i64 g.hold, .int .i64 g.now])) (by rfl) (by rfl) (by rfl) ⟨_, (by go_simp; rfl), RX.of_rext (B := w.heap.size) (by repeat (first | (with_reducible exact RExt.refl _ _) | (with_reducible refine RExt.putc ?_ _ _))) (.inr (.inl rfl)), (by repeat (first | (with_reducible exact RExt.refl _ _) | (with_reducible refine RExt.putc ?_ _ _))), (by exact BR.put8 _ _ _ _ _ _ _ _)⟩ ?_
    (try simp only [Act.put, List.setIfInBounds_toArray, List.set_cons_zero, List.set_cons_succ])
    rintro yW1 _ ⟨z1, BR1⟩
    clear cR fR
    have BS1 := BS.rext z1 (by omega)
    have cS := BS1.cells
    have fS := BS1.frozens
    refine ChX.storeP (fun W => RExt (w.heap.size + 1) yW1 W ∧ Blk W (w.heap.size + 1) 33 #[.int .i64 k, .int .i64 fa, .int .i64 fp, .int .i64 ga, .int .i64 gp, .slice sa sn sc]) (by rfl) (by rfl) (by rfl) ⟨_, (by go_simp; rfl), RX.of_rext (B := w.heap.size + 1) (by repeat (first | (with_reducible exact RExt.refl _ _) | (with_reducible refine RExt.putc ?_ _ _))) (.inr (.inr rfl)), (by repeat (first | (with_reducible exact RExt.refl _ _) | (with_reducible refine RExt.putc ?_ _ _))), (by exact BS1.put6 _ _ _ _ _ _)⟩ ?_
    (try simp only [Act.put, List.setIfInBounds_toArray, List.set_cons_zero, List.set_cons_succ])
    rintro yW2 _ ⟨z2, BS2⟩
    clear cS fS BS1
    have BR2 := BR1.rext z2 (by omega)
    replace T0 := (T0.rextFar z1 (fun hn x e => by have := lT0 hn x e; omega)).rextFar z2 (fun hn x e => by have := lT0 hn x e; omega)
    replace K0 := (K0.rextFar z1 (fun hn x e => by have := lK0 hn x e; omega)).rextFar z2 (fun hn x e => by have := lK0 hn x e; omega)
    replace S0 := (S0.rextFar z1 (fun hn x e => by have := lS0 hn x e; omega)).rextFar z2 (fun hn x e => by have := lS0 hn x e; omega)
    replace X0 := RExt.new (RExt.new X0 z1 (by omega)) z2 (by omega)
    refine ChX.nil ?_
    have cR := BR2.cells
    have cS := BS2.cells
    have zR := BR2.lt
    have zS := BS2.lt
    go_wp2
    refine' bodyPost_ret (v := _) ?_ rfl ?_
    rotate_left
    · (simp only [results, Tryz.results15]
       go_simp
       rfl)
    exact ⟨g, ⟨k, ⟨fa, fp⟩, ⟨ga, gp⟩, L⟩, ta, tn, tc, ka, kn, kc, sa, sn, sc, rfl, T0, K0, S0, (fun h x e => by have := lT0 h x e; omega), (fun h x e => by have := lK0 h x e; omega), (fun h x e => by have := lS0 h x e; omega), X0⟩
set_option maxHeartbeats 1000000 in
theorem DrawReceiveIn_any (a : Option Addr) (n c : Nat) (w : World) (hc : Code w a n c) :
    Calls Tryz.prog 26 #[.slice a n c] w fun e w' => ∃ (g : GateD) (p : PktD) (ta : Option Addr) (tn tc : Nat) (ka : Option Addr) (kn kc : Nat) (a : Option Addr) (n c : Nat), e = .returned (.tuple #[.agg #[.int .i64 g.net.base, .int .i64 g.net.bits, .int .i64 g.out, .slice ta tn tc, .slice ka kn kc, .int .i64 g.filter, .int .i64 g.hold, .int .i64 g.now], .agg #[.int .i64 p.kind, .int .i64 p.fr.addr, .int .i64 p.fr.port, .int .i64 p.to_.addr, .int .i64 p.to_.port, .slice a n c]]) ∧
          Sl encM 4 w' ta tn tc g.table ∧ Sl encC 3 w' ka kn kc g.cons ∧ Sl encI 1 w' a n c p.data ∧ (0 < tn → ∀ x, ta = some x → w.heap.size ≤ x.block) ∧ (0 < kn → ∀ x, ka = some x → w.heap.size ≤ x.block) ∧ (0 < n → ∀ x, a = some x → w.heap.size ≤ x.block) ∧ Ext w w' := by
  obtain ⟨zs, hs, hz⟩ := hc
  go_enter Tryz.func26, Tryz.ntmps26
  go_wp2_with fail
  refine (newReader_any a n c zs _ (hs.ext (by repeat (first | (with_reducible exact Ext.refl _) | (with_reducible assumption) | (with_reducible refine Ext.alloc ?_ _) | (with_reducible refine Ext.drewN ?_ _) | (with_reducible refine Ext.drew ?_) | (with_reducible refine Ext.setCell ?_ ?_ _; rotate_left; (simp only []; omega)) | (with_reducible refine Ext.trans ?_ (by assumption))))) hz).mono ?_
  rintro e w1 ⟨B, rfl, hB, hr, hx⟩
  have hy1 := hx.size
  (try simp at hy1)
  (try simp at hB)
  have hBl := hr.lt
  have BR : Blk w1 w.heap.size 28 #[.int .i64 0, .int .i64 0, .int .i64 0, .slice none 0 0, .slice none 0 0, .int .i64 0, .int .i64 0, .int .i64 0] := by refine Blk.ext ?_ hx; exact (by repeat (first | (with_reducible assumption) | (with_reducible exact Blk.new _ _ _) | exact Blk.newAt _ _ _ (by simp) | (with_reducible refine Blk.alloc ?_ _) | (with_reducible refine Blk.drew ?_) | (with_reducible refine Blk.drewN ?_ _) | refine Blk.far ?_ (by simp only []; omega) _ | refine Blk.rext ?_ (by assumption) (by omega) | refine Blk.ext ?_ (by assumption)))
  have BS : Blk w1 (w.heap.size + 1) 33 #[.int .i64 0, .int .i64 0, .int .i64 0, .int .i64 0, .int .i64 0, .slice none 0 0] := by refine Blk.ext ?_ hx; exact (by repeat (first | (with_reducible assumption) | (with_reducible exact Blk.new _ _ _) | exact Blk.newAt _ _ _ (by simp) | (with_reducible refine Blk.alloc ?_ _) | (with_reducible refine Blk.drew ?_) | (with_reducible refine Blk.drewN ?_ _) | refine Blk.far ?_ (by simp only []; omega) _ | refine Blk.rext ?_ (by assumption) (by omega) | refine Blk.ext ?_ (by assumption)))
  have X0 : Ext w w1 := (by repeat (first | (with_reducible exact Ext.refl _) | (with_reducible assumption) | (with_reducible refine Ext.alloc ?_ _) | (with_reducible refine Ext.drewN ?_ _) | (with_reducible refine Ext.drew ?_) | (with_reducible refine Ext.setCell ?_ ?_ _; rotate_left; (simp only []; omega)) | (with_reducible refine Ext.trans ?_ (by assumption))))
  clear hx
  go_wp2_with fail
  refine (anyGate_any _ B _ _ hr (by omega)).mono ?_
  rintro e w2 ⟨g, ta, tn, tc, ka, kn, kc, rfl, T0, K0, _, hkn, _, _, fT, fK, q2, hx2⟩
  have hy2 := hx2.size
  (try simp at hy2)
  have BR : Blk w2 w.heap.size 28 (#[.int .i64 0, .int .i64 0, .int .i64 0, .slice none 0 0, .slice none 0 0, .int .i64 0, .int .i64 0, .int .i64 0]) := by refine Blk.rext ?_ hx2 (by omega); repeat (first | (with_reducible exact BR) | (with_reducible exact Blk.new _ _ _) | exact Blk.newAt _ _ _ (by simp) | (with_reducible refine Blk.alloc ?_ _) | (with_reducible refine Blk.drew ?_) | (with_reducible refine Blk.drewN ?_ _) | refine Blk.far ?_ (by simp only []; omega) _)
  have BS : Blk w2 (w.heap.size+1) 33 (#[.int .i64 0, .int .i64 0, .int .i64 0, .int .i64 0, .int .i64 0, .slice none 0 0]) := by refine Blk.rext ?_ hx2 (by omega); repeat (first | (with_reducible exact BS) | (with_reducible exact Blk.new _ _ _) | exact Blk.newAt _ _ _ (by simp) | (with_reducible refine Blk.alloc ?_ _) | (with_reducible refine Blk.drew ?_) | (with_reducible refine Blk.drewN ?_ _) | refine Blk.far ?_ (by simp only []; omega) _)
  have cBR := BR.cells
  have fBR := BR.frozens
  have zBR := BR.lt
  have cBS := BS.cells
  have fBS := BS.frozens
  have zBS := BS.lt
  have hKB : ∀ x, ka = some x → x.block ≠ B := fun x e => by have := fK x e; omega
  have lT0 : 0 < tn → ∀ x, ta = some x → w1.heap.size ≤ x.block ∧ x.block < w2.heap.size := fun h x e => ⟨fT x e, T0.lt h x e⟩
  have lK0 : 0 < kn → ∀ x, ka = some x → w1.heap.size ≤ x.block ∧ x.block < w2.heap.size := fun h x e => ⟨fK x e, K0.lt h x e⟩
  clear fT fK
  replace X0 : Ext w w2 := by refine RExt.new ?_ hx2 (by omega); exact (by repeat (first | (with_reducible exact Ext.refl _) | (with_reducible assumption) | (with_reducible refine Ext.alloc ?_ _) | (with_reducible refine Ext.drewN ?_ _) | (with_reducible refine Ext.drew ?_) | (with_reducible refine Ext.setCell ?_ ?_ _; rotate_left; (simp only []; omega)) | (with_reducible refine Ext.trans ?_ (by assumption))))
  clear cBR fBR zBR cBS fBS zBS
  go_wp2_with fail
  refine wp_gen (fun W => Ext w2 W ∧ Blk W w2.heap.size 28 (#[.int .i64 g.net.base, .int .i64 g.net.bits, .int .i64 g.out, .slice ta tn tc, .slice ka kn kc, .int .i64 g.filter, .int .i64 g.hold, .int .i64 g.now])) ⟨(by repeat (first | (with_reducible exact Ext.refl _) | (with_reducible assumption) | (with_reducible refine Ext.alloc ?_ _) | (with_reducible refine Ext.drewN ?_ _) | (with_reducible refine Ext.drew ?_) | (with_reducible refine Ext.setCell ?_ ?_ _; rotate_left; (simp only []; omega)) | (with_reducible refine Ext.trans ?_ (by assumption)))), (by repeat (first | (with_reducible assumption) | (with_reducible exact Blk.new _ _ _) | exact Blk.newAt _ _ _ (by simp) | (with_reducible refine Blk.alloc ?_ _) | (with_reducible refine Blk.drew ?_) | (with_reducible refine Blk.drewN ?_ _) | refine Blk.far ?_ (by simp only []; omega) _ | refine Blk.rext ?_ (by assumption) (by omega) | refine Blk.ext ?_ (by assumption)))⟩ ?_
  rintro v3 ⟨x3, BG⟩
  have hv2 := BG.lt
  replace BR := BR.ext x3
  replace BS := BS.ext x3
  replace T0 := T0.ext x3
  replace K0 := K0.ext x3
  replace X0 := X0.trans x3
  have := (x3).size
  have r0 := q2.ext x3
  clear x3 q2 hx2
  have BP := BG
  have hBv : B < v3.heap.size := by omega
  go_wp2_with fail
  replace BG := BG.drew
  replace BP := BP.drew
  replace BR := BR.drew
  replace BS := BS.drew
  replace T0 := T0.drew
  replace K0 := K0.drew
  (try replace S0 := S0.drew)
  (try replace r0 := r0.drew)
  replace X0 := X0.drew
  have hdrS : ∀ W : World, W.drew.heap.size = W.heap.size := fun _ => rfl
  refine wp_region_eager (R := RX (fun i => i = B ∨ i = w.heap.size ∨ i = w.heap.size + 1)) [0, 1, 2, 3, 4, 5] (by kernel_rfl) (by kernel_rfl) (RX.refl _) (fun _ _ _ => RX.trans) ?_
  have hdrW := hdrS (v3)
  generalize (v3).drew = vD at *
  repeat' (first
    | (refine ChX.skip (by rfl) (by rfl) ?_
       (try simp only [Act.put, List.setIfInBounds_toArray, List.set_cons_zero, List.set_cons_succ]))
    | (refine' ChX.quiet (v := _) (by rfl) (by rfl) (by rfl) ?_ ?_
       rotate_left
       · (intro wS hS
          have cG := (BG.rx hS (by omega)).cells; have cP := (BP.rx hS (by omega)).cells
          go_simp
          with_reducible rfl)
       (try simp only [Act.put, List.setIfInBounds_toArray, List.set_cons_zero, List.set_cons_succ]))
    | (refine ChX.nil ?_)
    | (refine' ChX.guard (x := _) (by rfl) ?_ ?_ ?_
       rotate_left
       · (go_simp
          rfl)
       all_goals
         intro hg
         simp only [hg])
    | (refine' ChX.guardN (x := _) (by rfl) ?_ ?_ ?_
       rotate_left
       · (go_simp
          rfl)
       all_goals
         intro hg
         simp only [hg]))
  skip
  refine ChX.call (by rfl) (by rfl) (by rfl) (by go_simp; (constructor <;> rfl)) ?_
  refine (inPacket_any _ B _ g ta tn tc ka kn kc vD r0 (by omega) K0 (by omega) hKB).mono ?_
  rintro e v8 ⟨p, sa, sn, sc, rfl, S0, _, fS, q8, h8⟩
  refine ⟨_, rfl, RX.of_rext h8 (.inl rfl), ?_⟩
  have lS0 : 0 < sn → ∀ x, sa = some x → vD.heap.size ≤ x.block ∧ x.block < v8.heap.size := fun h x e => ⟨fS x e, S0.lt h x e⟩
  (try simp only [Act.put, List.setIfInBounds_toArray, List.set_cons_zero, List.set_cons_succ])
  replace BG := BG.rext h8 (by omega)
  replace BR := BR.rext h8 (by omega)
  replace BS := BS.rext h8 (by omega)
  replace T0 := T0.rextFar h8 (fun hn x e => by have := lT0 hn x e; omega)
  replace K0 := K0.rextFar h8 (fun hn x e => by have := lK0 hn x e; omega)
  replace X0 := RExt.new X0 h8 (by omega)
  have := (h8).size
  clear h8 q8 fS
  have cR := BR.cells
  have fR := BR.frozens
  refine ChX.storeP (fun W => RExt w.heap.size v8 W ∧ Blk W w.heap.size 28 (#[.int .i64 g.net.base, .int .i64 g.net.bits, .int .i64 g.out, .slice ta tn tc, .slice ka kn kc, .int .i64 g.filter, .int .i64 g.hold, .int .i64 g.now])) (by rfl) (by rfl) (by rfl) ⟨_, (by go_simp; rfl), RX.of_rext (B := w.heap.size) (by repeat (first | (with_reducible exact RExt.refl _ _) | (with_reducible refine RExt.putc ?_ _ _))) (.inr (.inl rfl)), (by repeat (first | (with_reducible exact RExt.refl _ _) | (with_reducible refine RExt.putc ?_ _ _))), (by exact BR.put8 _ _ _ _ _ _ _ _)⟩ ?_
  (try simp only [Act.put, List.setIfInBounds_toArray, List.set_cons_zero, List.set_cons_succ])
  rintro yW1 _ ⟨z1, BR1⟩
  clear cR fR
  have BS1 := BS.rext z1 (by omega)
  have cS := BS1.cells
  have fS := BS1.frozens
  refine ChX.storeP (fun W => RExt (w.heap.size + 1) yW1 W ∧ Blk W (w.heap.size + 1) 33 (#[.int .i64 p.kind, .int .i64 p.fr.addr, .int .i64 p.fr.port, .int .i64 p.to_.addr, .int .i64 p.to_.port, .slice sa sn sc])) (by rfl) (by rfl) (by rfl) ⟨_, (by go_simp; rfl), RX.of_rext (B := w.heap.size + 1) (by repeat (first | (with_reducible exact RExt.refl _ _) | (with_reducible refine RExt.putc ?_ _ _))) (.inr (.inr rfl)), (by repeat (first | (with_reducible exact RExt.refl _ _) | (with_reducible refine RExt.putc ?_ _ _))), (by exact BS1.put6 _ _ _ _ _ _)⟩ ?_
  (try simp only [Act.put, List.setIfInBounds_toArray, List.set_cons_zero, List.set_cons_succ])
  rintro yW2 _ ⟨z2, BS2⟩
  clear cS fS BS1
  have BR2 := BR1.rext z2 (by omega)
  replace T0 := (T0.rextFar z1 (fun hn x e => by have := lT0 hn x e; omega)).rextFar z2 (fun hn x e => by have := lT0 hn x e; omega)
  replace K0 := (K0.rextFar z1 (fun hn x e => by have := lK0 hn x e; omega)).rextFar z2 (fun hn x e => by have := lK0 hn x e; omega)
  replace S0 := (S0.rextFar z1 (fun hn x e => by have := lS0 hn x e; omega)).rextFar z2 (fun hn x e => by have := lS0 hn x e; omega)
  replace X0 := RExt.new (RExt.new X0 z1 (by omega)) z2 (by omega)
  refine ChX.nil ?_
  have cR := BR2.cells
  have cS := BS2.cells
  have zR := BR2.lt
  have zS := BS2.lt
  go_wp2
  refine' bodyPost_ret (v := _) ?_ rfl ?_
  rotate_left
  · (simp only [results, Tryz.results26]
     go_simp
     rfl)
  exact ⟨g, p, ta, tn, tc, ka, kn, kc, sa, sn, sc, rfl, T0, K0, S0, (fun h x e => by have := lT0 h x e; omega), (fun h x e => by have := lK0 h x e; omega), (fun h x e => by have := lS0 h x e; omega), X0⟩
end Go.Proofs.YtppdcglnopoocaaGreat
/- Contracts of what is drawn: gates and packets, further. -/
namespace Go.Proofs.YtppdcglnopoocaaGreat
set_option linter.unusedVariables false
set_option linter.unusedSimpArgs false
open Go.RowKit

set_option maxHeartbeats 2000000 in
theorem DrawPassBetween_any (a : Option Addr) (n c : Nat) (w : World) (hc : Code w a n c) :
    Calls Tryz.prog 22 #[.slice a n c] w fun e w' => ∃ (g : GateD) (p : PktD) (ta : Option Addr) (tn tc : Nat) (ka : Option Addr) (kn kc : Nat) (a : Option Addr) (n c : Nat), e = .returned (.tuple #[.agg #[.int .i64 g.net.base, .int .i64 g.net.bits, .int .i64 g.out, .slice ta tn tc, .slice ka kn kc, .int .i64 g.filter, .int .i64 g.hold, .int .i64 g.now], .agg #[.int .i64 p.kind, .int .i64 p.fr.addr, .int .i64 p.fr.port, .int .i64 p.to_.addr, .int .i64 p.to_.port, .slice a n c]]) ∧
          Sl encM 4 w' ta tn tc g.table ∧ Sl encC 3 w' ka kn kc g.cons ∧ Sl encI 1 w' a n c p.data ∧ (0 < tn → ∀ x, ta = some x → w.heap.size ≤ x.block) ∧ (0 < kn → ∀ x, ka = some x → w.heap.size ≤ x.block) ∧ (0 < n → ∀ x, a = some x → w.heap.size ≤ x.block) ∧ Ext w w' := by
  obtain ⟨zs, hs, hz⟩ := hc
  go_enter Tryz.func22, Tryz.ntmps22
  go_wp2_with fail
  refine (newReader_any a n c zs _ (hs.ext (by repeat (first | (with_reducible exact Ext.refl _) | (with_reducible assumption) | (with_reducible refine Ext.alloc ?_ _) | (with_reducible refine Ext.drewN ?_ _) | (with_reducible refine Ext.drew ?_) | (with_reducible refine Ext.setCell ?_ ?_ _; rotate_left; (simp only []; omega)) | (with_reducible refine Ext.trans ?_ (by assumption))))) hz).mono ?_
  rintro e w1 ⟨B, rfl, hB, hr, hx⟩
  have hy1 := hx.size
  (try simp at hy1)
  (try simp at hB)
  have hBl := hr.lt
  have BR : Blk w1 w.heap.size 28 #[.int .i64 0, .int .i64 0, .int .i64 0, .slice none 0 0, .slice none 0 0, .int .i64 0, .int .i64 0, .int .i64 0] := by refine Blk.ext ?_ hx; exact (by repeat (first | (with_reducible assumption) | (with_reducible exact Blk.new _ _ _) | exact Blk.newAt _ _ _ (by simp) | (with_reducible refine Blk.alloc ?_ _) | (with_reducible refine Blk.drew ?_) | (with_reducible refine Blk.drewN ?_ _) | refine Blk.far ?_ (by simp only []; omega) _ | refine Blk.rext ?_ (by assumption) (by omega) | refine Blk.ext ?_ (by assumption)))
  have BS : Blk w1 (w.heap.size + 1) 33 #[.int .i64 0, .int .i64 0, .int .i64 0, .int .i64 0, .int .i64 0, .slice none 0 0] := by refine Blk.ext ?_ hx; exact (by repeat (first | (with_reducible assumption) | (with_reducible exact Blk.new _ _ _) | exact Blk.newAt _ _ _ (by simp) | (with_reducible refine Blk.alloc ?_ _) | (with_reducible refine Blk.drew ?_) | (with_reducible refine Blk.drewN ?_ _) | refine Blk.far ?_ (by simp only []; omega) _ | refine Blk.rext ?_ (by assumption) (by omega) | refine Blk.ext ?_ (by assumption)))
  have X0 : Ext w w1 := (by repeat (first | (with_reducible exact Ext.refl _) | (with_reducible assumption) | (with_reducible refine Ext.alloc ?_ _) | (with_reducible refine Ext.drewN ?_ _) | (with_reducible refine Ext.drew ?_) | (with_reducible refine Ext.setCell ?_ ?_ _; rotate_left; (simp only []; omega)) | (with_reducible refine Ext.trans ?_ (by assumption))))
  clear hx
  go_wp2_with fail
  refine (anyGate_any _ B _ _ hr (by omega)).mono ?_
  rintro e w2 ⟨g, ta, tn, tc, ka, kn, kc, rfl, T0, K0, _, _, _, _, fT, fK, q2, hx2⟩
  have hy2 := hx2.size
  (try simp at hy2)
  have BR : Blk w2 w.heap.size 28 (#[.int .i64 0, .int .i64 0, .int .i64 0, .slice none 0 0, .slice none 0 0, .int .i64 0, .int .i64 0, .int .i64 0]) := by refine Blk.rext ?_ hx2 (by omega); repeat (first | (with_reducible exact BR) | (with_reducible exact Blk.new _ _ _) | exact Blk.newAt _ _ _ (by simp) | (with_reducible refine Blk.alloc ?_ _) | (with_reducible refine Blk.drew ?_) | (with_reducible refine Blk.drewN ?_ _) | refine Blk.far ?_ (by simp only []; omega) _)
  have BS : Blk w2 (w.heap.size+1) 33 (#[.int .i64 0, .int .i64 0, .int .i64 0, .int .i64 0, .int .i64 0, .slice none 0 0]) := by refine Blk.rext ?_ hx2 (by omega); repeat (first | (with_reducible exact BS) | (with_reducible exact Blk.new _ _ _) | exact Blk.newAt _ _ _ (by simp) | (with_reducible refine Blk.alloc ?_ _) | (with_reducible refine Blk.drew ?_) | (with_reducible refine Blk.drewN ?_ _) | refine Blk.far ?_ (by simp only []; omega) _)
  have cBR := BR.cells
  have fBR := BR.frozens
  have zBR := BR.lt
  have cBS := BS.cells
  have fBS := BS.frozens
  have zBS := BS.lt
  have lT0 : 0 < tn → ∀ x, ta = some x → w1.heap.size ≤ x.block ∧ x.block < w2.heap.size := fun h x e => ⟨fT x e, T0.lt h x e⟩
  have lK0 : 0 < kn → ∀ x, ka = some x → w1.heap.size ≤ x.block ∧ x.block < w2.heap.size := fun h x e => ⟨fK x e, K0.lt h x e⟩
  clear fT fK
  replace X0 : Ext w w2 := by refine RExt.new ?_ hx2 (by omega); exact (by repeat (first | (with_reducible exact Ext.refl _) | (with_reducible assumption) | (with_reducible refine Ext.alloc ?_ _) | (with_reducible refine Ext.drewN ?_ _) | (with_reducible refine Ext.drew ?_) | (with_reducible refine Ext.setCell ?_ ?_ _; rotate_left; (simp only []; omega)) | (with_reducible refine Ext.trans ?_ (by assumption))))
  go_wp2_with fail
  refine (somePacket_any _ B _ _ (by exact q2.to (by repeat (first | (with_reducible exact Since.refl q2.le) | (with_reducible refine Since.alloc ?_ _) | (with_reducible refine Since.drew ?_) | (with_reducible refine Since.drewN ?_ _) | (with_reducible refine Since.setCell ?_ ?_ _; rotate_left; (simp only []; omega)) | (with_reducible refine Since.ext ?_ (by assumption))))) (by omega)).mono ?_
  rintro e w3 ⟨k, fa, fp, ga, gp, sa, sn, sc, L, rfl, S0, _, fS, q3, hx3⟩
  have hy3 := hx3.size
  (try simp at hy3)
  clear cBR fBR zBR
  clear cBS fBS zBS
  replace BR : Blk w3 w.heap.size 28 (#[.int .i64 0, .int .i64 0, .int .i64 0, .slice none 0 0, .slice none 0 0, .int .i64 0, .int .i64 0, .int .i64 0]) := by refine Blk.rext ?_ hx3 (by omega); repeat (first | (with_reducible exact BR) | (with_reducible exact Blk.new _ _ _) | exact Blk.newAt _ _ _ (by simp) | (with_reducible refine Blk.alloc ?_ _) | (with_reducible refine Blk.drew ?_) | (with_reducible refine Blk.drewN ?_ _) | refine Blk.far ?_ (by simp only []; omega) _)
  replace BS : Blk w3 (w.heap.size+1) 33 (#[.int .i64 0, .int .i64 0, .int .i64 0, .int .i64 0, .int .i64 0, .slice none 0 0]) := by refine Blk.rext ?_ hx3 (by omega); repeat (first | (with_reducible exact BS) | (with_reducible exact Blk.new _ _ _) | exact Blk.newAt _ _ _ (by simp) | (with_reducible refine Blk.alloc ?_ _) | (with_reducible refine Blk.drew ?_) | (with_reducible refine Blk.drewN ?_ _) | refine Blk.far ?_ (by simp only []; omega) _)
  have BG : Blk w3 w2.heap.size 28 (#[.int .i64 g.net.base, .int .i64 g.net.bits, .int .i64 g.out, .slice ta tn tc, .slice ka kn kc, .int .i64 g.filter, .int .i64 g.hold, .int .i64 g.now]) := by refine Blk.rext ?_ hx3 (by omega); repeat (first | (with_reducible exact BG) | (with_reducible exact Blk.new _ _ _) | exact Blk.newAt _ _ _ (by simp) | (with_reducible refine Blk.alloc ?_ _) | (with_reducible refine Blk.drew ?_) | (with_reducible refine Blk.drewN ?_ _) | refine Blk.far ?_ (by simp only []; omega) _)
  replace T0 : Sl encM 4 w3 ta tn tc g.table := by refine Sl.rextFar ?_ hx3 (fun hn x e => by have := lT0 hn x e; omega); repeat (first | (with_reducible exact T0) | (with_reducible refine Sl.alloc ?_ _) | (with_reducible refine Sl.drew ?_) | (with_reducible refine Sl.drewN ?_ _) | refine Sl.setFar ?_ (fun hn x e => by have := lT0 hn x e; simp only []; omega) _)
  replace K0 : Sl encC 3 w3 ka kn kc g.cons := by refine Sl.rextFar ?_ hx3 (fun hn x e => by have := lK0 hn x e; omega); repeat (first | (with_reducible exact K0) | (with_reducible refine Sl.alloc ?_ _) | (with_reducible refine Sl.drew ?_) | (with_reducible refine Sl.drewN ?_ _) | refine Sl.setFar ?_ (fun hn x e => by have := lK0 hn x e; simp only []; omega) _)
  have cBR := BR.cells
  have fBR := BR.frozens
  have zBR := BR.lt
  have cBS := BS.cells
  have fBS := BS.frozens
  have zBS := BS.lt
  have cBG := BG.cells
  have fBG := BG.frozens
  have zBG := BG.lt
  replace X0 : Ext w w3 := by refine RExt.new ?_ hx3 (by omega); exact (by repeat (first | (with_reducible exact Ext.refl _) | (with_reducible assumption) | (with_reducible refine Ext.alloc ?_ _) | (with_reducible refine Ext.drewN ?_ _) | (with_reducible refine Ext.drew ?_) | (with_reducible refine Ext.setCell ?_ ?_ _; rotate_left; (simp only []; omega)) | (with_reducible refine Ext.trans ?_ (by assumption))))
  have lS0 : 0 < sn → ∀ x, sa = some x → w2.heap.size < x.block ∧ x.block < w3.heap.size := fun h x e => ⟨by have h := fS x e; simp at h; omega, S0.lt h x e⟩
  clear fS
  go_wp2_with fail
  refine (insideEnd_any _ B _ _ (by exact q3.to (by repeat (first | (with_reducible exact Since.refl q3.le) | (with_reducible refine Since.alloc ?_ _) | (with_reducible refine Since.drew ?_) | (with_reducible refine Since.drewN ?_ _) | (with_reducible refine Since.setCell ?_ ?_ _; rotate_left; (simp only []; omega)) | (with_reducible refine Since.ext ?_ (by assumption))))) (by omega)).mono ?_
  rintro e w4 ⟨x1, y1, rfl, _, _, _, _, q4, hx4⟩
  have hy4 := hx4.size
  (try simp at hy4)
  clear cBR fBR zBR
  clear cBS fBS zBS
  clear cBG fBG zBG
  replace BR : Blk w4 w.heap.size 28 (#[.int .i64 0, .int .i64 0, .int .i64 0, .slice none 0 0, .slice none 0 0, .int .i64 0, .int .i64 0, .int .i64 0]) := by refine Blk.rext ?_ hx4 (by omega); repeat (first | (with_reducible exact BR) | (with_reducible exact Blk.new _ _ _) | exact Blk.newAt _ _ _ (by simp) | (with_reducible refine Blk.alloc ?_ _) | (with_reducible refine Blk.drew ?_) | (with_reducible refine Blk.drewN ?_ _) | refine Blk.far ?_ (by simp only []; omega) _)
  replace BS : Blk w4 (w.heap.size+1) 33 (#[.int .i64 0, .int .i64 0, .int .i64 0, .int .i64 0, .int .i64 0, .slice none 0 0]) := by refine Blk.rext ?_ hx4 (by omega); repeat (first | (with_reducible exact BS) | (with_reducible exact Blk.new _ _ _) | exact Blk.newAt _ _ _ (by simp) | (with_reducible refine Blk.alloc ?_ _) | (with_reducible refine Blk.drew ?_) | (with_reducible refine Blk.drewN ?_ _) | refine Blk.far ?_ (by simp only []; omega) _)
  replace BG : Blk w4 w2.heap.size 28 (#[.int .i64 g.net.base, .int .i64 g.net.bits, .int .i64 g.out, .slice ta tn tc, .slice ka kn kc, .int .i64 g.filter, .int .i64 g.hold, .int .i64 g.now]) := by refine Blk.rext ?_ hx4 (by omega); repeat (first | (with_reducible exact BG) | (with_reducible exact Blk.new _ _ _) | exact Blk.newAt _ _ _ (by simp) | (with_reducible refine Blk.alloc ?_ _) | (with_reducible refine Blk.drew ?_) | (with_reducible refine Blk.drewN ?_ _) | refine Blk.far ?_ (by simp only []; omega) _)
  have BP : Blk w4 w3.heap.size 33 (#[.int .i64 k, .int .i64 fa, .int .i64 fp, .int .i64 ga, .int .i64 gp, .slice sa sn sc]) := by refine Blk.rext ?_ hx4 (by omega); repeat (first | (with_reducible exact BP) | (with_reducible exact Blk.new _ _ _) | exact Blk.newAt _ _ _ (by simp) | (with_reducible refine Blk.alloc ?_ _) | (with_reducible refine Blk.drew ?_) | (with_reducible refine Blk.drewN ?_ _) | refine Blk.far ?_ (by simp only []; omega) _)
  replace T0 : Sl encM 4 w4 ta tn tc g.table := by refine Sl.rextFar ?_ hx4 (fun hn x e => by have := lT0 hn x e; omega); repeat (first | (with_reducible exact T0) | (with_reducible refine Sl.alloc ?_ _) | (with_reducible refine Sl.drew ?_) | (with_reducible refine Sl.drewN ?_ _) | refine Sl.setFar ?_ (fun hn x e => by have := lT0 hn x e; simp only []; omega) _)
  replace K0 : Sl encC 3 w4 ka kn kc g.cons := by refine Sl.rextFar ?_ hx4 (fun hn x e => by have := lK0 hn x e; omega); repeat (first | (with_reducible exact K0) | (with_reducible refine Sl.alloc ?_ _) | (with_reducible refine Sl.drew ?_) | (with_reducible refine Sl.drewN ?_ _) | refine Sl.setFar ?_ (fun hn x e => by have := lK0 hn x e; simp only []; omega) _)
  replace S0 : Sl encI 1 w4 sa sn sc L := by refine Sl.rextFar ?_ hx4 (fun hn x e => by have := lS0 hn x e; omega); repeat (first | (with_reducible exact S0) | (with_reducible refine Sl.alloc ?_ _) | (with_reducible refine Sl.drew ?_) | (with_reducible refine Sl.drewN ?_ _) | refine Sl.setFar ?_ (fun hn x e => by have := lS0 hn x e; simp only []; omega) _)
  have cBR := BR.cells
  have fBR := BR.frozens
  have zBR := BR.lt
  have cBS := BS.cells
  have fBS := BS.frozens
  have zBS := BS.lt
  have cBG := BG.cells
  have fBG := BG.frozens
  have zBG := BG.lt
  have cBP := BP.cells
  have fBP := BP.frozens
  have zBP := BP.lt
  replace X0 : Ext w w4 := by refine RExt.new ?_ hx4 (by omega); exact (by repeat (first | (with_reducible exact Ext.refl _) | (with_reducible assumption) | (with_reducible refine Ext.alloc ?_ _) | (with_reducible refine Ext.drewN ?_ _) | (with_reducible refine Ext.drew ?_) | (with_reducible refine Ext.setCell ?_ ?_ _; rotate_left; (simp only []; omega)) | (with_reducible refine Ext.trans ?_ (by assumption))))
  clear hx2 hx3 hx4 q2 q3 hr
  have hPG : w2.heap.size < w3.heap.size := by omega
  have hPw : w3.heap.size < w4.heap.size := by omega
  go_wp2_with fail
  refine wp_gen (fun W => RExt w3.heap.size w4 W ∧ Blk W w3.heap.size 33 #[.int .i64 k, .int .i64 x1, .int .i64 y1, .int .i64 ga, .int .i64 gp, .slice sa sn sc]) ⟨(by repeat (first | (with_reducible exact RExt.refl _ _) | (with_reducible refine RExt.putc ?_ _ _))), by simpa using (BP.set 1 (.int .i64 x1)).set 2 (.int .i64 y1)⟩ ?_
  rintro w5 ⟨x5, BP5⟩
  clear cBG fBG zBG cBP fBP zBP cBR fBR zBR cBS fBS zBS BP
  have BP := BP5
  replace BG := BG.rext x5 (by omega)
  replace BR := BR.rext x5 (by omega)
  replace BS := BS.rext x5 (by omega)
  replace T0 := T0.rextFar x5 (fun hn x e => by have := lT0 hn x e; omega)
  replace K0 := K0.rextFar x5 (fun hn x e => by have := lK0 hn x e; omega)
  replace S0 := S0.rextFar x5 (fun hn x e => by have := lS0 hn x e; omega)
  replace X0 := RExt.new X0 x5 (by omega)
  have := (x5).size
  have r0 := q4.rextNew x5 (by omega)
  clear x5 q4 BP5
  replace BG := BG.drew
  replace BP := BP.drew
  replace BR := BR.drew
  replace BS := BS.drew
  replace T0 := T0.drew
  replace K0 := K0.drew
  replace S0 := S0.drew
  replace X0 := X0.drew
  replace r0 := r0.drew
  have hBv : B < w5.heap.size := by omega
  have hdrS : ∀ W : World, W.drew.heap.size = W.heap.size := fun _ => rfl
  refine wp_region_float (R := RExt B) (base := (w5).heap.size) (Ts := []) [0, 1, 2, 3, 4, 5, 6, 7] (by kernel_rfl) (by kernel_rfl) (RExt.refl B) (fun _ _ _ => RExt.trans) (fun _ _ h => RExt.of_ext h B) (fun _ _ h => h.size) (fun _ _ b _ _ hb hB hR => hB.rext hR (by omega)) (by intro x hx; simp only [List.mem_cons, List.not_mem_nil, or_false] at hx; skip; all_goals (intro wS; kernel_rfl)) (by omega) ?_
  have hdrW := hdrS (w5)
  repeat' (first
    | (refine' ChF.pure (v := _) (by rfl) (by rfl) (by rfl) ?_ ?_
       rotate_left
       · (intro wS
          go_simp
          with_reducible rfl)
       (try simp only [Act.put, List.setIfInBounds_toArray, List.set_cons_zero, List.set_cons_succ]))
    | (refine' ChF.quiet (v := _) (by rfl) (by rfl) (by rfl) (by rfl) ?_ ?_
       rotate_left
       · (intro wS hS
          have cS := (BG.rext hS (by omega)).cells
          go_simp
          with_reducible rfl)
       (try simp only [Act.put, List.setIfInBounds_toArray, List.set_cons_zero, List.set_cons_succ]))
    | fail)
  refine ChF.call (by rfl) (by rfl) (by rfl) (by rfl) (by rfl) (by intro wS; go_simp; (constructor <;> rfl)) ?_
  intro u5 eu5
  replace BG := BG.ext eu5
  replace BP := BP.ext eu5
  replace S0 := S0.ext eu5
  replace r0 := r0.ext eu5
  replace BR := BR.ext eu5
  replace BS := BS.ext eu5
  replace T0 := T0.ext eu5
  replace K0 := K0.ext eu5
  replace X0 := X0.trans eu5
  have := (eu5).size
  clear eu5
  refine (pick_any _ B _ 6 u5 r0 (by omega) (by omega) (by omega)).mono ?_
  rintro e v5 ⟨px, rfl, px0, px1, q5, h5⟩
  refine ⟨_, rfl, h5, ?_⟩
  (try simp only [Act.put, List.setIfInBounds_toArray, List.set_cons_zero, List.set_cons_succ])
  replace BP := BP.rext h5 (by omega)
  replace S0 := S0.rextFar h5 (fun hn x e => by have := lS0 hn x e; omega)
  replace BG := BG.rext h5 (by omega)
  replace BR := BR.rext h5 (by omega)
  replace BS := BS.rext h5 (by omega)
  replace T0 := T0.rextFar h5 (fun hn x e => by have := lT0 hn x e; omega)
  replace K0 := K0.rextFar h5 (fun hn x e => by have := lK0 hn x e; omega)
  replace X0 := RExt.new X0 h5 (by omega)
  have := (h5).size
  replace r0 := q5
  clear q5 h5
  have hwr : IntKind.i64.wrap (1000 + px) = 1000 + px := IntWalk.i64_in _ (by omega)
  have cBP := BP.cells
  have fBP := BP.frozens
  repeat' (first
    | (refine' ChF.pure (v := _) (by rfl) (by rfl) (by rfl) ?_ ?_
       rotate_left
       · (intro wS
          go_simp
          with_reducible rfl)
       (try simp only [Act.put, List.setIfInBounds_toArray, List.set_cons_zero, List.set_cons_succ]))
    | (refine' ChF.quiet (v := _) (by rfl) (by rfl) (by rfl) (by rfl) ?_ ?_
       rotate_left
       · (intro wS hS
          skip
          go_simp
          with_reducible rfl)
       (try simp only [Act.put, List.setIfInBounds_toArray, List.set_cons_zero, List.set_cons_succ]))
    | fail)
  refine ChF.storeP (fun W => RExt w3.heap.size v5 W ∧ Blk W w3.heap.size 33 #[.int .i64 k, .int .i64 x1, .int .i64 y1, .int .i64 g.out, .int .i64 (1000 + px), .slice sa sn sc]) (by rfl) (by rfl) (by rfl) ⟨_, (by go_simp; rfl), (by simp [World.setCell]), (by repeat (first | (with_reducible exact RExt.refl _ _) | (with_reducible refine RExt.putc ?_ _ _))), (by simpa using (BP.set 3 (.int .i64 g.out)).set 4 (.int .i64 (1000 + px)))⟩ ?_
  (try simp only [Act.put, List.setIfInBounds_toArray, List.set_cons_zero, List.set_cons_succ])
  clear hwr cBP fBP BP
  rintro w6 s6 ⟨x6, BP⟩
  replace BG := BG.rext x6 (by omega)
  replace BR := BR.rext x6 (by omega)
  replace BS := BS.rext x6 (by omega)
  replace T0 := T0.rextFar x6 (fun hn x e => by have := lT0 hn x e; omega)
  replace K0 := K0.rextFar x6 (fun hn x e => by have := lK0 hn x e; omega)
  replace S0 := S0.rextFar x6 (fun hn x e => by have := lS0 hn x e; omega)
  replace X0 := RExt.new X0 x6 (by omega)
  have := (x6).size
  replace r0 := r0.rextNew x6 (by omega)
  clear x6
  refine ChF.nil ?_
  have zBG := BG.lt
  have zBP := BP.lt
  have cBG := BG.cells
  have fBG := BG.frozens
  have cBP := BP.cells
  have fBP := BP.frozens
  have cBR := BR.cells
  have fBR := BR.frozens
  have zBR := BR.lt
  have cBS := BS.cells
  have fBS := BS.frozens
  have zBS := BS.lt
  go_wp2_with fail
  refine (pick_any _ B _ 3 _ r0 (by omega) (by omega) (by omega)).mono ?_
  rintro e w7 ⟨d, rfl, d0, d1, q7, hx7⟩
  have hy7 := hx7.size
  (try simp at hy7)
  clear cBR fBR zBR
  clear cBS fBS zBS
  clear cBG fBG zBG
  clear cBP fBP zBP
  replace BR : Blk w7 w.heap.size 28 (#[.int .i64 0, .int .i64 0, .int .i64 0, .slice none 0 0, .slice none 0 0, .int .i64 0, .int .i64 0, .int .i64 0]) := by refine Blk.rext ?_ hx7 (by omega); repeat (first | (with_reducible exact BR) | (with_reducible exact Blk.new _ _ _) | exact Blk.newAt _ _ _ (by simp) | (with_reducible refine Blk.alloc ?_ _) | (with_reducible refine Blk.drew ?_) | (with_reducible refine Blk.drewN ?_ _) | refine Blk.far ?_ (by simp only []; omega) _)
  replace BS : Blk w7 (w.heap.size+1) 33 (#[.int .i64 0, .int .i64 0, .int .i64 0, .int .i64 0, .int .i64 0, .slice none 0 0]) := by refine Blk.rext ?_ hx7 (by omega); repeat (first | (with_reducible exact BS) | (with_reducible exact Blk.new _ _ _) | exact Blk.newAt _ _ _ (by simp) | (with_reducible refine Blk.alloc ?_ _) | (with_reducible refine Blk.drew ?_) | (with_reducible refine Blk.drewN ?_ _) | refine Blk.far ?_ (by simp only []; omega) _)
  replace BG : Blk w7 w2.heap.size 28 (#[.int .i64 g.net.base, .int .i64 g.net.bits, .int .i64 g.out, .slice ta tn tc, .slice ka kn kc, .int .i64 g.filter, .int .i64 g.hold, .int .i64 g.now]) := by refine Blk.rext ?_ hx7 (by omega); repeat (first | (with_reducible exact BG) | (with_reducible exact Blk.new _ _ _) | exact Blk.newAt _ _ _ (by simp) | (with_reducible refine Blk.alloc ?_ _) | (with_reducible refine Blk.drew ?_) | (with_reducible refine Blk.drewN ?_ _) | refine Blk.far ?_ (by simp only []; omega) _)
  replace BP : Blk w7 w3.heap.size 33 (#[.int .i64 k, .int .i64 x1, .int .i64 y1, .int .i64 g.out, .int .i64 (1000 + px), .slice sa sn sc]) := by refine Blk.rext ?_ hx7 (by omega); repeat (first | (with_reducible exact BP) | (with_reducible exact Blk.new _ _ _) | exact Blk.newAt _ _ _ (by simp) | (with_reducible refine Blk.alloc ?_ _) | (with_reducible refine Blk.drew ?_) | (with_reducible refine Blk.drewN ?_ _) | refine Blk.far ?_ (by simp only []; omega) _)
  replace T0 : Sl encM 4 w7 ta tn tc g.table := by refine Sl.rextFar ?_ hx7 (fun hn x e => by have := lT0 hn x e; omega); repeat (first | (with_reducible exact T0) | (with_reducible refine Sl.alloc ?_ _) | (with_reducible refine Sl.drew ?_) | (with_reducible refine Sl.drewN ?_ _) | refine Sl.setFar ?_ (fun hn x e => by have := lT0 hn x e; simp only []; omega) _)
  replace K0 : Sl encC 3 w7 ka kn kc g.cons := by refine Sl.rextFar ?_ hx7 (fun hn x e => by have := lK0 hn x e; omega); repeat (first | (with_reducible exact K0) | (with_reducible refine Sl.alloc ?_ _) | (with_reducible refine Sl.drew ?_) | (with_reducible refine Sl.drewN ?_ _) | refine Sl.setFar ?_ (fun hn x e => by have := lK0 hn x e; simp only []; omega) _)
  replace S0 : Sl encI 1 w7 sa sn sc L := by refine Sl.rextFar ?_ hx7 (fun hn x e => by have := lS0 hn x e; omega); repeat (first | (with_reducible exact S0) | (with_reducible refine Sl.alloc ?_ _) | (with_reducible refine Sl.drew ?_) | (with_reducible refine Sl.drewN ?_ _) | refine Sl.setFar ?_ (fun hn x e => by have := lS0 hn x e; simp only []; omega) _)
  have cBR := BR.cells
  have fBR := BR.frozens
  have zBR := BR.lt
  have cBS := BS.cells
  have fBS := BS.frozens
  have zBS := BS.lt
  have cBG := BG.cells
  have fBG := BG.frozens
  have zBG := BG.lt
  have cBP := BP.cells
  have fBP := BP.frozens
  have zBP := BP.lt
  replace X0 : Ext w w7 := by refine RExt.new ?_ hx7 (by omega); exact (by repeat (first | (with_reducible exact Ext.refl _) | (with_reducible assumption) | (with_reducible refine Ext.alloc ?_ _) | (with_reducible refine Ext.drewN ?_ _) | (with_reducible refine Ext.drew ?_) | (with_reducible refine Ext.setCell ?_ ?_ _; rotate_left; (simp only []; omega)) | (with_reducible refine Ext.trans ?_ (by assumption))))
  clear hx7 r0
  by_cases e0 : d = 0
  · subst e0
    go_wp2_with fail
    refine (pick_any _ B _ 12 _ (by exact q7.to (by repeat (first | (with_reducible exact Since.refl q7.le) | (with_reducible refine Since.alloc ?_ _) | (with_reducible refine Since.drew ?_) | (with_reducible refine Since.drewN ?_ _) | (with_reducible refine Since.setCell ?_ ?_ _; rotate_left; (simp only []; omega)) | (with_reducible refine Since.ext ?_ (by assumption))))) (by omega) (by omega) (by omega)).mono ?_
    rintro e w8 ⟨f, rfl, f0, f1, q8, hx8⟩
    have hy8 := hx8.size
    (try simp at hy8)
    clear cBR fBR zBR
    clear cBS fBS zBS
    clear cBG fBG zBG
    clear cBP fBP zBP
    replace BR : Blk w8 w.heap.size 28 (#[.int .i64 0, .int .i64 0, .int .i64 0, .slice none 0 0, .slice none 0 0, .int .i64 0, .int .i64 0, .int .i64 0]) := by refine Blk.rext ?_ hx8 (by omega); repeat (first | (with_reducible exact BR) | (with_reducible exact Blk.new _ _ _) | exact Blk.newAt _ _ _ (by simp) | (with_reducible refine Blk.alloc ?_ _) | (with_reducible refine Blk.drew ?_) | (with_reducible refine Blk.drewN ?_ _) | refine Blk.far ?_ (by simp only []; omega) _)
    replace BS : Blk w8 (w.heap.size+1) 33 (#[.int .i64 0, .int .i64 0, .int .i64 0, .int .i64 0, .int .i64 0, .slice none 0 0]) := by refine Blk.rext ?_ hx8 (by omega); repeat (first | (with_reducible exact BS) | (with_reducible exact Blk.new _ _ _) | exact Blk.newAt _ _ _ (by simp) | (with_reducible refine Blk.alloc ?_ _) | (with_reducible refine Blk.drew ?_) | (with_reducible refine Blk.drewN ?_ _) | refine Blk.far ?_ (by simp only []; omega) _)
    replace BG : Blk w8 w2.heap.size 28 (#[.int .i64 g.net.base, .int .i64 g.net.bits, .int .i64 g.out, .slice ta tn tc, .slice ka kn kc, .int .i64 0, .int .i64 g.hold, .int .i64 g.now]) := by refine Blk.rext ?_ hx8 (by omega); repeat (first | (exact (show Blk _ w2.heap.size 28 (#[.int .i64 g.net.base, .int .i64 g.net.bits, .int .i64 g.out, .slice ta tn tc, .slice ka kn kc, .int .i64 0, .int .i64 g.hold, .int .i64 g.now]) from by simpa using (BG.set 5 (.int .i64 0)))) | (with_reducible exact Blk.new _ _ _) | exact Blk.newAt _ _ _ (by simp) | (with_reducible refine Blk.alloc ?_ _) | (with_reducible refine Blk.drew ?_) | (with_reducible refine Blk.drewN ?_ _) | refine Blk.far ?_ (by simp only []; omega) _)
    replace BP : Blk w8 w3.heap.size 33 (#[.int .i64 k, .int .i64 x1, .int .i64 y1, .int .i64 g.out, .int .i64 (1000 + px), .slice sa sn sc]) := by refine Blk.rext ?_ hx8 (by omega); repeat (first | (with_reducible exact BP) | (with_reducible exact Blk.new _ _ _) | exact Blk.newAt _ _ _ (by simp) | (with_reducible refine Blk.alloc ?_ _) | (with_reducible refine Blk.drew ?_) | (with_reducible refine Blk.drewN ?_ _) | refine Blk.far ?_ (by simp only []; omega) _)
    replace T0 : Sl encM 4 w8 ta tn tc g.table := by refine Sl.rextFar ?_ hx8 (fun hn x e => by have := lT0 hn x e; omega); repeat (first | (with_reducible exact T0) | (with_reducible refine Sl.alloc ?_ _) | (with_reducible refine Sl.drew ?_) | (with_reducible refine Sl.drewN ?_ _) | refine Sl.setFar ?_ (fun hn x e => by have := lT0 hn x e; simp only []; omega) _)
    replace K0 : Sl encC 3 w8 ka kn kc g.cons := by refine Sl.rextFar ?_ hx8 (fun hn x e => by have := lK0 hn x e; omega); repeat (first | (with_reducible exact K0) | (with_reducible refine Sl.alloc ?_ _) | (with_reducible refine Sl.drew ?_) | (with_reducible refine Sl.drewN ?_ _) | refine Sl.setFar ?_ (fun hn x e => by have := lK0 hn x e; simp only []; omega) _)
    replace S0 : Sl encI 1 w8 sa sn sc L := by refine Sl.rextFar ?_ hx8 (fun hn x e => by have := lS0 hn x e; omega); repeat (first | (with_reducible exact S0) | (with_reducible refine Sl.alloc ?_ _) | (with_reducible refine Sl.drew ?_) | (with_reducible refine Sl.drewN ?_ _) | refine Sl.setFar ?_ (fun hn x e => by have := lS0 hn x e; simp only []; omega) _)
    have cBR := BR.cells
    have fBR := BR.frozens
    have zBR := BR.lt
    have cBS := BS.cells
    have fBS := BS.frozens
    have zBS := BS.lt
    have cBG := BG.cells
    have fBG := BG.frozens
    have zBG := BG.lt
    have cBP := BP.cells
    have fBP := BP.frozens
    have zBP := BP.lt
    replace X0 : Ext w w8 := by refine RExt.new ?_ hx8 (by omega); exact (by repeat (first | (with_reducible exact Ext.refl _) | (with_reducible assumption) | (with_reducible refine Ext.alloc ?_ _) | (with_reducible refine Ext.drewN ?_ _) | (with_reducible refine Ext.drew ?_) | (with_reducible refine Ext.setCell ?_ ?_ _; rotate_left; (simp only []; omega)) | (with_reducible refine Ext.trans ?_ (by assumption))))
    clear hx8 q7
    obtain ⟨g2, hg2⟩ : ∃ g2 : GateD, g2 = { g with filter := 0 } := ⟨_, rfl⟩
    replace BG : Blk w8 w2.heap.size 28 (#[.int .i64 g2.net.base, .int .i64 g2.net.bits, .int .i64 g2.out, .slice ta tn tc, .slice ka kn kc, .int .i64 g2.filter, .int .i64 g2.hold, .int .i64 g2.now]) := by rw [hg2]; exact BG
    replace T0 : Sl encM 4 w8 ta tn tc g2.table := by rw [hg2]; exact T0
    replace K0 : Sl encC 3 w8 ka kn kc g2.cons := by rw [hg2]; exact K0
    clear hg2
    by_cases e1 : f = 0
    · subst e1
      go_wp2_with fail
      refine (anyPacket_any _ B _ _ (by exact q8.to (by repeat (first | (with_reducible exact Since.refl q8.le) | (with_reducible refine Since.alloc ?_ _) | (with_reducible refine Since.drew ?_) | (with_reducible refine Since.drewN ?_ _) | (with_reducible refine Since.setCell ?_ ?_ _; rotate_left; (simp only []; omega)) | (with_reducible refine Since.ext ?_ (by assumption))))) (by omega)).mono ?_
      rintro e w9 ⟨k', fa', fp', ga', gp', sb, sm, sd, L', rfl, S1, _, fS, q9, hx9⟩
      have hy9 := hx9.size
      (try simp at hy9)
      clear cBR fBR zBR
      clear cBS fBS zBS
      clear cBG fBG zBG
      clear cBP fBP zBP
      replace BR : Blk w9 w.heap.size 28 (#[.int .i64 0, .int .i64 0, .int .i64 0, .slice none 0 0, .slice none 0 0, .int .i64 0, .int .i64 0, .int .i64 0]) := by refine Blk.rext ?_ hx9 (by omega); repeat (first | (with_reducible exact BR) | (with_reducible exact Blk.new _ _ _) | exact Blk.newAt _ _ _ (by simp) | (with_reducible refine Blk.alloc ?_ _) | (with_reducible refine Blk.drew ?_) | (with_reducible refine Blk.drewN ?_ _) | refine Blk.far ?_ (by simp only []; omega) _)
      replace BS : Blk w9 (w.heap.size+1) 33 (#[.int .i64 0, .int .i64 0, .int .i64 0, .int .i64 0, .int .i64 0, .slice none 0 0]) := by refine Blk.rext ?_ hx9 (by omega); repeat (first | (with_reducible exact BS) | (with_reducible exact Blk.new _ _ _) | exact Blk.newAt _ _ _ (by simp) | (with_reducible refine Blk.alloc ?_ _) | (with_reducible refine Blk.drew ?_) | (with_reducible refine Blk.drewN ?_ _) | refine Blk.far ?_ (by simp only []; omega) _)
      replace BG : Blk w9 w2.heap.size 28 (#[.int .i64 g2.net.base, .int .i64 g2.net.bits, .int .i64 g2.out, .slice ta tn tc, .slice ka kn kc, .int .i64 g2.filter, .int .i64 g2.hold, .int .i64 g2.now]) := by refine Blk.rext ?_ hx9 (by omega); repeat (first | (with_reducible exact BG) | (with_reducible exact Blk.new _ _ _) | exact Blk.newAt _ _ _ (by simp) | (with_reducible refine Blk.alloc ?_ _) | (with_reducible refine Blk.drew ?_) | (with_reducible refine Blk.drewN ?_ _) | refine Blk.far ?_ (by simp only []; omega) _)
      replace BP : Blk w9 w3.heap.size 33 (#[.int .i64 k, .int .i64 x1, .int .i64 y1, .int .i64 g.out, .int .i64 (1000 + px), .slice sa sn sc]) := by refine Blk.rext ?_ hx9 (by omega); repeat (first | (with_reducible exact BP) | (with_reducible exact Blk.new _ _ _) | exact Blk.newAt _ _ _ (by simp) | (with_reducible refine Blk.alloc ?_ _) | (with_reducible refine Blk.drew ?_) | (with_reducible refine Blk.drewN ?_ _) | refine Blk.far ?_ (by simp only []; omega) _)
      replace T0 : Sl encM 4 w9 ta tn tc g2.table := by refine Sl.rextFar ?_ hx9 (fun hn x e => by have := lT0 hn x e; omega); repeat (first | (with_reducible exact T0) | (with_reducible refine Sl.alloc ?_ _) | (with_reducible refine Sl.drew ?_) | (with_reducible refine Sl.drewN ?_ _) | refine Sl.setFar ?_ (fun hn x e => by have := lT0 hn x e; simp only []; omega) _)
      replace K0 : Sl encC 3 w9 ka kn kc g2.cons := by refine Sl.rextFar ?_ hx9 (fun hn x e => by have := lK0 hn x e; omega); repeat (first | (with_reducible exact K0) | (with_reducible refine Sl.alloc ?_ _) | (with_reducible refine Sl.drew ?_) | (with_reducible refine Sl.drewN ?_ _) | refine Sl.setFar ?_ (fun hn x e => by have := lK0 hn x e; simp only []; omega) _)
      replace S0 : Sl encI 1 w9 sa sn sc L := by refine Sl.rextFar ?_ hx9 (fun hn x e => by have := lS0 hn x e; omega); repeat (first | (with_reducible exact S0) | (with_reducible refine Sl.alloc ?_ _) | (with_reducible refine Sl.drew ?_) | (with_reducible refine Sl.drewN ?_ _) | refine Sl.setFar ?_ (fun hn x e => by have := lS0 hn x e; simp only []; omega) _)
      have cBR := BR.cells
      have fBR := BR.frozens
      have zBR := BR.lt
      have cBS := BS.cells
      have fBS := BS.frozens
      have zBS := BS.lt
      have cBG := BG.cells
      have fBG := BG.frozens
      have zBG := BG.lt
      have cBP := BP.cells
      have fBP := BP.frozens
      have zBP := BP.lt
      replace X0 : Ext w w9 := by refine RExt.new ?_ hx9 (by omega); exact (by repeat (first | (with_reducible exact Ext.refl _) | (with_reducible assumption) | (with_reducible refine Ext.alloc ?_ _) | (with_reducible refine Ext.drewN ?_ _) | (with_reducible refine Ext.drew ?_) | (with_reducible refine Ext.setCell ?_ ?_ _; rotate_left; (simp only []; omega)) | (with_reducible refine Ext.trans ?_ (by assumption))))
      clear hx9 q8
      go_wp2_with fail
      refine wp_gen (fun W => RExt w3.heap.size w9 W ∧ Blk W w3.heap.size 33 #[.int .i64 k', .int .i64 fa', .int .i64 fp', .int .i64 ga', .int .i64 gp', .slice sb sm sd]) ⟨(by repeat (first | (with_reducible exact RExt.refl _ _) | (with_reducible refine RExt.putc ?_ _ _))), by exact BP.put6 _ _ _ _ _ _⟩ ?_
      rintro v9 ⟨x9, BP9⟩
      clear cBG fBG zBG cBP fBP zBP cBR fBR zBR cBS fBS zBS BP S0 lS0
      have BP := BP9
      have S0 := S1
      have lS0 : 0 < sm → ∀ x, sb = some x → w8.heap.size ≤ x.block ∧ x.block < w9.heap.size := fun h x e => ⟨fS x e, S1.lt h x e⟩
      replace BG := BG.rext x9 (by omega)
      replace BR := BR.rext x9 (by omega)
      replace BS := BS.rext x9 (by omega)
      replace T0 := T0.rextFar x9 (fun hn x e => by have := lT0 hn x e; omega)
      replace K0 := K0.rextFar x9 (fun hn x e => by have := lK0 hn x e; omega)
      replace S0 := S0.rextFar x9 (fun hn x e => by have := lS0 hn x e; omega)
      replace X0 := RExt.new X0 x9 (by omega)
      have := (x9).size
      clear x9 S1 fS BP9
      have hBv : B < v9.heap.size := by omega
      replace BG := BG.drew
      replace BP := BP.drew
      replace BR := BR.drew
      replace BS := BS.drew
      replace T0 := T0.drew
      replace K0 := K0.drew
      (try replace S0 := S0.drew)
      (try replace r0 := r0.drew)
      replace X0 := X0.drew
      have hdrS : ∀ W : World, W.drew.heap.size = W.heap.size := fun _ => rfl
      refine wp_region_eager (R := RX (fun i => i = B ∨ i = w.heap.size ∨ i = w.heap.size + 1)) [0, 1, 2, 3] (by kernel_rfl) (by kernel_rfl) (RX.refl _) (fun _ _ _ => RX.trans) ?_
      have hdrW := hdrS (v9)
      generalize (v9).drew = vD at *
      repeat' (first
        | (refine ChX.skip (by rfl) (by rfl) ?_
           (try simp only [Act.put, List.setIfInBounds_toArray, List.set_cons_zero, List.set_cons_succ]))
        | (refine' ChX.quiet (v := _) (by rfl) (by rfl) (by rfl) ?_ ?_
           rotate_left
           · (intro wS hS
              have cG := (BG.rx hS (by omega)).cells; have cP := (BP.rx hS (by omega)).cells
              go_simp
              with_reducible rfl)
           (try simp only [Act.put, List.setIfInBounds_toArray, List.set_cons_zero, List.set_cons_succ]))
        | (refine ChX.nil ?_)
        | (refine' ChX.guard (x := _) (by rfl) ?_ ?_ ?_
           rotate_left
           · (go_simp
              rfl)
           all_goals
             intro hg
             simp only [hg])
        | (refine' ChX.guardN (x := _) (by rfl) ?_ ?_ ?_
           rotate_left
           · (go_simp
              rfl)
           all_goals
             intro hg
             simp only [hg]))
      skip
      have cR := BR.cells
      have fR := BR.frozens
      refine ChX.storeP (fun W => RExt w.heap.size vD W ∧ Blk W w.heap.size 28 (#[.int .i64 g2.net.base, .int .i64 g2.net.bits, .int .i64 g2.out, .slice ta tn tc, .slice ka kn kc, .int .i64 g2.filter, .int .i64 g2.hold, .int .i64 g2.now])) (by rfl) (by rfl) (by rfl) ⟨_, (by go_simp; rfl), RX.of_rext (B := w.heap.size) (by repeat (first | (with_reducible exact RExt.refl _ _) | (with_reducible refine RExt.putc ?_ _ _))) (.inr (.inl rfl)), (by repeat (first | (with_reducible exact RExt.refl _ _) | (with_reducible refine RExt.putc ?_ _ _))), (by exact BR.put8 _ _ _ _ _ _ _ _)⟩ ?_
      (try simp only [Act.put, List.setIfInBounds_toArray, List.set_cons_zero, List.set_cons_succ])
      rintro yW1 _ ⟨z1, BR1⟩
      clear cR fR
      have BS1 := BS.rext z1 (by omega)
      have cS := BS1.cells
      have fS := BS1.frozens
      refine ChX.storeP (fun W => RExt (w.heap.size + 1) yW1 W ∧ Blk W (w.heap.size + 1) 33 #[.int .i64 k', .int .i64 fa', .int .i64 fp', .int .i64 ga', .int .i64 gp', .slice sb sm sd]) (by rfl) (by rfl) (by rfl) ⟨_, (by go_simp; rfl), RX.of_rext (B := w.heap.size + 1) (by repeat (first | (with_reducible exact RExt.refl _ _) | (with_reducible refine RExt.putc ?_ _ _))) (.inr (.inr rfl)), (by repeat (first | (with_reducible exact RExt.refl _ _) | (with_reducible refine RExt.putc ?_ _ _))), (by exact BS1.put6 _ _ _ _ _ _)⟩ ?_
      (try simp only [Act.put, List.setIfInBounds_toArray, List.set_cons_zero, List.set_cons_succ])
      rintro yW2 _ ⟨z2, BS2⟩
      clear cS fS BS1
      have BR2 := BR1.rext z2 (by omega)
      replace T0 := (T0.rextFar z1 (fun hn x e => by have := lT0 hn x e; omega)).rextFar z2 (fun hn x e => by have := lT0 hn x e; omega)
      replace K0 := (K0.rextFar z1 (fun hn x e => by have := lK0 hn x e; omega)).rextFar z2 (fun hn x e => by have := lK0 hn x e; omega)
      replace S0 := (S0.rextFar z1 (fun hn x e => by have := lS0 hn x e; omega)).rextFar z2 (fun hn x e => by have := lS0 hn x e; omega)
      replace X0 := RExt.new (RExt.new X0 z1 (by omega)) z2 (by omega)
      refine ChX.nil ?_
      have cR := BR2.cells
      have cS := BS2.cells
      have zR := BR2.lt
      have zS := BS2.lt
      go_wp2
      refine' bodyPost_ret (v := _) ?_ rfl ?_
      rotate_left
      · (simp only [results, Tryz.results22]
         go_simp
         rfl)
      exact ⟨g2, ⟨k', ⟨fa', fp'⟩, ⟨ga', gp'⟩, L'⟩, ta, tn, tc, ka, kn, kc, sb, sm, sd, rfl, T0, K0, S0, (fun h x e => by have := lT0 h x e; omega), (fun h x e => by have := lK0 h x e; omega), (fun h x e => by have := lS0 h x e; omega), X0⟩
    · go_wp2_with fail
      clear cBG fBG zBG cBP fBP zBP cBR fBR zBR cBS fBS zBS
      have hBv : B < w8.heap.size := by omega
      replace BG := BG.drew
      replace BP := BP.drew
      replace BR := BR.drew
      replace BS := BS.drew
      replace T0 := T0.drew
      replace K0 := K0.drew
      (try replace S0 := S0.drew)
      (try replace r0 := r0.drew)
      replace X0 := X0.drew
      have hdrS : ∀ W : World, W.drew.heap.size = W.heap.size := fun _ => rfl
      refine wp_region_eager (R := RX (fun i => i = B ∨ i = w.heap.size ∨ i = w.heap.size + 1)) [0, 1, 2, 3] (by kernel_rfl) (by kernel_rfl) (RX.refl _) (fun _ _ _ => RX.trans) ?_
      have hdrW := hdrS (w8)
      generalize (w8).drew = vD at *
      repeat' (first
        | (refine ChX.skip (by rfl) (by rfl) ?_
           (try simp only [Act.put, List.setIfInBounds_toArray, List.set_cons_zero, List.set_cons_succ]))
        | (refine' ChX.quiet (v := _) (by rfl) (by rfl) (by rfl) ?_ ?_
           rotate_left
           · (intro wS hS
              have cG := (BG.rx hS (by omega)).cells; have cP := (BP.rx hS (by omega)).cells
              go_simp
              with_reducible rfl)
           (try simp only [Act.put, List.setIfInBounds_toArray, List.set_cons_zero, List.set_cons_succ]))
        | (refine ChX.nil ?_)
        | (refine' ChX.guard (x := _) (by rfl) ?_ ?_ ?_
           rotate_left
           · (go_simp
              rfl)
           all_goals
             intro hg
             simp only [hg])
        | (refine' ChX.guardN (x := _) (by rfl) ?_ ?_ ?_
           rotate_left
           · (go_simp
              rfl)
           all_goals
             intro hg
             simp only [hg]))
      skip
      have cR := BR.cells
      have fR := BR.frozens
      refine ChX.storeP (fun W => RExt w.heap.size vD W ∧ Blk W w.heap.size 28 (#[.int .i64 g2.net.base, .int .i64 g2.net.bits, .int .i64 g2.out, .slice ta tn tc, .slice ka kn kc, .int .i64 g2.filter, .int .i64 g2.hold, .int .i64 g2.now])) (by rfl) (by rfl) (by rfl) ⟨_, (by go_simp; rfl), RX.of_rext (B := w.heap.size) (by repeat (first | (with_reducible exact RExt.refl _ _) | (with_reducible refine RExt.putc ?_ _ _))) (.inr (.inl rfl)), (by repeat (first | (with_reducible exact RExt.refl _ _) | (with_reducible refine RExt.putc ?_ _ _))), (by exact BR.put8 _ _ _ _ _ _ _ _)⟩ ?_
      (try simp only [Act.put, List.setIfInBounds_toArray, List.set_cons_zero, List.set_cons_succ])
      rintro yW1 _ ⟨z1, BR1⟩
      clear cR fR
      have BS1 := BS.rext z1 (by omega)
      have cS := BS1.cells
      have fS := BS1.frozens
      refine ChX.storeP (fun W => RExt (w.heap.size + 1) yW1 W ∧ Blk W (w.heap.size + 1) 33 #[.int .i64 k, .int .i64 x1, .int .i64 y1, .int .i64 g.out, .int .i64 (1000 + px), .slice sa sn sc]) (by rfl) (by rfl) (by rfl) ⟨_, (by go_simp; rfl), RX.of_rext (B := w.heap.size + 1) (by repeat (first | (with_reducible exact RExt.refl _ _) | (with_reducible refine RExt.putc ?_ _ _))) (.inr (.inr rfl)), (by repeat (first | (with_reducible exact RExt.refl _ _) | (with_reducible refine RExt.putc ?_ _ _))), (by exact BS1.put6 _ _ _ _ _ _)⟩ ?_
      (try simp only [Act.put, List.setIfInBounds_toArray, List.set_cons_zero, List.set_cons_succ])
      rintro yW2 _ ⟨z2, BS2⟩
      clear cS fS BS1
      have BR2 := BR1.rext z2 (by omega)
      replace T0 := (T0.rextFar z1 (fun hn x e => by have := lT0 hn x e; omega)).rextFar z2 (fun hn x e => by have := lT0 hn x e; omega)
      replace K0 := (K0.rextFar z1 (fun hn x e => by have := lK0 hn x e; omega)).rextFar z2 (fun hn x e => by have := lK0 hn x e; omega)
      replace S0 := (S0.rextFar z1 (fun hn x e => by have := lS0 hn x e; omega)).rextFar z2 (fun hn x e => by have := lS0 hn x e; omega)
      replace X0 := RExt.new (RExt.new X0 z1 (by omega)) z2 (by omega)
      refine ChX.nil ?_
      have cR := BR2.cells
      have cS := BS2.cells
      have zR := BR2.lt
      have zS := BS2.lt
      go_wp2
      refine' bodyPost_ret (v := _) ?_ rfl ?_
      rotate_left
      · (simp only [results, Tryz.results22]
         go_simp
         rfl)
      exact ⟨g2, ⟨k, ⟨x1, y1⟩, ⟨g.out, 1000 + px⟩, L⟩, ta, tn, tc, ka, kn, kc, sa, sn, sc, rfl, T0, K0, S0, (fun h x e => by have := lT0 h x e; omega), (fun h x e => by have := lK0 h x e; omega), (fun h x e => by have := lS0 h x e; omega), X0⟩
  · have e1 := e0
    go_wp2_with fail
    refine (pick_any _ B _ 12 _ (by exact q7.to (by repeat (first | (with_reducible exact Since.refl q7.le) | (with_reducible refine Since.alloc ?_ _) | (with_reducible refine Since.drew ?_) | (with_reducible refine Since.drewN ?_ _) | (with_reducible refine Since.setCell ?_ ?_ _; rotate_left; (simp only []; omega)) | (with_reducible refine Since.ext ?_ (by assumption))))) (by omega) (by omega) (by omega)).mono ?_
    rintro e w8 ⟨f, rfl, f0, f1, q8, hx8⟩
    have hy8 := hx8.size
    (try simp at hy8)
    clear cBR fBR zBR
    clear cBS fBS zBS
    clear cBG fBG zBG
    clear cBP fBP zBP
    replace BR : Blk w8 w.heap.size 28 (#[.int .i64 0, .int .i64 0, .int .i64 0, .slice none 0 0, .slice none 0 0, .int .i64 0, .int .i64 0, .int .i64 0]) := by refine Blk.rext ?_ hx8 (by omega); repeat (first | (with_reducible exact BR) | (with_reducible exact Blk.new _ _ _) | exact Blk.newAt _ _ _ (by simp) | (with_reducible refine Blk.alloc ?_ _) | (with_reducible refine Blk.drew ?_) | (with_reducible refine Blk.drewN ?_ _) | refine Blk.far ?_ (by simp only []; omega) _)
    replace BS : Blk w8 (w.heap.size+1) 33 (#[.int .i64 0, .int .i64 0, .int .i64 0, .int .i64 0, .int .i64 0, .slice none 0 0]) := by refine Blk.rext ?_ hx8 (by omega); repeat (first | (with_reducible exact BS) | (with_reducible exact Blk.new _ _ _) | exact Blk.newAt _ _ _ (by simp) | (with_reducible refine Blk.alloc ?_ _) | (with_reducible refine Blk.drew ?_) | (with_reducible refine Blk.drewN ?_ _) | refine Blk.far ?_ (by simp only []; omega) _)
    replace BG : Blk w8 w2.heap.size 28 (#[.int .i64 g.net.base, .int .i64 g.net.bits, .int .i64 g.out, .slice ta tn tc, .slice ka kn kc, .int .i64 g.filter, .int .i64 g.hold, .int .i64 g.now]) := by refine Blk.rext ?_ hx8 (by omega); repeat (first | (with_reducible exact BG) | (with_reducible exact Blk.new _ _ _) | exact Blk.newAt _ _ _ (by simp) | (with_reducible refine Blk.alloc ?_ _) | (with_reducible refine Blk.drew ?_) | (with_reducible refine Blk.drewN ?_ _) | refine Blk.far ?_ (by simp only []; omega) _)
    replace BP : Blk w8 w3.heap.size 33 (#[.int .i64 k, .int .i64 x1, .int .i64 y1, .int .i64 g.out, .int .i64 (1000 + px), .slice sa sn sc]) := by refine Blk.rext ?_ hx8 (by omega); repeat (first | (with_reducible exact BP) | (with_reducible exact Blk.new _ _ _) | exact Blk.newAt _ _ _ (by simp) | (with_reducible refine Blk.alloc ?_ _) | (with_reducible refine Blk.drew ?_) | (with_reducible refine Blk.drewN ?_ _) | refine Blk.far ?_ (by simp only []; omega) _)
    replace T0 : Sl encM 4 w8 ta tn tc g.table := by refine Sl.rextFar ?_ hx8 (fun hn x e => by have := lT0 hn x e; omega); repeat (first | (with_reducible exact T0) | (with_reducible refine Sl.alloc ?_ _) | (with_reducible refine Sl.drew ?_) | (with_reducible refine Sl.drewN ?_ _) | refine Sl.setFar ?_ (fun hn x e => by have := lT0 hn x e; simp only []; omega) _)
    replace K0 : Sl encC 3 w8 ka kn kc g.cons := by refine Sl.rextFar ?_ hx8 (fun hn x e => by have := lK0 hn x e; omega); repeat (first | (with_reducible exact K0) | (with_reducible refine Sl.alloc ?_ _) | (with_reducible refine Sl.drew ?_) | (with_reducible refine Sl.drewN ?_ _) | refine Sl.setFar ?_ (fun hn x e => by have := lK0 hn x e; simp only []; omega) _)
    replace S0 : Sl encI 1 w8 sa sn sc L := by refine Sl.rextFar ?_ hx8 (fun hn x e => by have := lS0 hn x e; omega); repeat (first | (with_reducible exact S0) | (with_reducible refine Sl.alloc ?_ _) | (with_reducible refine Sl.drew ?_) | (with_reducible refine Sl.drewN ?_ _) | refine Sl.setFar ?_ (fun hn x e => by have := lS0 hn x e; simp only []; omega) _)
    have cBR := BR.cells
    have fBR := BR.frozens
    have zBR := BR.lt
    have cBS := BS.cells
    have fBS := BS.frozens
    have zBS := BS.lt
    have cBG := BG.cells
    have fBG := BG.frozens
    have zBG := BG.lt
    have cBP := BP.cells
    have fBP := BP.frozens
    have zBP := BP.lt
    replace X0 : Ext w w8 := by refine RExt.new ?_ hx8 (by omega); exact (by repeat (first | (with_reducible exact Ext.refl _) | (with_reducible assumption) | (with_reducible refine Ext.alloc ?_ _) | (with_reducible refine Ext.drewN ?_ _) | (with_reducible refine Ext.drew ?_) | (with_reducible refine Ext.setCell ?_ ?_ _; rotate_left; (simp only []; omega)) | (with_reducible refine Ext.trans ?_ (by assumption))))
    clear hx8 q7
    by_cases e1 : f = 0
    · subst e1
      go_wp2_with fail
      refine (anyPacket_any _ B _ _ (by exact q8.to (by repeat (first | (with_reducible exact Since.refl q8.le) | (with_reducible refine Since.alloc ?_ _) | (with_reducible refine Since.drew ?_) | (with_reducible refine Since.drewN ?_ _) | (with_reducible refine Since.setCell ?_ ?_ _; rotate_left; (simp only []; omega)) | (with_reducible refine Since.ext ?_ (by assumption))))) (by omega)).mono ?_
      rintro e w9 ⟨k', fa', fp', ga', gp', sb, sm, sd, L', rfl, S1, _, fS, q9, hx9⟩
      have hy9 := hx9.size
      (try simp at hy9)
      clear cBR fBR zBR
      clear cBS fBS zBS
      clear cBG fBG zBG
      clear cBP fBP zBP
      replace BR : Blk w9 w.heap.size 28 (#[.int .i64 0, .int .i64 0, .int .i64 0, .slice none 0 0, .slice none 0 0, .int .i64 0, .int .i64 0, .int .i64 0]) := by refine Blk.rext ?_ hx9 (by omega); repeat (first | (with_reducible exact BR) | (with_reducible exact Blk.new _ _ _) | exact Blk.newAt _ _ _ (by simp) | (with_reducible refine Blk.alloc ?_ _) | (with_reducible refine Blk.drew ?_) | (with_reducible refine Blk.drewN ?_ _) | refine Blk.far ?_ (by simp only []; omega) _)
      replace BS : Blk w9 (w.heap.size+1) 33 (#[.int .i64 0, .int .i64 0, .int .i64 0, .int .i64 0, .int .i64 0, .slice none 0 0]) := by refine Blk.rext ?_ hx9 (by omega); repeat (first | (with_reducible exact BS) | (with_reducible exact Blk.new _ _ _) | exact Blk.newAt _ _ _ (by simp) | (with_reducible refine Blk.alloc ?_ _) | (with_reducible refine Blk.drew ?_) | (with_reducible refine Blk.drewN ?_ _) | refine Blk.far ?_ (by simp only []; omega) _)
      replace BG : Blk w9 w2.heap.size 28 (#[.int .i64 g.net.base, .int .i64 g.net.bits, .int .i64 g.out, .slice ta tn tc, .slice ka kn kc, .int .i64 g.filter, .int .i64 g.hold, .int .i64 g.now]) := by refine Blk.rext ?_ hx9 (by omega); repeat (first | (with_reducible exact BG) | (with_reducible exact Blk.new _ _ _) | exact Blk.newAt _ _ _ (by simp) | (with_reducible refine Blk.alloc ?_ _) | (with_reducible refine Blk.drew ?_) | (with_reducible refine Blk.drewN ?_ _) | refine Blk.far ?_ (by simp only []; omega) _)
      replace BP : Blk w9 w3.heap.size 33 (#[.int .i64 k, .int .i64 x1, .int .i64 y1, .int .i64 g.out, .int .i64 (1000 + px), .slice sa sn sc]) := by refine Blk.rext ?_ hx9 (by omega); repeat (first | (with_reducible exact BP) | (with_reducible exact Blk.new _ _ _) | exact Blk.newAt _ _ _ (by simp) | (with_reducible refine Blk.alloc ?_ _) | (with_reducible refine Blk.drew ?_) | (with_reducible refine Blk.drewN ?_ _) | refine Blk.far ?_ (by simp only []; omega) _)
      replace T0 : Sl encM 4 w9 ta tn tc g.table := by refine Sl.rextFar ?_ hx9 (fun hn x e => by have := lT0 hn x e; omega); repeat (first | (with_reducible exact T0) | (with_reducible refine Sl.alloc ?_ _) | (with_reducible refine Sl.drew ?_) | (with_reducible refine Sl.drewN ?_ _) | refine Sl.setFar ?_ (fun hn x e => by have := lT0 hn x e; simp only []; omega) _)
      replace K0 : Sl encC 3 w9 ka kn kc g.cons := by refine Sl.rextFar ?_ hx9 (fun hn x e => by have := lK0 hn x e; omega); repeat (first | (with_reducible exact K0) | (with_reducible refine Sl.alloc ?_ _) | (with_reducible refine Sl.drew ?_) | (with_reducible refine Sl.drewN ?_ _) | refine Sl.setFar ?_ (fun hn x e => by have := lK0 hn x e; simp only []; omega) _)
      replace S0 : Sl encI 1 w9 sa sn sc L := by refine Sl.rextFar ?_ hx9 (fun hn x e => by have := lS0 hn x e; omega); repeat (first | (with_reducible exact S0) | (with_reducible refine Sl.alloc ?_ _) | (with_reducible refine Sl.drew ?_) | (with_reducible refine Sl.drewN ?_ _) | refine Sl.setFar ?_ (fun hn x e => by have := lS0 hn x e; simp only []; omega) _)
      have cBR := BR.cells
      have fBR := BR.frozens
      have zBR := BR.lt
      have cBS := BS.cells
      have fBS := BS.frozens
      have zBS := BS.lt
      have cBG := BG.cells
      have fBG := BG.frozens
      have zBG := BG.lt
      have cBP := BP.cells
      have fBP := BP.frozens
      have zBP := BP.lt
      replace X0 : Ext w w9 := by refine RExt.new ?_ hx9 (by omega); exact (by repeat (first | (with_reducible exact Ext.refl _) | (with_reducible assumption) | (with_reducible refine Ext.alloc ?_ _) | (with_reducible refine Ext.drewN ?_ _) | (with_reducible refine Ext.drew ?_) | (with_reducible refine Ext.setCell ?_ ?_ _; rotate_left; (simp only []; omega)) | (with_reducible refine Ext.trans ?_ (by assumption))))
      clear hx9 q8
      go_wp2_with fail
      refine wp_gen (fun W => RExt w3.heap.size w9 W ∧ Blk W w3.heap.size 33 #[.int .i64 k', .int .i64 fa', .int .i64 fp', .int .i64 ga', .int .i64 gp', .slice sb sm sd]) ⟨(by repeat (first | (with_reducible exact RExt.refl _ _) | (with_reducible refine RExt.putc ?_ _ _))), by exact BP.put6 _ _ _ _ _ _⟩ ?_
      rintro v9 ⟨x9, BP9⟩
      clear cBG fBG zBG cBP fBP zBP cBR fBR zBR cBS fBS zBS BP S0 lS0
      have BP := BP9
      have S0 := S1
      have lS0 : 0 < sm → ∀ x, sb = some x → w8.heap.size ≤ x.block ∧ x.block < w9.heap.size := fun h x e => ⟨fS x e, S1.lt h x e⟩
      replace BG := BG.rext x9 (by omega)
      replace BR := BR.rext x9 (by omega)
      replace BS := BS.rext x9 (by omega)
      replace T0 := T0.rextFar x9 (fun hn x e => by have := lT0 hn x e; omega)
      replace K0 := K0.rextFar x9 (fun hn x e => by have := lK0 hn x e; omega)
      replace S0 := S0.rextFar x9 (fun hn x e => by have := lS0 hn x e; omega)
      replace X0 := RExt.new X0 x9 (by omega)
      have := (x9).size
      clear x9 S1 fS BP9
      have hBv : B < v9.heap.size := by omega
      replace BG := BG.drew
      replace BP := BP.drew
      replace BR := BR.drew
      replace BS := BS.drew
      replace T0 := T0.drew
      replace K0 := K0.drew
      (try replace S0 := S0.drew)
      (try replace r0 := r0.drew)
      replace X0 := X0.drew
      have hdrS : ∀ W : World, W.drew.heap.size = W.heap.size := fun _ => rfl
      refine wp_region_eager (R := RX (fun i => i = B ∨ i = w.heap.size ∨ i = w.heap.size + 1)) [0, 1, 2, 3] (by kernel_rfl) (by kernel_rfl) (RX.refl _) (fun _ _ _ => RX.trans) ?_
      have hdrW := hdrS (v9)
      generalize (v9).drew = vD at *
      repeat' (first
        | (refine ChX.skip (by rfl) (by rfl) ?_
           (try simp only [Act.put, List.setIfInBounds_toArray, List.set_cons_zero, List.set_cons_succ]))
        | (refine' ChX.quiet (v := _) (by rfl) (by rfl) (by rfl) ?_ ?_
           rotate_left
           · (intro wS hS
              have cG := (BG.rx hS (by omega)).cells; have cP := (BP.rx hS (by omega)).cells
              go_simp
              with_reducible rfl)
           (try simp only [Act.put, List.setIfInBounds_toArray, List.set_cons_zero, List.set_cons_succ]))
        | (refine ChX.nil ?_)
        | (refine' ChX.guard (x := _) (by rfl) ?_ ?_ ?_
           rotate_left
           · (go_simp
              rfl)
           all_goals
             intro hg
             simp only [hg])
        | (refine' ChX.guardN (x := _) (by rfl) ?_ ?_ ?_
           rotate_left
           · (go_simp
              rfl)
           all_goals
             intro hg
             simp only [hg]))
      skip
      have cR := BR.cells
      have fR := BR.frozens
      refine ChX.storeP (fun W => RExt w.heap.size vD W ∧ Blk W w.heap.size 28 (#[.int .i64 g.net.base, .int .i64 g.net.bits, .int .i64 g.out, .slice ta tn tc, .slice ka kn kc, .int .i64 g.filter, .int .i64 g.hold, .int .i64 g.now])) (by rfl) (by rfl) (by rfl) ⟨_, (by go_simp; rfl), RX.of_rext (B := w.heap.size) (by repeat (first | (with_reducible exact RExt.refl _ _) | (with_reducible refine RExt.putc ?_ _ _))) (.inr (.inl rfl)), (by repeat (first | (with_reducible exact RExt.refl _ _) | (with_reducible refine RExt.putc ?_ _ _))), (by exact BR.put8 _ _ _ _ _ _ _ _)⟩ ?_
      (try simp only [Act.put, List.setIfInBounds_toArray, List.set_cons_zero, List.set_cons_succ])
      rintro yW1 _ ⟨z1, BR1⟩
      clear cR fR
      have BS1 := BS.rext z1 (by omega)
      have cS := BS1.cells
      have fS := BS1.frozens
      refine ChX.storeP (fun W => RExt (w.heap.size + 1) yW1 W ∧ Blk W (w.heap.size + 1) 33 #[.int .i64 k', .int .i64 fa', .int .i64 fp', .int .i64 ga', .int .i64 gp', .slice sb sm sd]) (by rfl) (by rfl) (by rfl) ⟨_, (by go_simp; rfl), RX.of_rext (B := w.heap.size + 1) (by repeat (first | (with_reducible exact RExt.refl _ _) | (with_reducible refine RExt.putc ?_ _ _))) (.inr (.inr rfl)), (by repeat (first | (with_reducible exact RExt.refl _ _) | (with_reducible refine RExt.putc ?_ _ _))), (by exact BS1.put6 _ _ _ _ _ _)⟩ ?_
      (try simp only [Act.put, List.setIfInBounds_toArray, List.set_cons_zero, List.set_cons_succ])
      rintro yW2 _ ⟨z2, BS2⟩
      clear cS fS BS1
      have BR2 := BR1.rext z2 (by omega)
      replace T0 := (T0.rextFar z1 (fun hn x e => by have := lT0 hn x e; omega)).rextFar z2 (fun hn x e => by have := lT0 hn x e; omega)
      replace K0 := (K0.rextFar z1 (fun hn x e => by have := lK0 hn x e; omega)).rextFar z2 (fun hn x e => by have := lK0 hn x e; omega)
      replace S0 := (S0.rextFar z1 (fun hn x e => by have := lS0 hn x e; omega)).rextFar z2 (fun hn x e => by have := lS0 hn x e; omega)
      replace X0 := RExt.new (RExt.new X0 z1 (by omega)) z2 (by omega)
      refine ChX.nil ?_
      have cR := BR2.cells
      have cS := BS2.cells
      have zR := BR2.lt
      have zS := BS2.lt
      go_wp2
      refine' bodyPost_ret (v := _) ?_ rfl ?_
      rotate_left
      · (simp only [results, Tryz.results22]
         go_simp
         rfl)
      exact ⟨g, ⟨k', ⟨fa', fp'⟩, ⟨ga', gp'⟩, L'⟩, ta, tn, tc, ka, kn, kc, sb, sm, sd, rfl, T0, K0, S0, (fun h x e => by have := lT0 h x e; omega), (fun h x e => by have := lK0 h x e; omega), (fun h x e => by have := lS0 h x e; omega), X0⟩
    · go_wp2_with fail
      clear cBG fBG zBG cBP fBP zBP cBR fBR zBR cBS fBS zBS
      have hBv : B < w8.heap.size := by omega
      replace BG := BG.drew
      replace BP := BP.drew
      replace BR := BR.drew
      replace BS := BS.drew
      replace T0 := T0.drew
      replace K0 := K0.drew
      (try replace S0 := S0.drew)
      (try replace r0 := r0.drew)
      replace X0 := X0.drew
      have hdrS : ∀ W : World, W.drew.heap.size = W.heap.size := fun _ => rfl
      refine wp_region_eager (R := RX (fun i => i = B ∨ i = w.heap.size ∨ i = w.heap.size + 1)) [0, 1, 2, 3] (by kernel_rfl) (by kernel_rfl) (RX.refl _) (fun _ _ _ => RX.trans) ?_
      have hdrW := hdrS (w8)
      generalize (w8).drew = vD at *
      repeat' (first
        | (refine ChX.skip (by rfl) (by rfl) ?_
           (try simp only [Act.put, List.setIfInBounds_toArray, List.set_cons_zero, List.set_cons_succ]))
        | (refine' ChX.quiet (v := _) (by rfl) (by rfl) (by rfl) ?_ ?_
           rotate_left
           · (intro wS hS
              have cG := (BG.rx hS (by omega)).cells; have cP := (BP.rx hS (by omega)).cells
              go_simp
              with_reducible rfl)
           (try simp only [Act.put, List.setIfInBounds_toArray, List.set_cons_zero, List.set_cons_succ]))
        | (refine ChX.nil ?_)
        | (refine' ChX.guard (x := _) (by rfl) ?_ ?_ ?_
           rotate_left
           · (go_simp
              rfl)
           all_goals
             intro hg
             simp only [hg])
        | (refine' ChX.guardN (x := _) (by rfl) ?_ ?_ ?_
           rotate_left
           · (go_simp
              rfl)
           all_goals
             intro hg
             simp only [hg]))
      skip
      have cR := BR.cells
      have fR := BR.frozens
      refine ChX.storeP (fun W => RExt w.heap.size vD W ∧ Blk W w.heap.size 28 (#[.int .i64 g.net.base, .int .i64 g.net.bits, .int .i64 g.out, .slice ta tn tc, .slice ka kn kc, .int .i64 g.filter, .int .i64 g.hold, .int .i64 g.now])) (by rfl) (by rfl) (by rfl) ⟨_, (by go_simp; rfl), RX.of_rext (B := w.heap.size) (by repeat (first | (with_reducible exact RExt.refl _ _) | (with_reducible refine RExt.putc ?_ _ _))) (.inr (.inl rfl)), (by repeat (first | (with_reducible exact RExt.refl _ _) | (with_reducible refine RExt.putc ?_ _ _))), (by exact BR.put8 _ _ _ _ _ _ _ _)⟩ ?_
      (try simp only [Act.put, List.setIfInBounds_toArray, List.set_cons_zero, List.set_cons_succ])
      rintro yW1 _ ⟨z1, BR1⟩
      clear cR fR
      have BS1 := BS.rext z1 (by omega)
      have cS := BS1.cells
      have fS := BS1.frozens
      refine ChX.storeP (fun W => RExt (w.heap.size + 1) yW1 W ∧ Blk W (w.heap.size + 1) 33 #[.int .i64 k, .int .i64 x1, .int .i64 y1, .int .i64 g.out, .int .i64 (1000 + px), .slice sa sn sc]) (by rfl) (by rfl) (by rfl) ⟨_, (by go_simp; rfl), RX.of_rext (B := w.heap.size + 1) (by repeat (first | (with_reducible exact RExt.refl _ _) | (with_reducible refine RExt.putc ?_ _ _))) (.inr (.inr rfl)), (by repeat (first | (with_reducible exact RExt.refl _ _) | (with_reducible refine RExt.putc ?_ _ _))), (by exact BS1.put6 _ _ _ _ _ _)⟩ ?_
      (try simp only [Act.put, List.setIfInBounds_toArray, List.set_cons_zero, List.set_cons_succ])
      rintro yW2 _ ⟨z2, BS2⟩
      clear cS fS BS1
      have BR2 := BR1.rext z2 (by omega)
      replace T0 := (T0.rextFar z1 (fun hn x e => by have := lT0 hn x e; omega)).rextFar z2 (fun hn x e => by have := lT0 hn x e; omega)
      replace K0 := (K0.rextFar z1 (fun hn x e => by have := lK0 hn x e; omega)).rextFar z2 (fun hn x e => by have := lK0 hn x e; omega)
      replace S0 := (S0.rextFar z1 (fun hn x e => by have := lS0 hn x e; omega)).rextFar z2 (fun hn x e => by have := lS0 hn x e; omega)
      replace X0 := RExt.new (RExt.new X0 z1 (by omega)) z2 (by omega)
      refine ChX.nil ?_
      have cR := BR2.cells
      have cS := BS2.cells
      have zR := BR2.lt
      have zS := BS2.lt
      go_wp2
      refine' bodyPost_ret (v := _) ?_ rfl ?_
      rotate_left
      · (simp only [results, Tryz.results22]
         go_simp
         rfl)
      exact ⟨g, ⟨k, ⟨x1, y1⟩, ⟨g.out, 1000 + px⟩, L⟩, ta, tn, tc, ka, kn, kc, sa, sn, sc, rfl, T0, K0, S0, (fun h x e => by have := lT0 h x e; omega), (fun h x e => by have := lK0 h x e; omega), (fun h x e => by have := lS0 h x e; omega), X0⟩
set_option maxHeartbeats 2000000 in
theorem DrawWayOf_any (a : Option Addr) (n c : Nat) (w : World) (hc : Code w a n c) :
    Calls Tryz.prog 33 #[.slice a n c] w fun e w' => ∃ (g : GateD) (p : PktD) (ta : Option Addr) (tn tc : Nat) (ka : Option Addr) (kn kc : Nat) (a : Option Addr) (n c : Nat), e = .returned (.tuple #[.agg #[.int .i64 g.net.base, .int .i64 g.net.bits, .int .i64 g.out, .slice ta tn tc, .slice ka kn kc, .int .i64 g.filter, .int .i64 g.hold, .int .i64 g.now], .agg #[.int .i64 p.kind, .int .i64 p.fr.addr, .int .i64 p.fr.port, .int .i64 p.to_.addr, .int .i64 p.to_.port, .slice a n c]]) ∧
          Sl encM 4 w' ta tn tc g.table ∧ Sl encC 3 w' ka kn kc g.cons ∧ Sl encI 1 w' a n c p.data ∧ (0 < tn → ∀ x, ta = some x → w.heap.size ≤ x.block) ∧ (0 < kn → ∀ x, ka = some x → w.heap.size ≤ x.block) ∧ (0 < n → ∀ x, a = some x → w.heap.size ≤ x.block) ∧ Ext w w' := by
  obtain ⟨zs, hs, hz⟩ := hc
  go_enter Tryz.func33, Tryz.ntmps33
  go_wp2_with fail
  refine (newReader_any a n c zs _ (hs.ext (by repeat (first | (with_reducible exact Ext.refl _) | (with_reducible assumption) | (with_reducible refine Ext.alloc ?_ _) | (with_reducible refine Ext.drewN ?_ _) | (with_reducible refine Ext.drew ?_) | (with_reducible refine Ext.setCell ?_ ?_ _; rotate_left; (simp only []; omega)) | (with_reducible refine Ext.trans ?_ (by assumption))))) hz).mono ?_
  rintro e w1 ⟨B, rfl, hB, hr, hx⟩
  have hy1 := hx.size
  (try simp at hy1)
  (try simp at hB)
  have hBl := hr.lt
  have BR : Blk w1 w.heap.size 28 #[.int .i64 0, .int .i64 0, .int .i64 0, .slice none 0 0, .slice none 0 0, .int .i64 0, .int .i64 0, .int .i64 0] := by refine Blk.ext ?_ hx; exact (by repeat (first | (with_reducible assumption) | (with_reducible exact Blk.new _ _ _) | exact Blk.newAt _ _ _ (by simp) | (with_reducible refine Blk.alloc ?_ _) | (with_reducible refine Blk.drew ?_) | (with_reducible refine Blk.drewN ?_ _) | refine Blk.far ?_ (by simp only []; omega) _ | refine Blk.rext ?_ (by assumption) (by omega) | refine Blk.ext ?_ (by assumption)))
  have BS : Blk w1 (w.heap.size + 1) 33 #[.int .i64 0, .int .i64 0, .int .i64 0, .int .i64 0, .int .i64 0, .slice none 0 0] := by refine Blk.ext ?_ hx; exact (by repeat (first | (with_reducible assumption) | (with_reducible exact Blk.new _ _ _) | exact Blk.newAt _ _ _ (by simp) | (with_reducible refine Blk.alloc ?_ _) | (with_reducible refine Blk.drew ?_) | (with_reducible refine Blk.drewN ?_ _) | refine Blk.far ?_ (by simp only []; omega) _ | refine Blk.rext ?_ (by assumption) (by omega) | refine Blk.ext ?_ (by assumption)))
  have X0 : Ext w w1 := (by repeat (first | (with_reducible exact Ext.refl _) | (with_reducible assumption) | (with_reducible refine Ext.alloc ?_ _) | (with_reducible refine Ext.drewN ?_ _) | (with_reducible refine Ext.drew ?_) | (with_reducible refine Ext.setCell ?_ ?_ _; rotate_left; (simp only []; omega)) | (with_reducible refine Ext.trans ?_ (by assumption))))
  clear hx
  go_wp2_with fail
  refine (pick_any _ B _ 4 _ hr (by omega) (by omega) (by omega)).mono ?_
  rintro e w2 ⟨d, rfl, d0, d1, q2, hx2⟩
  have hy2 := hx2.size
  (try simp at hy2)
  have BR : Blk w2 w.heap.size 28 (#[.int .i64 0, .int .i64 0, .int .i64 0, .slice none 0 0, .slice none 0 0, .int .i64 0, .int .i64 0, .int .i64 0]) := by refine Blk.rext ?_ hx2 (by omega); repeat (first | (with_reducible exact BR) | (with_reducible exact Blk.new _ _ _) | exact Blk.newAt _ _ _ (by simp) | (with_reducible refine Blk.alloc ?_ _) | (with_reducible refine Blk.drew ?_) | (with_reducible refine Blk.drewN ?_ _) | refine Blk.far ?_ (by simp only []; omega) _)
  have BS : Blk w2 (w.heap.size+1) 33 (#[.int .i64 0, .int .i64 0, .int .i64 0, .int .i64 0, .int .i64 0, .slice none 0 0]) := by refine Blk.rext ?_ hx2 (by omega); repeat (first | (with_reducible exact BS) | (with_reducible exact Blk.new _ _ _) | exact Blk.newAt _ _ _ (by simp) | (with_reducible refine Blk.alloc ?_ _) | (with_reducible refine Blk.drew ?_) | (with_reducible refine Blk.drewN ?_ _) | refine Blk.far ?_ (by simp only []; omega) _)
  have cBR := BR.cells
  have fBR := BR.frozens
  have zBR := BR.lt
  have cBS := BS.cells
  have fBS := BS.frozens
  have zBS := BS.lt
  replace X0 : Ext w w2 := by refine RExt.new ?_ hx2 (by omega); exact (by repeat (first | (with_reducible exact Ext.refl _) | (with_reducible assumption) | (with_reducible refine Ext.alloc ?_ _) | (with_reducible refine Ext.drewN ?_ _) | (with_reducible refine Ext.drew ?_) | (with_reducible refine Ext.setCell ?_ ?_ _; rotate_left; (simp only []; omega)) | (with_reducible refine Ext.trans ?_ (by assumption))))
  clear hx2 hr
  by_cases e0 : d = 0
  · subst e0
    go_wp2_with fail
    refine (DrawSendOut_any a n c _ ⟨zs, hs.ext X0, hz⟩).mono ?_
    rintro e w3 ⟨g, p, ta, tn, tc, ka, kn, kc, sa, sn, sc, rfl, T0, K0, S0, fT, fK, fS, x3⟩
    have s3 := x3.size
    clear cBR fBR zBR cBS fBS zBS
    replace BR := BR.ext x3
    replace BS := BS.ext x3
    replace X0 := X0.trans x3
    clear x3
    have cBR := BR.cells
    have fBR := BR.frozens
    have zBR := BR.lt
    have cBS := BS.cells
    have fBS := BS.frozens
    have zBS := BS.lt
    go_wp2
    refine' bodyPost_ret (v := _) ?_ rfl ?_
    rotate_left
    · (simp only [results, Tryz.results33]
       go_simp
       rfl)
    refine ⟨g, p, ta, tn, tc, ka, kn, kc, sa, sn, sc, rfl, ?_, ?_, ?_, (fun h x e => by have := fT h x e; omega), (fun h x e => by have := fK h x e; omega), (fun h x e => by have := fS h x e; omega), (by repeat (first | (with_reducible exact Ext.refl _) | (with_reducible assumption) | (with_reducible refine Ext.alloc ?_ _) | (with_reducible refine Ext.drewN ?_ _) | (with_reducible refine Ext.drew ?_) | (with_reducible refine Ext.setCell ?_ ?_ _; rotate_left; (simp only []; omega)) | (with_reducible refine Ext.trans ?_ (by assumption))))⟩
    · repeat (refine Sl.setFar ?_ (fun hn y hy => by have := fT hn y hy; simp only []; omega) _)
      exact T0
    · repeat (refine Sl.setFar ?_ (fun hn y hy => by have := fK hn y hy; simp only []; omega) _)
      exact K0
    · repeat (refine Sl.setFar ?_ (fun hn y hy => by have := fS hn y hy; simp only []; omega) _)
      exact S0
  by_cases e1 : d = 1
  · subst e1
    go_wp2_with fail
    refine (DrawReceiveIn_any a n c _ ⟨zs, hs.ext X0, hz⟩).mono ?_
    rintro e w3 ⟨g, p, ta, tn, tc, ka, kn, kc, sa, sn, sc, rfl, T0, K0, S0, fT, fK, fS, x3⟩
    have s3 := x3.size
    clear cBR fBR zBR cBS fBS zBS
    replace BR := BR.ext x3
    replace BS := BS.ext x3
    replace X0 := X0.trans x3
    clear x3
    have cBR := BR.cells
    have fBR := BR.frozens
    have zBR := BR.lt
    have cBS := BS.cells
    have fBS := BS.frozens
    have zBS := BS.lt
    go_wp2
    refine' bodyPost_ret (v := _) ?_ rfl ?_
    rotate_left
    · (simp only [results, Tryz.results33]
       go_simp
       rfl)
    refine ⟨g, p, ta, tn, tc, ka, kn, kc, sa, sn, sc, rfl, ?_, ?_, ?_, (fun h x e => by have := fT h x e; omega), (fun h x e => by have := fK h x e; omega), (fun h x e => by have := fS h x e; omega), (by repeat (first | (with_reducible exact Ext.refl _) | (with_reducible assumption) | (with_reducible refine Ext.alloc ?_ _) | (with_reducible refine Ext.drewN ?_ _) | (with_reducible refine Ext.drew ?_) | (with_reducible refine Ext.setCell ?_ ?_ _; rotate_left; (simp only []; omega)) | (with_reducible refine Ext.trans ?_ (by assumption))))⟩
    · repeat (refine Sl.setFar ?_ (fun hn y hy => by have := fT hn y hy; simp only []; omega) _)
      exact T0
    · repeat (refine Sl.setFar ?_ (fun hn y hy => by have := fK hn y hy; simp only []; omega) _)
      exact K0
    · repeat (refine Sl.setFar ?_ (fun hn y hy => by have := fS hn y hy; simp only []; omega) _)
      exact S0
  by_cases e2 : d = 2
  · subst e2
    go_wp2_with fail
    refine (DrawPassBetween_any a n c _ ⟨zs, hs.ext X0, hz⟩).mono ?_
    rintro e w3 ⟨g, p, ta, tn, tc, ka, kn, kc, sa, sn, sc, rfl, T0, K0, S0, fT, fK, fS, x3⟩
    have s3 := x3.size
    clear cBR fBR zBR cBS fBS zBS
    replace BR := BR.ext x3
    replace BS := BS.ext x3
    replace X0 := X0.trans x3
    clear x3
    have cBR := BR.cells
    have fBR := BR.frozens
    have zBR := BR.lt
    have cBS := BS.cells
    have fBS := BS.frozens
    have zBS := BS.lt
    go_wp2
    refine' bodyPost_ret (v := _) ?_ rfl ?_
    rotate_left
    · (simp only [results, Tryz.results33]
       go_simp
       rfl)
    refine ⟨g, p, ta, tn, tc, ka, kn, kc, sa, sn, sc, rfl, ?_, ?_, ?_, (fun h x e => by have := fT h x e; omega), (fun h x e => by have := fK h x e; omega), (fun h x e => by have := fS h x e; omega), (by repeat (first | (with_reducible exact Ext.refl _) | (with_reducible assumption) | (with_reducible refine Ext.alloc ?_ _) | (with_reducible refine Ext.drewN ?_ _) | (with_reducible refine Ext.drew ?_) | (with_reducible refine Ext.setCell ?_ ?_ _; rotate_left; (simp only []; omega)) | (with_reducible refine Ext.trans ?_ (by assumption))))⟩
    · repeat (refine Sl.setFar ?_ (fun hn y hy => by have := fT hn y hy; simp only []; omega) _)
      exact T0
    · repeat (refine Sl.setFar ?_ (fun hn y hy => by have := fK hn y hy; simp only []; omega) _)
      exact K0
    · repeat (refine Sl.setFar ?_ (fun hn y hy => by have := fS hn y hy; simp only []; omega) _)
      exact S0
  go_wp2_with fail
  refine (anyGate_any _ B _ _ q2 (by omega)).mono ?_
  rintro e w3 ⟨g, ta, tn, tc, ka, kn, kc, rfl, T0, K0, _, _, _, _, fT, fK, q3, hx3⟩
  have hy3 := hx3.size
  (try simp at hy3)
  clear cBR fBR zBR
  clear cBS fBS zBS
  replace BR : Blk w3 w.heap.size 28 (#[.int .i64 0, .int .i64 0, .int .i64 0, .slice none 0 0, .slice none 0 0, .int .i64 0, .int .i64 0, .int .i64 0]) := by refine Blk.rext ?_ hx3 (by omega); repeat (first | (with_reducible exact BR) | (with_reducible exact Blk.new _ _ _) | exact Blk.newAt _ _ _ (by simp) | (with_reducible refine Blk.alloc ?_ _) | (with_reducible refine Blk.drew ?_) | (with_reducible refine Blk.drewN ?_ _) | refine Blk.far ?_ (by simp only []; omega) _)
  replace BS : Blk w3 (w.heap.size+1) 33 (#[.int .i64 0, .int .i64 0, .int .i64 0, .int .i64 0, .int .i64 0, .slice none 0 0]) := by refine Blk.rext ?_ hx3 (by omega); repeat (first | (with_reducible exact BS) | (with_reducible exact Blk.new _ _ _) | exact Blk.newAt _ _ _ (by simp) | (with_reducible refine Blk.alloc ?_ _) | (with_reducible refine Blk.drew ?_) | (with_reducible refine Blk.drewN ?_ _) | refine Blk.far ?_ (by simp only []; omega) _)
  have cBR := BR.cells
  have fBR := BR.frozens
  have zBR := BR.lt
  have cBS := BS.cells
  have fBS := BS.frozens
  have zBS := BS.lt
  have lT0 : 0 < tn → ∀ x, ta = some x → w1.heap.size ≤ x.block ∧ x.block < w3.heap.size := fun h x e => ⟨by have := fT x e; omega, T0.lt h x e⟩
  have lK0 : 0 < kn → ∀ x, ka = some x → w1.heap.size ≤ x.block ∧ x.block < w3.heap.size := fun h x e => ⟨by have := fK x e; omega, K0.lt h x e⟩
  clear fT fK
  replace X0 : Ext w w3 := by refine RExt.new ?_ hx3 (by omega); exact (by repeat (first | (with_reducible exact Ext.refl _) | (with_reducible assumption) | (with_reducible refine Ext.alloc ?_ _) | (with_reducible refine Ext.drewN ?_ _) | (with_reducible refine Ext.drew ?_) | (with_reducible refine Ext.setCell ?_ ?_ _; rotate_left; (simp only []; omega)) | (with_reducible refine Ext.trans ?_ (by assumption))))
  clear cBR fBR zBR cBS fBS zBS
  go_wp2_with fail
  refine wp_gen (fun W => Ext w3 W ∧ Blk W w3.heap.size 28 (#[.int .i64 g.net.base, .int .i64 g.net.bits, .int .i64 g.out, .slice ta tn tc, .slice ka kn kc, .int .i64 g.filter, .int .i64 g.hold, .int .i64 g.now])) ⟨(by repeat (first | (with_reducible exact Ext.refl _) | (with_reducible assumption) | (with_reducible refine Ext.alloc ?_ _) | (with_reducible refine Ext.drewN ?_ _) | (with_reducible refine Ext.drew ?_) | (with_reducible refine Ext.setCell ?_ ?_ _; rotate_left; (simp only []; omega)) | (with_reducible refine Ext.trans ?_ (by assumption)))), (by repeat (first | (with_reducible assumption) | (with_reducible exact Blk.new _ _ _) | exact Blk.newAt _ _ _ (by simp) | (with_reducible refine Blk.alloc ?_ _) | (with_reducible refine Blk.drew ?_) | (with_reducible refine Blk.drewN ?_ _) | refine Blk.far ?_ (by simp only []; omega) _ | refine Blk.rext ?_ (by assumption) (by omega) | refine Blk.ext ?_ (by assumption)))⟩ ?_
  rintro v3 ⟨x3, BG⟩
  have hv2 := BG.lt
  replace BR := BR.ext x3
  replace BS := BS.ext x3
  replace T0 := T0.ext x3
  replace K0 := K0.ext x3
  replace X0 := X0.trans x3
  have := (x3).size
  have r0 := q3.ext x3
  clear x3 q3 hx3
  have BP := BG
  have hBv : B < v3.heap.size := by omega
  go_wp2_with fail
  replace BG := BG.drew
  replace BP := BP.drew
  replace BR := BR.drew
  replace BS := BS.drew
  replace T0 := T0.drew
  replace K0 := K0.drew
  (try replace S0 := S0.drew)
  (try replace r0 := r0.drew)
  replace X0 := X0.drew
  have hdrS : ∀ W : World, W.drew.heap.size = W.heap.size := fun _ => rfl
  refine wp_region_eager (R := RX (fun i => i = B ∨ i = w.heap.size ∨ i = w.heap.size + 1)) [0, 1, 2, 3, 4] (by kernel_rfl) (by kernel_rfl) (RX.refl _) (fun _ _ _ => RX.trans) ?_
  have hdrW := hdrS (v3)
  generalize (v3).drew = vD at *
  repeat' (first
    | (refine ChX.skip (by rfl) (by rfl) ?_
       (try simp only [Act.put, List.setIfInBounds_toArray, List.set_cons_zero, List.set_cons_succ]))
    | (refine' ChX.quiet (v := _) (by rfl) (by rfl) (by rfl) ?_ ?_
       rotate_left
       · (intro wS hS
          have cG := (BG.rx hS (by omega)).cells; have cP := (BP.rx hS (by omega)).cells
          go_simp
          with_reducible rfl)
       (try simp only [Act.put, List.setIfInBounds_toArray, List.set_cons_zero, List.set_cons_succ]))
    | (refine ChX.nil ?_)
    | (refine' ChX.guard (x := _) (by rfl) ?_ ?_ ?_
       rotate_left
       · (go_simp
          rfl)
       all_goals
         intro hg
         simp only [hg])
    | (refine' ChX.guardN (x := _) (by rfl) ?_ ?_ ?_
       rotate_left
       · (go_simp
          rfl)
       all_goals
         intro hg
         simp only [hg]))
  skip
  refine ChX.call (by rfl) (by rfl) (by rfl) (by go_simp; (constructor <;> rfl)) ?_
  refine (anyPacket_any _ B _ vD r0 (by omega)).mono ?_
  rintro e v8 ⟨k, fa, fp, ga, gp, sa, sn, sc, L, rfl, S0, _, fS, q8, h8⟩
  refine ⟨_, rfl, RX.of_rext h8 (.inl rfl), ?_⟩
  have lS0 : 0 < sn → ∀ x, sa = some x → vD.heap.size ≤ x.block ∧ x.block < v8.heap.size := fun h x e => ⟨fS x e, S0.lt h x e⟩
  (try simp only [Act.put, List.setIfInBounds_toArray, List.set_cons_zero, List.set_cons_succ])
  replace BG := BG.rext h8 (by omega)
  replace BR := BR.rext h8 (by omega)
  replace BS := BS.rext h8 (by omega)
  replace T0 := T0.rextFar h8 (fun hn x e => by have := lT0 hn x e; omega)
  replace K0 := K0.rextFar h8 (fun hn x e => by have := lK0 hn x e; omega)
  replace X0 := RExt.new X0 h8 (by omega)
  have := (h8).size
  clear h8 q8 fS
  have cR := BR.cells
  have fR := BR.frozens
  refine ChX.storeP (fun W => RExt w.heap.size v8 W ∧ Blk W w.heap.size 28 (#[.int .i64 g.net.base, .int .i64 g.net.bits, .int .i64 g.out, .slice ta tn tc, .slice ka kn kc, .int .i64 g.filter, .int .i64 g.hold, .int .i64 g.now])) (by rfl) (by rfl) (by rfl) ⟨_, (by go_simp; rfl), RX.of_rext (B := w.heap.size) (by repeat (first | (with_reducible exact RExt.refl _ _) | (with_reducible refine RExt.putc ?_ _ _))) (.inr (.inl rfl)), (by repeat (first | (with_reducible exact RExt.refl _ _) | (with_reducible refine RExt.putc ?_ _ _))), (by exact BR.put8 _ _ _ _ _ _ _ _)⟩ ?_
  (try simp only [Act.put, List.setIfInBounds_toArray, List.set_cons_zero, List.set_cons_succ])
  rintro yW1 _ ⟨z1, BR1⟩
  clear cR fR
  have BS1 := BS.rext z1 (by omega)
  have cS := BS1.cells
  have fS := BS1.frozens
  refine ChX.storeP (fun W => RExt (w.heap.size + 1) yW1 W ∧ Blk W (w.heap.size + 1) 33 #[.int .i64 k, .int .i64 fa, .int .i64 fp, .int .i64 ga, .int .i64 gp, .slice sa sn sc]) (by rfl) (by rfl) (by rfl) ⟨_, (by go_simp; rfl), RX.of_rext (B := w.heap.size + 1) (by repeat (first | (with_reducible exact RExt.refl _ _) | (with_reducible refine RExt.putc ?_ _ _))) (.inr (.inr rfl)), (by repeat (first | (with_reducible exact RExt.refl _ _) | (with_reducible refine RExt.putc ?_ _ _))), (by exact BS1.put6 _ _ _ _ _ _)⟩ ?_
  (try simp only [Act.put, List.setIfInBounds_toArray, List.set_cons_zero, List.set_cons_succ])
  rintro yW2 _ ⟨z2, BS2⟩
  clear cS fS BS1
  have BR2 := BR1.rext z2 (by omega)
  replace T0 := (T0.rextFar z1 (fun hn x e => by have := lT0 hn x e; omega)).rextFar z2 (fun hn x e => by have := lT0 hn x e; omega)
  replace K0 := (K0.rextFar z1 (fun hn x e => by have := lK0 hn x e; omega)).rextFar z2 (fun hn x e => by have := lK0 hn x e; omega)
  replace S0 := (S0.rextFar z1 (fun hn x e => by have := lS0 hn x e; omega)).rextFar z2 (fun hn x e => by have := lS0 hn x e; omega)
  replace X0 := RExt.new (RExt.new X0 z1 (by omega)) z2 (by omega)
  refine ChX.nil ?_
  have cR := BR2.cells
  have cS := BS2.cells
  have zR := BR2.lt
  have zS := BS2.lt
  go_wp2
  refine' bodyPost_ret (v := _) ?_ rfl ?_
  rotate_left
  · (simp only [results, Tryz.results33]
     go_simp
     rfl)
  exact ⟨g, ⟨k, ⟨fa, fp⟩, ⟨ga, gp⟩, L⟩, ta, tn, tc, ka, kn, kc, sa, sn, sc, rfl, T0, K0, S0, (fun h x e => by have := lT0 h x e; omega), (fun h x e => by have := lK0 h x e; omega), (fun h x e => by have := lS0 h x e; omega), X0⟩
theorem DrawForward_any (a : Option Addr) (n c : Nat) (w : World) (hc : Code w a n c) :
    Calls Tryz.prog 46 #[.slice a n c] w fun e w' => ∃ (g : GateD) (p : PktD) (ta : Option Addr) (tn tc : Nat) (ka : Option Addr) (kn kc : Nat) (a : Option Addr) (n c : Nat), e = .returned (.tuple #[.agg #[.int .i64 g.net.base, .int .i64 g.net.bits, .int .i64 g.out, .slice ta tn tc, .slice ka kn kc, .int .i64 g.filter, .int .i64 g.hold, .int .i64 g.now], .agg #[.int .i64 p.kind, .int .i64 p.fr.addr, .int .i64 p.fr.port, .int .i64 p.to_.addr, .int .i64 p.to_.port, .slice a n c]]) ∧
          Sl encM 4 w' ta tn tc g.table ∧ Sl encC 3 w' ka kn kc g.cons ∧ Sl encI 1 w' a n c p.data ∧ (0 < tn → ∀ x, ta = some x → w.heap.size ≤ x.block) ∧ (0 < kn → ∀ x, ka = some x → w.heap.size ≤ x.block) ∧ (0 < n → ∀ x, a = some x → w.heap.size ≤ x.block) ∧ Ext w w' := by
  obtain ⟨zs, hs, hz⟩ := hc
  go_enter Tryz.func46, Tryz.ntmps46
  go_wp2_with fail
  refine (DrawWayOf_any a n c _ ⟨zs, hs.ext (by repeat (first | (with_reducible exact Ext.refl _) | (with_reducible assumption) | (with_reducible refine Ext.alloc ?_ _) | (with_reducible refine Ext.drewN ?_ _) | (with_reducible refine Ext.drew ?_) | (with_reducible refine Ext.setCell ?_ ?_ _; rotate_left; (simp only []; omega)) | (with_reducible refine Ext.trans ?_ (by assumption)))), hz⟩).mono ?_
  rintro e w3 ⟨g, p, ta, tn, tc, ka, kn, kc, sa, sn, sc, rfl, T0, K0, S0, fT, fK, fS, x3⟩
  have s3 := x3.size
  (try simp at s3)
  have BR : Blk w3 w.heap.size 28 #[.int .i64 0, .int .i64 0, .int .i64 0, .slice none 0 0, .slice none 0 0, .int .i64 0, .int .i64 0, .int .i64 0] := by refine Blk.ext ?_ x3; exact (by repeat (first | (with_reducible assumption) | (with_reducible exact Blk.new _ _ _) | exact Blk.newAt _ _ _ (by simp) | (with_reducible refine Blk.alloc ?_ _) | (with_reducible refine Blk.drew ?_) | (with_reducible refine Blk.drewN ?_ _) | refine Blk.far ?_ (by simp only []; omega) _ | refine Blk.rext ?_ (by assumption) (by omega) | refine Blk.ext ?_ (by assumption)))
  have BS : Blk w3 (w.heap.size + 1) 33 #[.int .i64 0, .int .i64 0, .int .i64 0, .int .i64 0, .int .i64 0, .slice none 0 0] := by refine Blk.ext ?_ x3; exact (by repeat (first | (with_reducible assumption) | (with_reducible exact Blk.new _ _ _) | exact Blk.newAt _ _ _ (by simp) | (with_reducible refine Blk.alloc ?_ _) | (with_reducible refine Blk.drew ?_) | (with_reducible refine Blk.drewN ?_ _) | refine Blk.far ?_ (by simp only []; omega) _ | refine Blk.rext ?_ (by assumption) (by omega) | refine Blk.ext ?_ (by assumption)))
  have X0 : Ext w w3 := by refine Ext.trans ?_ x3; exact (by repeat (first | (with_reducible exact Ext.refl _) | (with_reducible assumption) | (with_reducible refine Ext.alloc ?_ _) | (with_reducible refine Ext.drewN ?_ _) | (with_reducible refine Ext.drew ?_) | (with_reducible refine Ext.setCell ?_ ?_ _; rotate_left; (simp only []; omega)) | (with_reducible refine Ext.trans ?_ (by assumption))))
  replace fT : 0 < tn → ∀ x, ta = some x → w.heap.size + 2 ≤ x.block := fun h x e => by have := fT h x e; (try simp at this); omega
  replace fK : 0 < kn → ∀ x, ka = some x → w.heap.size + 2 ≤ x.block := fun h x e => by have := fK h x e; (try simp at this); omega
  replace fS : 0 < sn → ∀ x, sa = some x → w.heap.size + 2 ≤ x.block := fun h x e => by have := fS h x e; (try simp at this); omega
  clear x3
  have cBR := BR.cells
  have fBR := BR.frozens
  have zBR := BR.lt
  have cBS := BS.cells
  have fBS := BS.frozens
  have zBS := BS.lt
  go_wp2
  refine' bodyPost_ret (v := _) ?_ rfl ?_
  rotate_left
  · (simp only [results, Tryz.results46]
     go_simp
     rfl)
  refine ⟨g, p, ta, tn, tc, ka, kn, kc, sa, sn, sc, rfl, ?_, ?_, ?_, (fun h x e => by have := fT h x e; omega), (fun h x e => by have := fK h x e; omega), (fun h x e => by have := fS h x e; omega), (by repeat (first | (with_reducible exact Ext.refl _) | (with_reducible assumption) | (with_reducible refine Ext.alloc ?_ _) | (with_reducible refine Ext.drewN ?_ _) | (with_reducible refine Ext.drew ?_) | (with_reducible refine Ext.setCell ?_ ?_ _; rotate_left; (simp only []; omega)) | (with_reducible refine Ext.trans ?_ (by assumption))))⟩
  · repeat (refine Sl.setFar ?_ (fun hn y hy => by have := fT hn y hy; simp only []; omega) _)
    exact T0
  · repeat (refine Sl.setFar ?_ (fun hn y hy => by have := fK hn y hy; simp only []; omega) _)
    exact K0
  · repeat (refine Sl.setFar ?_ (fun hn y hy => by have := fS hn y hy; simp only []; omega) _)
    exact S0
end Go.Proofs.YtppdcglnopoocaaGreat
/- Contracts of what is drawn: gates and times. -/
namespace Go.Proofs.YtppdcglnopoocaaGreat
set_option linter.unusedVariables false
set_option linter.unusedSimpArgs false
open Go.RowKit

theorem one_litX (n0 B : Nat) (m : Int) (T : TypeId) (cs : Array Value) (b n : Nat) (W : World) (hr : Rd n0 W B m) (hm : m + 1 ≤ 1000000) (hb : b = W.heap.size) (hn : cs.size = n) (h0 : 0 < n) (hn' : n ≤ 1000)
    (hc : ∀ v ∈ cs.toList, v = .int .i64 (intOf v)) :
    Calls Tryz.prog 112 #[.pointer (some ⟨B, 0, none⟩), .slice (some ⟨b, 0, none⟩) n n] (W.alloc (.cells cs T)) fun e w' => ∃ x, e = .returned (.int .i64 x) ∧ x ∈ cs.toList.map intOf ∧ Rd n0 w' B (m + 1) ∧ RExt B (W.alloc (.cells cs T)) w' := by
  refine one_any n0 B m (cs.toList.map intOf) _ _ _ _ (hr.alloc _) hm (Sl.lits W T cs hb hn hn' hc) h0 hn' ?_
  intro x hx
  injection hx with hx
  subst hx
  have := hr.lt
  have := hr.le
  simp only []
  omega
end Go.Proofs.YtppdcglnopoocaaGreat
/- Contracts of what is drawn: gates and reports. -/
namespace Go.Proofs.YtppdcglnopoocaaGreat
set_option linter.unusedVariables false
set_option linter.unusedSimpArgs false
open Go.RowKit

end Go.Proofs.YtppdcglnopoocaaGreat
