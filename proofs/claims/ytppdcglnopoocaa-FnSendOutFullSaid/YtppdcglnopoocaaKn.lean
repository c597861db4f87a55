/- The words, laws and contracts that the claims of this seat share: group n. No condition. -/
import Derived.Test.YtppdcglnopoocaaKh
import Derived.Test.YtppdcglnopoocaaKr
/- Contracts of what is drawn: gates and packets. -/
namespace Go.Proofs.Ytppdcglnopoocaa
set_option linter.unusedVariables false
set_option linter.unusedSimpArgs false
open Go.RowKit

set_option maxHeartbeats 400000 in
theorem DrawSendOut_any (a : Option Addr) (n c : Nat) (w : World) (hc : Code w a n c) :
    Calls Try.prog 26 #[.slice a n c] w fun e w' => ∃ (g : GateD) (p : PktD) (ta : Option Addr) (tn tc : Nat) (ka : Option Addr) (kn kc : Nat) (a : Option Addr) (n c : Nat), e = .returned (.tuple #[.agg #[.int .i64 g.net.base, .int .i64 g.net.bits, .int .i64 g.out, .slice ta tn tc, .slice ka kn kc, .int .i64 g.filter, .int .i64 g.hold, .int .i64 g.now], .agg #[.int .i64 p.kind, .int .i64 p.fr.addr, .int .i64 p.fr.port, .int .i64 p.to_.addr, .int .i64 p.to_.port, .slice a n c]]) ∧
          Sl encM 4 w' ta tn tc g.table ∧ Sl encC 3 w' ka kn kc g.cons ∧ Sl encI 1 w' a n c p.data ∧ (0 < tn → ∀ x, ta = some x → w.heap.size ≤ x.block) ∧ (0 < kn → ∀ x, ka = some x → w.heap.size ≤ x.block) ∧ (0 < n → ∀ x, a = some x → w.heap.size ≤ x.block) ∧ Ext w w' := by
  obtain ⟨zs, hs, hz⟩ := hc
  go_enter Try.func26, Try.ntmps26
  go_wp2_with fail
  refine (newReader_any a n c zs _ (hs.ext (by repeat (first | (with_reducible exact Ext.refl _) | (with_reducible assumption) | (with_reducible refine Ext.alloc ?_ _) | (with_reducible refine Ext.drewN ?_ _) | (with_reducible refine Ext.drew ?_) | (with_reducible refine Ext.setCell ?_ ?_ _; rotate_left; (simp only []; omega)) | (with_reducible refine Ext.trans ?_ (by assumption))))) hz).mono ?_
  rintro e w1 ⟨B, rfl, hB, hr, hx⟩
  have hy1 := hx.size
  (try simp at hy1)
  (try simp at hB)
  have hBl := hr.lt
  have BR : Blk w1 w.heap.size 28 #[.int .i64 0, .int .i64 0, .int .i64 0, .slice none 0 0, .slice none 0 0, .int .i64 0, .int .i64 0, .int .i64 0] := by refine Blk.ext ?_ hx; exact (by repeat (first | (with_reducible assumption) | (with_reducible exact Blk.new _ _ _) | exact Blk.newAt _ _ _ (by simp) | (with_reducible refine Blk.alloc ?_ _) | (with_reducible refine Blk.drew ?_) | (with_reducible refine Blk.drewN ?_ _) | refine Blk.far ?_ (by simp only []; omega) _ | refine Blk.rext ?_ (by assumption) (by omega) | refine Blk.ext ?_ (by assumption)))
  have BS : Blk w1 (w.heap.size + 1) 33 #[.int .i64 0, .int .i64 0, .int .i64 0, .int .i64 0, .int .i64 0, .slice none 0 0] := by refine Blk.ext ?_ hx; exact (by repeat (first | (with_reducible assumption) | (with_reducible exact Blk.new _ _ _) | exact Blk.newAt _ _ _ (by simp) | (with_reducible refine Blk.alloc ?_ _) | (with_reducible refine Blk.drew ?_) | (with_reducible refine Blk.drewN ?_ _) | refine Blk.far ?_ (by simp only []; omega) _ | refine Blk.rext ?_ (by assumption) (by omega) | refine Blk.ext ?_ (by assumption)))
  have X0 : Ext w w1 := (by repeat (first | (with_reducible exact Ext.refl _) | (with_reducible assumption) | (with_reducible refine Ext.alloc ?_ _) | (with_reducible refine Ext.drewN ?_ _) | (with_reducible refine Ext.drew ?_) | (with_reducible refine Ext.setCell ?_ ?_ _; rotate_left; (simp only []; omega)) | (with_reducible refine Ext.trans ?_ (by assumption))))
  clear hx
  go_wp2_with fail
  refine (anyGate_any _ B _ _ hr (by omega)).mono ?_
  rintro e w2 ⟨g, ta, tn, tc, ka, kn, kc, rfl, T0, K0, _, _, _, _, fT, fK, q2, hx2⟩
  have hy2 := hx2.size
  (try simp at hy2)
  have BR : Blk w2 w.heap.size 28 (#[.int .i64 0, .int .i64 0, .int .i64 0, .slice none 0 0, .slice none 0 0, .int .i64 0, .int .i64 0, .int .i64 0]) := by refine Blk.rext ?_ hx2 (by omega); repeat (first | (with_reducible exact BR) | (with_reducible exact Blk.new _ _ _) | exact Blk.newAt _ _ _ (by simp) | (with_reducible refine Blk.alloc ?_ _) | (with_reducible refine Blk.drew ?_) | (with_reducible refine Blk.drewN ?_ _) | refine Blk.far ?_ (by simp only []; omega) _)
  have BS : Blk w2 (w.heap.size+1) 33 (#[.int .i64 0, .int .i64 0, .int .i64 0, .int .i64 0, .int .i64 0, .slice none 0 0]) := by refine Blk.rext ?_ hx2 (by omega); repeat (first | (with_reducible exact BS) | (with_reducible exact Blk.new _ _ _) | exact Blk.newAt _ _ _ (by simp) | (with_reducible refine Blk.alloc ?_ _) | (with_reducible refine Blk.drew ?_) | (with_reducible refine Blk.drewN ?_ _) | refine Blk.far ?_ (by simp only []; omega) _)
  have cBR := BR.cells
  have fBR := BR.frozens
  have zBR := BR.lt
  have cBS := BS.cells
  have fBS := BS.frozens
  have zBS := BS.lt
  have lT0 : 0 < tn → ∀ x, ta = some x → w1.heap.size ≤ x.block ∧ x.block < w2.heap.size := fun h x e => ⟨fT x e, T0.lt h x e⟩
  have lK0 : 0 < kn → ∀ x, ka = some x → w1.heap.size ≤ x.block ∧ x.block < w2.heap.size := fun h x e => ⟨fK x e, K0.lt h x e⟩
  clear fT fK
  replace X0 : Ext w w2 := by refine RExt.new ?_ hx2 (by omega); exact (by repeat (first | (with_reducible exact Ext.refl _) | (with_reducible assumption) | (with_reducible refine Ext.alloc ?_ _) | (with_reducible refine Ext.drewN ?_ _) | (with_reducible refine Ext.drew ?_) | (with_reducible refine Ext.setCell ?_ ?_ _; rotate_left; (simp only []; omega)) | (with_reducible refine Ext.trans ?_ (by assumption))))
  go_wp2_with fail
  refine (anyPacket_any _ B _ _ (by exact q2.to (by repeat (first | (with_reducible exact Since.refl q2.le) | (with_reducible refine Since.alloc ?_ _) | (with_reducible refine Since.drew ?_) | (with_reducible refine Since.drewN ?_ _) | (with_reducible refine Since.setCell ?_ ?_ _; rotate_left; (simp only []; omega)) | (with_reducible refine Since.ext ?_ (by assumption))))) (by omega)).mono ?_
  rintro e w3 ⟨k, fa, fp, ga, gp, sa, sn, sc, L, rfl, S0, _, fS, q3, hx3⟩
  have hy3 := hx3.size
  (try simp at hy3)
  clear cBR fBR zBR
  clear cBS fBS zBS
  replace BR : Blk w3 w.heap.size 28 (#[.int .i64 0, .int .i64 0, .int .i64 0, .slice none 0 0, .slice none 0 0, .int .i64 0, .int .i64 0, .int .i64 0]) := by refine Blk.rext ?_ hx3 (by omega); repeat (first | (with_reducible exact BR) | (with_reducible exact Blk.new _ _ _) | exact Blk.newAt _ _ _ (by simp) | (with_reducible refine Blk.alloc ?_ _) | (with_reducible refine Blk.drew ?_) | (with_reducible refine Blk.drewN ?_ _) | refine Blk.far ?_ (by simp only []; omega) _)
  replace BS : Blk w3 (w.heap.size+1) 33 (#[.int .i64 0, .int .i64 0, .int .i64 0, .int .i64 0, .int .i64 0, .slice none 0 0]) := by refine Blk.rext ?_ hx3 (by omega); repeat (first | (with_reducible exact BS) | (with_reducible exact Blk.new _ _ _) | exact Blk.newAt _ _ _ (by simp) | (with_reducible refine Blk.alloc ?_ _) | (with_reducible refine Blk.drew ?_) | (with_reducible refine Blk.drewN ?_ _) | refine Blk.far ?_ (by simp only []; omega) _)
  have BG : Blk w3 w2.heap.size 28 (#[.int .i64 g.net.base, .int .i64 g.net.bits, .int .i64 g.out, .slice ta tn tc, .slice ka kn kc, .int .i64 g.filter, .int .i64 g.hold, .int .i64 g.now]) := by refine Blk.rext ?_ hx3 (by omega); repeat (first | (with_reducible exact BG) | (with_reducible exact Blk.new _ _ _) | exact Blk.newAt _ _ _ (by simp) | (with_reducible refine Blk.alloc ?_ _) | (with_reducible refine Blk.drew ?_) | (with_reducible refine Blk.drewN ?_ _) | refine Blk.far ?_ (by simp only []; omega) _)
  replace T0 : Sl encM 4 w3 ta tn tc g.table := by refine Sl.rextFar ?_ hx3 (fun hn x e => by have := lT0 hn x e; omega); repeat (first | (with_reducible exact T0) | (with_reducible refine Sl.alloc ?_ _) | (with_reducible refine Sl.drew ?_) | (with_reducible refine Sl.drewN ?_ _) | refine Sl.setFar ?_ (fun hn x e => by have := lT0 hn x e; simp only []; omega) _)
  replace K0 : Sl encC 3 w3 ka kn kc g.cons := by refine Sl.rextFar ?_ hx3 (fun hn x e => by have := lK0 hn x e; omega); repeat (first | (with_reducible exact K0) | (with_reducible refine Sl.alloc ?_ _) | (with_reducible refine Sl.drew ?_) | (with_reducible refine Sl.drewN ?_ _) | refine Sl.setFar ?_ (fun hn x e => by have := lK0 hn x e; simp only []; omega) _)
  have cBR := BR.cells
  have fBR := BR.frozens
  have zBR := BR.lt
  have cBS := BS.cells
  have fBS := BS.frozens
  have zBS := BS.lt
  have cBG := BG.cells
  have fBG := BG.frozens
  have zBG := BG.lt
  replace X0 : Ext w w3 := by refine RExt.new ?_ hx3 (by omega); exact (by repeat (first | (with_reducible exact Ext.refl _) | (with_reducible assumption) | (with_reducible refine Ext.alloc ?_ _) | (with_reducible refine Ext.drewN ?_ _) | (with_reducible refine Ext.drew ?_) | (with_reducible refine Ext.setCell ?_ ?_ _; rotate_left; (simp only []; omega)) | (with_reducible refine Ext.trans ?_ (by assumption))))
  have lS0 : 0 < sn → ∀ x, sa = some x → w2.heap.size < x.block ∧ x.block < w3.heap.size := fun h x e => ⟨by have h := fS x e; simp at h; omega, S0.lt h x e⟩
  clear fS
  go_wp2_with fail
  refine (pick_any _ B _ 4 _ (by exact q3.to (by repeat (first | (with_reducible exact Since.refl q3.le) | (with_reducible refine Since.alloc ?_ _) | (with_reducible refine Since.drew ?_) | (with_reducible refine Since.drewN ?_ _) | (with_reducible refine Since.setCell ?_ ?_ _; rotate_left; (simp only []; omega)) | (with_reducible refine Since.ext ?_ (by assumption))))) (by omega) (by omega) (by omega)).mono ?_
  rintro e w4 ⟨d, rfl, d0, d1, q4, hx4⟩
  have hy4 := hx4.size
  (try simp at hy4)
  clear cBR fBR zBR
  clear cBS fBS zBS
  clear cBG fBG zBG
  replace BR : Blk w4 w.heap.size 28 (#[.int .i64 0, .int .i64 0, .int .i64 0, .slice none 0 0, .slice none 0 0, .int .i64 0, .int .i64 0, .int .i64 0]) := by refine Blk.rext ?_ hx4 (by omega); repeat (first | (with_reducible exact BR) | (with_reducible exact Blk.new _ _ _) | exact Blk.newAt _ _ _ (by simp) | (with_reducible refine Blk.alloc ?_ _) | (with_reducible refine Blk.drew ?_) | (with_reducible refine Blk.drewN ?_ _) | refine Blk.far ?_ (by simp only []; omega) _)
  replace BS : Blk w4 (w.heap.size+1) 33 (#[.int .i64 0, .int .i64 0, .int .i64 0, .int .i64 0, .int .i64 0, .slice none 0 0]) := by refine Blk.rext ?_ hx4 (by omega); repeat (first | (with_reducible exact BS) | (with_reducible exact Blk.new _ _ _) | exact Blk.newAt _ _ _ (by simp) | (with_reducible refine Blk.alloc ?_ _) | (with_reducible refine Blk.drew ?_) | (with_reducible refine Blk.drewN ?_ _) | refine Blk.far ?_ (by simp only []; omega) _)
  replace BG : Blk w4 w2.heap.size 28 (#[.int .i64 g.net.base, .int .i64 g.net.bits, .int .i64 g.out, .slice ta tn tc, .slice ka kn kc, .int .i64 g.filter, .int .i64 g.hold, .int .i64 g.now]) := by refine Blk.rext ?_ hx4 (by omega); repeat (first | (with_reducible exact BG) | (with_reducible exact Blk.new _ _ _) | exact Blk.newAt _ _ _ (by simp) | (with_reducible refine Blk.alloc ?_ _) | (with_reducible refine Blk.drew ?_) | (with_reducible refine Blk.drewN ?_ _) | refine Blk.far ?_ (by simp only []; omega) _)
  have BP : Blk w4 w3.heap.size 33 (#[.int .i64 k, .int .i64 fa, .int .i64 fp, .int .i64 ga, .int .i64 gp, .slice sa sn sc]) := by refine Blk.rext ?_ hx4 (by omega); repeat (first | (with_reducible exact BP) | (with_reducible exact Blk.new _ _ _) | exact Blk.newAt _ _ _ (by simp) | (with_reducible refine Blk.alloc ?_ _) | (with_reducible refine Blk.drew ?_) | (with_reducible refine Blk.drewN ?_ _) | refine Blk.far ?_ (by simp only []; omega) _)
  replace T0 : Sl encM 4 w4 ta tn tc g.table := by refine Sl.rextFar ?_ hx4 (fun hn x e => by have := lT0 hn x e; omega); repeat (first | (with_reducible exact T0) | (with_reducible refine Sl.alloc ?_ _) | (with_reducible refine Sl.drew ?_) | (with_reducible refine Sl.drewN ?_ _) | refine Sl.setFar ?_ (fun hn x e => by have := lT0 hn x e; simp only []; omega) _)
  replace K0 : Sl encC 3 w4 ka kn kc g.cons := by refine Sl.rextFar ?_ hx4 (fun hn x e => by have := lK0 hn x e; omega); repeat (first | (with_reducible exact K0) | (with_reducible refine Sl.alloc ?_ _) | (with_reducible refine Sl.drew ?_) | (with_reducible refine Sl.drewN ?_ _) | refine Sl.setFar ?_ (fun hn x e => by have := lK0 hn x e; simp only []; omega) _)
  replace S0 : Sl encI 1 w4 sa sn sc L := by refine Sl.rextFar ?_ hx4 (fun hn x e => by have := lS0 hn x e; omega); repeat (first | (with_reducible exact S0) | (with_reducible refine Sl.alloc ?_ _) | (with_reducible refine Sl.drew ?_) | (with_reducible refine Sl.drewN ?_ _) | refine Sl.setFar ?_ (fun hn x e => by have := lS0 hn x e; simp only []; omega) _)
  have cBR := BR.cells
  have fBR := BR.frozens
  have zBR := BR.lt
  have cBS := BS.cells
  have fBS := BS.frozens
  have zBS := BS.lt
  have cBG := BG.cells
  have fBG := BG.frozens
  have zBG := BG.lt
  have cBP := BP.cells
  have fBP := BP.frozens
  have zBP := BP.lt
  replace X0 : Ext w w4 := by refine RExt.new ?_ hx4 (by omega); exact (by repeat (first | (with_reducible exact Ext.refl _) | (with_reducible assumption) | (with_reducible refine Ext.alloc ?_ _) | (with_reducible refine Ext.drewN ?_ _) | (with_reducible refine Ext.drew ?_) | (with_reducible refine Ext.setCell ?_ ?_ _; rotate_left; (simp only []; omega)) | (with_reducible refine Ext.trans ?_ (by assumption))))
  clear hx2 hx3 hx4 q2 q3 hr
  by_cases e0 : 0 < d
  · have e1 := e0
    go_wp2_with fail
    refine (insideEnd_any _ B _ _ q4 (by omega)).mono ?_
    rintro e w5 ⟨x1, y1, rfl, _, _, _, _, q5, hx5⟩
    have hy5 := hx5.size
    (try simp at hy5)
    clear cBR fBR zBR
    clear cBS fBS zBS
    clear cBG fBG zBG
    clear cBP fBP zBP
    replace BR : Blk w5 w.heap.size 28 (#[.int .i64 0, .int .i64 0, .int .i64 0, .slice none 0 0, .slice none 0 0, .int .i64 0, .int .i64 0, .int .i64 0]) := by refine Blk.rext ?_ hx5 (by omega); repeat (first | (with_reducible exact BR) | (with_reducible exact Blk.new _ _ _) | exact Blk.newAt _ _ _ (by simp) | (with_reducible refine Blk.alloc ?_ _) | (with_reducible refine Blk.drew ?_) | (with_reducible refine Blk.drewN ?_ _) | refine Blk.far ?_ (by simp only []; omega) _)
    replace BS : Blk w5 (w.heap.size+1) 33 (#[.int .i64 0, .int .i64 0, .int .i64 0, .int .i64 0, .int .i64 0, .slice none 0 0]) := by refine Blk.rext ?_ hx5 (by omega); repeat (first | (with_reducible exact BS) | (with_reducible exact Blk.new _ _ _) | exact Blk.newAt _ _ _ (by simp) | (with_reducible refine Blk.alloc ?_ _) | (with_reducible refine Blk.drew ?_) | (with_reducible refine Blk.drewN ?_ _) | refine Blk.far ?_ (by simp only []; omega) _)
    replace BG : Blk w5 w2.heap.size 28 (#[.int .i64 g.net.base, .int .i64 g.net.bits, .int .i64 g.out, .slice ta tn tc, .slice ka kn kc, .int .i64 g.filter, .int .i64 g.hold, .int .i64 g.now]) := by refine Blk.rext ?_ hx5 (by omega); repeat (first | (with_reducible exact BG) | (with_reducible exact Blk.new _ _ _) | exact Blk.newAt _ _ _ (by simp) | (with_reducible refine Blk.alloc ?_ _) | (with_reducible refine Blk.drew ?_) | (with_reducible refine Blk.drewN ?_ _) | refine Blk.far ?_ (by simp only []; omega) _)
    replace BP : Blk w5 w3.heap.size 33 (#[.int .i64 k, .int .i64 fa, .int .i64 fp, .int .i64 ga, .int .i64 gp, .slice sa sn sc]) := by refine Blk.rext ?_ hx5 (by omega); repeat (first | (with_reducible exact BP) | (with_reducible exact Blk.new _ _ _) | exact Blk.newAt _ _ _ (by simp) | (with_reducible refine Blk.alloc ?_ _) | (with_reducible refine Blk.drew ?_) | (with_reducible refine Blk.drewN ?_ _) | refine Blk.far ?_ (by simp only []; omega) _)
    replace T0 : Sl encM 4 w5 ta tn tc g.table := by refine Sl.rextFar ?_ hx5 (fun hn x e => by have := lT0 hn x e; omega); repeat (first | (with_reducible exact T0) | (with_reducible refine Sl.alloc ?_ _) | (with_reducible refine Sl.drew ?_) | (with_reducible refine Sl.drewN ?_ _) | refine Sl.setFar ?_ (fun hn x e => by have := lT0 hn x e; simp only []; omega) _)
    replace K0 : Sl encC 3 w5 ka kn kc g.cons := by refine Sl.rextFar ?_ hx5 (fun hn x e => by have := lK0 hn x e; omega); repeat (first | (with_reducible exact K0) | (with_reducible refine Sl.alloc ?_ _) | (with_reducible refine Sl.drew ?_) | (with_reducible refine Sl.drewN ?_ _) | refine Sl.setFar ?_ (fun hn x e => by have := lK0 hn x e; simp only []; omega) _)
    replace S0 : Sl encI 1 w5 sa sn sc L := by refine Sl.rextFar ?_ hx5 (fun hn x e => by have := lS0 hn x e; omega); repeat (first | (with_reducible exact S0) | (with_reducible refine Sl.alloc ?_ _) | (with_reducible refine Sl.drew ?_) | (with_reducible refine Sl.drewN ?_ _) | refine Sl.setFar ?_ (fun hn x e => by have := lS0 hn x e; simp only []; omega) _)
    have cBR := BR.cells
    have fBR := BR.frozens
    have zBR := BR.lt
    have cBS := BS.cells
    have fBS := BS.frozens
    have zBS := BS.lt
    have cBG := BG.cells
    have fBG := BG.frozens
    have zBG := BG.lt
    have cBP := BP.cells
    have fBP := BP.frozens
    have zBP := BP.lt
    replace X0 : Ext w w5 := by refine RExt.new ?_ hx5 (by omega); exact (by repeat (first | (with_reducible exact Ext.refl _) | (with_reducible assumption) | (with_reducible refine Ext.alloc ?_ _) | (with_reducible refine Ext.drewN ?_ _) | (with_reducible refine Ext.drew ?_) | (with_reducible refine Ext.setCell ?_ ?_ _; rotate_left; (simp only []; omega)) | (with_reducible refine Ext.trans ?_ (by assumption))))
    clear hx5 q4
    go_wp2_with fail
    refine (farEnd_any _ B _ _ (by exact q5.to (by repeat (first | (with_reducible exact Since.refl q5.le) | (with_reducible refine Since.alloc ?_ _) | (with_reducible refine Since.drew ?_) | (with_reducible refine Since.drewN ?_ _) | (with_reducible refine Since.setCell ?_ ?_ _; rotate_left; (simp only []; omega)) | (with_reducible refine Since.ext ?_ (by assumption))))) (by omega)).mono ?_
    rintro e w6 ⟨x2, y2, rfl, _, _, _, _, q6, hx6⟩
    have hy6 := hx6.size
    (try simp at hy6)
    clear cBR fBR zBR
    clear cBS fBS zBS
    clear cBG fBG zBG
    clear cBP fBP zBP
    replace BR : Blk w6 w.heap.size 28 (#[.int .i64 0, .int .i64 0, .int .i64 0, .slice none 0 0, .slice none 0 0, .int .i64 0, .int .i64 0, .int .i64 0]) := by refine Blk.rext ?_ hx6 (by omega); repeat (first | (with_reducible exact BR) | (with_reducible exact Blk.new _ _ _) | exact Blk.newAt _ _ _ (by simp) | (with_reducible refine Blk.alloc ?_ _) | (with_reducible refine Blk.drew ?_) | (with_reducible refine Blk.drewN ?_ _) | refine Blk.far ?_ (by simp only []; omega) _)
    replace BS : Blk w6 (w.heap.size+1) 33 (#[.int .i64 0, .int .i64 0, .int .i64 0, .int .i64 0, .int .i64 0, .slice none 0 0]) := by refine Blk.rext ?_ hx6 (by omega); repeat (first | (with_reducible exact BS) | (with_reducible exact Blk.new _ _ _) | exact Blk.newAt _ _ _ (by simp) | (with_reducible refine Blk.alloc ?_ _) | (with_reducible refine Blk.drew ?_) | (with_reducible refine Blk.drewN ?_ _) | refine Blk.far ?_ (by simp only []; omega) _)
    replace BG : Blk w6 w2.heap.size 28 (#[.int .i64 g.net.base, .int .i64 g.net.bits, .int .i64 g.out, .slice ta tn tc, .slice ka kn kc, .int .i64 g.filter, .int .i64 g.hold, .int .i64 g.now]) := by refine Blk.rext ?_ hx6 (by omega); repeat (first | (with_reducible exact BG) | (with_reducible exact Blk.new _ _ _) | exact Blk.newAt _ _ _ (by simp) | (with_reducible refine Blk.alloc ?_ _) | (with_reducible refine Blk.drew ?_) | (with_reducible refine Blk.drewN ?_ _) | refine Blk.far ?_ (by simp only []; omega) _)
    replace BP : Blk w6 w3.heap.size 33 (#[.int .i64 k, .int .i64 x1, .int .i64 y1, .int .i64 ga, .int .i64 gp, .slice sa sn sc]) := by refine Blk.rext ?_ hx6 (by omega); repeat (first | (exact (show Blk _ w3.heap.size 33 (#[.int .i64 k, .int .i64 x1, .int .i64 y1, .int .i64 ga, .int .i64 gp, .slice sa sn sc]) from by simpa using (BP.set 1 (.int .i64 x1)).set 2 (.int .i64 y1))) | (with_reducible exact Blk.new _ _ _) | exact Blk.newAt _ _ _ (by simp) | (with_reducible refine Blk.alloc ?_ _) | (with_reducible refine Blk.drew ?_) | (with_reducible refine Blk.drewN ?_ _) | refine Blk.far ?_ (by simp only []; omega) _)
    replace T0 : Sl encM 4 w6 ta tn tc g.table := by refine Sl.rextFar ?_ hx6 (fun hn x e => by have := lT0 hn x e; omega); repeat (first | (with_reducible exact T0) | (with_reducible refine Sl.alloc ?_ _) | (with_reducible refine Sl.drew ?_) | (with_reducible refine Sl.drewN ?_ _) | refine Sl.setFar ?_ (fun hn x e => by have := lT0 hn x e; simp only []; omega) _)
    replace K0 : Sl encC 3 w6 ka kn kc g.cons := by refine Sl.rextFar ?_ hx6 (fun hn x e => by have := lK0 hn x e; omega); repeat (first | (with_reducible exact K0) | (with_reducible refine Sl.alloc ?_ _) | (with_reducible refine Sl.drew ?_) | (with_reducible refine Sl.drewN ?_ _) | refine Sl.setFar ?_ (fun hn x e => by have := lK0 hn x e; simp only []; omega) _)
    replace S0 : Sl encI 1 w6 sa sn sc L := by refine Sl.rextFar ?_ hx6 (fun hn x e => by have := lS0 hn x e; omega); repeat (first | (with_reducible exact S0) | (with_reducible refine Sl.alloc ?_ _) | (with_reducible refine Sl.drew ?_) | (with_reducible refine Sl.drewN ?_ _) | refine Sl.setFar ?_ (fun hn x e => by have := lS0 hn x e; simp only []; omega) _)
    have cBR := BR.cells
    have fBR := BR.frozens
    have zBR := BR.lt
    have cBS := BS.cells
    have fBS := BS.frozens
    have zBS := BS.lt
    have cBG := BG.cells
    have fBG := BG.frozens
    have zBG := BG.lt
    have cBP := BP.cells
    have fBP := BP.frozens
    have zBP := BP.lt
    replace X0 : Ext w w6 := by refine RExt.new ?_ hx6 (by omega); exact (by repeat (first | (with_reducible exact Ext.refl _) | (with_reducible assumption) | (with_reducible refine Ext.alloc ?_ _) | (with_reducible refine Ext.drewN ?_ _) | (with_reducible refine Ext.drew ?_) | (with_reducible refine Ext.setCell ?_ ?_ _; rotate_left; (simp only []; omega)) | (with_reducible refine Ext.trans ?_ (by assumption))))
    clear hx6 q5 q6
    go_wp2_with fail
    refine wp_gen (fun W => RExt w3.heap.size w6 W ∧ Blk W w3.heap.size 33 #[.int .i64 k, .int .i64 x1, .int .i64 y1, .int .i64 x2, .int .i64 y2, .slice sa sn sc]) ⟨(by repeat (first | (with_reducible exact RExt.refl _ _) | (with_reducible refine RExt.putc ?_ _ _))), by simpa using (BP.set 3 (.int .i64 x2)).set 4 (.int .i64 y2)⟩ ?_
    rintro v7 ⟨x7, BP7⟩
    clear cBG fBG zBG cBP fBP cBR fBR zBR cBS fBS zBS BP
    have BP := BP7
    replace BG := BG.rext x7 (by omega)
    replace BR := BR.rext x7 (by omega)
    replace BS := BS.rext x7 (by omega)
    replace T0 := T0.rextFar x7 (fun hn x e => by have := lT0 hn x e; omega)
    replace K0 := K0.rextFar x7 (fun hn x e => by have := lK0 hn x e; omega)
    replace S0 := S0.rextFar x7 (fun hn x e => by have := lS0 hn x e; omega)
    replace X0 := RExt.new X0 x7 (by omega)
    have := (x7).size
    clear x7
    have hBv : B < v7.heap.size := by omega
    replace BG := BG.drew
    replace BP := BP.drew
    replace BR := BR.drew
    replace BS := BS.drew
    replace T0 := T0.drew
    replace K0 := K0.drew
    (try replace S0 := S0.drew)
    (try replace r0 := r0.drew)
    replace X0 := X0.drew
    have hdrS : ∀ W : World, W.drew.heap.size = W.heap.size := fun _ => rfl
    refine wp_region_eager (R := RX (fun i => i = B ∨ i = w.heap.size ∨ i = w.heap.size + 1)) [0, 1, 2, 3] (by kernel_rfl) (by kernel_rfl) (RX.refl _) (fun _ _ _ => RX.trans) ?_
    have hdrW := hdrS (v7)
    generalize (v7).drew = vD at *
    repeat' (first
      | (refine ChX.skip (by rfl) (by rfl) ?_
         (try simp only [Act.put, List.setIfInBounds_toArray, List.set_cons_zero, List.set_cons_succ]))
      | (refine' ChX.quiet (v := _) (by rfl) (by rfl) (by rfl) ?_ ?_
         rotate_left
         · (intro wS hS
            have cG := (BG.rx hS (by omega)).cells; have cP := (BP.rx hS (by omega)).cells
            go_simp
            with_reducible rfl)
         (try simp only [Act.put, List.setIfInBounds_toArray, List.set_cons_zero, List.set_cons_succ]))
      | (refine ChX.nil ?_)
      | (refine' ChX.guard (x := _) (by rfl) ?_ ?_ ?_
         rotate_left
         · (go_simp
            rfl)
         all_goals
           intro hg
           simp only [hg])
      | (refine' ChX.guardN (x := _) (by rfl) ?_ ?_ ?_
         rotate_left
         · (go_simp
            rfl)
         all_goals
           intro hg
           simp only [hg]))
    skip
    have cR := BR.cells
    have fR := BR.frozens
    refine ChX.storeP (fun W => RExt w.heap.size vD W ∧ Blk W w.heap.size 28 (#[.int .i64 g.net.base, .int .i64 g.net.bits, .int .i64 g.out, .slice ta tn tc, .slice ka kn kc, .int .i64 g.filter, .int .i64 g.hold, .int .i64 g.now])) (by rfl) (by rfl) (by rfl) ⟨_, (by go_simp; rfl), RX.of_rext (B := w.heap.size) (by repeat (first | (with_reducible exact RExt.refl _ _) | (with_reducible refine RExt.putc ?_ _ _))) (.inr (.inl rfl)), (by repeat (first | (with_reducible exact RExt.refl _ _) | (with_reducible refine RExt.putc ?_ _ _))), (by exact BR.put8 _ _ _ _ _ _ _ _)⟩ ?_
    (try simp only [Act.put, List.setIfInBounds_toArray, List.set_cons_zero, List.set_cons_succ])
    rintro yW1 _ ⟨z1, BR1⟩
    clear cR fR
    have BS1 := BS.rext z1 (by omega)
    have cS := BS1.cells
    have fS := BS1.frozens
    refine ChX.storeP (fun W => RExt (w.heap.size + 1) yW1 W ∧ Blk W (w.heap.size + 1) 33 #[.int .i64 k, .int .i64 x1, .int .i64 y1, .int .i64 x2, .int .i64 y2, .slice sa sn sc]) (by rfl) (by rfl) (by rfl) ⟨_, (by go_simp; rfl), RX.of_rext (B := w.heap.size + 1) (by repeat (first | (with_reducible exact RExt.refl _ _) | (with_reducible refine RExt.putc ?_ _ _))) (.inr (.inr rfl)), (by repeat (first | (with_reducible exact RExt.refl _ _) | (with_reducible refine RExt.putc ?_ _ _))), (by exact BS1.put6 _ _ _ _ _ _)⟩ ?_
    (try simp only [Act.put, List.setIfInBounds_toArray, List.set_cons_zero, List.set_cons_succ])
    rintro yW2 _ ⟨z2, BS2⟩
    clear cS fS BS1
    have BR2 := BR1.rext z2 (by omega)
    replace T0 := (T0.rextFar z1 (fun hn x e => by have := lT0 hn x e; omega)).rextFar z2 (fun hn x e => by have := lT0 hn x e; omega)
    replace K0 := (K0.rextFar z1 (fun hn x e => by have := lK0 hn x e; omega)).rextFar z2 (fun hn x e => by have := lK0 hn x e; omega)
    replace S0 := (S0.rextFar z1 (fun hn x e => by have := lS0 hn x e; omega)).rextFar z2 (fun hn x e => by have := lS0 hn x e; omega)
    replace X0 := RExt.new (RExt.new X0 z1 (by omega)) z2 (by omega)
    refine ChX.nil ?_
    have cR := BR2.cells
    have cS := BS2.cells
    have zR := BR2.lt
    have zS := BS2.lt
    go_wp2
    refine' bodyPost_ret (v := _) ?_ rfl ?_
    rotate_left
    · (simp only [results, Try.results26]
       go_simp
       rfl)
    exact ⟨g, ⟨k, ⟨x1, y1⟩, ⟨x2, y2⟩, L⟩, ta, tn, tc, ka, kn, kc, sa, sn, sc, rfl, T0, K0, S0, (fun h x e => by have := lT0 h x e; omega), (fun h x e => by have := lK0 h x e; omega), (fun h x e => by have := lS0 h x e; omega), X0⟩
  · clear cBG fBG zBG cBP fBP cBR fBR zBR cBS fBS zBS
    have hBv : B < w4.heap.size := by omega
    go_wp2_with fail
    replace BG := BG.drew
    replace BP := BP.drew
    replace BR := BR.drew
    replace BS := BS.drew
    replace T0 := T0.drew
    replace K0 := K0.drew
    (try replace S0 := S0.drew)
    (try replace r0 := r0.drew)
    replace X0 := X0.drew
    have hdrS : ∀ W : World, W.drew.heap.size = W.heap.size := fun _ => rfl
    refine wp_region_eager (R := RX (fun i => i = B ∨ i = w.heap.size ∨ i = w.heap.size + 1)) [0, 1, 2, 3] (by kernel_rfl) (by kernel_rfl) (RX.refl _) (fun _ _ _ => RX.trans) ?_
    have hdrW := hdrS (w4)
    generalize (w4).drew = vD at *
    repeat' (first
      | (refine ChX.skip (by rfl) (by rfl) ?_
         (try simp only [Act.put, List.setIfInBounds_toArray, List.set_cons_zero, List.set_cons_succ]))
      | (refine' ChX.quiet (v := _) (by rfl) (by rfl) (by rfl) ?_ ?_
         rotate_left
         · (intro wS hS
            have cG := (BG.rx hS (by omega)).cells; have cP := (BP.rx hS (by omega)).cells
            go_simp
            with_reducible rfl)
         (try simp only [Act.put, List.setIfInBounds_toArray, List.set_cons_zero, List.set_cons_succ]))
      | (refine ChX.nil ?_)
      | (refine' ChX.guard (x := _) (by rfl) ?_ ?_ ?_
         rotate_left
         · (go_simp
            rfl)
         all_goals
           intro hg
           simp only [hg])
      | (refine' ChX.guardN (x := _) (by rfl) ?_ ?_ ?_
         rotate_left
         · (go_simp
            rfl)
         all_goals
           intro hg
           simp only [hg]))
    skip
    have cR := BR.cells
    have fR := BR.frozens
    refine ChX.storeP (fun W => RExt w.heap.size vD W ∧ Blk W w.heap.size 28 (#[.int .i64 g.net.base, .int .i64 g.net.bits, .int .i64 g.out, .slice ta tn tc, .slice ka kn kc, .int .i64 g.filter, .int .i64 g.hold, .int .i64 g.now])) (by rfl) (by rfl) (by rfl) ⟨_, (by go_simp; rfl), RX.of_rext (B := w.heap.size) (by repeat (first | (with_reducible exact RExt.refl _ _) | (with_reducible refine RExt.putc ?_ _ _))) (.inr (.inl rfl)), (by repeat (first | (with_reducible exact RExt.refl _ _) | (with_reducible refine RExt.putc ?_ _ _))), (by exact BR.put8 _ _ _ _ _ _ _ _)⟩ ?_
    (try simp only [Act.put, List.setIfInBounds_toArray, List.set_cons_zero, List.set_cons_succ])
    rintro yW1 _ ⟨z1, BR1⟩
    clear cR fR
    have BS1 := BS.rext z1 (by omega)
    have cS := BS1.cells
    have fS := BS1.frozens
    refine ChX.storeP (fun W => RExt (w.heap.size + 1) yW1 W ∧ Blk W (w.heap.size + 1) 33 #[.int .i64 k, .int .i64 fa, .int .i64 fp, .int .i64 ga, .int .i64 gp, .slice sa sn sc]) (by rfl) (by rfl) (by rfl) ⟨_, (by go_simp; rfl), RX.of_rext (B := w.heap.size + 1) (by repeat (first | (with_reducible exact RExt.refl _ _) | (with_reducible refine RExt.putc ?_ _ _))) (.inr (.inr rfl)), (by repeat (first | (with_reducible exact RExt.refl _ _) | (with_reducible refine RExt.putc ?_ _ _))), (by exact BS1.put6 _ _ _ _ _ _)⟩ ?_
    (try simp only [Act.put, List.setIfInBounds_toArray, List.set_cons_zero, List.set_cons_succ])
    rintro yW2 _ ⟨z2, BS2⟩
    clear cS fS BS1
    have BR2 := BR1.rext z2 (by omega)
    replace T0 := (T0.rextFar z1 (fun hn x e => by have := lT0 hn x e; omega)).rextFar z2 (fun hn x e => by have := lT0 hn x e; omega)
    replace K0 := (K0.rextFar z1 (fun hn x e => by have := lK0 hn x e; omega)).rextFar z2 (fun hn x e => by have := lK0 hn x e; omega)
    replace S0 := (S0.rextFar z1 (fun hn x e => by have := lS0 hn x e; omega)).rextFar z2 (fun hn x e => by have := lS0 hn x e; omega)
    replace X0 := RExt.new (RExt.new X0 z1 (by omega)) z2 (by omega)
    refine ChX.nil ?_
    have cR := BR2.cells
    have cS := BS2.cells
    have zR := BR2.lt
    have zS := BS2.lt
    go_wp2
    refine' bodyPost_ret (v := _) ?_ rfl ?_
    rotate_left
    · (simp only [results, Try.results26]
       go_simp
       rfl)
    exact ⟨g, ⟨k, ⟨fa, fp⟩, ⟨ga, gp⟩, L⟩, ta, tn, tc, ka, kn, kc, sa, sn, sc, rfl, T0, K0, S0, (fun h x e => by have := lT0 h x e; omega), (fun h x e => by have := lK0 h x e; omega), (fun h x e => by have := lS0 h x e; omega), X0⟩
set_option maxHeartbeats 1000000 in
theorem DrawReceiveIn_any (a : Option Addr) (n c : Nat) (w : World) (hc : Code w a n c) :
    Calls Try.prog 17 #[.slice a n c] w fun e w' => ∃ (g : GateD) (p : PktD) (ta : Option Addr) (tn tc : Nat) (ka : Option Addr) (kn kc : Nat) (a : Option Addr) (n c : Nat), e = .returned (.tuple #[.agg #[.int .i64 g.net.base, .int .i64 g.net.bits, .int .i64 g.out, .slice ta tn tc, .slice ka kn kc, .int .i64 g.filter, .int .i64 g.hold, .int .i64 g.now], .agg #[.int .i64 p.kind, .int .i64 p.fr.addr, .int .i64 p.fr.port, .int .i64 p.to_.addr, .int .i64 p.to_.port, .slice a n c]]) ∧
          Sl encM 4 w' ta tn tc g.table ∧ Sl encC 3 w' ka kn kc g.cons ∧ Sl encI 1 w' a n c p.data ∧ (0 < tn → ∀ x, ta = some x → w.heap.size ≤ x.block) ∧ (0 < kn → ∀ x, ka = some x → w.heap.size ≤ x.block) ∧ (0 < n → ∀ x, a = some x → w.heap.size ≤ x.block) ∧ Ext w w' := by
  obtain ⟨zs, hs, hz⟩ := hc
  go_enter Try.func17, Try.ntmps17
  go_wp2_with fail
  refine (newReader_any a n c zs _ (hs.ext (by repeat (first | (with_reducible exact Ext.refl _) | (with_reducible assumption) | (with_reducible refine Ext.alloc ?_ _) | (with_reducible refine Ext.drewN ?_ _) | (with_reducible refine Ext.drew ?_) | (with_reducible refine Ext.setCell ?_ ?_ _; rotate_left; (simp only []; omega)) | (with_reducible refine Ext.trans ?_ (by assumption))))) hz).mono ?_
  rintro e w1 ⟨B, rfl, hB, hr, hx⟩
  have hy1 := hx.size
  (try simp at hy1)
  (try simp at hB)
  have hBl := hr.lt
  have BR : Blk w1 w.heap.size 28 #[.int .i64 0, .int .i64 0, .int .i64 0, .slice none 0 0, .slice none 0 0, .int .i64 0, .int .i64 0, .int .i64 0] := by refine Blk.ext ?_ hx; exact (by repeat (first | (with_reducible assumption) | (with_reducible exact Blk.new _ _ _) | exact Blk.newAt _ _ _ (by simp) | (with_reducible refine Blk.alloc ?_ _) | (with_reducible refine Blk.drew ?_) | (with_reducible refine Blk.drewN ?_ _) | refine Blk.far ?_ (by simp only []; omega) _ | refine Blk.rext ?_ (by assumption) (by omega) | refine Blk.ext ?_ (by assumption)))
  have BS : Blk w1 (w.heap.size + 1) 33 #[.int .i64 0, .int .i64 0, .int .i64 0, .int .i64 0, .int .i64 0, .slice none 0 0] := by refine Blk.ext ?_ hx; exact (by repeat (first | (with_reducible assumption) | (with_reducible exact Blk.new _ _ _) | exact Blk.newAt _ _ _ (by simp) | (with_reducible refine Blk.alloc ?_ _) | (with_reducible refine Blk.drew ?_) | (with_reducible refine Blk.drewN ?_ _) | refine Blk.far ?_ (by simp only []; omega) _ | refine Blk.rext ?_ (by assumption) (by omega) | refine Blk.ext ?_ (by assumption)))
  have X0 : Ext w w1 := (by repeat (first | (with_reducible exact Ext.refl _) | (with_reducible assumption) | (with_reducible refine Ext.alloc ?_ _) | (with_reducible refine Ext.drewN ?_ _) | (with_reducible refine Ext.drew ?_) | (with_reducible refine Ext.setCell ?_ ?_ _; rotate_left; (simp only []; omega)) | (with_reducible refine Ext.trans ?_ (by assumption))))
  clear hx
  go_wp2_with fail
  refine (anyGate_any _ B _ _ hr (by omega)).mono ?_
  rintro e w2 ⟨g, ta, tn, tc, ka, kn, kc, rfl, T0, K0, _, hkn, _, _, fT, fK, q2, hx2⟩
  have hy2 := hx2.size
  (try simp at hy2)
  have BR : Blk w2 w.heap.size 28 (#[.int .i64 0, .int .i64 0, .int .i64 0, .slice none 0 0, .slice none 0 0, .int .i64 0, .int .i64 0, .int .i64 0]) := by refine Blk.rext ?_ hx2 (by omega); repeat (first | (with_reducible exact BR) | (with_reducible exact Blk.new _ _ _) | exact Blk.newAt _ _ _ (by simp) | (with_reducible refine Blk.alloc ?_ _) | (with_reducible refine Blk.drew ?_) | (with_reducible refine Blk.drewN ?_ _) | refine Blk.far ?_ (by simp only []; omega) _)
  have BS : Blk w2 (w.heap.size+1) 33 (#[.int .i64 0, .int .i64 0, .int .i64 0, .int .i64 0, .int .i64 0, .slice none 0 0]) := by refine Blk.rext ?_ hx2 (by omega); repeat (first | (with_reducible exact BS) | (with_reducible exact Blk.new _ _ _) | exact Blk.newAt _ _ _ (by simp) | (with_reducible refine Blk.alloc ?_ _) | (with_reducible refine Blk.drew ?_) | (with_reducible refine Blk.drewN ?_ _) | refine Blk.far ?_ (by simp only []; omega) _)
  have cBR := BR.cells
  have fBR := BR.frozens
  have zBR := BR.lt
  have cBS := BS.cells
  have fBS := BS.frozens
  have zBS := BS.lt
  have hKB : ∀ x, ka = some x → x.block ≠ B := fun x e => by have := fK x e; omega
  have lT0 : 0 < tn → ∀ x, ta = some x → w1.heap.size ≤ x.block ∧ x.block < w2.heap.size := fun h x e => ⟨fT x e, T0.lt h x e⟩
  have lK0 : 0 < kn → ∀ x, ka = some x → w1.heap.size ≤ x.block ∧ x.block < w2.heap.size := fun h x e => ⟨fK x e, K0.lt h x e⟩
  clear fT fK
  replace X0 : Ext w w2 := by refine RExt.new ?_ hx2 (by omega); exact (by repeat (first | (with_reducible exact Ext.refl _) | (with_reducible assumption) | (with_reducible refine Ext.alloc ?_ _) | (with_reducible refine Ext.drewN ?_ _) | (with_reducible refine Ext.drew ?_) | (with_reducible refine Ext.setCell ?_ ?_ _; rotate_left; (simp only []; omega)) | (with_reducible refine Ext.trans ?_ (by assumption))))
  clear cBR fBR zBR cBS fBS zBS
  go_wp2_with fail
  refine wp_gen (fun W => Ext w2 W ∧ Blk W w2.heap.size 28 (#[.int .i64 g.net.base, .int .i64 g.net.bits, .int .i64 g.out, .slice ta tn tc, .slice ka kn kc, .int .i64 g.filter, .int .i64 g.hold, .int .i64 g.now])) ⟨(by repeat (first | (with_reducible exact Ext.refl _) | (with_reducible assumption) | (with_reducible refine Ext.alloc ?_ _) | (with_reducible refine Ext.drewN ?_ _) | (with_reducible refine Ext.drew ?_) | (with_reducible refine Ext.setCell ?_ ?_ _; rotate_left; (simp only []; omega)) | (with_reducible refine Ext.trans ?_ (by assumption)))), (by repeat (first | (with_reducible assumption) | (with_reducible exact Blk.new _ _ _) | exact Blk.newAt _ _ _ (by simp) | (with_reducible refine Blk.alloc ?_ _) | (with_reducible refine Blk.drew ?_) | (with_reducible refine Blk.drewN ?_ _) | refine Blk.far ?_ (by simp only []; omega) _ | refine Blk.rext ?_ (by assumption) (by omega) | refine Blk.ext ?_ (by assumption)))⟩ ?_
  rintro v3 ⟨x3, BG⟩
  have hv2 := BG.lt
  replace BR := BR.ext x3
  replace BS := BS.ext x3
  replace T0 := T0.ext x3
  replace K0 := K0.ext x3
  replace X0 := X0.trans x3
  have := (x3).size
  have r0 := q2.ext x3
  clear x3 q2 hx2
  have BP := BG
  have hBv : B < v3.heap.size := by omega
  go_wp2_with fail
  replace BG := BG.drew
  replace BP := BP.drew
  replace BR := BR.drew
  replace BS := BS.drew
  replace T0 := T0.drew
  replace K0 := K0.drew
  (try replace S0 := S0.drew)
  (try replace r0 := r0.drew)
  replace X0 := X0.drew
  have hdrS : ∀ W : World, W.drew.heap.size = W.heap.size := fun _ => rfl
  refine wp_region_eager (R := RX (fun i => i = B ∨ i = w.heap.size ∨ i = w.heap.size + 1)) [0, 1, 2, 3, 4, 5] (by kernel_rfl) (by kernel_rfl) (RX.refl _) (fun _ _ _ => RX.trans) ?_
  have hdrW := hdrS (v3)
  generalize (v3).drew = vD at *
  repeat' (first
    | (refine ChX.skip (by rfl) (by rfl) ?_
       (try simp only [Act.put, List.setIfInBounds_toArray, List.set_cons_zero, List.set_cons_succ]))
    | (refine' ChX.quiet (v := _) (by rfl) (by rfl) (by rfl) ?_ ?_
       rotate_left
       · (intro wS hS
          have cG := (BG.rx hS (by omega)).cells; have cP := (BP.rx hS (by omega)).cells
          go_simp
          with_reducible rfl)
       (try simp only [Act.put, List.setIfInBounds_toArray, List.set_cons_zero, List.set_cons_succ]))
    | (refine ChX.nil ?_)
    | (refine' ChX.guard (x := _) (by rfl) ?_ ?_ ?_
       rotate_left
       · (go_simp
          rfl)
       all_goals
         intro hg
         simp only [hg])
    | (refine' ChX.guardN (x := _) (by rfl) ?_ ?_ ?_
       rotate_left
       · (go_simp
          rfl)
       all_goals
         intro hg
         simp only [hg]))
  skip
  refine ChX.call (by rfl) (by rfl) (by rfl) (by go_simp; (constructor <;> rfl)) ?_
  refine (inPacket_any _ B _ g ta tn tc ka kn kc vD r0 (by omega) K0 (by omega) hKB).mono ?_
  rintro e v8 ⟨p, sa, sn, sc, rfl, S0, _, fS, q8, h8⟩
  refine ⟨_, rfl, RX.of_rext h8 (.inl rfl), ?_⟩
  have lS0 : 0 < sn → ∀ x, sa = some x → vD.heap.size ≤ x.block ∧ x.block < v8.heap.size := fun h x e => ⟨fS x e, S0.lt h x e⟩
  (try simp only [Act.put, List.setIfInBounds_toArray, List.set_cons_zero, List.set_cons_succ])
  replace BG := BG.rext h8 (by omega)
  replace BR := BR.rext h8 (by omega)
  replace BS := BS.rext h8 (by omega)
  replace T0 := T0.rextFar h8 (fun hn x e => by have := lT0 hn x e; omega)
  replace K0 := K0.rextFar h8 (fun hn x e => by have := lK0 hn x e; omega)
  replace X0 := RExt.new X0 h8 (by omega)
  have := (h8).size
  clear h8 q8 fS
  have cR := BR.cells
  have fR := BR.frozens
  refine ChX.storeP (fun W => RExt w.heap.size v8 W ∧ Blk W w.heap.size 28 (#[.int .i64 g.net.base, .int .i64 g.net.bits, .int .i64 g.out, .slice ta tn tc, .slice ka kn kc, .int .i64 g.filter, .int .i64 g.hold, .int .i64 g.now])) (by rfl) (by rfl) (by rfl) ⟨_, (by go_simp; rfl), RX.of_rext (B := w.heap.size) (by repeat (first | (with_reducible exact RExt.refl _ _) | (with_reducible refine RExt.putc ?_ _ _))) (.inr (.inl rfl)), (by repeat (first | (with_reducible exact RExt.refl _ _) | (with_reducible refine RExt.putc ?_ _ _))), (by exact BR.put8 _ _ _ _ _ _ _ _)⟩ ?_
  (try simp only [Act.put, List.setIfInBounds_toArray, List.set_cons_zero, List.set_cons_succ])
  rintro yW1 _ ⟨z1, BR1⟩
  clear cR fR
  have BS1 := BS.rext z1 (by omega)
  have cS := BS1.cells
  have fS := BS1.frozens
  refine ChX.storeP (fun W => RExt (w.heap.size + 1) yW1 W ∧ Blk W (w.heap.size + 1) 33 (#[.int .i64 p.kind, .int .i64 p.fr.addr, .int .i64 p.fr.port, .int .i64 p.to_.addr, .int .i64 p.to_.port, .slice sa sn sc])) (by rfl) (by rfl) (by rfl) ⟨_, (by go_simp; rfl), RX.of_rext (B := w.heap.size + 1) (by repeat (first | (with_reducible exact RExt.refl _ _) | (with_reducible refine RExt.putc ?_ _ _))) (.inr (.inr rfl)), (by repeat (first | (with_reducible exact RExt.refl _ _) | (with_reducible refine RExt.putc ?_ _ _))), (by exact BS1.put6 _ _ _ _ _ _)⟩ ?_
  (try simp only [Act.put, List.setIfInBounds_toArray, List.set_cons_zero, List.set_cons_succ])
  rintro yW2 _ ⟨z2, BS2⟩
  clear cS fS BS1
  have BR2 := BR1.rext z2 (by omega)
  replace T0 := (T0.rextFar z1 (fun hn x e => by have := lT0 hn x e; omega)).rextFar z2 (fun hn x e => by have := lT0 hn x e; omega)
  replace K0 := (K0.rextFar z1 (fun hn x e => by have := lK0 hn x e; omega)).rextFar z2 (fun hn x e => by have := lK0 hn x e; omega)
  replace S0 := (S0.rextFar z1 (fun hn x e => by have := lS0 hn x e; omega)).rextFar z2 (fun hn x e => by have := lS0 hn x e; omega)
  replace X0 := RExt.new (RExt.new X0 z1 (by omega)) z2 (by omega)
  refine ChX.nil ?_
  have cR := BR2.cells
  have cS := BS2.cells
  have zR := BR2.lt
  have zS := BS2.lt
  go_wp2
  refine' bodyPost_ret (v := _) ?_ rfl ?_
  rotate_left
  · (simp only [results, Try.results17]
     go_simp
     rfl)
  exact ⟨g, p, ta, tn, tc, ka, kn, kc, sa, sn, sc, rfl, T0, K0, S0, (fun h x e => by have := lT0 h x e; omega), (fun h x e => by have := lK0 h x e; omega), (fun h x e => by have := lS0 h x e; omega), X0⟩
end Go.Proofs.Ytppdcglnopoocaa
/- Contracts of what is drawn: gates and packets, further. -/
namespace Go.Proofs.Ytppdcglnopoocaa
set_option linter.unusedVariables false
set_option linter.unusedSimpArgs false
open Go.RowKit

end Go.Proofs.Ytppdcglnopoocaa
/- Contracts of what is drawn: gates and times. -/
namespace Go.Proofs.Ytppdcglnopoocaa
set_option linter.unusedVariables false
set_option linter.unusedSimpArgs false
open Go.RowKit

theorem one_litX (n0 B : Nat) (m : Int) (T : TypeId) (cs : Array Value) (b n : Nat) (W : World) (hr : Rd n0 W B m) (hm : m + 1 ≤ 1000000) (hb : b = W.heap.size) (hn : cs.size = n) (h0 : 0 < n) (hn' : n ≤ 1000)
    (hc : ∀ v ∈ cs.toList, v = .int .i64 (intOf v)) :
    Calls Try.prog 116 #[.pointer (some ⟨B, 0, none⟩), .slice (some ⟨b, 0, none⟩) n n] (W.alloc (.cells cs T)) fun e w' => ∃ x, e = .returned (.int .i64 x) ∧ x ∈ cs.toList.map intOf ∧ Rd n0 w' B (m + 1) ∧ RExt B (W.alloc (.cells cs T)) w' := by
  refine one_any n0 B m (cs.toList.map intOf) _ _ _ _ (hr.alloc _) hm (Sl.lits W T cs hb hn hn' hc) h0 hn' ?_
  intro x hx
  injection hx with hx
  subst hx
  have := hr.lt
  have := hr.le
  simp only []
  omega
end Go.Proofs.Ytppdcglnopoocaa
/- Contracts of what is drawn: gates and reports. -/
namespace Go.Proofs.Ytppdcglnopoocaa
set_option linter.unusedVariables false
set_option linter.unusedSimpArgs false
open Go.RowKit

end Go.Proofs.Ytppdcglnopoocaa
