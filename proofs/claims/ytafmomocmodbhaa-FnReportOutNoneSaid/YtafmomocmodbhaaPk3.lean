/- Part 3 of the words, laws and contracts that the claims of this seat share, joined from their texts. No condition. -/
import Derived.Lib.SliceRun
import Derived.Test.YtafmomocmodbhaaPk2
/- Contracts of the generators of gates that may be invalid. -/
namespace Go.Proofs.Ytafmomocmodbhaa
set_option linter.unusedVariables false
set_option linter.unusedSimpArgs false
open Go.RowKit

set_option maxHeartbeats 4000000 in
theorem anyGate_any (n0 B : Nat) (m : Int) (w : World) (hr : Rd n0 w B m) (hm : m + 66 ≤ 1000000) :
    Calls Try.prog 61 #[.pointer (some ⟨B, 0, none⟩)] w fun e w' => ∃ (g : GateD) (ta : Option Addr) (tn tc : Nat) (ka : Option Addr) (kn kc : Nat), e = .returned (.agg #[.int .i64 g.net.base, .int .i64 g.net.bits, .int .i64 g.out, .slice ta tn tc, .slice ka kn kc, .int .i64 g.filter, .int .i64 g.hold, .int .i64 g.now]) ∧ Sl encM 4 w' ta tn tc g.table ∧ Sl encC 3 w' ka kn kc g.cons ∧
      tn ≤ 8 ∧ kn ≤ 11 ∧ 0 ≤ g.now ∧ g.now ≤ 10001 ∧ (∀ x, ta = some x → w.heap.size ≤ x.block) ∧ (∀ x, ka = some x → w.heap.size ≤ x.block) ∧ Rd n0 w' B (m + 66) ∧ RExt B w w' := by
  have hnw : n0 ≤ w.heap.size := hr.le
  have hBw : B < w.heap.size := (by have := hr.lt; omega)
  go_enter Try.func61, Try.ntmps61
  go_wp2_with fail
  refine (someGate_any n0 B m _ (by exact hr.to (by repeat (first | (with_reducible exact Since.refl hr.le) | (with_reducible refine Since.alloc ?_ _) | (with_reducible refine Since.drew ?_) | (with_reducible refine Since.drewN ?_ _) | (with_reducible refine Since.setCell ?_ ?_ _; rotate_left; (simp only []; omega)) | (with_reducible refine Since.ext ?_ (by assumption))))) (by omega)).mono ?_
  rintro e w1 ⟨g, ta, tn, tc, ka, kn, kc, rfl, T0, K0, htn, hkn, now0, now1, fT, fK, q1, hx1⟩
  have hy1 := hx1.size
  (try simp at hy1)
  have BR : Blk w1 w.heap.size 40 (#[.int .i64 0, .int .i64 0, .int .i64 0, .slice none 0 0, .slice none 0 0, .int .i64 0, .int .i64 0, .int .i64 0]) := by refine Blk.rext ?_ hx1 (by omega); repeat (first | (with_reducible exact BR) | (with_reducible exact Blk.new _ _ _) | exact Blk.newAt _ _ _ (by simp) | (with_reducible refine Blk.alloc ?_ _) | (with_reducible refine Blk.drew ?_) | (with_reducible refine Blk.drewN ?_ _) | refine Blk.far ?_ (by simp only []; omega) _)
  have cBR := BR.cells
  have fBR := BR.frozens
  have zBR := BR.lt
  have hfT : ∀ x, ta = some x → w.heap.size < x.block := fun x e => by have h := fT x e; simp at h; omega
  have hfK : ∀ x, ka = some x → w.heap.size < x.block := fun x e => by have h := fK x e; simp at h; omega
  clear fT fK
  have fT := hfT
  have fK := hfK
  have lT0 : 0 < tn → ∀ x, ta = some x → w.heap.size < x.block ∧ x.block < w1.heap.size := fun h x e => ⟨fT x e, T0.lt h x e⟩
  have lK0 : 0 < kn → ∀ x, ka = some x → w.heap.size < x.block ∧ x.block < w1.heap.size := fun h x e => ⟨fK x e, K0.lt h x e⟩
  clear hfT hfK
  go_wp2_with fail
  refine (pick_any n0 B _ 40 _ (by exact q1.to (by repeat (first | (with_reducible exact Since.refl q1.le) | (with_reducible refine Since.alloc ?_ _) | (with_reducible refine Since.drew ?_) | (with_reducible refine Since.drewN ?_ _) | (with_reducible refine Since.setCell ?_ ?_ _; rotate_left; (simp only []; omega)) | (with_reducible refine Since.ext ?_ (by assumption))))) (by omega) (by omega) (by omega)).mono ?_
  rintro e w2 ⟨d, rfl, d0, d1, q2, hx2⟩
  have hy2 := hx2.size
  (try simp at hy2)
  clear cBR fBR zBR
  replace BR : Blk w2 w.heap.size 40 (#[.int .i64 0, .int .i64 0, .int .i64 0, .slice none 0 0, .slice none 0 0, .int .i64 0, .int .i64 0, .int .i64 0]) := by refine Blk.rext ?_ hx2 (by omega); repeat (first | (with_reducible exact BR) | (with_reducible exact Blk.new _ _ _) | exact Blk.newAt _ _ _ (by simp) | (with_reducible refine Blk.alloc ?_ _) | (with_reducible refine Blk.drew ?_) | (with_reducible refine Blk.drewN ?_ _) | refine Blk.far ?_ (by simp only []; omega) _)
  have BG : Blk w2 w1.heap.size 40 (#[.int .i64 g.net.base, .int .i64 g.net.bits, .int .i64 g.out, .slice ta tn tc, .slice ka kn kc, .int .i64 g.filter, .int .i64 g.hold, .int .i64 g.now]) := by refine Blk.rext ?_ hx2 (by omega); repeat (first | (with_reducible exact BG) | (with_reducible exact Blk.new _ _ _) | exact Blk.newAt _ _ _ (by simp) | (with_reducible refine Blk.alloc ?_ _) | (with_reducible refine Blk.drew ?_) | (with_reducible refine Blk.drewN ?_ _) | refine Blk.far ?_ (by simp only []; omega) _)
  replace T0 : Sl encM 4 w2 ta tn tc g.table := by refine Sl.rextFar ?_ hx2 (fun hn x e => by have := lT0 hn x e; omega); repeat (first | (with_reducible exact T0) | (with_reducible refine Sl.alloc ?_ _) | (with_reducible refine Sl.drew ?_) | (with_reducible refine Sl.drewN ?_ _) | refine Sl.setFar ?_ (fun hn x e => by have := lT0 hn x e; simp only []; omega) _)
  replace K0 : Sl encC 3 w2 ka kn kc g.cons := by refine Sl.rextFar ?_ hx2 (fun hn x e => by have := lK0 hn x e; omega); repeat (first | (with_reducible exact K0) | (with_reducible refine Sl.alloc ?_ _) | (with_reducible refine Sl.drew ?_) | (with_reducible refine Sl.drewN ?_ _) | refine Sl.setFar ?_ (fun hn x e => by have := lK0 hn x e; simp only []; omega) _)
  have cBR := BR.cells
  have fBR := BR.frozens
  have zBR := BR.lt
  have cBG := BG.cells
  have fBG := BG.frozens
  have zBG := BG.lt
  have X2 : RExt B w w2 := (by repeat (first | (with_reducible exact RExt.refl _ _) | (with_reducible assumption) | (with_reducible refine RExt.alloc ?_ _) | (with_reducible refine RExt.drewN ?_ _) | (with_reducible refine RExt.drew ?_) | (with_reducible refine RExt.setCell ?_ (.inr ?_) _; rotate_left; (simp only []; omega)) | (with_reducible refine RExt.trans ?_ (by assumption)) | (with_reducible refine RExt.ext ?_ (by assumption))))
  clear hx1 hx2
  by_cases e4 : d = 4
  · subst e4
    have XU := Ext.refl w2
    go_wp2_with (first
      | (at_builtin; refine wpList_append_ow _ rfl _ _ rfl (by with_reducible exact eiC) encC_len encC_one (by omega) w2.heap.size (some ⟨w2.heap.size, 0, none⟩) 0 0 [] rfl (by exact OwR.empty _ _ (by simp) (by simp)) ka kn kc g.cons rfl (by exact K0.ext (by repeat (first | (with_reducible exact Ext.refl _) | (with_reducible assumption) | (with_reducible refine Ext.alloc ?_ _) | (with_reducible refine Ext.drewN ?_ _) | (with_reducible refine Ext.drew ?_) | (with_reducible refine Ext.setCell ?_ ?_ _; rotate_left; (simp only []; omega)) | (with_reducible refine Ext.trans ?_ (by assumption))))) (by omega) (by simp) ?_; intro a3 c3 w3 hO3 hX3 hg3; replace hX3 := hX3 w2 (by repeat (first | (with_reducible exact Ext.refl _) | (with_reducible assumption) | (with_reducible refine Ext.alloc ?_ _) | (with_reducible refine Ext.drewN ?_ _) | (with_reducible refine Ext.drew ?_) | (with_reducible refine Ext.setCell ?_ ?_ _; rotate_left; (simp only []; omega)) | (with_reducible refine Ext.trans ?_ (by assumption)))) (by omega); simp only [Nat.zero_add, List.nil_append] at hO3)
      | (at_builtin; refine wpList_append_ow _ rfl _ _ rfl (by with_reducible exact eiC) encC_len encC_one (by omega) w2.heap.size a3 kn c3 g.cons (by first | rfl | simp) (by exact hO3.ext (by repeat (first | (with_reducible exact Ext.refl _) | (with_reducible assumption) | (with_reducible refine Ext.alloc ?_ _) | (with_reducible refine Ext.drewN ?_ _) | (with_reducible refine Ext.drew ?_) | (with_reducible refine Ext.setCell ?_ ?_ _; rotate_left; (simp only []; omega)) | (with_reducible refine Ext.trans ?_ (by assumption))))) _ 1 1 [⟨1006, ⟨0, 0⟩⟩] rfl (by first | exact Sl.lit1 _ _ (⟨1006, ⟨0, 0⟩⟩ : ConD) _ rfl rfl | (refine Sl.ext ?_ ((Ext.refl _).drew); exact Sl.lit1 _ _ (⟨1006, ⟨0, 0⟩⟩ : ConD) _ rfl rfl)) (by omega) (by have := hX3.size; (try simp); omega) ?_; intro a4 c4 w4 hO4 hX4 hg4; replace hX4 := hX4 w2 (hX3.trans (by repeat (first | (with_reducible exact Ext.refl _) | (with_reducible assumption) | (with_reducible refine Ext.alloc ?_ _) | (with_reducible refine Ext.drewN ?_ _) | (with_reducible refine Ext.drew ?_) | (with_reducible refine Ext.setCell ?_ ?_ _; rotate_left; (simp only []; omega)) | (with_reducible refine Ext.trans ?_ (by assumption))))) (by omega); have BG4 := BG.ext hX4; have BR4 := BR.ext hX4; clear cBG fBG zBG cBR fBR zBR; have cBG := BG4.cells; have fBG := BG4.frozens; have zBG := BG4.lt; have cBR := BR4.cells; have fBR := BR4.frozens; have zBR := BR4.lt))
    replace T0 := T0.ext hX4
    replace K0 := (hO4.ow encC_len (by omega)).sl encC_len
    have fK4 := hO4.lt
    have z4 := hX4.size
    replace q2 := Rd.mono (q2.ext hX4) (show m + 64 + 1 ≤ m + 66 by omega)
    have X4 := X2.ext hX4
    clear X2 hX4 lK0
    have lK0 : 0 < kn + 1 → ∀ x, a4 = some x → w2.heap.size ≤ x.block := fun _ x e => (fK4 x e).1
    refine' bodyPost_ret (v := _) ?_ rfl ?_
    rotate_left
    · (simp only [results, Try.results61]
       go_simp
       rfl)
    refine ⟨{ g with cons := g.cons ++ [⟨1006, ⟨0, 0⟩⟩] }, ta, tn, tc, a4, kn + 1, c4, rfl, ?_, ?_, by omega, by omega, (by first | omega | (simp only []; omega)), (by first | omega | (simp only []; omega)), (fun x e => by have := fT x e; omega), (fun x e => by have := fK4 x e; omega), ?_, ?_⟩
    · repeat (refine Sl.setFar ?_ (fun hn y hy => by have := lT0 hn y hy; simp only []; omega) _)
      exact T0
    · repeat (refine Sl.setFar ?_ (fun hn y hy => by have := lK0 hn y hy; simp only []; omega) _)
      exact K0
    · exact (by exact q2.to (by repeat (first | (with_reducible exact Since.refl q2.le) | (with_reducible refine Since.alloc ?_ _) | (with_reducible refine Since.drew ?_) | (with_reducible refine Since.drewN ?_ _) | (with_reducible refine Since.setCell ?_ ?_ _; rotate_left; (simp only []; omega)) | (with_reducible refine Since.ext ?_ (by assumption)))))
    · exact (by repeat (first | (with_reducible exact RExt.refl _ _) | (with_reducible assumption) | (with_reducible refine RExt.alloc ?_ _) | (with_reducible refine RExt.drewN ?_ _) | (with_reducible refine RExt.drew ?_) | (with_reducible refine RExt.setCell ?_ (.inr ?_) _; rotate_left; (simp only []; omega)) | (with_reducible refine RExt.trans ?_ (by assumption)) | (with_reducible refine RExt.ext ?_ (by assumption))))
  · have cdone : True := trivial
    by_cases e0 : d = 0
    · subst e0
      go_wp2_with fail
      refine (one_lit n0 B _ _ _ _ _ _ (by exact q2.to (by repeat (first | (with_reducible exact Since.refl q2.le) | (with_reducible refine Since.alloc ?_ _) | (with_reducible refine Since.drew ?_) | (with_reducible refine Since.drewN ?_ _) | (with_reducible refine Since.setCell ?_ ?_ _; rotate_left; (simp only []; omega)) | (with_reducible refine Since.ext ?_ (by assumption))))) (by omega) (by simp) (by rfl) (by omega) (by omega) (by simp [intOf])).mono ?_
      rintro e w3 ⟨z, rfl, hm3, q3, hx3⟩
      have hy3 := hx3.size
      (try simp at hy3)
      clear cBR fBR zBR
      clear cBG fBG zBG
      replace BR : Blk w3 w.heap.size 40 (#[.int .i64 0, .int .i64 0, .int .i64 0, .slice none 0 0, .slice none 0 0, .int .i64 0, .int .i64 0, .int .i64 0]) := by refine Blk.rext ?_ hx3 (by omega); repeat (first | (with_reducible exact BR) | (with_reducible exact Blk.new _ _ _) | exact Blk.newAt _ _ _ (by simp) | (with_reducible refine Blk.alloc ?_ _) | (with_reducible refine Blk.drew ?_) | (with_reducible refine Blk.drewN ?_ _) | refine Blk.far ?_ (by simp only []; omega) _)
      replace BG : Blk w3 w1.heap.size 40 (#[.int .i64 g.net.base, .int .i64 g.net.bits, .int .i64 g.out, .slice ta tn tc, .slice ka kn kc, .int .i64 g.filter, .int .i64 g.hold, .int .i64 g.now]) := by refine Blk.rext ?_ hx3 (by omega); repeat (first | (with_reducible exact BG) | (with_reducible exact Blk.new _ _ _) | exact Blk.newAt _ _ _ (by simp) | (with_reducible refine Blk.alloc ?_ _) | (with_reducible refine Blk.drew ?_) | (with_reducible refine Blk.drewN ?_ _) | refine Blk.far ?_ (by simp only []; omega) _)
      replace T0 : Sl encM 4 w3 ta tn tc g.table := by refine Sl.rextFar ?_ hx3 (fun hn x e => by have := lT0 hn x e; omega); repeat (first | (with_reducible exact T0) | (with_reducible refine Sl.alloc ?_ _) | (with_reducible refine Sl.drew ?_) | (with_reducible refine Sl.drewN ?_ _) | refine Sl.setFar ?_ (fun hn x e => by have := lT0 hn x e; simp only []; omega) _)
      replace K0 : Sl encC 3 w3 ka kn kc g.cons := by refine Sl.rextFar ?_ hx3 (fun hn x e => by have := lK0 hn x e; omega); repeat (first | (with_reducible exact K0) | (with_reducible refine Sl.alloc ?_ _) | (with_reducible refine Sl.drew ?_) | (with_reducible refine Sl.drewN ?_ _) | refine Sl.setFar ?_ (fun hn x e => by have := lK0 hn x e; simp only []; omega) _)
      have cBR := BR.cells
      have fBR := BR.frozens
      have zBR := BR.lt
      have cBG := BG.cells
      have fBG := BG.frozens
      have zBG := BG.lt
      simp [intOf] at hm3
      have X3 : RExt B w w3 := (by repeat (first | (with_reducible exact RExt.refl _ _) | (with_reducible assumption) | (with_reducible refine RExt.alloc ?_ _) | (with_reducible refine RExt.drewN ?_ _) | (with_reducible refine RExt.drew ?_) | (with_reducible refine RExt.setCell ?_ (.inr ?_) _; rotate_left; (simp only []; omega)) | (with_reducible refine RExt.trans ?_ (by assumption)) | (with_reducible refine RExt.ext ?_ (by assumption))))
      clear X2 hx3
      go_wp2
      refine' bodyPost_ret (v := _) ?_ rfl ?_
      rotate_left
      · (simp only [results, Try.results61]
         go_simp
         rfl)
      refine ⟨{ g with out := z }, ta, tn, tc, ka, kn, kc, rfl, ?_, ?_, by omega, by omega, (by first | omega | (simp only []; omega)), (by first | omega | (simp only []; omega)), (fun x e => by have := fT x e; omega), (fun x e => by have := fK x e; omega), ?_, ?_⟩
      · repeat (refine Sl.setFar ?_ (fun hn y hy => by have := lT0 hn y hy; simp only []; omega) _)
        exact T0
      · repeat (refine Sl.setFar ?_ (fun hn y hy => by have := lK0 hn y hy; simp only []; omega) _)
        exact K0
      · exact (by exact (Rd.mono q3 (show m + 64 + 1 + 1 ≤ m + 66 by omega)).to (by repeat (first | (with_reducible exact Since.refl (Rd.mono q3 (show m + 64 + 1 + 1 ≤ m + 66 by omega)).le) | (with_reducible refine Since.alloc ?_ _) | (with_reducible refine Since.drew ?_) | (with_reducible refine Since.drewN ?_ _) | (with_reducible refine Since.setCell ?_ ?_ _; rotate_left; (simp only []; omega)) | (with_reducible refine Since.ext ?_ (by assumption)))))
      · exact (by repeat (first | (with_reducible exact RExt.refl _ _) | (with_reducible assumption) | (with_reducible refine RExt.alloc ?_ _) | (with_reducible refine RExt.drewN ?_ _) | (with_reducible refine RExt.drew ?_) | (with_reducible refine RExt.setCell ?_ (.inr ?_) _; rotate_left; (simp only []; omega)) | (with_reducible refine RExt.trans ?_ (by assumption)) | (with_reducible refine RExt.ext ?_ (by assumption))))
    by_cases e1 : d = 1
    · subst e1
      go_wp2
      refine' bodyPost_ret (v := _) ?_ rfl ?_
      rotate_left
      · (simp only [results, Try.results61]
         go_simp
         rfl)
      refine ⟨{ g with filter := 3 }, ta, tn, tc, ka, kn, kc, rfl, ?_, ?_, by omega, by omega, (by first | omega | (simp only []; omega)), (by first | omega | (simp only []; omega)), (fun x e => by have := fT x e; omega), (fun x e => by have := fK x e; omega), ?_, ?_⟩
      · repeat (refine Sl.setFar ?_ (fun hn y hy => by have := lT0 hn y hy; simp only []; omega) _)
        exact T0
      · repeat (refine Sl.setFar ?_ (fun hn y hy => by have := lK0 hn y hy; simp only []; omega) _)
        exact K0
      · exact (by exact (Rd.mono q2 (show m + 64 + 1 ≤ m + 66 by omega)).to (by repeat (first | (with_reducible exact Since.refl (Rd.mono q2 (show m + 64 + 1 ≤ m + 66 by omega)).le) | (with_reducible refine Since.alloc ?_ _) | (with_reducible refine Since.drew ?_) | (with_reducible refine Since.drewN ?_ _) | (with_reducible refine Since.setCell ?_ ?_ _; rotate_left; (simp only []; omega)) | (with_reducible refine Since.ext ?_ (by assumption)))))
      · exact (by repeat (first | (with_reducible exact RExt.refl _ _) | (with_reducible assumption) | (with_reducible refine RExt.alloc ?_ _) | (with_reducible refine RExt.drewN ?_ _) | (with_reducible refine RExt.drew ?_) | (with_reducible refine RExt.setCell ?_ (.inr ?_) _; rotate_left; (simp only []; omega)) | (with_reducible refine RExt.trans ?_ (by assumption)) | (with_reducible refine RExt.ext ?_ (by assumption))))
    by_cases e2 : d = 2
    · subst e2
      go_wp2_with fail
      refine (one_lit n0 B _ _ _ _ _ _ (by exact q2.to (by repeat (first | (with_reducible exact Since.refl q2.le) | (with_reducible refine Since.alloc ?_ _) | (with_reducible refine Since.drew ?_) | (with_reducible refine Since.drewN ?_ _) | (with_reducible refine Since.setCell ?_ ?_ _; rotate_left; (simp only []; omega)) | (with_reducible refine Since.ext ?_ (by assumption))))) (by omega) (by simp) (by rfl) (by omega) (by omega) (by simp [intOf])).mono ?_
      rintro e w3 ⟨z, rfl, hm3, q3, hx3⟩
      have hy3 := hx3.size
      (try simp at hy3)
      clear cBR fBR zBR
      clear cBG fBG zBG
      replace BR : Blk w3 w.heap.size 40 (#[.int .i64 0, .int .i64 0, .int .i64 0, .slice none 0 0, .slice none 0 0, .int .i64 0, .int .i64 0, .int .i64 0]) := by refine Blk.rext ?_ hx3 (by omega); repeat (first | (with_reducible exact BR) | (with_reducible exact Blk.new _ _ _) | exact Blk.newAt _ _ _ (by simp) | (with_reducible refine Blk.alloc ?_ _) | (with_reducible refine Blk.drew ?_) | (with_reducible refine Blk.drewN ?_ _) | refine Blk.far ?_ (by simp only []; omega) _)
      replace BG : Blk w3 w1.heap.size 40 (#[.int .i64 g.net.base, .int .i64 g.net.bits, .int .i64 g.out, .slice ta tn tc, .slice ka kn kc, .int .i64 g.filter, .int .i64 g.hold, .int .i64 g.now]) := by refine Blk.rext ?_ hx3 (by omega); repeat (first | (with_reducible exact BG) | (with_reducible exact Blk.new _ _ _) | exact Blk.newAt _ _ _ (by simp) | (with_reducible refine Blk.alloc ?_ _) | (with_reducible refine Blk.drew ?_) | (with_reducible refine Blk.drewN ?_ _) | refine Blk.far ?_ (by simp only []; omega) _)
      replace T0 : Sl encM 4 w3 ta tn tc g.table := by refine Sl.rextFar ?_ hx3 (fun hn x e => by have := lT0 hn x e; omega); repeat (first | (with_reducible exact T0) | (with_reducible refine Sl.alloc ?_ _) | (with_reducible refine Sl.drew ?_) | (with_reducible refine Sl.drewN ?_ _) | refine Sl.setFar ?_ (fun hn x e => by have := lT0 hn x e; simp only []; omega) _)
      replace K0 : Sl encC 3 w3 ka kn kc g.cons := by refine Sl.rextFar ?_ hx3 (fun hn x e => by have := lK0 hn x e; omega); repeat (first | (with_reducible exact K0) | (with_reducible refine Sl.alloc ?_ _) | (with_reducible refine Sl.drew ?_) | (with_reducible refine Sl.drewN ?_ _) | refine Sl.setFar ?_ (fun hn x e => by have := lK0 hn x e; simp only []; omega) _)
      have cBR := BR.cells
      have fBR := BR.frozens
      have zBR := BR.lt
      have cBG := BG.cells
      have fBG := BG.frozens
      have zBG := BG.lt
      simp [intOf] at hm3
      have X3 : RExt B w w3 := (by repeat (first | (with_reducible exact RExt.refl _ _) | (with_reducible assumption) | (with_reducible refine RExt.alloc ?_ _) | (with_reducible refine RExt.drewN ?_ _) | (with_reducible refine RExt.drew ?_) | (with_reducible refine RExt.setCell ?_ (.inr ?_) _; rotate_left; (simp only []; omega)) | (with_reducible refine RExt.trans ?_ (by assumption)) | (with_reducible refine RExt.ext ?_ (by assumption))))
      clear X2 hx3
      go_wp2
      refine' bodyPost_ret (v := _) ?_ rfl ?_
      rotate_left
      · (simp only [results, Try.results61]
         go_simp
         rfl)
      refine ⟨{ g with hold := z }, ta, tn, tc, ka, kn, kc, rfl, ?_, ?_, by omega, by omega, (by first | omega | (simp only []; omega)), (by first | omega | (simp only []; omega)), (fun x e => by have := fT x e; omega), (fun x e => by have := fK x e; omega), ?_, ?_⟩
      · repeat (refine Sl.setFar ?_ (fun hn y hy => by have := lT0 hn y hy; simp only []; omega) _)
        exact T0
      · repeat (refine Sl.setFar ?_ (fun hn y hy => by have := lK0 hn y hy; simp only []; omega) _)
        exact K0
      · exact (by exact (Rd.mono q3 (show m + 64 + 1 + 1 ≤ m + 66 by omega)).to (by repeat (first | (with_reducible exact Since.refl (Rd.mono q3 (show m + 64 + 1 + 1 ≤ m + 66 by omega)).le) | (with_reducible refine Since.alloc ?_ _) | (with_reducible refine Since.drew ?_) | (with_reducible refine Since.drewN ?_ _) | (with_reducible refine Since.setCell ?_ ?_ _; rotate_left; (simp only []; omega)) | (with_reducible refine Since.ext ?_ (by assumption)))))
      · exact (by repeat (first | (with_reducible exact RExt.refl _ _) | (with_reducible assumption) | (with_reducible refine RExt.alloc ?_ _) | (with_reducible refine RExt.drewN ?_ _) | (with_reducible refine RExt.drew ?_) | (with_reducible refine RExt.setCell ?_ (.inr ?_) _; rotate_left; (simp only []; omega)) | (with_reducible refine RExt.trans ?_ (by assumption)) | (with_reducible refine RExt.ext ?_ (by assumption))))
    by_cases e3 : d = 3
    · subst e3
      go_wp2_with fail
      refine (one_lit n0 B _ _ _ _ _ _ (by exact q2.to (by repeat (first | (with_reducible exact Since.refl q2.le) | (with_reducible refine Since.alloc ?_ _) | (with_reducible refine Since.drew ?_) | (with_reducible refine Since.drewN ?_ _) | (with_reducible refine Since.setCell ?_ ?_ _; rotate_left; (simp only []; omega)) | (with_reducible refine Since.ext ?_ (by assumption))))) (by omega) (by simp) (by rfl) (by omega) (by omega) (by simp [intOf])).mono ?_
      rintro e w3 ⟨z, rfl, hm3, q3, hx3⟩
      have hy3 := hx3.size
      (try simp at hy3)
      clear cBR fBR zBR
      clear cBG fBG zBG
      replace BR : Blk w3 w.heap.size 40 (#[.int .i64 0, .int .i64 0, .int .i64 0, .slice none 0 0, .slice none 0 0, .int .i64 0, .int .i64 0, .int .i64 0]) := by refine Blk.rext ?_ hx3 (by omega); repeat (first | (with_reducible exact BR) | (with_reducible exact Blk.new _ _ _) | exact Blk.newAt _ _ _ (by simp) | (with_reducible refine Blk.alloc ?_ _) | (with_reducible refine Blk.drew ?_) | (with_reducible refine Blk.drewN ?_ _) | refine Blk.far ?_ (by simp only []; omega) _)
      replace BG : Blk w3 w1.heap.size 40 (#[.int .i64 g.net.base, .int .i64 g.net.bits, .int .i64 g.out, .slice ta tn tc, .slice ka kn kc, .int .i64 g.filter, .int .i64 g.hold, .int .i64 g.now]) := by refine Blk.rext ?_ hx3 (by omega); repeat (first | (with_reducible exact BG) | (with_reducible exact Blk.new _ _ _) | exact Blk.newAt _ _ _ (by simp) | (with_reducible refine Blk.alloc ?_ _) | (with_reducible refine Blk.drew ?_) | (with_reducible refine Blk.drewN ?_ _) | refine Blk.far ?_ (by simp only []; omega) _)
      replace T0 : Sl encM 4 w3 ta tn tc g.table := by refine Sl.rextFar ?_ hx3 (fun hn x e => by have := lT0 hn x e; omega); repeat (first | (with_reducible exact T0) | (with_reducible refine Sl.alloc ?_ _) | (with_reducible refine Sl.drew ?_) | (with_reducible refine Sl.drewN ?_ _) | refine Sl.setFar ?_ (fun hn x e => by have := lT0 hn x e; simp only []; omega) _)
      replace K0 : Sl encC 3 w3 ka kn kc g.cons := by refine Sl.rextFar ?_ hx3 (fun hn x e => by have := lK0 hn x e; omega); repeat (first | (with_reducible exact K0) | (with_reducible refine Sl.alloc ?_ _) | (with_reducible refine Sl.drew ?_) | (with_reducible refine Sl.drewN ?_ _) | refine Sl.setFar ?_ (fun hn x e => by have := lK0 hn x e; simp only []; omega) _)
      have cBR := BR.cells
      have fBR := BR.frozens
      have zBR := BR.lt
      have cBG := BG.cells
      have fBG := BG.frozens
      have zBG := BG.lt
      simp [intOf] at hm3
      have X3 : RExt B w w3 := (by repeat (first | (with_reducible exact RExt.refl _ _) | (with_reducible assumption) | (with_reducible refine RExt.alloc ?_ _) | (with_reducible refine RExt.drewN ?_ _) | (with_reducible refine RExt.drew ?_) | (with_reducible refine RExt.setCell ?_ (.inr ?_) _; rotate_left; (simp only []; omega)) | (with_reducible refine RExt.trans ?_ (by assumption)) | (with_reducible refine RExt.ext ?_ (by assumption))))
      clear X2 hx3
      go_wp2
      refine' bodyPost_ret (v := _) ?_ rfl ?_
      rotate_left
      · (simp only [results, Try.results61]
         go_simp
         rfl)
      refine ⟨{ g with now := z }, ta, tn, tc, ka, kn, kc, rfl, ?_, ?_, by omega, by omega, (by first | omega | (simp only []; omega)), (by first | omega | (simp only []; omega)), (fun x e => by have := fT x e; omega), (fun x e => by have := fK x e; omega), ?_, ?_⟩
      · repeat (refine Sl.setFar ?_ (fun hn y hy => by have := lT0 hn y hy; simp only []; omega) _)
        exact T0
      · repeat (refine Sl.setFar ?_ (fun hn y hy => by have := lK0 hn y hy; simp only []; omega) _)
        exact K0
      · exact (by exact (Rd.mono q3 (show m + 64 + 1 + 1 ≤ m + 66 by omega)).to (by repeat (first | (with_reducible exact Since.refl (Rd.mono q3 (show m + 64 + 1 + 1 ≤ m + 66 by omega)).le) | (with_reducible refine Since.alloc ?_ _) | (with_reducible refine Since.drew ?_) | (with_reducible refine Since.drewN ?_ _) | (with_reducible refine Since.setCell ?_ ?_ _; rotate_left; (simp only []; omega)) | (with_reducible refine Since.ext ?_ (by assumption)))))
      · exact (by repeat (first | (with_reducible exact RExt.refl _ _) | (with_reducible assumption) | (with_reducible refine RExt.alloc ?_ _) | (with_reducible refine RExt.drewN ?_ _) | (with_reducible refine RExt.drew ?_) | (with_reducible refine RExt.setCell ?_ (.inr ?_) _; rotate_left; (simp only []; omega)) | (with_reducible refine RExt.trans ?_ (by assumption)) | (with_reducible refine RExt.ext ?_ (by assumption))))
    go_wp2
    refine' bodyPost_ret (v := _) ?_ rfl ?_
    rotate_left
    · (simp only [results, Try.results61]
       go_simp
       rfl)
    refine ⟨g, ta, tn, tc, ka, kn, kc, rfl, ?_, ?_, by omega, by omega, (by first | omega | (simp only []; omega)), (by first | omega | (simp only []; omega)), (fun x e => by have := fT x e; omega), (fun x e => by have := fK x e; omega), ?_, ?_⟩
    · repeat (refine Sl.setFar ?_ (fun hn y hy => by have := lT0 hn y hy; simp only []; omega) _)
      exact T0
    · repeat (refine Sl.setFar ?_ (fun hn y hy => by have := lK0 hn y hy; simp only []; omega) _)
      exact K0
    · exact (by exact (Rd.mono q2 (show m + 64 + 1 ≤ m + 66 by omega)).to (by repeat (first | (with_reducible exact Since.refl (Rd.mono q2 (show m + 64 + 1 ≤ m + 66 by omega)).le) | (with_reducible refine Since.alloc ?_ _) | (with_reducible refine Since.drew ?_) | (with_reducible refine Since.drewN ?_ _) | (with_reducible refine Since.setCell ?_ ?_ _; rotate_left; (simp only []; omega)) | (with_reducible refine Since.ext ?_ (by assumption)))))
    · exact (by repeat (first | (with_reducible exact RExt.refl _ _) | (with_reducible assumption) | (with_reducible refine RExt.alloc ?_ _) | (with_reducible refine RExt.drewN ?_ _) | (with_reducible refine RExt.drew ?_) | (with_reducible refine RExt.setCell ?_ (.inr ?_) _; rotate_left; (simp only []; omega)) | (with_reducible refine RExt.trans ?_ (by assumption)) | (with_reducible refine RExt.ext ?_ (by assumption))))
end Go.Proofs.Ytafmomocmodbhaa
/- Contracts of the generators of packets that come in. -/
namespace Go.Proofs.Ytafmomocmodbhaa
set_option linter.unusedVariables false
set_option linter.unusedSimpArgs false
open Go.RowKit

set_option maxHeartbeats 4000000 in
theorem inPacket_any (n0 B : Nat) (m : Int) (g : GateD) (ta : Option Addr) (tn tc : Nat) (ka : Option Addr) (kn kc : Nat) (w : World) (hr : Rd n0 w B m) (hm : m + 210 ≤ 1000000) (K0 : Sl encC 3 w ka kn kc g.cons) (hkn : kn ≤ 1000) (hKB : ∀ x, ka = some x → x.block ≠ B) :
    Calls Try.prog 139 #[.pointer (some ⟨B, 0, none⟩), .agg #[.int .i64 g.net.base, .int .i64 g.net.bits, .int .i64 g.out, .slice ta tn tc, .slice ka kn kc, .int .i64 g.filter, .int .i64 g.hold, .int .i64 g.now]] w fun e w' => ∃ (p : PktD) (a : Option Addr) (n c : Nat), e = .returned (.agg #[.int .i64 p.kind, .int .i64 p.fr.addr, .int .i64 p.fr.port, .int .i64 p.to_.addr, .int .i64 p.to_.port, .slice a n c]) ∧ Sl encI 1 w' a n c p.data ∧ n ≤ 13 ∧ (∀ x, a = some x → w.heap.size ≤ x.block) ∧ Rd n0 w' B (m + 210) ∧ RExt B w w' := by
  have hnw : n0 ≤ w.heap.size := hr.le
  have hBw : B < w.heap.size := (by have := hr.lt; omega)
  have lK0 : 0 < kn → ∀ x, ka = some x → x.block < w.heap.size ∧ x.block ≠ B := fun h x e => ⟨K0.lt h x e, hKB x e⟩
  go_enter Try.func139, Try.ntmps139
  go_wp2_with fail
  refine (somePacket_any n0 B m _ (by exact hr.to (by repeat (first | (with_reducible exact Since.refl hr.le) | (with_reducible refine Since.alloc ?_ _) | (with_reducible refine Since.drew ?_) | (with_reducible refine Since.drewN ?_ _) | (with_reducible refine Since.setCell ?_ ?_ _; rotate_left; (simp only []; omega)) | (with_reducible refine Since.ext ?_ (by assumption))))) (by omega)).mono ?_
  rintro e w1 ⟨k, fa, fp, ga, gp, a, n, c, L, rfl, S0, hv, fS, q1, hx1⟩
  have hy1 := hx1.size
  (try simp at hy1)
  have BG : Blk w1 w.heap.size 40 (#[.int .i64 g.net.base, .int .i64 g.net.bits, .int .i64 g.out, .slice ta tn tc, .slice ka kn kc, .int .i64 g.filter, .int .i64 g.hold, .int .i64 g.now]) := by refine Blk.rext ?_ hx1 (by omega); repeat (first | (with_reducible exact BG) | (with_reducible exact Blk.new _ _ _) | exact Blk.newAt _ _ _ (by simp) | (with_reducible refine Blk.alloc ?_ _) | (with_reducible refine Blk.drew ?_) | (with_reducible refine Blk.drewN ?_ _) | refine Blk.far ?_ (by simp only []; omega) _)
  have BR : Blk w1 (w.heap.size+1) 44 (#[.int .i64 0, .int .i64 0, .int .i64 0, .int .i64 0, .int .i64 0, .slice none 0 0]) := by refine Blk.rext ?_ hx1 (by omega); repeat (first | (with_reducible exact BR) | (with_reducible exact Blk.new _ _ _) | exact Blk.newAt _ _ _ (by simp) | (with_reducible refine Blk.alloc ?_ _) | (with_reducible refine Blk.drew ?_) | (with_reducible refine Blk.drewN ?_ _) | refine Blk.far ?_ (by simp only []; omega) _)
  replace K0 : Sl encC 3 w1 ka kn kc g.cons := by refine Sl.rextFar ?_ hx1 (fun hn x e => by have := lK0 hn x e; omega); repeat (first | (with_reducible exact K0) | (with_reducible refine Sl.alloc ?_ _) | (with_reducible refine Sl.drew ?_) | (with_reducible refine Sl.drewN ?_ _) | refine Sl.setFar ?_ (fun hn x e => by have := lK0 hn x e; simp only []; omega) _)
  have cBG := BG.cells
  have fBG := BG.frozens
  have zBG := BG.lt
  have cBR := BR.cells
  have fBR := BR.frozens
  have zBR := BR.lt
  have hn12 : n ≤ 12 := by
    have h1 := S0.len
    simp only [validPkt, Bool.and_eq_true, decide_eq_true_eq] at hv
    omega
  have hfS : ∀ x, a = some x → w.heap.size + 1 < x.block := fun x e => by have h := fS x e; simp at h; omega
  clear fS hv
  have fS := hfS
  have lS0 : 0 < n → ∀ x, a = some x → w.heap.size + 1 < x.block ∧ x.block < w1.heap.size := fun h x e => ⟨fS x e, S0.lt h x e⟩
  clear hfS
  go_wp2_with fail
  refine (farEnd_any n0 B _ _ (by exact q1.to (by repeat (first | (with_reducible exact Since.refl q1.le) | (with_reducible refine Since.alloc ?_ _) | (with_reducible refine Since.drew ?_) | (with_reducible refine Since.drewN ?_ _) | (with_reducible refine Since.setCell ?_ ?_ _; rotate_left; (simp only []; omega)) | (with_reducible refine Since.ext ?_ (by assumption))))) (by omega)).mono ?_
  rintro e w2 ⟨x1, y1, rfl, x10, x11, y10, y11, q2, hx2⟩
  have hy2 := hx2.size
  (try simp at hy2)
  clear cBG fBG zBG
  clear cBR fBR zBR
  replace BG : Blk w2 w.heap.size 40 (#[.int .i64 g.net.base, .int .i64 g.net.bits, .int .i64 g.out, .slice ta tn tc, .slice ka kn kc, .int .i64 g.filter, .int .i64 g.hold, .int .i64 g.now]) := by refine Blk.rext ?_ hx2 (by omega); repeat (first | (with_reducible exact BG) | (with_reducible exact Blk.new _ _ _) | exact Blk.newAt _ _ _ (by simp) | (with_reducible refine Blk.alloc ?_ _) | (with_reducible refine Blk.drew ?_) | (with_reducible refine Blk.drewN ?_ _) | refine Blk.far ?_ (by simp only []; omega) _)
  replace BR : Blk w2 (w.heap.size+1) 44 (#[.int .i64 0, .int .i64 0, .int .i64 0, .int .i64 0, .int .i64 0, .slice none 0 0]) := by refine Blk.rext ?_ hx2 (by omega); repeat (first | (with_reducible exact BR) | (with_reducible exact Blk.new _ _ _) | exact Blk.newAt _ _ _ (by simp) | (with_reducible refine Blk.alloc ?_ _) | (with_reducible refine Blk.drew ?_) | (with_reducible refine Blk.drewN ?_ _) | refine Blk.far ?_ (by simp only []; omega) _)
  have BP : Blk w2 w1.heap.size 44 (#[.int .i64 k, .int .i64 fa, .int .i64 fp, .int .i64 ga, .int .i64 gp, .slice a n c]) := by refine Blk.rext ?_ hx2 (by omega); repeat (first | (with_reducible exact BP) | (with_reducible exact Blk.new _ _ _) | exact Blk.newAt _ _ _ (by simp) | (with_reducible refine Blk.alloc ?_ _) | (with_reducible refine Blk.drew ?_) | (with_reducible refine Blk.drewN ?_ _) | refine Blk.far ?_ (by simp only []; omega) _)
  replace K0 : Sl encC 3 w2 ka kn kc g.cons := by refine Sl.rextFar ?_ hx2 (fun hn x e => by have := lK0 hn x e; omega); repeat (first | (with_reducible exact K0) | (with_reducible refine Sl.alloc ?_ _) | (with_reducible refine Sl.drew ?_) | (with_reducible refine Sl.drewN ?_ _) | refine Sl.setFar ?_ (fun hn x e => by have := lK0 hn x e; simp only []; omega) _)
  replace S0 : Sl encI 1 w2 a n c L := by refine Sl.rextFar ?_ hx2 (fun hn x e => by have := lS0 hn x e; omega); repeat (first | (with_reducible exact S0) | (with_reducible refine Sl.alloc ?_ _) | (with_reducible refine Sl.drew ?_) | (with_reducible refine Sl.drewN ?_ _) | refine Sl.setFar ?_ (fun hn x e => by have := lS0 hn x e; simp only []; omega) _)
  have cBG := BG.cells
  have fBG := BG.frozens
  have zBG := BG.lt
  have cBR := BR.cells
  have fBR := BR.frozens
  have zBR := BR.lt
  have cBP := BP.cells
  have fBP := BP.frozens
  have zBP := BP.lt
  have X2 : RExt B w w2 := (by repeat (first | (with_reducible exact RExt.refl _ _) | (with_reducible assumption) | (with_reducible refine RExt.alloc ?_ _) | (with_reducible refine RExt.drewN ?_ _) | (with_reducible refine RExt.drew ?_) | (with_reducible refine RExt.setCell ?_ (.inr ?_) _; rotate_left; (simp only []; omega)) | (with_reducible refine RExt.trans ?_ (by assumption)) | (with_reducible refine RExt.ext ?_ (by assumption))))
  have hwP : w.heap.size + 1 < w1.heap.size := by omega
  have hPw : w1.heap.size < w2.heap.size := by omega
  clear hx1 hx2 q1 hy1 hy2
  generalize w1.heap.size = P at *
  go_wp2_with fail
  refine wp_gen (fun W => RExt P w2 W ∧ Blk W P 44 #[.int .i64 k, .int .i64 x1, .int .i64 y1, .int .i64 ga, .int .i64 gp, .slice a n c]) ⟨(by repeat (first | (with_reducible exact RExt.refl _ _) | (with_reducible refine RExt.putc ?_ _ _))), by simpa using (BP.set 1 (.int .i64 x1)).set 2 (.int .i64 y1)⟩ ?_
  rintro w3 ⟨x3, BP3⟩
  clear BP cBP fBP zBP cBG fBG zBG cBR fBR zBR
  have BP := BP3
  have r0 := q2
  have X0 := X2
  clear BP3 q2 X2
  replace BG := BG.rext x3 (by omega)
  replace BR := BR.rext x3 (by omega)
  replace K0 := K0.rextFar x3 (fun hn x e => by have := lK0 hn x e; omega)
  replace S0 := S0.rextFar x3 (fun hn x e => by have := lS0 hn x e; omega)
  replace r0 := r0.rextNew x3 (by omega)
  replace X0 := X0.rextNew x3 (by omega)
  have := (x3).size
  clear x3
  replace BG := BG.drew
  replace BR := BR.drew
  replace BP := BP.drew
  replace K0 := K0.drew
  replace S0 := S0.drew
  replace r0 := r0.drew
  replace X0 := X0.drew
  have hB3 : B < w3.heap.size := by omega
  have hdrS : ∀ W : World, W.drew.heap.size = W.heap.size := fun _ => rfl
  refine wp_region_float (R := RExt B) (base := (w3).heap.size) (Ts := []) [0, 1, 2, 3, 4, 5, 6, 7] (by kernel_rfl) (by kernel_rfl) (RExt.refl B) (fun _ _ _ => RExt.trans) (fun _ _ h => RExt.of_ext h B) (fun _ _ h => h.size) (fun _ _ b _ _ hb hB hR => hB.rext hR (by omega)) (by intro x hx; simp only [List.mem_cons, List.not_mem_nil, or_false] at hx; skip; all_goals (intro wS; kernel_rfl)) (by omega) ?_
  have hdrW := hdrS (w3)
  repeat' (first
    | (refine' ChF.pure (v := _) (by rfl) (by rfl) (by rfl) ?_ ?_
       rotate_left
       · (intro wS
          go_simp
          with_reducible rfl)
       (try simp only [Act.put, List.setIfInBounds_toArray, List.set_cons_zero, List.set_cons_succ]))
    | (refine' ChF.quiet (v := _) (by rfl) (by rfl) (by rfl) (by rfl) ?_ ?_
       rotate_left
       · (intro wS hS
          have cS := (BG.rext hS (by omega)).cells
          go_simp
          with_reducible rfl)
       (try simp only [Act.put, List.setIfInBounds_toArray, List.set_cons_zero, List.set_cons_succ]))
    | fail)
  refine ChF.call (by rfl) (by rfl) (by rfl) (by rfl) (by rfl) (by intro wS; go_simp; (constructor <;> rfl)) ?_
  intro u4 eu4
  replace BG := BG.ext eu4
  replace BR := BR.ext eu4
  replace BP := BP.ext eu4
  replace K0 := K0.ext eu4
  replace S0 := S0.ext eu4
  replace r0 := r0.ext eu4
  replace X0 := X0.ext eu4
  have := (eu4).size
  clear eu4
  refine (pick_any n0 B _ 8 u4 r0 (by omega) (by omega) (by omega)).mono ?_
  rintro e w4 ⟨px, rfl, px0, px1, q4, h4⟩
  refine ⟨_, rfl, h4, ?_⟩
  (try simp only [Act.put, List.setIfInBounds_toArray, List.set_cons_zero, List.set_cons_succ])
  replace BG := BG.rext h4 (by omega)
  replace BR := BR.rext h4 (by omega)
  replace BP := BP.rext h4 (by omega)
  replace K0 := K0.rextFar h4 (fun hn x e => by have := lK0 hn x e; omega)
  replace S0 := S0.rextFar h4 (fun hn x e => by have := lS0 hn x e; omega)
  replace X0 := X0.trans h4
  have := (h4).size
  clear h4
  replace r0 := q4
  clear q4
  have hwr : IntKind.i64.wrap (1000 + px) = 1000 + px := IntWalk.i64_in _ (by omega)
  have cBP := BP.cells
  have fBP := BP.frozens
  repeat' (first
    | (refine' ChF.pure (v := _) (by rfl) (by rfl) (by rfl) ?_ ?_
       rotate_left
       · (intro wS
          go_simp
          with_reducible rfl)
       (try simp only [Act.put, List.setIfInBounds_toArray, List.set_cons_zero, List.set_cons_succ]))
    | (refine' ChF.quiet (v := _) (by rfl) (by rfl) (by rfl) (by rfl) ?_ ?_
       rotate_left
       · (intro wS hS
          skip
          go_simp
          with_reducible rfl)
       (try simp only [Act.put, List.setIfInBounds_toArray, List.set_cons_zero, List.set_cons_succ]))
    | fail)
  refine ChF.storeP (fun W => RExt P w4 W ∧ Blk W P 44 #[.int .i64 k, .int .i64 x1, .int .i64 y1, .int .i64 g.out, .int .i64 (1000 + px), .slice a n c]) (by rfl) (by rfl) (by rfl) ⟨_, (by go_simp; rfl), (by simp [World.setCell]), (by repeat (first | (with_reducible exact RExt.refl _ _) | (with_reducible refine RExt.putc ?_ _ _))), (by simpa using (BP.set 3 (.int .i64 g.out)).set 4 (.int .i64 (1000 + px)))⟩ ?_
  (try simp only [Act.put, List.setIfInBounds_toArray, List.set_cons_zero, List.set_cons_succ])
  clear hwr cBP fBP
  rintro w5 s5 ⟨x5, BP5⟩
  replace BP := BP5
  clear BP5
  replace BG := BG.rext x5 (by omega)
  replace BR := BR.rext x5 (by omega)
  replace K0 := K0.rextFar x5 (fun hn x e => by have := lK0 hn x e; omega)
  replace S0 := S0.rextFar x5 (fun hn x e => by have := lS0 hn x e; omega)
  replace r0 := r0.rextNew x5 (by omega)
  replace X0 := X0.rextNew x5 (by omega)
  have := (x5).size
  clear x5
  refine ChF.nil ?_
  have hwp5 : P < w5.heap.size := BP.lt
  by_cases hk0 : kn = 0
  · subst hk0
    have cBP := BP.cells
    have fBP := BP.frozens
    have zBP := BP.lt
    have cBG := BG.cells
    have zBG := BG.lt
    have cBR := BR.cells
    have fBR := BR.frozens
    have zBR := BR.lt
    go_wp2_with fail
    refine (pick_any n0 B _ 12 _ (by exact r0.to (by repeat (first | (with_reducible exact Since.refl r0.le) | (with_reducible refine Since.alloc ?_ _) | (with_reducible refine Since.drew ?_) | (with_reducible refine Since.drewN ?_ _) | (with_reducible refine Since.setCell ?_ ?_ _; rotate_left; (simp only []; omega)) | (with_reducible refine Since.ext ?_ (by assumption))))) (by omega) (by omega) (by omega)).mono ?_
    rintro e t1 ⟨d, rfl, d0, d1, qt, ht⟩
    replace r0 := qt
    clear qt
    replace BG := BG.rext ht (by omega)
    replace BR := BR.rext ht (by omega)
    replace BP := BP.rext ht (by omega)
    replace K0 := K0.rextFar ht (fun hn x e => by have := lK0 hn x e; omega)
    replace S0 := S0.rextFar ht (fun hn x e => by have := lS0 hn x e; omega)
    replace X0 := X0.trans ht
    have := (ht).size
    clear ht
    have cBP := BP.cells
    have fBP := BP.frozens
    have zBP := BP.lt
    have cBG := BG.cells
    have zBG := BG.lt
    have cBR := BR.cells
    have fBR := BR.frozens
    have zBR := BR.lt
    by_cases e0 : d = 0
    · subst e0
      go_wp2_with fail
      refine (anyPacket_any n0 B _ _ r0 (by omega)).mono ?_
      rintro e t2 ⟨k', fa', fp', ga', gp', a', n', c', L', rfl, S1, hn13, fS1, qt, ht⟩
      clear cBP fBP zBP cBG zBG cBR fBR zBR
      replace r0 := qt
      clear qt
      replace BG := BG.rext ht (by omega)
      replace BR := BR.rext ht (by omega)
      replace BP := BP.rext ht (by omega)
      replace K0 := K0.rextFar ht (fun hn x e => by have := lK0 hn x e; omega)
      replace S0 := S0.rextFar ht (fun hn x e => by have := lS0 hn x e; omega)
      replace X0 := X0.trans ht
      have := (ht).size
      clear ht
      have cBP := BP.cells
      have fBP := BP.frozens
      have zBP := BP.lt
      have cBG := BG.cells
      have zBG := BG.lt
      have cBR := BR.cells
      have fBR := BR.frozens
      have zBR := BR.lt
      go_wp2
      refine' bodyPost_ret (v := _) ?_ rfl ?_
      rotate_left
      · (simp only [results, Try.results139]
         go_simp
         rfl)
      refine ⟨⟨k', ⟨fa', fp'⟩, ⟨ga', gp'⟩, L'⟩, a', n', c', rfl, ?_, hn13, (fun x e => by have := fS1 x e; omega), ?_, ?_⟩
      · repeat (refine Sl.setFar ?_ (fun hn y hy => by have := fS1 y hy; simp only []; omega) _)
        exact S1
      · exact (by exact (r0.mono (show _ ≤ m + 210 by omega)).to (by repeat (first | (with_reducible exact Since.refl (r0.mono (show _ ≤ m + 210 by omega)).le) | (with_reducible refine Since.alloc ?_ _) | (with_reducible refine Since.drew ?_) | (with_reducible refine Since.drewN ?_ _) | (with_reducible refine Since.setCell ?_ ?_ _; rotate_left; (simp only []; omega)) | (with_reducible refine Since.ext ?_ (by assumption)))))
      · exact (by repeat (first | (with_reducible exact RExt.refl _ _) | (with_reducible assumption) | (with_reducible refine RExt.alloc ?_ _) | (with_reducible refine RExt.drewN ?_ _) | (with_reducible refine RExt.drew ?_) | (with_reducible refine RExt.setCell ?_ (.inr ?_) _; rotate_left; (simp only []; omega)) | (with_reducible refine RExt.trans ?_ (by assumption)) | (with_reducible refine RExt.ext ?_ (by assumption))))
    · go_wp2
      refine' bodyPost_ret (v := _) ?_ rfl ?_
      rotate_left
      · (simp only [results, Try.results139]
         go_simp
         rfl)
      refine ⟨((⟨k, ⟨x1, y1⟩, ⟨g.out, 1000 + px⟩, L⟩ : PktD)), a, n, c, rfl, ?_, by omega, (fun x e => by have := fS x e; omega), ?_, ?_⟩
      · repeat (refine Sl.setFar ?_ (fun hn y hy => by have := lS0 hn y hy; simp only []; omega) _)
        exact S0
      · exact (by exact (r0.mono (show _ ≤ m + 210 by omega)).to (by repeat (first | (with_reducible exact Since.refl (r0.mono (show _ ≤ m + 210 by omega)).le) | (with_reducible refine Since.alloc ?_ _) | (with_reducible refine Since.drew ?_) | (with_reducible refine Since.drewN ?_ _) | (with_reducible refine Since.setCell ?_ ?_ _; rotate_left; (simp only []; omega)) | (with_reducible refine Since.ext ?_ (by assumption)))))
      · exact (by repeat (first | (with_reducible exact RExt.refl _ _) | (with_reducible assumption) | (with_reducible refine RExt.alloc ?_ _) | (with_reducible refine RExt.drewN ?_ _) | (with_reducible refine RExt.drew ?_) | (with_reducible refine RExt.setCell ?_ (.inr ?_) _; rotate_left; (simp only []; omega)) | (with_reducible refine RExt.trans ?_ (by assumption)) | (with_reducible refine RExt.ext ?_ (by assumption))))
  · obtain ⟨_, b, off, rfl, hb, _⟩ := (K0.cons).resolve_left (by omega)
    have hbB : b ≠ B := hKB _ rfl
    have hkp : (0 : Int) < (kn : Int) := by omega
    have cBP := BP.cells
    have fBP := BP.frozens
    have zBP := BP.lt
    have cBG := BG.cells
    have zBG := BG.lt
    have cBR := BR.cells
    have fBR := BR.frozens
    have zBR := BR.lt
    go_wp2_with fail
    refine (pick_any n0 B _ 3 _ (by exact r0.to (by repeat (first | (with_reducible exact Since.refl r0.le) | (with_reducible refine Since.alloc ?_ _) | (with_reducible refine Since.drew ?_) | (with_reducible refine Since.drewN ?_ _) | (with_reducible refine Since.setCell ?_ ?_ _; rotate_left; (simp only []; omega)) | (with_reducible refine Since.ext ?_ (by assumption))))) (by omega) (by omega) (by omega)).mono ?_
    rintro e w6 ⟨d3, rfl, d30, d31, q6, h6⟩
    clear cBP fBP zBP cBG zBG cBR fBR zBR
    replace r0 := q6
    clear q6
    replace BG := BG.rext h6 (by omega)
    replace BR := BR.rext h6 (by omega)
    replace BP := BP.rext h6 (by omega)
    replace K0 := K0.rextFar h6 (fun hn x e => by have := lK0 hn x e; omega)
    replace S0 := S0.rextFar h6 (fun hn x e => by have := lS0 hn x e; omega)
    replace X0 := X0.trans h6
    have := (h6).size
    clear h6
    have cBP := BP.cells
    have fBP := BP.frozens
    have zBP := BP.lt
    have cBG := BG.cells
    have zBG := BG.lt
    have cBR := BR.cells
    have fBR := BR.frozens
    have zBR := BR.lt
    by_cases e3 : 0 < d3
    · go_wp2_with fail
      clear cBP fBP zBP cBG zBG cBR fBR zBR
      replace BG := BG.drew
      replace BR := BR.drew
      replace BP := BP.drew
      replace K0 := K0.drew
      replace S0 := S0.drew
      replace r0 := r0.drew
      replace X0 := X0.drew
      have hB6 : B < w6.heap.size := by omega
      have hP6 : P < w6.heap.size := by omega
      have hdrS : ∀ W : World, W.drew.heap.size = W.heap.size := fun _ => rfl
      refine wp_region_float (R := RExt B) (base := (w6).heap.size) (Ts := [(115, #[.int .i64 0, .int .i64 0, .int .i64 0])]) [0, 1, 2, 3, 4, 5, 6, 7, 8, 9, 10] (by kernel_rfl) (by kernel_rfl) (RExt.refl B) (fun _ _ _ => RExt.trans) (fun _ _ h => RExt.of_ext h B) (fun _ _ h => h.size) (fun _ _ b _ _ hb hB hR => hB.rext hR (by omega)) (by intro x hx; simp only [List.mem_cons, List.not_mem_nil, or_false] at hx; subst hx; all_goals (intro wS; kernel_rfl)) (by omega) ?_
      have hdrW := hdrS (w6)
      repeat' (first
        | (refine' ChF.pure (v := _) (by rfl) (by rfl) (by rfl) ?_ ?_
           rotate_left
           · (intro wS
              go_simp
              with_reducible rfl)
           (try simp only [Act.put, List.setIfInBounds_toArray, List.set_cons_zero, List.set_cons_succ]))
        | (refine' ChF.quiet (v := _) (by rfl) (by rfl) (by rfl) (by rfl) ?_ ?_
           rotate_left
           · (intro wS hS
              have cS := (BG.rext hS (by omega)).cells
              go_simp
              with_reducible rfl)
           (try simp only [Act.put, List.setIfInBounds_toArray, List.set_cons_zero, List.set_cons_succ]))
        | fail)
      refine ChF.call (by rfl) (by rfl) (by rfl) (by rfl) (by rfl) (by intro wS; go_simp; (constructor <;> rfl)) ?_
      intro u7 eu7
      replace BG := BG.ext eu7
      replace BR := BR.ext eu7
      replace BP := BP.ext eu7
      replace K0 := K0.ext eu7
      replace S0 := S0.ext eu7
      replace r0 := r0.ext eu7
      replace X0 := X0.ext eu7
      have := (eu7).size
      clear eu7
      refine (pick_any n0 B _ kn u7 r0 (by omega) (by omega) (by omega)).mono ?_
      rintro e w7 ⟨pi, rfl, pi0, pi1, q7, h7⟩
      obtain ⟨i, rfl⟩ := Int.eq_ofNat_of_zero_le pi0
      refine ⟨_, rfl, h7, ?_⟩
      (try simp only [Act.put, List.setIfInBounds_toArray, List.set_cons_zero, List.set_cons_succ])
      replace BG := BG.rext h7 (by omega)
      replace BR := BR.rext h7 (by omega)
      replace BP := BP.rext h7 (by omega)
      replace K0 := K0.rextFar h7 (fun hn x e => by have := lK0 hn x e; omega)
      replace S0 := S0.rextFar h7 (fun hn x e => by have := lS0 hn x e; omega)
      replace X0 := X0.trans h7
      have := (h7).size
      clear h7
      replace r0 := q7
      clear q7
      obtain ⟨_, b', off', eb, hb7, hc7⟩ := (K0.cons).resolve_left (by omega)
      injection eb with eb
      injection eb with eb1 eb2
      subst eb1; subst eb2
      have hi : i < kn := by omega
      obtain ⟨c0, c1, c2⟩ := hc7 i hi
      clear hc7
      generalize nth g.cons i = cn at *
      repeat' (first
        | (refine' ChF.pure (v := _) (by rfl) (by rfl) (by rfl) ?_ ?_
           rotate_left
           · (intro wS
              go_simp
              with_reducible rfl)
           (try simp only [Act.put, List.setIfInBounds_toArray, List.set_cons_zero, List.set_cons_succ]))
        | (refine' ChF.quiet (v := _) (by rfl) (by rfl) (by rfl) (by rfl) ?_ ?_
           rotate_left
           · (intro wS hS
              have s0 := (hS.cells b (off + i * 3) hb7 hbB).trans c0; have s1 := (hS.cells b (off + i * 3 + 1) hb7 hbB).trans c1; have s2 := (hS.cells b (off + i * 3 + 2) hb7 hbB).trans c2
              go_simp
              with_reducible rfl)
           (try simp only [Act.put, List.setIfInBounds_toArray, List.set_cons_zero, List.set_cons_succ]))
        | fail)
      clear c0 c1 c2
      refine ChF.box (by rfl) (by rfl) (by rfl) ?_
      intro w8 b8 h8 hb8 B8
      replace B8 : Blk w8 b8 115 #[.int .i64 0, .int .i64 0, .int .i64 0] := B8
      (try simp only [Act.put, List.setIfInBounds_toArray, List.set_cons_zero, List.set_cons_succ])
      replace BG := BG.ext h8
      replace BR := BR.ext h8
      replace BP := BP.ext h8
      replace K0 := K0.ext h8
      replace S0 := S0.ext h8
      replace r0 := r0.ext h8
      replace X0 := X0.ext h8
      have := (h8).size
      clear h8
      have c8 := B8.cells
      have f8 := B8.frozens
      refine ChF.storeP (fun W => RExt b8 w8 W ∧ Blk W b8 115 (#[.int .i64 cn.port, .int .i64 cn.to_.addr, .int .i64 cn.to_.port])) (by rfl) (by rfl) (by rfl) ⟨_, (by go_simp; rfl), (by simp [World.setCell]), (by repeat (first | (with_reducible exact RExt.refl _ _) | (with_reducible refine RExt.putc ?_ _ _))), (by exact B8.put3 _ _ _)⟩ ?_
      (try simp only [Act.put, List.setIfInBounds_toArray, List.set_cons_zero, List.set_cons_succ])
      rintro w9 s9 ⟨x9, B9⟩
      clear c8 f8 B8
      replace BP := BP.rext x9 (by omega)
      replace BG := BG.rext x9 (by omega)
      replace BR := BR.rext x9 (by omega)
      replace K0 := K0.rextFar x9 (fun hn x e => by have := lK0 hn x e; omega)
      replace S0 := S0.rextFar x9 (fun hn x e => by have := lS0 hn x e; omega)
      replace r0 := r0.rextNew x9 (by omega)
      replace X0 := X0.rextNew x9 (by omega)
      have := (x9).size
      clear x9
      refine ChF.nil ?_
      have c9 := B9.cells
      have f9 := B9.frozens
      have z9 := B9.lt
      have hb8P : b8 ≠ P := by omega
      have cBP := BP.cells
      have fBP := BP.frozens
      have zBP := BP.lt
      have cBG := BG.cells
      have zBG := BG.lt
      have cBR := BR.cells
      have fBR := BR.frozens
      have zBR := BR.lt
      clear s9 hb8
      have hw9 : w.heap.size ≤ w9.heap.size := X0.size
      go_wp2_with fail
      refine (pick_any n0 B _ 4 _ (by exact r0.to (by repeat (first | (with_reducible exact Since.refl r0.le) | (with_reducible refine Since.alloc ?_ _) | (with_reducible refine Since.drew ?_) | (with_reducible refine Since.drewN ?_ _) | (with_reducible refine Since.setCell ?_ ?_ _; rotate_left; (simp only []; omega)) | (with_reducible refine Since.ext ?_ (by assumption))))) (by omega) (by omega) (by omega)).mono ?_
      rintro e w10 ⟨d4, rfl, d40, d41, q10, hx10⟩
      have hy10 := hx10.size
      (try simp at hy10)
      have BG : Blk w10 w.heap.size 40 (#[.int .i64 g.net.base, .int .i64 g.net.bits, .int .i64 g.out, .slice ta tn tc, .slice (some ⟨b, off, none⟩) kn kc, .int .i64 g.filter, .int .i64 g.hold, .int .i64 g.now]) := by refine Blk.rext ?_ hx10 (by omega); repeat (first | (with_reducible exact BG) | (with_reducible exact Blk.new _ _ _) | exact Blk.newAt _ _ _ (by simp) | (with_reducible refine Blk.alloc ?_ _) | (with_reducible refine Blk.drew ?_) | (with_reducible refine Blk.drewN ?_ _) | refine Blk.far ?_ (by simp only []; omega) _)
      have BR : Blk w10 (w.heap.size+1) 44 (#[.int .i64 0, .int .i64 0, .int .i64 0, .int .i64 0, .int .i64 0, .slice none 0 0]) := by refine Blk.rext ?_ hx10 (by omega); repeat (first | (with_reducible exact BR) | (with_reducible exact Blk.new _ _ _) | exact Blk.newAt _ _ _ (by simp) | (with_reducible refine Blk.alloc ?_ _) | (with_reducible refine Blk.drew ?_) | (with_reducible refine Blk.drewN ?_ _) | refine Blk.far ?_ (by simp only []; omega) _)
      have BP : Blk w10 P 44 (#[.int .i64 k, .int .i64 cn.to_.addr, .int .i64 cn.to_.port, .int .i64 g.out, .int .i64 cn.port, .slice a n c]) := by refine Blk.rext ?_ hx10 (by omega); repeat (first | (exact (show Blk _ P 44 (#[.int .i64 k, .int .i64 cn.to_.addr, .int .i64 cn.to_.port, .int .i64 g.out, .int .i64 cn.port, .slice a n c]) from by simpa using ((BP.set 1 (.int .i64 cn.to_.addr)).set 2 (.int .i64 cn.to_.port)).set 4 (.int .i64 cn.port))) | (with_reducible exact Blk.new _ _ _) | exact Blk.newAt _ _ _ (by simp) | (with_reducible refine Blk.alloc ?_ _) | (with_reducible refine Blk.drew ?_) | (with_reducible refine Blk.drewN ?_ _) | refine Blk.far ?_ (by simp only []; omega) _)
      replace K0 : Sl encC 3 w10 (some ⟨b, off, none⟩) kn kc g.cons := by refine Sl.rextFar ?_ hx10 (fun hn x e => by have := lK0 hn x e; omega); repeat (first | (with_reducible exact K0) | (with_reducible refine Sl.alloc ?_ _) | (with_reducible refine Sl.drew ?_) | (with_reducible refine Sl.drewN ?_ _) | refine Sl.setFar ?_ (fun hn x e => by have := lK0 hn x e; simp only []; omega) _)
      replace S0 : Sl encI 1 w10 a n c L := by refine Sl.rextFar ?_ hx10 (fun hn x e => by have := lS0 hn x e; omega); repeat (first | (with_reducible exact S0) | (with_reducible refine Sl.alloc ?_ _) | (with_reducible refine Sl.drew ?_) | (with_reducible refine Sl.drewN ?_ _) | refine Sl.setFar ?_ (fun hn x e => by have := lS0 hn x e; simp only []; omega) _)
      have cBG := BG.cells
      have fBG := BG.frozens
      have zBG := BG.lt
      have cBR := BR.cells
      have fBR := BR.frozens
      have zBR := BR.lt
      have cBP := BP.cells
      have fBP := BP.frozens
      have zBP := BP.lt
      clear c9 f9 z9
      replace r0 := q10
      replace X0 : RExt B w w10 := (by repeat (first | (with_reducible exact RExt.refl _ _) | (with_reducible assumption) | (with_reducible refine RExt.alloc ?_ _) | (with_reducible refine RExt.drewN ?_ _) | (with_reducible refine RExt.drew ?_) | (with_reducible refine RExt.setCell ?_ (.inr ?_) _; rotate_left; (simp only []; omega)) | (with_reducible refine RExt.trans ?_ (by assumption)) | (with_reducible refine RExt.ext ?_ (by assumption))))
      clear q10 hx10
      by_cases e4 : d4 = 0
      · subst e4
        go_wp2_with fail
        refine (pick_any n0 B _ 12 _ (by exact r0.to (by repeat (first | (with_reducible exact Since.refl r0.le) | (with_reducible refine Since.alloc ?_ _) | (with_reducible refine Since.drew ?_) | (with_reducible refine Since.drewN ?_ _) | (with_reducible refine Since.setCell ?_ ?_ _; rotate_left; (simp only []; omega)) | (with_reducible refine Since.ext ?_ (by assumption))))) (by omega) (by omega) (by omega)).mono ?_
        rintro e w11 ⟨d, rfl, d0, d1, q11, hx11⟩
        have hy11 := hx11.size
        (try simp at hy11)
        clear cBG fBG zBG
        clear cBR fBR zBR
        clear cBP fBP zBP
        replace BG : Blk w11 w.heap.size 40 (#[.int .i64 g.net.base, .int .i64 g.net.bits, .int .i64 g.out, .slice ta tn tc, .slice (some ⟨b, off, none⟩) kn kc, .int .i64 g.filter, .int .i64 g.hold, .int .i64 g.now]) := by refine Blk.rext ?_ hx11 (by omega); repeat (first | (with_reducible exact BG) | (with_reducible exact Blk.new _ _ _) | exact Blk.newAt _ _ _ (by simp) | (with_reducible refine Blk.alloc ?_ _) | (with_reducible refine Blk.drew ?_) | (with_reducible refine Blk.drewN ?_ _) | refine Blk.far ?_ (by simp only []; omega) _)
        replace BR : Blk w11 (w.heap.size+1) 44 (#[.int .i64 0, .int .i64 0, .int .i64 0, .int .i64 0, .int .i64 0, .slice none 0 0]) := by refine Blk.rext ?_ hx11 (by omega); repeat (first | (with_reducible exact BR) | (with_reducible exact Blk.new _ _ _) | exact Blk.newAt _ _ _ (by simp) | (with_reducible refine Blk.alloc ?_ _) | (with_reducible refine Blk.drew ?_) | (with_reducible refine Blk.drewN ?_ _) | refine Blk.far ?_ (by simp only []; omega) _)
        replace BP : Blk w11 P 44 (#[.int .i64 k, .int .i64 cn.to_.addr, .int .i64 99, .int .i64 g.out, .int .i64 cn.port, .slice a n c]) := by refine Blk.rext ?_ hx11 (by omega); repeat (first | (exact (show Blk _ P 44 (#[.int .i64 k, .int .i64 cn.to_.addr, .int .i64 99, .int .i64 g.out, .int .i64 cn.port, .slice a n c]) from by simpa using (BP.set 2 (.int .i64 99)))) | (with_reducible exact Blk.new _ _ _) | exact Blk.newAt _ _ _ (by simp) | (with_reducible refine Blk.alloc ?_ _) | (with_reducible refine Blk.drew ?_) | (with_reducible refine Blk.drewN ?_ _) | refine Blk.far ?_ (by simp only []; omega) _)
        replace K0 : Sl encC 3 w11 (some ⟨b, off, none⟩) kn kc g.cons := by refine Sl.rextFar ?_ hx11 (fun hn x e => by have := lK0 hn x e; omega); repeat (first | (with_reducible exact K0) | (with_reducible refine Sl.alloc ?_ _) | (with_reducible refine Sl.drew ?_) | (with_reducible refine Sl.drewN ?_ _) | refine Sl.setFar ?_ (fun hn x e => by have := lK0 hn x e; simp only []; omega) _)
        replace S0 : Sl encI 1 w11 a n c L := by refine Sl.rextFar ?_ hx11 (fun hn x e => by have := lS0 hn x e; omega); repeat (first | (with_reducible exact S0) | (with_reducible refine Sl.alloc ?_ _) | (with_reducible refine Sl.drew ?_) | (with_reducible refine Sl.drewN ?_ _) | refine Sl.setFar ?_ (fun hn x e => by have := lS0 hn x e; simp only []; omega) _)
        have cBG := BG.cells
        have fBG := BG.frozens
        have zBG := BG.lt
        have cBR := BR.cells
        have fBR := BR.frozens
        have zBR := BR.lt
        have cBP := BP.cells
        have fBP := BP.frozens
        have zBP := BP.lt
        replace r0 := q11
        replace X0 : RExt B w w11 := (by repeat (first | (with_reducible exact RExt.refl _ _) | (with_reducible assumption) | (with_reducible refine RExt.alloc ?_ _) | (with_reducible refine RExt.drewN ?_ _) | (with_reducible refine RExt.drew ?_) | (with_reducible refine RExt.setCell ?_ (.inr ?_) _; rotate_left; (simp only []; omega)) | (with_reducible refine RExt.trans ?_ (by assumption)) | (with_reducible refine RExt.ext ?_ (by assumption))))
        clear q11 hx11
        by_cases e0 : d = 0
        · subst e0
          go_wp2_with fail
          refine (anyPacket_any n0 B _ _ r0 (by omega)).mono ?_
          rintro e t2 ⟨k', fa', fp', ga', gp', a', n', c', L', rfl, S1, hn13, fS1, qt, ht⟩
          clear cBP fBP zBP cBG zBG cBR fBR zBR
          replace r0 := qt
          clear qt
          replace BG := BG.rext ht (by omega)
          replace BR := BR.rext ht (by omega)
          replace BP := BP.rext ht (by omega)
          replace K0 := K0.rextFar ht (fun hn x e => by have := lK0 hn x e; omega)
          replace S0 := S0.rextFar ht (fun hn x e => by have := lS0 hn x e; omega)
          replace X0 := X0.trans ht
          have := (ht).size
          clear ht
          have cBP := BP.cells
          have fBP := BP.frozens
          have zBP := BP.lt
          have cBG := BG.cells
          have zBG := BG.lt
          have cBR := BR.cells
          have fBR := BR.frozens
          have zBR := BR.lt
          go_wp2
          refine' bodyPost_ret (v := _) ?_ rfl ?_
          rotate_left
          · (simp only [results, Try.results139]
             go_simp
             rfl)
          refine ⟨⟨k', ⟨fa', fp'⟩, ⟨ga', gp'⟩, L'⟩, a', n', c', rfl, ?_, hn13, (fun x e => by have := fS1 x e; omega), ?_, ?_⟩
          · repeat (refine Sl.setFar ?_ (fun hn y hy => by have := fS1 y hy; simp only []; omega) _)
            exact S1
          · exact (by exact (r0.mono (show _ ≤ m + 210 by omega)).to (by repeat (first | (with_reducible exact Since.refl (r0.mono (show _ ≤ m + 210 by omega)).le) | (with_reducible refine Since.alloc ?_ _) | (with_reducible refine Since.drew ?_) | (with_reducible refine Since.drewN ?_ _) | (with_reducible refine Since.setCell ?_ ?_ _; rotate_left; (simp only []; omega)) | (with_reducible refine Since.ext ?_ (by assumption)))))
          · exact (by repeat (first | (with_reducible exact RExt.refl _ _) | (with_reducible assumption) | (with_reducible refine RExt.alloc ?_ _) | (with_reducible refine RExt.drewN ?_ _) | (with_reducible refine RExt.drew ?_) | (with_reducible refine RExt.setCell ?_ (.inr ?_) _; rotate_left; (simp only []; omega)) | (with_reducible refine RExt.trans ?_ (by assumption)) | (with_reducible refine RExt.ext ?_ (by assumption))))
        · go_wp2
          refine' bodyPost_ret (v := _) ?_ rfl ?_
          rotate_left
          · (simp only [results, Try.results139]
             go_simp
             rfl)
          refine ⟨((⟨k, ⟨cn.to_.addr, 99⟩, ⟨g.out, cn.port⟩, L⟩ : PktD)), a, n, c, rfl, ?_, by omega, (fun x e => by have := fS x e; omega), ?_, ?_⟩
          · repeat (refine Sl.setFar ?_ (fun hn y hy => by have := lS0 hn y hy; simp only []; omega) _)
            exact S0
          · exact (by exact (r0.mono (show _ ≤ m + 210 by omega)).to (by repeat (first | (with_reducible exact Since.refl (r0.mono (show _ ≤ m + 210 by omega)).le) | (with_reducible refine Since.alloc ?_ _) | (with_reducible refine Since.drew ?_) | (with_reducible refine Since.drewN ?_ _) | (with_reducible refine Since.setCell ?_ ?_ _; rotate_left; (simp only []; omega)) | (with_reducible refine Since.ext ?_ (by assumption)))))
          · exact (by repeat (first | (with_reducible exact RExt.refl _ _) | (with_reducible assumption) | (with_reducible refine RExt.alloc ?_ _) | (with_reducible refine RExt.drewN ?_ _) | (with_reducible refine RExt.drew ?_) | (with_reducible refine RExt.setCell ?_ (.inr ?_) _; rotate_left; (simp only []; omega)) | (with_reducible refine RExt.trans ?_ (by assumption)) | (with_reducible refine RExt.ext ?_ (by assumption))))
      · go_wp2_with fail
        refine (pick_any n0 B _ 12 _ (by exact r0.to (by repeat (first | (with_reducible exact Since.refl r0.le) | (with_reducible refine Since.alloc ?_ _) | (with_reducible refine Since.drew ?_) | (with_reducible refine Since.drewN ?_ _) | (with_reducible refine Since.setCell ?_ ?_ _; rotate_left; (simp only []; omega)) | (with_reducible refine Since.ext ?_ (by assumption))))) (by omega) (by omega) (by omega)).mono ?_
        rintro e t1 ⟨d, rfl, d0, d1, qt, ht⟩
        replace r0 := qt
        clear qt
        replace BG := BG.rext ht (by omega)
        replace BR := BR.rext ht (by omega)
        replace BP := BP.rext ht (by omega)
        replace K0 := K0.rextFar ht (fun hn x e => by have := lK0 hn x e; omega)
        replace S0 := S0.rextFar ht (fun hn x e => by have := lS0 hn x e; omega)
        replace X0 := X0.trans ht
        have := (ht).size
        clear ht
        have cBP := BP.cells
        have fBP := BP.frozens
        have zBP := BP.lt
        have cBG := BG.cells
        have zBG := BG.lt
        have cBR := BR.cells
        have fBR := BR.frozens
        have zBR := BR.lt
        by_cases e0 : d = 0
        · subst e0
          go_wp2_with fail
          refine (anyPacket_any n0 B _ _ r0 (by omega)).mono ?_
          rintro e t2 ⟨k', fa', fp', ga', gp', a', n', c', L', rfl, S1, hn13, fS1, qt, ht⟩
          clear cBP fBP zBP cBG zBG cBR fBR zBR
          replace r0 := qt
          clear qt
          replace BG := BG.rext ht (by omega)
          replace BR := BR.rext ht (by omega)
          replace BP := BP.rext ht (by omega)
          replace K0 := K0.rextFar ht (fun hn x e => by have := lK0 hn x e; omega)
          replace S0 := S0.rextFar ht (fun hn x e => by have := lS0 hn x e; omega)
          replace X0 := X0.trans ht
          have := (ht).size
          clear ht
          have cBP := BP.cells
          have fBP := BP.frozens
          have zBP := BP.lt
          have cBG := BG.cells
          have zBG := BG.lt
          have cBR := BR.cells
          have fBR := BR.frozens
          have zBR := BR.lt
          go_wp2
          refine' bodyPost_ret (v := _) ?_ rfl ?_
          rotate_left
          · (simp only [results, Try.results139]
             go_simp
             rfl)
          refine ⟨⟨k', ⟨fa', fp'⟩, ⟨ga', gp'⟩, L'⟩, a', n', c', rfl, ?_, hn13, (fun x e => by have := fS1 x e; omega), ?_, ?_⟩
          · repeat (refine Sl.setFar ?_ (fun hn y hy => by have := fS1 y hy; simp only []; omega) _)
            exact S1
          · exact (by exact (r0.mono (show _ ≤ m + 210 by omega)).to (by repeat (first | (with_reducible exact Since.refl (r0.mono (show _ ≤ m + 210 by omega)).le) | (with_reducible refine Since.alloc ?_ _) | (with_reducible refine Since.drew ?_) | (with_reducible refine Since.drewN ?_ _) | (with_reducible refine Since.setCell ?_ ?_ _; rotate_left; (simp only []; omega)) | (with_reducible refine Since.ext ?_ (by assumption)))))
          · exact (by repeat (first | (with_reducible exact RExt.refl _ _) | (with_reducible assumption) | (with_reducible refine RExt.alloc ?_ _) | (with_reducible refine RExt.drewN ?_ _) | (with_reducible refine RExt.drew ?_) | (with_reducible refine RExt.setCell ?_ (.inr ?_) _; rotate_left; (simp only []; omega)) | (with_reducible refine RExt.trans ?_ (by assumption)) | (with_reducible refine RExt.ext ?_ (by assumption))))
        · go_wp2
          refine' bodyPost_ret (v := _) ?_ rfl ?_
          rotate_left
          · (simp only [results, Try.results139]
             go_simp
             rfl)
          refine ⟨((⟨k, cn.to_, ⟨g.out, cn.port⟩, L⟩ : PktD)), a, n, c, rfl, ?_, by omega, (fun x e => by have := fS x e; omega), ?_, ?_⟩
          · repeat (refine Sl.setFar ?_ (fun hn y hy => by have := lS0 hn y hy; simp only []; omega) _)
            exact S0
          · exact (by exact (r0.mono (show _ ≤ m + 210 by omega)).to (by repeat (first | (with_reducible exact Since.refl (r0.mono (show _ ≤ m + 210 by omega)).le) | (with_reducible refine Since.alloc ?_ _) | (with_reducible refine Since.drew ?_) | (with_reducible refine Since.drewN ?_ _) | (with_reducible refine Since.setCell ?_ ?_ _; rotate_left; (simp only []; omega)) | (with_reducible refine Since.ext ?_ (by assumption)))))
          · exact (by repeat (first | (with_reducible exact RExt.refl _ _) | (with_reducible assumption) | (with_reducible refine RExt.alloc ?_ _) | (with_reducible refine RExt.drewN ?_ _) | (with_reducible refine RExt.drew ?_) | (with_reducible refine RExt.setCell ?_ (.inr ?_) _; rotate_left; (simp only []; omega)) | (with_reducible refine RExt.trans ?_ (by assumption)) | (with_reducible refine RExt.ext ?_ (by assumption))))
    · go_wp2_with fail
      refine (pick_any n0 B _ 12 _ (by exact r0.to (by repeat (first | (with_reducible exact Since.refl r0.le) | (with_reducible refine Since.alloc ?_ _) | (with_reducible refine Since.drew ?_) | (with_reducible refine Since.drewN ?_ _) | (with_reducible refine Since.setCell ?_ ?_ _; rotate_left; (simp only []; omega)) | (with_reducible refine Since.ext ?_ (by assumption))))) (by omega) (by omega) (by omega)).mono ?_
      rintro e t1 ⟨d, rfl, d0, d1, qt, ht⟩
      replace r0 := qt
      clear qt
      replace BG := BG.rext ht (by omega)
      replace BR := BR.rext ht (by omega)
      replace BP := BP.rext ht (by omega)
      replace K0 := K0.rextFar ht (fun hn x e => by have := lK0 hn x e; omega)
      replace S0 := S0.rextFar ht (fun hn x e => by have := lS0 hn x e; omega)
      replace X0 := X0.trans ht
      have := (ht).size
      clear ht
      have cBP := BP.cells
      have fBP := BP.frozens
      have zBP := BP.lt
      have cBG := BG.cells
      have zBG := BG.lt
      have cBR := BR.cells
      have fBR := BR.frozens
      have zBR := BR.lt
      by_cases e0 : d = 0
      · subst e0
        go_wp2_with fail
        refine (anyPacket_any n0 B _ _ r0 (by omega)).mono ?_
        rintro e t2 ⟨k', fa', fp', ga', gp', a', n', c', L', rfl, S1, hn13, fS1, qt, ht⟩
        clear cBP fBP zBP cBG zBG cBR fBR zBR
        replace r0 := qt
        clear qt
        replace BG := BG.rext ht (by omega)
        replace BR := BR.rext ht (by omega)
        replace BP := BP.rext ht (by omega)
        replace K0 := K0.rextFar ht (fun hn x e => by have := lK0 hn x e; omega)
        replace S0 := S0.rextFar ht (fun hn x e => by have := lS0 hn x e; omega)
        replace X0 := X0.trans ht
        have := (ht).size
        clear ht
        have cBP := BP.cells
        have fBP := BP.frozens
        have zBP := BP.lt
        have cBG := BG.cells
        have zBG := BG.lt
        have cBR := BR.cells
        have fBR := BR.frozens
        have zBR := BR.lt
        go_wp2
        refine' bodyPost_ret (v := _) ?_ rfl ?_
        rotate_left
        · (simp only [results, Try.results139]
           go_simp
           rfl)
        refine ⟨⟨k', ⟨fa', fp'⟩, ⟨ga', gp'⟩, L'⟩, a', n', c', rfl, ?_, hn13, (fun x e => by have := fS1 x e; omega), ?_, ?_⟩
        · repeat (refine Sl.setFar ?_ (fun hn y hy => by have := fS1 y hy; simp only []; omega) _)
          exact S1
        · exact (by exact (r0.mono (show _ ≤ m + 210 by omega)).to (by repeat (first | (with_reducible exact Since.refl (r0.mono (show _ ≤ m + 210 by omega)).le) | (with_reducible refine Since.alloc ?_ _) | (with_reducible refine Since.drew ?_) | (with_reducible refine Since.drewN ?_ _) | (with_reducible refine Since.setCell ?_ ?_ _; rotate_left; (simp only []; omega)) | (with_reducible refine Since.ext ?_ (by assumption)))))
        · exact (by repeat (first | (with_reducible exact RExt.refl _ _) | (with_reducible assumption) | (with_reducible refine RExt.alloc ?_ _) | (with_reducible refine RExt.drewN ?_ _) | (with_reducible refine RExt.drew ?_) | (with_reducible refine RExt.setCell ?_ (.inr ?_) _; rotate_left; (simp only []; omega)) | (with_reducible refine RExt.trans ?_ (by assumption)) | (with_reducible refine RExt.ext ?_ (by assumption))))
      · go_wp2
        refine' bodyPost_ret (v := _) ?_ rfl ?_
        rotate_left
        · (simp only [results, Try.results139]
           go_simp
           rfl)
        refine ⟨((⟨k, ⟨x1, y1⟩, ⟨g.out, 1000 + px⟩, L⟩ : PktD)), a, n, c, rfl, ?_, by omega, (fun x e => by have := fS x e; omega), ?_, ?_⟩
        · repeat (refine Sl.setFar ?_ (fun hn y hy => by have := lS0 hn y hy; simp only []; omega) _)
          exact S0
        · exact (by exact (r0.mono (show _ ≤ m + 210 by omega)).to (by repeat (first | (with_reducible exact Since.refl (r0.mono (show _ ≤ m + 210 by omega)).le) | (with_reducible refine Since.alloc ?_ _) | (with_reducible refine Since.drew ?_) | (with_reducible refine Since.drewN ?_ _) | (with_reducible refine Since.setCell ?_ ?_ _; rotate_left; (simp only []; omega)) | (with_reducible refine Since.ext ?_ (by assumption)))))
        · exact (by repeat (first | (with_reducible exact RExt.refl _ _) | (with_reducible assumption) | (with_reducible refine RExt.alloc ?_ _) | (with_reducible refine RExt.drewN ?_ _) | (with_reducible refine RExt.drew ?_) | (with_reducible refine RExt.setCell ?_ (.inr ?_) _; rotate_left; (simp only []; omega)) | (with_reducible refine RExt.trans ?_ (by assumption)) | (with_reducible refine RExt.ext ?_ (by assumption))))
end Go.Proofs.Ytafmomocmodbhaa
/- Contracts of what is drawn: gates and packets. -/
namespace Go.Proofs.Ytafmomocmodbhaa
set_option linter.unusedVariables false
set_option linter.unusedSimpArgs false
open Go.RowKit

set_option maxHeartbeats 400000 in
theorem DrawSendOut_any (a : Option Addr) (n c : Nat) (w : World) (hc : Code w a n c) :
    Calls Try.prog 85 #[.slice a n c] w fun e w' => ∃ (g : GateD) (p : PktD) (ta : Option Addr) (tn tc : Nat) (ka : Option Addr) (kn kc : Nat) (a : Option Addr) (n c : Nat), e = .returned (.tuple #[.agg #[.int .i64 g.net.base, .int .i64 g.net.bits, .int .i64 g.out, .slice ta tn tc, .slice ka kn kc, .int .i64 g.filter, .int .i64 g.hold, .int .i64 g.now], .agg #[.int .i64 p.kind, .int .i64 p.fr.addr, .int .i64 p.fr.port, .int .i64 p.to_.addr, .int .i64 p.to_.port, .slice a n c]]) ∧
          Sl encM 4 w' ta tn tc g.table ∧ Sl encC 3 w' ka kn kc g.cons ∧ Sl encI 1 w' a n c p.data ∧ (0 < tn → ∀ x, ta = some x → w.heap.size ≤ x.block) ∧ (0 < kn → ∀ x, ka = some x → w.heap.size ≤ x.block) ∧ (0 < n → ∀ x, a = some x → w.heap.size ≤ x.block) ∧ Ext w w' := by
  obtain ⟨zs, hs, hz⟩ := hc
  go_enter Try.func85, Try.ntmps85
  go_wp2_with fail
  refine (newReader_any a n c zs _ (hs.ext (by repeat (first | (with_reducible exact Ext.refl _) | (with_reducible assumption) | (with_reducible refine Ext.alloc ?_ _) | (with_reducible refine Ext.drewN ?_ _) | (with_reducible refine Ext.drew ?_) | (with_reducible refine Ext.setCell ?_ ?_ _; rotate_left; (simp only []; omega)) | (with_reducible refine Ext.trans ?_ (by assumption))))) hz).mono ?_
  rintro e w1 ⟨B, rfl, hB, hr, hx⟩
  have hy1 := hx.size
  (try simp at hy1)
  (try simp at hB)
  have hBl := hr.lt
  have BR : Blk w1 w.heap.size 40 #[.int .i64 0, .int .i64 0, .int .i64 0, .slice none 0 0, .slice none 0 0, .int .i64 0, .int .i64 0, .int .i64 0] := by refine Blk.ext ?_ hx; exact (by repeat (first | (with_reducible assumption) | (with_reducible exact Blk.new _ _ _) | exact Blk.newAt _ _ _ (by simp) | (with_reducible refine Blk.alloc ?_ _) | (with_reducible refine Blk.drew ?_) | (with_reducible refine Blk.drewN ?_ _) | refine Blk.far ?_ (by simp only []; omega) _ | refine Blk.rext ?_ (by assumption) (by omega) | refine Blk.ext ?_ (by assumption)))
  have BS : Blk w1 (w.heap.size + 1) 44 #[.int .i64 0, .int .i64 0, .int .i64 0, .int .i64 0, .int .i64 0, .slice none 0 0] := by refine Blk.ext ?_ hx; exact (by repeat (first | (with_reducible assumption) | (with_reducible exact Blk.new _ _ _) | exact Blk.newAt _ _ _ (by simp) | (with_reducible refine Blk.alloc ?_ _) | (with_reducible refine Blk.drew ?_) | (with_reducible refine Blk.drewN ?_ _) | refine Blk.far ?_ (by simp only []; omega) _ | refine Blk.rext ?_ (by assumption) (by omega) | refine Blk.ext ?_ (by assumption)))
  have X0 : Ext w w1 := (by repeat (first | (with_reducible exact Ext.refl _) | (with_reducible assumption) | (with_reducible refine Ext.alloc ?_ _) | (with_reducible refine Ext.drewN ?_ _) | (with_reducible refine Ext.drew ?_) | (with_reducible refine Ext.setCell ?_ ?_ _; rotate_left; (simp only []; omega)) | (with_reducible refine Ext.trans ?_ (by assumption))))
  clear hx
  go_wp2_with fail
  refine (anyGate_any _ B _ _ hr (by omega)).mono ?_
  rintro e w2 ⟨g, ta, tn, tc, ka, kn, kc, rfl, T0, K0, _, _, _, _, fT, fK, q2, hx2⟩
  have hy2 := hx2.size
  (try simp at hy2)
  have BR : Blk w2 w.heap.size 40 (#[.int .i64 0, .int .i64 0, .int .i64 0, .slice none 0 0, .slice none 0 0, .int .i64 0, .int .i64 0, .int .i64 0]) := by refine Blk.rext ?_ hx2 (by omega); repeat (first | (with_reducible exact BR) | (with_reducible exact Blk.new _ _ _) | exact Blk.newAt _ _ _ (by simp) | (with_reducible refine Blk.alloc ?_ _) | (with_reducible refine Blk.drew ?_) | (with_reducible refine Blk.drewN ?_ _) | refine Blk.far ?_ (by simp only []; omega) _)
  have BS : Blk w2 (w.heap.size+1) 44 (#[.int .i64 0, .int .i64 0, .int .i64 0, .int .i64 0, .int .i64 0, .slice none 0 0]) := by refine Blk.rext ?_ hx2 (by omega); repeat (first | (with_reducible exact BS) | (with_reducible exact Blk.new _ _ _) | exact Blk.newAt _ _ _ (by simp) | (with_reducible refine Blk.alloc ?_ _) | (with_reducible refine Blk.drew ?_) | (with_reducible refine Blk.drewN ?_ _) | refine Blk.far ?_ (by simp only []; omega) _)
  have cBR := BR.cells
  have fBR := BR.frozens
  have zBR := BR.lt
  have cBS := BS.cells
  have fBS := BS.frozens
  have zBS := BS.lt
  have lT0 : 0 < tn → ∀ x, ta = some x → w1.heap.size ≤ x.block ∧ x.block < w2.heap.size := fun h x e => ⟨fT x e, T0.lt h x e⟩
  have lK0 : 0 < kn → ∀ x, ka = some x → w1.heap.size ≤ x.block ∧ x.block < w2.heap.size := fun h x e => ⟨fK x e, K0.lt h x e⟩
  clear fT fK
  replace X0 : Ext w w2 := by refine RExt.new ?_ hx2 (by omega); exact (by repeat (first | (with_reducible exact Ext.refl _) | (with_reducible assumption) | (with_reducible refine Ext.alloc ?_ _) | (with_reducible refine Ext.drewN ?_ _) | (with_reducible refine Ext.drew ?_) | (with_reducible refine Ext.setCell ?_ ?_ _; rotate_left; (simp only []; omega)) | (with_reducible refine Ext.trans ?_ (by assumption))))
  go_wp2_with fail
  refine (anyPacket_any _ B _ _ (by exact q2.to (by repeat (first | (with_reducible exact Since.refl q2.le) | (with_reducible refine Since.alloc ?_ _) | (with_reducible refine Since.drew ?_) | (with_reducible refine Since.drewN ?_ _) | (with_reducible refine Since.setCell ?_ ?_ _; rotate_left; (simp only []; omega)) | (with_reducible refine Since.ext ?_ (by assumption))))) (by omega)).mono ?_
  rintro e w3 ⟨k, fa, fp, ga, gp, sa, sn, sc, L, rfl, S0, _, fS, q3, hx3⟩
  have hy3 := hx3.size
  (try simp at hy3)
  clear cBR fBR zBR
  clear cBS fBS zBS
  replace BR : Blk w3 w.heap.size 40 (#[.int .i64 0, .int .i64 0, .int .i64 0, .slice none 0 0, .slice none 0 0, .int .i64 0, .int .i64 0, .int .i64 0]) := by refine Blk.rext ?_ hx3 (by omega); repeat (first | (with_reducible exact BR) | (with_reducible exact Blk.new _ _ _) | exact Blk.newAt _ _ _ (by simp) | (with_reducible refine Blk.alloc ?_ _) | (with_reducible refine Blk.drew ?_) | (with_reducible refine Blk.drewN ?_ _) | refine Blk.far ?_ (by simp only []; omega) _)
  replace BS : Blk w3 (w.heap.size+1) 44 (#[.int .i64 0, .int .i64 0, .int .i64 0, .int .i64 0, .int .i64 0, .slice none 0 0]) := by refine Blk.rext ?_ hx3 (by omega); repeat (first | (with_reducible exact BS) | (with_reducible exact Blk.new _ _ _) | exact Blk.newAt _ _ _ (by simp) | (with_reducible refine Blk.alloc ?_ _) | (with_reducible refine Blk.drew ?_) | (with_reducible refine Blk.drewN ?_ _) | refine Blk.far ?_ (by simp only []; omega) _)
  have BG : Blk w3 w2.heap.size 40 (#[.int .i64 g.net.base, .int .i64 g.net.bits, .int .i64 g.out, .slice ta tn tc, .slice ka kn kc, .int .i64 g.filter, .int .i64 g.hold, .int .i64 g.now]) := by refine Blk.rext ?_ hx3 (by omega); repeat (first | (with_reducible exact BG) | (with_reducible exact Blk.new _ _ _) | exact Blk.newAt _ _ _ (by simp) | (with_reducible refine Blk.alloc ?_ _) | (with_reducible refine Blk.drew ?_) | (with_reducible refine Blk.drewN ?_ _) | refine Blk.far ?_ (by simp only []; omega) _)
  replace T0 : Sl encM 4 w3 ta tn tc g.table := by refine Sl.rextFar ?_ hx3 (fun hn x e => by have := lT0 hn x e; omega); repeat (first | (with_reducible exact T0) | (with_reducible refine Sl.alloc ?_ _) | (with_reducible refine Sl.drew ?_) | (with_reducible refine Sl.drewN ?_ _) | refine Sl.setFar ?_ (fun hn x e => by have := lT0 hn x e; simp only []; omega) _)
  replace K0 : Sl encC 3 w3 ka kn kc g.cons := by refine Sl.rextFar ?_ hx3 (fun hn x e => by have := lK0 hn x e; omega); repeat (first | (with_reducible exact K0) | (with_reducible refine Sl.alloc ?_ _) | (with_reducible refine Sl.drew ?_) | (with_reducible refine Sl.drewN ?_ _) | refine Sl.setFar ?_ (fun hn x e => by have := lK0 hn x e; simp only []; omega) _)
  have cBR := BR.cells
  have fBR := BR.frozens
  have zBR := BR.lt
  have cBS := BS.cells
  have fBS := BS.frozens
  have zBS := BS.lt
  have cBG := BG.cells
  have fBG := BG.frozens
  have zBG := BG.lt
  replace X0 : Ext w w3 := by refine RExt.new ?_ hx3 (by omega); exact (by repeat (first | (with_reducible exact Ext.refl _) | (with_reducible assumption) | (with_reducible refine Ext.alloc ?_ _) | (with_reducible refine Ext.drewN ?_ _) | (with_reducible refine Ext.drew ?_) | (with_reducible refine Ext.setCell ?_ ?_ _; rotate_left; (simp only []; omega)) | (with_reducible refine Ext.trans ?_ (by assumption))))
  have lS0 : 0 < sn → ∀ x, sa = some x → w2.heap.size < x.block ∧ x.block < w3.heap.size := fun h x e => ⟨by have h := fS x e; simp at h; omega, S0.lt h x e⟩
  clear fS
  go_wp2_with fail
  refine (pick_any _ B _ 4 _ (by exact q3.to (by repeat (first | (with_reducible exact Since.refl q3.le) | (with_reducible refine Since.alloc ?_ _) | (with_reducible refine Since.drew ?_) | (with_reducible refine Since.drewN ?_ _) | (with_reducible refine Since.setCell ?_ ?_ _; rotate_left; (simp only []; omega)) | (with_reducible refine Since.ext ?_ (by assumption))))) (by omega) (by omega) (by omega)).mono ?_
  rintro e w4 ⟨d, rfl, d0, d1, q4, hx4⟩
  have hy4 := hx4.size
  (try simp at hy4)
  clear cBR fBR zBR
  clear cBS fBS zBS
  clear cBG fBG zBG
  replace BR : Blk w4 w.heap.size 40 (#[.int .i64 0, .int .i64 0, .int .i64 0, .slice none 0 0, .slice none 0 0, .int .i64 0, .int .i64 0, .int .i64 0]) := by refine Blk.rext ?_ hx4 (by omega); repeat (first | (with_reducible exact BR) | (with_reducible exact Blk.new _ _ _) | exact Blk.newAt _ _ _ (by simp) | (with_reducible refine Blk.alloc ?_ _) | (with_reducible refine Blk.drew ?_) | (with_reducible refine Blk.drewN ?_ _) | refine Blk.far ?_ (by simp only []; omega) _)
  replace BS : Blk w4 (w.heap.size+1) 44 (#[.int .i64 0, .int .i64 0, .int .i64 0, .int .i64 0, .int .i64 0, .slice none 0 0]) := by refine Blk.rext ?_ hx4 (by omega); repeat (first | (with_reducible exact BS) | (with_reducible exact Blk.new _ _ _) | exact Blk.newAt _ _ _ (by simp) | (with_reducible refine Blk.alloc ?_ _) | (with_reducible refine Blk.drew ?_) | (with_reducible refine Blk.drewN ?_ _) | refine Blk.far ?_ (by simp only []; omega) _)
  replace BG : Blk w4 w2.heap.size 40 (#[.int .i64 g.net.base, .int .i64 g.net.bits, .int .i64 g.out, .slice ta tn tc, .slice ka kn kc, .int .i64 g.filter, .int .i64 g.hold, .int .i64 g.now]) := by refine Blk.rext ?_ hx4 (by omega); repeat (first | (with_reducible exact BG) | (with_reducible exact Blk.new _ _ _) | exact Blk.newAt _ _ _ (by simp) | (with_reducible refine Blk.alloc ?_ _) | (with_reducible refine Blk.drew ?_) | (with_reducible refine Blk.drewN ?_ _) | refine Blk.far ?_ (by simp only []; omega) _)
  have BP : Blk w4 w3.heap.size 44 (#[.int .i64 k, .int .i64 fa, .int .i64 fp, .int .i64 ga, .int .i64 gp, .slice sa sn sc]) := by refine Blk.rext ?_ hx4 (by omega); repeat (first | (with_reducible exact BP) | (with_reducible exact Blk.new _ _ _) | exact Blk.newAt _ _ _ (by simp) | (with_reducible refine Blk.alloc ?_ _) | (with_reducible refine Blk.drew ?_) | (with_reducible refine Blk.drewN ?_ _) | refine Blk.far ?_ (by simp only []; omega) _)
  replace T0 : Sl encM 4 w4 ta tn tc g.table := by refine Sl.rextFar ?_ hx4 (fun hn x e => by have := lT0 hn x e; omega); repeat (first | (with_reducible exact T0) | (with_reducible refine Sl.alloc ?_ _) | (with_reducible refine Sl.drew ?_) | (with_reducible refine Sl.drewN ?_ _) | refine Sl.setFar ?_ (fun hn x e => by have := lT0 hn x e; simp only []; omega) _)
  replace K0 : Sl encC 3 w4 ka kn kc g.cons := by refine Sl.rextFar ?_ hx4 (fun hn x e => by have := lK0 hn x e; omega); repeat (first | (with_reducible exact K0) | (with_reducible refine Sl.alloc ?_ _) | (with_reducible refine Sl.drew ?_) | (with_reducible refine Sl.drewN ?_ _) | refine Sl.setFar ?_ (fun hn x e => by have := lK0 hn x e; simp only []; omega) _)
  replace S0 : Sl encI 1 w4 sa sn sc L := by refine Sl.rextFar ?_ hx4 (fun hn x e => by have := lS0 hn x e; omega); repeat (first | (with_reducible exact S0) | (with_reducible refine Sl.alloc ?_ _) | (with_reducible refine Sl.drew ?_) | (with_reducible refine Sl.drewN ?_ _) | refine Sl.setFar ?_ (fun hn x e => by have := lS0 hn x e; simp only []; omega) _)
  have cBR := BR.cells
  have fBR := BR.frozens
  have zBR := BR.lt
  have cBS := BS.cells
  have fBS := BS.frozens
  have zBS := BS.lt
  have cBG := BG.cells
  have fBG := BG.frozens
  have zBG := BG.lt
  have cBP := BP.cells
  have fBP := BP.frozens
  have zBP := BP.lt
  replace X0 : Ext w w4 := by refine RExt.new ?_ hx4 (by omega); exact (by repeat (first | (with_reducible exact Ext.refl _) | (with_reducible assumption) | (with_reducible refine Ext.alloc ?_ _) | (with_reducible refine Ext.drewN ?_ _) | (with_reducible refine Ext.drew ?_) | (with_reducible refine Ext.setCell ?_ ?_ _; rotate_left; (simp only []; omega)) | (with_reducible refine Ext.trans ?_ (by assumption))))
  clear hx2 hx3 hx4 q2 q3 hr
  by_cases e0 : 0 < d
  · have e1 := e0
    go_wp2_with fail
    refine (insideEnd_any _ B _ _ q4 (by omega)).mono ?_
    rintro e w5 ⟨x1, y1, rfl, _, _, _, _, q5, hx5⟩
    have hy5 := hx5.size
    (try simp at hy5)
    clear cBR fBR zBR
    clear cBS fBS zBS
    clear cBG fBG zBG
    clear cBP fBP zBP
    replace BR : Blk w5 w.heap.size 40 (#[.int .i64 0, .int .i64 0, .int .i64 0, .slice none 0 0, .slice none 0 0, .int .i64 0, .int .i64 0, .int .i64 0]) := by refine Blk.rext ?_ hx5 (by omega); repeat (first | (with_reducible exact BR) | (with_reducible exact Blk.new _ _ _) | exact Blk.newAt _ _ _ (by simp) | (with_reducible refine Blk.alloc ?_ _) | (with_reducible refine Blk.drew ?_) | (with_reducible refine Blk.drewN ?_ _) | refine Blk.far ?_ (by simp only []; omega) _)
    replace BS : Blk w5 (w.heap.size+1) 44 (#[.int .i64 0, .int .i64 0, .int .i64 0, .int .i64 0, .int .i64 0, .slice none 0 0]) := by refine Blk.rext ?_ hx5 (by omega); repeat (first | (with_reducible exact BS) | (with_reducible exact Blk.new _ _ _) | exact Blk.newAt _ _ _ (by simp) | (with_reducible refine Blk.alloc ?_ _) | (with_reducible refine Blk.drew ?_) | (with_reducible refine Blk.drewN ?_ _) | refine Blk.far ?_ (by simp only []; omega) _)
    replace BG : Blk w5 w2.heap.size 40 (#[.int .i64 g.net.base, .int .i64 g.net.bits, .int .i64 g.out, .slice ta tn tc, .slice ka kn kc, .int .i64 g.filter, .int .i64 g.hold, .int .i64 g.now]) := by refine Blk.rext ?_ hx5 (by omega); repeat (first | (with_reducible exact BG) | (with_reducible exact Blk.new _ _ _) | exact Blk.newAt _ _ _ (by simp) | (with_reducible refine Blk.alloc ?_ _) | (with_reducible refine Blk.drew ?_) | (with_reducible refine Blk.drewN ?_ _) | refine Blk.far ?_ (by simp only []; omega) _)
    replace BP : Blk w5 w3.heap.size 44 (#[.int .i64 k, .int .i64 fa, .int .i64 fp, .int .i64 ga, .int .i64 gp, .slice sa sn sc]) := by refine Blk.rext ?_ hx5 (by omega); repeat (first | (with_reducible exact BP) | (with_reducible exact Blk.new _ _ _) | exact Blk.newAt _ _ _ (by simp) | (with_reducible refine Blk.alloc ?_ _) | (with_reducible refine Blk.drew ?_) | (with_reducible refine Blk.drewN ?_ _) | refine Blk.far ?_ (by simp only []; omega) _)
    replace T0 : Sl encM 4 w5 ta tn tc g.table := by refine Sl.rextFar ?_ hx5 (fun hn x e => by have := lT0 hn x e; omega); repeat (first | (with_reducible exact T0) | (with_reducible refine Sl.alloc ?_ _) | (with_reducible refine Sl.drew ?_) | (with_reducible refine Sl.drewN ?_ _) | refine Sl.setFar ?_ (fun hn x e => by have := lT0 hn x e; simp only []; omega) _)
    replace K0 : Sl encC 3 w5 ka kn kc g.cons := by refine Sl.rextFar ?_ hx5 (fun hn x e => by have := lK0 hn x e; omega); repeat (first | (with_reducible exact K0) | (with_reducible refine Sl.alloc ?_ _) | (with_reducible refine Sl.drew ?_) | (with_reducible refine Sl.drewN ?_ _) | refine Sl.setFar ?_ (fun hn x e => by have := lK0 hn x e; simp only []; omega) _)
    replace S0 : Sl encI 1 w5 sa sn sc L := by refine Sl.rextFar ?_ hx5 (fun hn x e => by have := lS0 hn x e; omega); repeat (first | (with_reducible exact S0) | (with_reducible refine Sl.alloc ?_ _) | (with_reducible refine Sl.drew ?_) | (with_reducible refine Sl.drewN ?_ _) | refine Sl.setFar ?_ (fun hn x e => by have := lS0 hn x e; simp only []; omega) _)
    have cBR := BR.cells
    have fBR := BR.frozens
    have zBR := BR.lt
    have cBS := BS.cells
    have fBS := BS.frozens
    have zBS := BS.lt
    have cBG := BG.cells
    have fBG := BG.frozens
    have zBG := BG.lt
    have cBP := BP.cells
    have fBP := BP.frozens
    have zBP := BP.lt
    replace X0 : Ext w w5 := by refine RExt.new ?_ hx5 (by omega); exact (by repeat (first | (with_reducible exact Ext.refl _) | (with_reducible assumption) | (with_reducible refine Ext.alloc ?_ _) | (with_reducible refine Ext.drewN ?_ _) | (with_reducible refine Ext.drew ?_) | (with_reducible refine Ext.setCell ?_ ?_ _; rotate_left; (simp only []; omega)) | (with_reducible refine Ext.trans ?_ (by assumption))))
    clear hx5 q4
    go_wp2_with fail
    refine (farEnd_any _ B _ _ (by exact q5.to (by repeat (first | (with_reducible exact Since.refl q5.le) | (with_reducible refine Since.alloc ?_ _) | (with_reducible refine Since.drew ?_) | (with_reducible refine Since.drewN ?_ _) | (with_reducible refine Since.setCell ?_ ?_ _; rotate_left; (simp only []; omega)) | (with_reducible refine Since.ext ?_ (by assumption))))) (by omega)).mono ?_
    rintro e w6 ⟨x2, y2, rfl, _, _, _, _, q6, hx6⟩
    have hy6 := hx6.size
    (try simp at hy6)
    clear cBR fBR zBR
    clear cBS fBS zBS
    clear cBG fBG zBG
    clear cBP fBP zBP
    replace BR : Blk w6 w.heap.size 40 (#[.int .i64 0, .int .i64 0, .int .i64 0, .slice none 0 0, .slice none 0 0, .int .i64 0, .int .i64 0, .int .i64 0]) := by refine Blk.rext ?_ hx6 (by omega); repeat (first | (with_reducible exact BR) | (with_reducible exact Blk.new _ _ _) | exact Blk.newAt _ _ _ (by simp) | (with_reducible refine Blk.alloc ?_ _) | (with_reducible refine Blk.drew ?_) | (with_reducible refine Blk.drewN ?_ _) | refine Blk.far ?_ (by simp only []; omega) _)
    replace BS : Blk w6 (w.heap.size+1) 44 (#[.int .i64 0, .int .i64 0, .int .i64 0, .int .i64 0, .int .i64 0, .slice none 0 0]) := by refine Blk.rext ?_ hx6 (by omega); repeat (first | (with_reducible exact BS) | (with_reducible exact Blk.new _ _ _) | exact Blk.newAt _ _ _ (by simp) | (with_reducible refine Blk.alloc ?_ _) | (with_reducible refine Blk.drew ?_) | (with_reducible refine Blk.drewN ?_ _) | refine Blk.far ?_ (by simp only []; omega) _)
    replace BG : Blk w6 w2.heap.size 40 (#[.int .i64 g.net.base, .int .i64 g.net.bits, .int .i64 g.out, .slice ta tn tc, .slice ka kn kc, .int .i64 g.filter, .int .i64 g.hold, .int .i64 g.now]) := by refine Blk.rext ?_ hx6 (by omega); repeat (first | (with_reducible exact BG) | (with_reducible exact Blk.new _ _ _) | exact Blk.newAt _ _ _ (by simp) | (with_reducible refine Blk.alloc ?_ _) | (with_reducible refine Blk.drew ?_) | (with_reducible refine Blk.drewN ?_ _) | refine Blk.far ?_ (by simp only []; omega) _)
    replace BP : Blk w6 w3.heap.size 44 (#[.int .i64 k, .int .i64 x1, .int .i64 y1, .int .i64 ga, .int .i64 gp, .slice sa sn sc]) := by refine Blk.rext ?_ hx6 (by omega); repeat (first | (exact (show Blk _ w3.heap.size 44 (#[.int .i64 k, .int .i64 x1, .int .i64 y1, .int .i64 ga, .int .i64 gp, .slice sa sn sc]) from by simpa using (BP.set 1 (.int .i64 x1)).set 2 (.int .i64 y1))) | (with_reducible exact Blk.new _ _ _) | exact Blk.newAt _ _ _ (by simp) | (with_reducible refine Blk.alloc ?_ _) | (with_reducible refine Blk.drew ?_) | (with_reducible refine Blk.drewN ?_ _) | refine Blk.far ?_ (by simp only []; omega) _)
    replace T0 : Sl encM 4 w6 ta tn tc g.table := by refine Sl.rextFar ?_ hx6 (fun hn x e => by have := lT0 hn x e; omega); repeat (first | (with_reducible exact T0) | (with_reducible refine Sl.alloc ?_ _) | (with_reducible refine Sl.drew ?_) | (with_reducible refine Sl.drewN ?_ _) | refine Sl.setFar ?_ (fun hn x e => by have := lT0 hn x e; simp only []; omega) _)
    replace K0 : Sl encC 3 w6 ka kn kc g.cons := by refine Sl.rextFar ?_ hx6 (fun hn x e => by have := lK0 hn x e; omega); repeat (first | (with_reducible exact K0) | (with_reducible refine Sl.alloc ?_ _) | (with_reducible refine Sl.drew ?_) | (with_reducible refine Sl.drewN ?_ _) | refine Sl.setFar ?_ (fun hn x e => by have := lK0 hn x e; simp only []; omega) _)
    replace S0 : Sl encI 1 w6 sa sn sc L := by refine Sl.rextFar ?_ hx6 (fun hn x e => by have := lS0 hn x e; omega); repeat (first | (with_reducible exact S0) | (with_reducible refine Sl.alloc ?_ _) | (with_reducible refine Sl.drew ?_) | (with_reducible refine Sl.drewN ?_ _) | refine Sl.setFar ?_ (fun hn x e => by have := lS0 hn x e; simp only []; omega) _)
    have cBR := BR.cells
    have fBR := BR.frozens
    have zBR := BR.lt
    have cBS := BS.cells
    have fBS := BS.frozens
    have zBS := BS.lt
    have cBG := BG.cells
    have fBG := BG.frozens
    have zBG := BG.lt
    have cBP := BP.cells
    have fBP := BP.frozens
    have zBP := BP.lt
    replace X0 : Ext w w6 := by refine RExt.new ?_ hx6 (by omega); exact (by repeat (first | (with_reducible exact Ext.refl _) | (with_reducible assumption) | (with_reducible refine Ext.alloc ?_ _) | (with_reducible refine Ext.drewN ?_ _) | (with_reducible refine Ext.drew ?_) | (with_reducible refine Ext.setCell ?_ ?_ _; rotate_left; (simp only []; omega)) | (with_reducible refine Ext.trans ?_ (by assumption))))
    clear hx6 q5 q6
    go_wp2_with fail
    refine wp_gen (fun W => RExt w3.heap.size w6 W ∧ Blk W w3.heap.size 44 #[.int .i64 k, .int .i64 x1, .int .i64 y1, .int .i64 x2, .int .i64 y2, .slice sa sn sc]) ⟨(by repeat (first | (with_reducible exact RExt.refl _ _) | (with_reducible refine RExt.putc ?_ _ _))), by simpa using (BP.set 3 (.int .i64 x2)).set 4 (.int .i64 y2)⟩ ?_
    rintro v7 ⟨x7, BP7⟩
    clear cBG fBG zBG cBP fBP cBR fBR zBR cBS fBS zBS BP
    have BP := BP7
    replace BG := BG.rext x7 (by omega)
    replace BR := BR.rext x7 (by omega)
    replace BS := BS.rext x7 (by omega)
    replace T0 := T0.rextFar x7 (fun hn x e => by have := lT0 hn x e; omega)
    replace K0 := K0.rextFar x7 (fun hn x e => by have := lK0 hn x e; omega)
    replace S0 := S0.rextFar x7 (fun hn x e => by have := lS0 hn x e; omega)
    replace X0 := RExt.new X0 x7 (by omega)
    have := (x7).size
    clear x7
    have hBv : B < v7.heap.size := by omega
    replace BG := BG.drew
    replace BP := BP.drew
    replace BR := BR.drew
    replace BS := BS.drew
    replace T0 := T0.drew
    replace K0 := K0.drew
    (try replace S0 := S0.drew)
    (try replace r0 := r0.drew)
    replace X0 := X0.drew
    have hdrS : ∀ W : World, W.drew.heap.size = W.heap.size := fun _ => rfl
    refine wp_region_eager (R := RX (fun i => i = B ∨ i = w.heap.size ∨ i = w.heap.size + 1)) [0, 1, 2, 3] (by kernel_rfl) (by kernel_rfl) (RX.refl _) (fun _ _ _ => RX.trans) ?_
    have hdrW := hdrS (v7)
    generalize (v7).drew = vD at *
    repeat' (first
      | (refine ChX.skip (by rfl) (by rfl) ?_
         (try simp only [Act.put, List.setIfInBounds_toArray, List.set_cons_zero, List.set_cons_succ]))
      | (refine' ChX.quiet (v := _) (by rfl) (by rfl) (by rfl) ?_ ?_
         rotate_left
         · (intro wS hS
            have cG := (BG.rx hS (by omega)).cells; have cP := (BP.rx hS (by omega)).cells
            go_simp
            with_reducible rfl)
         (try simp only [Act.put, List.setIfInBounds_toArray, List.set_cons_zero, List.set_cons_succ]))
      | (refine ChX.nil ?_)
      | (refine' ChX.guard (x := _) (by rfl) ?_ ?_ ?_
         rotate_left
         · (go_simp
            rfl)
         all_goals
           intro hg
           simp only [hg])
      | (refine' ChX.guardN (x := _) (by rfl) ?_ ?_ ?_
         rotate_left
         · (go_simp
            rfl)
         all_goals
           intro hg
           simp only [hg]))
    skip
    have cR := BR.cells
    have fR := BR.frozens
    refine ChX.storeP (fun W => RExt w.heap.size vD W ∧ Blk W w.heap.size 40 (#[.int .i64 g.net.base, .int .i64 g.net.bits, .int .i64 g.out, .slice ta tn tc, .slice ka kn kc, .int .i64 g.filter, .int .i64 g.hold, .int .i64 g.now])) (by rfl) (by rfl) (by rfl) ⟨_, (by go_simp; rfl), RX.of_rext (B := w.heap.size) (by repeat (first | (with_reducible exact RExt.refl _ _) | (with_reducible refine RExt.putc ?_ _ _))) (.inr (.inl rfl)), (by repeat (first | (with_reducible exact RExt.refl _ _) | (with_reducible refine RExt.putc ?_ _ _))), (by exact BR.put8 _ _ _ _ _ _ _ _)⟩ ?_
    (try simp only [Act.put, List.setIfInBounds_toArray, List.set_cons_zero, List.set_cons_succ])
    rintro yW1 _ ⟨z1, BR1⟩
    clear cR fR
    have BS1 := BS.rext z1 (by omega)
    have cS := BS1.cells
    have fS := BS1.frozens
    refine ChX.storeP (fun W => RExt (w.heap.size + 1) yW1 W ∧ Blk W (w.heap.size + 1) 44 #[.int .i64 k, .int .i64 x1, .int .i64 y1, .int .i64 x2, .int .i64 y2, .slice sa sn sc]) (by rfl) (by rfl) (by rfl) ⟨_, (by go_simp; rfl), RX.of_rext (B := w.heap.size + 1) (by repeat (first | (with_reducible exact RExt.refl _ _) | (with_reducible refine RExt.putc ?_ _ _))) (.inr (.inr rfl)), (by repeat (first | (with_reducible exact RExt.refl _ _) | (with_reducible refine RExt.putc ?_ _ _))), (by exact BS1.put6 _ _ _ _ _ _)⟩ ?_
    (try simp only [Act.put, List.setIfInBounds_toArray, List.set_cons_zero, List.set_cons_succ])
    rintro yW2 _ ⟨z2, BS2⟩
    clear cS fS BS1
    have BR2 := BR1.rext z2 (by omega)
    replace T0 := (T0.rextFar z1 (fun hn x e => by have := lT0 hn x e; omega)).rextFar z2 (fun hn x e => by have := lT0 hn x e; omega)
    replace K0 := (K0.rextFar z1 (fun hn x e => by have := lK0 hn x e; omega)).rextFar z2 (fun hn x e => by have := lK0 hn x e; omega)
    replace S0 := (S0.rextFar z1 (fun hn x e => by have := lS0 hn x e; omega)).rextFar z2 (fun hn x e => by have := lS0 hn x e; omega)
    replace X0 := RExt.new (RExt.new X0 z1 (by omega)) z2 (by omega)
    refine ChX.nil ?_
    have cR := BR2.cells
    have cS := BS2.cells
    have zR := BR2.lt
    have zS := BS2.lt
    go_wp2
    refine' bodyPost_ret (v := _) ?_ rfl ?_
    rotate_left
    · (simp only [results, Try.results85]
       go_simp
       rfl)
    exact ⟨g, ⟨k, ⟨x1, y1⟩, ⟨x2, y2⟩, L⟩, ta, tn, tc, ka, kn, kc, sa, sn, sc, rfl, T0, K0, S0, (fun h x e => by have := lT0 h x e; omega), (fun h x e => by have := lK0 h x e; omega), (fun h x e => by have := lS0 h x e; omega), X0⟩
  · clear cBG fBG zBG cBP fBP cBR fBR zBR cBS fBS zBS
    have hBv : B < w4.heap.size := by omega
    go_wp2_with fail
    replace BG := BG.drew
    replace BP := BP.drew
    replace BR := BR.drew
    replace BS := BS.drew
    replace T0 := T0.drew
    replace K0 := K0.drew
    (try replace S0 := S0.drew)
    (try replace r0 := r0.drew)
    replace X0 := X0.drew
    have hdrS : ∀ W : World, W.drew.heap.size = W.heap.size := fun _ => rfl
    refine wp_region_eager (R := RX (fun i => i = B ∨ i = w.heap.size ∨ i = w.heap.size + 1)) [0, 1, 2, 3] (by kernel_rfl) (by kernel_rfl) (RX.refl _) (fun _ _ _ => RX.trans) ?_
    have hdrW := hdrS (w4)
    generalize (w4).drew = vD at *
    repeat' (first
      | (refine ChX.skip (by rfl) (by rfl) ?_
         (try simp only [Act.put, List.setIfInBounds_toArray, List.set_cons_zero, List.set_cons_succ]))
      | (refine' ChX.quiet (v := _) (by rfl) (by rfl) (by rfl) ?_ ?_
         rotate_left
         · (intro wS hS
            have cG := (BG.rx hS (by omega)).cells; have cP := (BP.rx hS (by omega)).cells
            go_simp
            with_reducible rfl)
         (try simp only [Act.put, List.setIfInBounds_toArray, List.set_cons_zero, List.set_cons_succ]))
      | (refine ChX.nil ?_)
      | (refine' ChX.guard (x := _) (by rfl) ?_ ?_ ?_
         rotate_left
         · (go_simp
            rfl)
         all_goals
           intro hg
           simp only [hg])
      | (refine' ChX.guardN (x := _) (by rfl) ?_ ?_ ?_
         rotate_left
         · (go_simp
            rfl)
         all_goals
           intro hg
           simp only [hg]))
    skip
    have cR := BR.cells
    have fR := BR.frozens
    refine ChX.storeP (fun W => RExt w.heap.size vD W ∧ Blk W w.heap.size 40 (#[.int .i64 g.net.base, .int .i64 g.net.bits, .int .i64 g.out, .slice ta tn tc, .slice ka kn kc, .int .i64 g.filter, .int .i64 g.hold, .int .i64 g.now])) (by rfl) (by rfl) (by rfl) ⟨_, (by go_simp; rfl), RX.of_rext (B := w.heap.size) (by repeat (first | (with_reducible exact RExt.refl _ _) | (with_reducible refine RExt.putc ?_ _ _))) (.inr (.inl rfl)), (by repeat (first | (with_reducible exact RExt.refl _ _) | (with_reducible refine RExt.putc ?_ _ _))), (by exact BR.put8 _ _ _ _ _ _ _ _)⟩ ?_
    (try simp only [Act.put, List.setIfInBounds_toArray, List.set_cons_zero, List.set_cons_succ])
    rintro yW1 _ ⟨z1, BR1⟩
    clear cR fR
    have BS1 := BS.rext z1 (by omega)
    have cS := BS1.cells
    have fS := BS1.frozens
    refine ChX.storeP (fun W => RExt (w.heap.size + 1) yW1 W ∧ Blk W (w.heap.size + 1) 44 #[.int .i64 k, .int .i64 fa, .int .i64 fp, .int .i64 ga, .int .i64 gp, .slice sa sn sc]) (by rfl) (by rfl) (by rfl) ⟨_, (by go_simp; rfl), RX.of_rext (B := w.heap.size + 1) (by repeat (first | (with_reducible exact RExt.refl _ _) | (with_reducible refine RExt.putc ?_ _ _))) (.inr (.inr rfl)), (by repeat (first | (with_reducible exact RExt.refl _ _) | (with_reducible refine RExt.putc ?_ _ _))), (by exact BS1.put6 _ _ _ _ _ _)⟩ ?_
    (try simp only [Act.put, List.setIfInBounds_toArray, List.set_cons_zero, List.set_cons_succ])
    rintro yW2 _ ⟨z2, BS2⟩
    clear cS fS BS1
    have BR2 := BR1.rext z2 (by omega)
    replace T0 := (T0.rextFar z1 (fun hn x e => by have := lT0 hn x e; omega)).rextFar z2 (fun hn x e => by have := lT0 hn x e; omega)
    replace K0 := (K0.rextFar z1 (fun hn x e => by have := lK0 hn x e; omega)).rextFar z2 (fun hn x e => by have := lK0 hn x e; omega)
    replace S0 := (S0.rextFar z1 (fun hn x e => by have := lS0 hn x e; omega)).rextFar z2 (fun hn x e => by have := lS0 hn x e; omega)
    replace X0 := RExt.new (RExt.new X0 z1 (by omega)) z2 (by omega)
    refine ChX.nil ?_
    have cR := BR2.cells
    have cS := BS2.cells
    have zR := BR2.lt
    have zS := BS2.lt
    go_wp2
    refine' bodyPost_ret (v := _) ?_ rfl ?_
    rotate_left
    · (simp only [results, Try.results85]
       go_simp
       rfl)
    exact ⟨g, ⟨k, ⟨fa, fp⟩, ⟨ga, gp⟩, L⟩, ta, tn, tc, ka, kn, kc, sa, sn, sc, rfl, T0, K0, S0, (fun h x e => by have := lT0 h x e; omega), (fun h x e => by have := lK0 h x e; omega), (fun h x e => by have := lS0 h x e; omega), X0⟩
set_option maxHeartbeats 1000000 in
theorem DrawReceiveIn_any (a : Option Addr) (n c : Nat) (w : World) (hc : Code w a n c) :
    Calls Try.prog 86 #[.slice a n c] w fun e w' => ∃ (g : GateD) (p : PktD) (ta : Option Addr) (tn tc : Nat) (ka : Option Addr) (kn kc : Nat) (a : Option Addr) (n c : Nat), e = .returned (.tuple #[.agg #[.int .i64 g.net.base, .int .i64 g.net.bits, .int .i64 g.out, .slice ta tn tc, .slice ka kn kc, .int .i64 g.filter, .int .i64 g.hold, .int .i64 g.now], .agg #[.int .i64 p.kind, .int .i64 p.fr.addr, .int .i64 p.fr.port, .int .i64 p.to_.addr, .int .i64 p.to_.port, .slice a n c]]) ∧
          Sl encM 4 w' ta tn tc g.table ∧ Sl encC 3 w' ka kn kc g.cons ∧ Sl encI 1 w' a n c p.data ∧ (0 < tn → ∀ x, ta = some x → w.heap.size ≤ x.block) ∧ (0 < kn → ∀ x, ka = some x → w.heap.size ≤ x.block) ∧ (0 < n → ∀ x, a = some x → w.heap.size ≤ x.block) ∧ Ext w w' := by
  obtain ⟨zs, hs, hz⟩ := hc
  go_enter Try.func86, Try.ntmps86
  go_wp2_with fail
  refine (newReader_any a n c zs _ (hs.ext (by repeat (first | (with_reducible exact Ext.refl _) | (with_reducible assumption) | (with_reducible refine Ext.alloc ?_ _) | (with_reducible refine Ext.drewN ?_ _) | (with_reducible refine Ext.drew ?_) | (with_reducible refine Ext.setCell ?_ ?_ _; rotate_left; (simp only []; omega)) | (with_reducible refine Ext.trans ?_ (by assumption))))) hz).mono ?_
  rintro e w1 ⟨B, rfl, hB, hr, hx⟩
  have hy1 := hx.size
  (try simp at hy1)
  (try simp at hB)
  have hBl := hr.lt
  have BR : Blk w1 w.heap.size 40 #[.int .i64 0, .int .i64 0, .int .i64 0, .slice none 0 0, .slice none 0 0, .int .i64 0, .int .i64 0, .int .i64 0] := by refine Blk.ext ?_ hx; exact (by repeat (first | (with_reducible assumption) | (with_reducible exact Blk.new _ _ _) | exact Blk.newAt _ _ _ (by simp) | (with_reducible refine Blk.alloc ?_ _) | (with_reducible refine Blk.drew ?_) | (with_reducible refine Blk.drewN ?_ _) | refine Blk.far ?_ (by simp only []; omega) _ | refine Blk.rext ?_ (by assumption) (by omega) | refine Blk.ext ?_ (by assumption)))
  have BS : Blk w1 (w.heap.size + 1) 44 #[.int .i64 0, .int .i64 0, .int .i64 0, .int .i64 0, .int .i64 0, .slice none 0 0] := by refine Blk.ext ?_ hx; exact (by repeat (first | (with_reducible assumption) | (with_reducible exact Blk.new _ _ _) | exact Blk.newAt _ _ _ (by simp) | (with_reducible refine Blk.alloc ?_ _) | (with_reducible refine Blk.drew ?_) | (with_reducible refine Blk.drewN ?_ _) | refine Blk.far ?_ (by simp only []; omega) _ | refine Blk.rext ?_ (by assumption) (by omega) | refine Blk.ext ?_ (by assumption)))
  have X0 : Ext w w1 := (by repeat (first | (with_reducible exact Ext.refl _) | (with_reducible assumption) | (with_reducible refine Ext.alloc ?_ _) | (with_reducible refine Ext.drewN ?_ _) | (with_reducible refine Ext.drew ?_) | (with_reducible refine Ext.setCell ?_ ?_ _; rotate_left; (simp only []; omega)) | (with_reducible refine Ext.trans ?_ (by assumption))))
  clear hx
  go_wp2_with fail
  refine (anyGate_any _ B _ _ hr (by omega)).mono ?_
  rintro e w2 ⟨g, ta, tn, tc, ka, kn, kc, rfl, T0, K0, _, hkn, _, _, fT, fK, q2, hx2⟩
  have hy2 := hx2.size
  (try simp at hy2)
  have BR : Blk w2 w.heap.size 40 (#[.int .i64 0, .int .i64 0, .int .i64 0, .slice none 0 0, .slice none 0 0, .int .i64 0, .int .i64 0, .int .i64 0]) := by refine Blk.rext ?_ hx2 (by omega); repeat (first | (with_reducible exact BR) | (with_reducible exact Blk.new _ _ _) | exact Blk.newAt _ _ _ (by simp) | (with_reducible refine Blk.alloc ?_ _) | (with_reducible refine Blk.drew ?_) | (with_reducible refine Blk.drewN ?_ _) | refine Blk.far ?_ (by simp only []; omega) _)
  have BS : Blk w2 (w.heap.size+1) 44 (#[.int .i64 0, .int .i64 0, .int .i64 0, .int .i64 0, .int .i64 0, .slice none 0 0]) := by refine Blk.rext ?_ hx2 (by omega); repeat (first | (with_reducible exact BS) | (with_reducible exact Blk.new _ _ _) | exact Blk.newAt _ _ _ (by simp) | (with_reducible refine Blk.alloc ?_ _) | (with_reducible refine Blk.drew ?_) | (with_reducible refine Blk.drewN ?_ _) | refine Blk.far ?_ (by simp only []; omega) _)
  have cBR := BR.cells
  have fBR := BR.frozens
  have zBR := BR.lt
  have cBS := BS.cells
  have fBS := BS.frozens
  have zBS := BS.lt
  have hKB : ∀ x, ka = some x → x.block ≠ B := fun x e => by have := fK x e; omega
  have lT0 : 0 < tn → ∀ x, ta = some x → w1.heap.size ≤ x.block ∧ x.block < w2.heap.size := fun h x e => ⟨fT x e, T0.lt h x e⟩
  have lK0 : 0 < kn → ∀ x, ka = some x → w1.heap.size ≤ x.block ∧ x.block < w2.heap.size := fun h x e => ⟨fK x e, K0.lt h x e⟩
  clear fT fK
  replace X0 : Ext w w2 := by refine RExt.new ?_ hx2 (by omega); exact (by repeat (first | (with_reducible exact Ext.refl _) | (with_reducible assumption) | (with_reducible refine Ext.alloc ?_ _) | (with_reducible refine Ext.drewN ?_ _) | (with_reducible refine Ext.drew ?_) | (with_reducible refine Ext.setCell ?_ ?_ _; rotate_left; (simp only []; omega)) | (with_reducible refine Ext.trans ?_ (by assumption))))
  clear cBR fBR zBR cBS fBS zBS
  go_wp2_with fail
  refine wp_gen (fun W => Ext w2 W ∧ Blk W w2.heap.size 40 (#[.int .i64 g.net.base, .int .i64 g.net.bits, .int .i64 g.out, .slice ta tn tc, .slice ka kn kc, .int .i64 g.filter, .int .i64 g.hold, .int .i64 g.now])) ⟨(by repeat (first | (with_reducible exact Ext.refl _) | (with_reducible assumption) | (with_reducible refine Ext.alloc ?_ _) | (with_reducible refine Ext.drewN ?_ _) | (with_reducible refine Ext.drew ?_) | (with_reducible refine Ext.setCell ?_ ?_ _; rotate_left; (simp only []; omega)) | (with_reducible refine Ext.trans ?_ (by assumption)))), (by repeat (first | (with_reducible assumption) | (with_reducible exact Blk.new _ _ _) | exact Blk.newAt _ _ _ (by simp) | (with_reducible refine Blk.alloc ?_ _) | (with_reducible refine Blk.drew ?_) | (with_reducible refine Blk.drewN ?_ _) | refine Blk.far ?_ (by simp only []; omega) _ | refine Blk.rext ?_ (by assumption) (by omega) | refine Blk.ext ?_ (by assumption)))⟩ ?_
  rintro v3 ⟨x3, BG⟩
  have hv2 := BG.lt
  replace BR := BR.ext x3
  replace BS := BS.ext x3
  replace T0 := T0.ext x3
  replace K0 := K0.ext x3
  replace X0 := X0.trans x3
  have := (x3).size
  have r0 := q2.ext x3
  clear x3 q2 hx2
  have BP := BG
  have hBv : B < v3.heap.size := by omega
  go_wp2_with fail
  replace BG := BG.drew
  replace BP := BP.drew
  replace BR := BR.drew
  replace BS := BS.drew
  replace T0 := T0.drew
  replace K0 := K0.drew
  (try replace S0 := S0.drew)
  (try replace r0 := r0.drew)
  replace X0 := X0.drew
  have hdrS : ∀ W : World, W.drew.heap.size = W.heap.size := fun _ => rfl
  refine wp_region_eager (R := RX (fun i => i = B ∨ i = w.heap.size ∨ i = w.heap.size + 1)) [0, 1, 2, 3, 4, 5] (by kernel_rfl) (by kernel_rfl) (RX.refl _) (fun _ _ _ => RX.trans) ?_
  have hdrW := hdrS (v3)
  generalize (v3).drew = vD at *
  repeat' (first
    | (refine ChX.skip (by rfl) (by rfl) ?_
       (try simp only [Act.put, List.setIfInBounds_toArray, List.set_cons_zero, List.set_cons_succ]))
    | (refine' ChX.quiet (v := _) (by rfl) (by rfl) (by rfl) ?_ ?_
       rotate_left
       · (intro wS hS
          have cG := (BG.rx hS (by omega)).cells; have cP := (BP.rx hS (by omega)).cells
          go_simp
          with_reducible rfl)
       (try simp only [Act.put, List.setIfInBounds_toArray, List.set_cons_zero, List.set_cons_succ]))
    | (refine ChX.nil ?_)
    | (refine' ChX.guard (x := _) (by rfl) ?_ ?_ ?_
       rotate_left
       · (go_simp
          rfl)
       all_goals
         intro hg
         simp only [hg])
    | (refine' ChX.guardN (x := _) (by rfl) ?_ ?_ ?_
       rotate_left
       · (go_simp
          rfl)
       all_goals
         intro hg
         simp only [hg]))
  skip
  refine ChX.call (by rfl) (by rfl) (by rfl) (by go_simp; (constructor <;> rfl)) ?_
  refine (inPacket_any _ B _ g ta tn tc ka kn kc vD r0 (by omega) K0 (by omega) hKB).mono ?_
  rintro e v8 ⟨p, sa, sn, sc, rfl, S0, _, fS, q8, h8⟩
  refine ⟨_, rfl, RX.of_rext h8 (.inl rfl), ?_⟩
  have lS0 : 0 < sn → ∀ x, sa = some x → vD.heap.size ≤ x.block ∧ x.block < v8.heap.size := fun h x e => ⟨fS x e, S0.lt h x e⟩
  (try simp only [Act.put, List.setIfInBounds_toArray, List.set_cons_zero, List.set_cons_succ])
  replace BG := BG.rext h8 (by omega)
  replace BR := BR.rext h8 (by omega)
  replace BS := BS.rext h8 (by omega)
  replace T0 := T0.rextFar h8 (fun hn x e => by have := lT0 hn x e; omega)
  replace K0 := K0.rextFar h8 (fun hn x e => by have := lK0 hn x e; omega)
  replace X0 := RExt.new X0 h8 (by omega)
  have := (h8).size
  clear h8 q8 fS
  have cR := BR.cells
  have fR := BR.frozens
  refine ChX.storeP (fun W => RExt w.heap.size v8 W ∧ Blk W w.heap.size 40 (#[.int .i64 g.net.base, .int .i64 g.net.bits, .int .i64 g.out, .slice ta tn tc, .slice ka kn kc, .int .i64 g.filter, .int .i64 g.hold, .int .i64 g.now])) (by rfl) (by rfl) (by rfl) ⟨_, (by go_simp; rfl), RX.of_rext (B := w.heap.size) (by repeat (first | (with_reducible exact RExt.refl _ _) | (with_reducible refine RExt.putc ?_ _ _))) (.inr (.inl rfl)), (by repeat (first | (with_reducible exact RExt.refl _ _) | (with_reducible refine RExt.putc ?_ _ _))), (by exact BR.put8 _ _ _ _ _ _ _ _)⟩ ?_
  (try simp only [Act.put, List.setIfInBounds_toArray, List.set_cons_zero, List.set_cons_succ])
  rintro yW1 _ ⟨z1, BR1⟩
  clear cR fR
  have BS1 := BS.rext z1 (by omega)
  have cS := BS1.cells
  have fS := BS1.frozens
  refine ChX.storeP (fun W => RExt (w.heap.size + 1) yW1 W ∧ Blk W (w.heap.size + 1) 44 (#[.int .i64 p.kind, .int .i64 p.fr.addr, .int .i64 p.fr.port, .int .i64 p.to_.addr, .int .i64 p.to_.port, .slice sa sn sc])) (by rfl) (by rfl) (by rfl) ⟨_, (by go_simp; rfl), RX.of_rext (B := w.heap.size + 1) (by repeat (first | (with_reducible exact RExt.refl _ _) | (with_reducible refine RExt.putc ?_ _ _))) (.inr (.inr rfl)), (by repeat (first | (with_reducible exact RExt.refl _ _) | (with_reducible refine RExt.putc ?_ _ _))), (by exact BS1.put6 _ _ _ _ _ _)⟩ ?_
  (try simp only [Act.put, List.setIfInBounds_toArray, List.set_cons_zero, List.set_cons_succ])
  rintro yW2 _ ⟨z2, BS2⟩
  clear cS fS BS1
  have BR2 := BR1.rext z2 (by omega)
  replace T0 := (T0.rextFar z1 (fun hn x e => by have := lT0 hn x e; omega)).rextFar z2 (fun hn x e => by have := lT0 hn x e; omega)
  replace K0 := (K0.rextFar z1 (fun hn x e => by have := lK0 hn x e; omega)).rextFar z2 (fun hn x e => by have := lK0 hn x e; omega)
  replace S0 := (S0.rextFar z1 (fun hn x e => by have := lS0 hn x e; omega)).rextFar z2 (fun hn x e => by have := lS0 hn x e; omega)
  replace X0 := RExt.new (RExt.new X0 z1 (by omega)) z2 (by omega)
  refine ChX.nil ?_
  have cR := BR2.cells
  have cS := BS2.cells
  have zR := BR2.lt
  have zS := BS2.lt
  go_wp2
  refine' bodyPost_ret (v := _) ?_ rfl ?_
  rotate_left
  · (simp only [results, Try.results86]
     go_simp
     rfl)
  exact ⟨g, p, ta, tn, tc, ka, kn, kc, sa, sn, sc, rfl, T0, K0, S0, (fun h x e => by have := lT0 h x e; omega), (fun h x e => by have := lK0 h x e; omega), (fun h x e => by have := lS0 h x e; omega), X0⟩
end Go.Proofs.Ytafmomocmodbhaa
/- Contracts of what is drawn: gates and packets, further. -/
namespace Go.Proofs.Ytafmomocmodbhaa
set_option linter.unusedVariables false
set_option linter.unusedSimpArgs false
open Go.RowKit

set_option maxHeartbeats 2000000 in
theorem DrawPassBetween_any (a : Option Addr) (n c : Nat) (w : World) (hc : Code w a n c) :
    Calls Try.prog 87 #[.slice a n c] w fun e w' => ∃ (g : GateD) (p : PktD) (ta : Option Addr) (tn tc : Nat) (ka : Option Addr) (kn kc : Nat) (a : Option Addr) (n c : Nat), e = .returned (.tuple #[.agg #[.int .i64 g.net.base, .int .i64 g.net.bits, .int .i64 g.out, .slice ta tn tc, .slice ka kn kc, .int .i64 g.filter, .int .i64 g.hold, .int .i64 g.now], .agg #[.int .i64 p.kind, .int .i64 p.fr.addr, .int .i64 p.fr.port, .int .i64 p.to_.addr, .int .i64 p.to_.port, .slice a n c]]) ∧
          Sl encM 4 w' ta tn tc g.table ∧ Sl encC 3 w' ka kn kc g.cons ∧ Sl encI 1 w' a n c p.data ∧ (0 < tn → ∀ x, ta = some x → w.heap.size ≤ x.block) ∧ (0 < kn → ∀ x, ka = some x → w.heap.size ≤ x.block) ∧ (0 < n → ∀ x, a = some x → w.heap.size ≤ x.block) ∧ Ext w w' := by
  obtain ⟨zs, hs, hz⟩ := hc
  go_enter Try.func87, Try.ntmps87
  go_wp2_with fail
  refine (newReader_any a n c zs _ (hs.ext (by repeat (first | (with_reducible exact Ext.refl _) | (with_reducible assumption) | (with_reducible refine Ext.alloc ?_ _) | (with_reducible refine Ext.drewN ?_ _) | (with_reducible refine Ext.drew ?_) | (with_reducible refine Ext.setCell ?_ ?_ _; rotate_left; (simp only []; omega)) | (with_reducible refine Ext.trans ?_ (by assumption))))) hz).mono ?_
  rintro e w1 ⟨B, rfl, hB, hr, hx⟩
  have hy1 := hx.size
  (try simp at hy1)
  (try simp at hB)
  have hBl := hr.lt
  have BR : Blk w1 w.heap.size 40 #[.int .i64 0, .int .i64 0, .int .i64 0, .slice none 0 0, .slice none 0 0, .int .i64 0, .int .i64 0, .int .i64 0] := by refine Blk.ext ?_ hx; exact (by repeat (first | (with_reducible assumption) | (with_reducible exact Blk.new _ _ _) | exact Blk.newAt _ _ _ (by simp) | (with_reducible refine Blk.alloc ?_ _) | (with_reducible refine Blk.drew ?_) | (with_reducible refine Blk.drewN ?_ _) | refine Blk.far ?_ (by simp only []; omega) _ | refine Blk.rext ?_ (by assumption) (by omega) | refine Blk.ext ?_ (by assumption)))
  have BS : Blk w1 (w.heap.size + 1) 44 #[.int .i64 0, .int .i64 0, .int .i64 0, .int .i64 0, .int .i64 0, .slice none 0 0] := by refine Blk.ext ?_ hx; exact (by repeat (first | (with_reducible assumption) | (with_reducible exact Blk.new _ _ _) | exact Blk.newAt _ _ _ (by simp) | (with_reducible refine Blk.alloc ?_ _) | (with_reducible refine Blk.drew ?_) | (with_reducible refine Blk.drewN ?_ _) | refine Blk.far ?_ (by simp only []; omega) _ | refine Blk.rext ?_ (by assumption) (by omega) | refine Blk.ext ?_ (by assumption)))
  have X0 : Ext w w1 := (by repeat (first | (with_reducible exact Ext.refl _) | (with_reducible assumption) | (with_reducible refine Ext.alloc ?_ _) | (with_reducible refine Ext.drewN ?_ _) | (with_reducible refine Ext.drew ?_) | (with_reducible refine Ext.setCell ?_ ?_ _; rotate_left; (simp only []; omega)) | (with_reducible refine Ext.trans ?_ (by assumption))))
  clear hx
  go_wp2_with fail
  refine (anyGate_any _ B _ _ hr (by omega)).mono ?_
  rintro e w2 ⟨g, ta, tn, tc, ka, kn, kc, rfl, T0, K0, _, _, _, _, fT, fK, q2, hx2⟩
  have hy2 := hx2.size
  (try simp at hy2)
  have BR : Blk w2 w.heap.size 40 (#[.int .i64 0, .int .i64 0, .int .i64 0, .slice none 0 0, .slice none 0 0, .int .i64 0, .int .i64 0, .int .i64 0]) := by refine Blk.rext ?_ hx2 (by omega); repeat (first | (with_reducible exact BR) | (with_reducible exact Blk.new _ _ _) | exact Blk.newAt _ _ _ (by simp) | (with_reducible refine Blk.alloc ?_ _) | (with_reducible refine Blk.drew ?_) | (with_reducible refine Blk.drewN ?_ _) | refine Blk.far ?_ (by simp only []; omega) _)
  have BS : Blk w2 (w.heap.size+1) 44 (#[.int .i64 0, .int .i64 0, .int .i64 0, .int .i64 0, .int .i64 0, .slice none 0 0]) := by refine Blk.rext ?_ hx2 (by omega); repeat (first | (with_reducible exact BS) | (with_reducible exact Blk.new _ _ _) | exact Blk.newAt _ _ _ (by simp) | (with_reducible refine Blk.alloc ?_ _) | (with_reducible refine Blk.drew ?_) | (with_reducible refine Blk.drewN ?_ _) | refine Blk.far ?_ (by simp only []; omega) _)
  have cBR := BR.cells
  have fBR := BR.frozens
  have zBR := BR.lt
  have cBS := BS.cells
  have fBS := BS.frozens
  have zBS := BS.lt
  have lT0 : 0 < tn → ∀ x, ta = some x → w1.heap.size ≤ x.block ∧ x.block < w2.heap.size := fun h x e => ⟨fT x e, T0.lt h x e⟩
  have lK0 : 0 < kn → ∀ x, ka = some x → w1.heap.size ≤ x.block ∧ x.block < w2.heap.size := fun h x e => ⟨fK x e, K0.lt h x e⟩
  clear fT fK
  replace X0 : Ext w w2 := by refine RExt.new ?_ hx2 (by omega); exact (by repeat (first | (with_reducible exact Ext.refl _) | (with_reducible assumption) | (with_reducible refine Ext.alloc ?_ _) | (with_reducible refine Ext.drewN ?_ _) | (with_reducible refine Ext.drew ?_) | (with_reducible refine Ext.setCell ?_ ?_ _; rotate_left; (simp only []; omega)) | (with_reducible refine Ext.trans ?_ (by assumption))))
  go_wp2_with fail
  refine (somePacket_any _ B _ _ (by exact q2.to (by repeat (first | (with_reducible exact Since.refl q2.le) | (with_reducible refine Since.alloc ?_ _) | (with_reducible refine Since.drew ?_) | (with_reducible refine Since.drewN ?_ _) | (with_reducible refine Since.setCell ?_ ?_ _; rotate_left; (simp only []; omega)) | (with_reducible refine Since.ext ?_ (by assumption))))) (by omega)).mono ?_
  rintro e w3 ⟨k, fa, fp, ga, gp, sa, sn, sc, L, rfl, S0, _, fS, q3, hx3⟩
  have hy3 := hx3.size
  (try simp at hy3)
  clear cBR fBR zBR
  clear cBS fBS zBS
  replace BR : Blk w3 w.heap.size 40 (#[.int .i64 0, .int .i64 0, .int .i64 0, .slice none 0 0, .slice none 0 0, .int .i64 0, .int .i64 0, .int .i64 0]) := by refine Blk.rext ?_ hx3 (by omega); repeat (first | (with_reducible exact BR) | (with_reducible exact Blk.new _ _ _) | exact Blk.newAt _ _ _ (by simp) | (with_reducible refine Blk.alloc ?_ _) | (with_reducible refine Blk.drew ?_) | (with_reducible refine Blk.drewN ?_ _) | refine Blk.far ?_ (by simp only []; omega) _)
  replace BS : Blk w3 (w.heap.size+1) 44 (#[.int .i64 0, .int .i64 0, .int .i64 0, .int .i64 0, .int .i64 0, .slice none 0 0]) := by refine Blk.rext ?_ hx3 (by omega); repeat (first | (with_reducible exact BS) | (with_reducible exact Blk.new _ _ _) | exact Blk.newAt _ _ _ (by simp) | (with_reducible refine Blk.alloc ?_ _) | (with_reducible refine Blk.drew ?_) | (with_reducible refine Blk.drewN ?_ _) | refine Blk.far ?_ (by simp only []; omega) _)
  have BG : Blk w3 w2.heap.size 40 (#[.int .i64 g.net.base, .int .i64 g.net.bits, .int .i64 g.out, .slice ta tn tc, .slice ka kn kc, .int .i64 g.filter, .int .i64 g.hold, .int .i64 g.now]) := by refine Blk.rext ?_ hx3 (by omega); repeat (first | (with_reducible exact BG) | (with_reducible exact Blk.new _ _ _) | exact Blk.newAt _ _ _ (by simp) | (with_reducible refine Blk.alloc ?_ _) | (with_reducible refine Blk.drew ?_) | (with_reducible refine Blk.drewN ?_ _) | refine Blk.far ?_ (by simp only []; omega) _)
  replace T0 : Sl encM 4 w3 ta tn tc g.table := by refine Sl.rextFar ?_ hx3 (fun hn x e => by have := lT0 hn x e; omega); repeat (first | (with_reducible exact T0) | (with_reducible refine Sl.alloc ?_ _) | (with_reducible refine Sl.drew ?_) | (with_reducible refine Sl.drewN ?_ _) | refine Sl.setFar ?_ (fun hn x e => by have := lT0 hn x e; simp only []; omega) _)
  replace K0 : Sl encC 3 w3 ka kn kc g.cons := by refine Sl.rextFar ?_ hx3 (fun hn x e => by have := lK0 hn x e; omega); repeat (first | (with_reducible exact K0) | (with_reducible refine Sl.alloc ?_ _) | (with_reducible refine Sl.drew ?_) | (with_reducible refine Sl.drewN ?_ _) | refine Sl.setFar ?_ (fun hn x e => by have := lK0 hn x e; simp only []; omega) _)
  have cBR := BR.cells
  have fBR := BR.frozens
  have zBR := BR.lt
  have cBS := BS.cells
  have fBS := BS.frozens
  have zBS := BS.lt
  have cBG := BG.cells
  have fBG := BG.frozens
  have zBG := BG.lt
  replace X0 : Ext w w3 := by refine RExt.new ?_ hx3 (by omega); exact (by repeat (first | (with_reducible exact Ext.refl _) | (with_reducible assumption) | (with_reducible refine Ext.alloc ?_ _) | (with_reducible refine Ext.drewN ?_ _) | (with_reducible refine Ext.drew ?_) | (with_reducible refine Ext.setCell ?_ ?_ _; rotate_left; (simp only []; omega)) | (with_reducible refine Ext.trans ?_ (by assumption))))
  have lS0 : 0 < sn → ∀ x, sa = some x → w2.heap.size < x.block ∧ x.block < w3.heap.size := fun h x e => ⟨by have h := fS x e; simp at h; omega, S0.lt h x e⟩
  clear fS
  go_wp2_with fail
  refine (insideEnd_any _ B _ _ (by exact q3.to (by repeat (first | (with_reducible exact Since.refl q3.le) | (with_reducible refine Since.alloc ?_ _) | (with_reducible refine Since.drew ?_) | (with_reducible refine Since.drewN ?_ _) | (with_reducible refine Since.setCell ?_ ?_ _; rotate_left; (simp only []; omega)) | (with_reducible refine Since.ext ?_ (by assumption))))) (by omega)).mono ?_
  rintro e w4 ⟨x1, y1, rfl, _, _, _, _, q4, hx4⟩
  have hy4 := hx4.size
  (try simp at hy4)
  clear cBR fBR zBR
  clear cBS fBS zBS
  clear cBG fBG zBG
  replace BR : Blk w4 w.heap.size 40 (#[.int .i64 0, .int .i64 0, .int .i64 0, .slice none 0 0, .slice none 0 0, .int .i64 0, .int .i64 0, .int .i64 0]) := by refine Blk.rext ?_ hx4 (by omega); repeat (first | (with_reducible exact BR) | (with_reducible exact Blk.new _ _ _) | exact Blk.newAt _ _ _ (by simp) | (with_reducible refine Blk.alloc ?_ _) | (with_reducible refine Blk.drew ?_) | (with_reducible refine Blk.drewN ?_ _) | refine Blk.far ?_ (by simp only []; omega) _)
  replace BS : Blk w4 (w.heap.size+1) 44 (#[.int .i64 0, .int .i64 0, .int .i64 0, .int .i64 0, .int .i64 0, .slice none 0 0]) := by refine Blk.rext ?_ hx4 (by omega); repeat (first | (with_reducible exact BS) | (with_reducible exact Blk.new _ _ _) | exact Blk.newAt _ _ _ (by simp) | (with_reducible refine Blk.alloc ?_ _) | (with_reducible refine Blk.drew ?_) | (with_reducible refine Blk.drewN ?_ _) | refine Blk.far ?_ (by simp only []; omega) _)
  replace BG : Blk w4 w2.heap.size 40 (#[.int .i64 g.net.base, .int .i64 g.net.bits, .int .i64 g.out, .slice ta tn tc, .slice ka kn kc, .int .i64 g.filter, .int .i64 g.hold, .int .i64 g.now]) := by refine Blk.rext ?_ hx4 (by omega); repeat (first | (with_reducible exact BG) | (with_reducible exact Blk.new _ _ _) | exact Blk.newAt _ _ _ (by simp) | (with_reducible refine Blk.alloc ?_ _) | (with_reducible refine Blk.drew ?_) | (with_reducible refine Blk.drewN ?_ _) | refine Blk.far ?_ (by simp only []; omega) _)
  have BP : Blk w4 w3.heap.size 44 (#[.int .i64 k, .int .i64 fa, .int .i64 fp, .int .i64 ga, .int .i64 gp, .slice sa sn sc]) := by refine Blk.rext ?_ hx4 (by omega); repeat (first | (with_reducible exact BP) | (with_reducible exact Blk.new _ _ _) | exact Blk.newAt _ _ _ (by simp) | (with_reducible refine Blk.alloc ?_ _) | (with_reducible refine Blk.drew ?_) | (with_reducible refine Blk.drewN ?_ _) | refine Blk.far ?_ (by simp only []; omega) _)
  replace T0 : Sl encM 4 w4 ta tn tc g.table := by refine Sl.rextFar ?_ hx4 (fun hn x e => by have := lT0 hn x e; omega); repeat (first | (with_reducible exact T0) | (with_reducible refine Sl.alloc ?_ _) | (with_reducible refine Sl.drew ?_) | (with_reducible refine Sl.drewN ?_ _) | refine Sl.setFar ?_ (fun hn x e => by have := lT0 hn x e; simp only []; omega) _)
  replace K0 : Sl encC 3 w4 ka kn kc g.cons := by refine Sl.rextFar ?_ hx4 (fun hn x e => by have := lK0 hn x e; omega); repeat (first | (with_reducible exact K0) | (with_reducible refine Sl.alloc ?_ _) | (with_reducible refine Sl.drew ?_) | (with_reducible refine Sl.drewN ?_ _) | refine Sl.setFar ?_ (fun hn x e => by have := lK0 hn x e; simp only []; omega) _)
  replace S0 : Sl encI 1 w4 sa sn sc L := by refine Sl.rextFar ?_ hx4 (fun hn x e => by have := lS0 hn x e; omega); repeat (first | (with_reducible exact S0) | (with_reducible refine Sl.alloc ?_ _) | (with_reducible refine Sl.drew ?_) | (with_reducible refine Sl.drewN ?_ _) | refine Sl.setFar ?_ (fun hn x e => by have := lS0 hn x e; simp only []; omega) _)
  have cBR := BR.cells
  have fBR := BR.frozens
  have zBR := BR.lt
  have cBS := BS.cells
  have fBS := BS.frozens
  have zBS := BS.lt
  have cBG := BG.cells
  have fBG := BG.frozens
  have zBG := BG.lt
  have cBP := BP.cells
  have fBP := BP.frozens
  have zBP := BP.lt
  replace X0 : Ext w w4 := by refine RExt.new ?_ hx4 (by omega); exact (by repeat (first | (with_reducible exact Ext.refl _) | (with_reducible assumption) | (with_reducible refine Ext.alloc ?_ _) | (with_reducible refine Ext.drewN ?_ _) | (with_reducible refine Ext.drew ?_) | (with_reducible refine Ext.setCell ?_ ?_ _; rotate_left; (simp only []; omega)) | (with_reducible refine Ext.trans ?_ (by assumption))))
  clear hx2 hx3 hx4 q2 q3 hr
  have hPG : w2.heap.size < w3.heap.size := by omega
  have hPw : w3.heap.size < w4.heap.size := by omega
  go_wp2_with fail
  refine wp_gen (fun W => RExt w3.heap.size w4 W ∧ Blk W w3.heap.size 44 #[.int .i64 k, .int .i64 x1, .int .i64 y1, .int .i64 ga, .int .i64 gp, .slice sa sn sc]) ⟨(by repeat (first | (with_reducible exact RExt.refl _ _) | (with_reducible refine RExt.putc ?_ _ _))), by simpa using (BP.set 1 (.int .i64 x1)).set 2 (.int .i64 y1)⟩ ?_
  rintro w5 ⟨x5, BP5⟩
  clear cBG fBG zBG cBP fBP zBP cBR fBR zBR cBS fBS zBS BP
  have BP := BP5
  replace BG := BG.rext x5 (by omega)
  replace BR := BR.rext x5 (by omega)
  replace BS := BS.rext x5 (by omega)
  replace T0 := T0.rextFar x5 (fun hn x e => by have := lT0 hn x e; omega)
  replace K0 := K0.rextFar x5 (fun hn x e => by have := lK0 hn x e; omega)
  replace S0 := S0.rextFar x5 (fun hn x e => by have := lS0 hn x e; omega)
  replace X0 := RExt.new X0 x5 (by omega)
  have := (x5).size
  have r0 := q4.rextNew x5 (by omega)
  clear x5 q4 BP5
  replace BG := BG.drew
  replace BP := BP.drew
  replace BR := BR.drew
  replace BS := BS.drew
  replace T0 := T0.drew
  replace K0 := K0.drew
  replace S0 := S0.drew
  replace X0 := X0.drew
  replace r0 := r0.drew
  have hBv : B < w5.heap.size := by omega
  have hdrS : ∀ W : World, W.drew.heap.size = W.heap.size := fun _ => rfl
  refine wp_region_float (R := RExt B) (base := (w5).heap.size) (Ts := []) [0, 1, 2, 3, 4, 5, 6, 7] (by kernel_rfl) (by kernel_rfl) (RExt.refl B) (fun _ _ _ => RExt.trans) (fun _ _ h => RExt.of_ext h B) (fun _ _ h => h.size) (fun _ _ b _ _ hb hB hR => hB.rext hR (by omega)) (by intro x hx; simp only [List.mem_cons, List.not_mem_nil, or_false] at hx; skip; all_goals (intro wS; kernel_rfl)) (by omega) ?_
  have hdrW := hdrS (w5)
  repeat' (first
    | (refine' ChF.pure (v := _) (by rfl) (by rfl) (by rfl) ?_ ?_
       rotate_left
       · (intro wS
          go_simp
          with_reducible rfl)
       (try simp only [Act.put, List.setIfInBounds_toArray, List.set_cons_zero, List.set_cons_succ]))
    | (refine' ChF.quiet (v := _) (by rfl) (by rfl) (by rfl) (by rfl) ?_ ?_
       rotate_left
       · (intro wS hS
          have cS := (BG.rext hS (by omega)).cells
          go_simp
          with_reducible rfl)
       (try simp only [Act.put, List.setIfInBounds_toArray, List.set_cons_zero, List.set_cons_succ]))
    | fail)
  refine ChF.call (by rfl) (by rfl) (by rfl) (by rfl) (by rfl) (by intro wS; go_simp; (constructor <;> rfl)) ?_
  intro u5 eu5
  replace BG := BG.ext eu5
  replace BP := BP.ext eu5
  replace S0 := S0.ext eu5
  replace r0 := r0.ext eu5
  replace BR := BR.ext eu5
  replace BS := BS.ext eu5
  replace T0 := T0.ext eu5
  replace K0 := K0.ext eu5
  replace X0 := X0.trans eu5
  have := (eu5).size
  clear eu5
  refine (pick_any _ B _ 6 u5 r0 (by omega) (by omega) (by omega)).mono ?_
  rintro e v5 ⟨px, rfl, px0, px1, q5, h5⟩
  refine ⟨_, rfl, h5, ?_⟩
  (try simp only [Act.put, List.setIfInBounds_toArray, List.set_cons_zero, List.set_cons_succ])
  replace BP := BP.rext h5 (by omega)
  replace S0 := S0.rextFar h5 (fun hn x e => by have := lS0 hn x e; omega)
  replace BG := BG.rext h5 (by omega)
  replace BR := BR.rext h5 (by omega)
  replace BS := BS.rext h5 (by omega)
  replace T0 := T0.rextFar h5 (fun hn x e => by have := lT0 hn x e; omega)
  replace K0 := K0.rextFar h5 (fun hn x e => by have := lK0 hn x e; omega)
  replace X0 := RExt.new X0 h5 (by omega)
  have := (h5).size
  replace r0 := q5
  clear q5 h5
  have hwr : IntKind.i64.wrap (1000 + px) = 1000 + px := IntWalk.i64_in _ (by omega)
  have cBP := BP.cells
  have fBP := BP.frozens
  repeat' (first
    | (refine' ChF.pure (v := _) (by rfl) (by rfl) (by rfl) ?_ ?_
       rotate_left
       · (intro wS
          go_simp
          with_reducible rfl)
       (try simp only [Act.put, List.setIfInBounds_toArray, List.set_cons_zero, List.set_cons_succ]))
    | (refine' ChF.quiet (v := _) (by rfl) (by rfl) (by rfl) (by rfl) ?_ ?_
       rotate_left
       · (intro wS hS
          skip
          go_simp
          with_reducible rfl)
       (try simp only [Act.put, List.setIfInBounds_toArray, List.set_cons_zero, List.set_cons_succ]))
    | fail)
  refine ChF.storeP (fun W => RExt w3.heap.size v5 W ∧ Blk W w3.heap.size 44 #[.int .i64 k, .int .i64 x1, .int .i64 y1, .int .i64 g.out, .int .i64 (1000 + px), .slice sa sn sc]) (by rfl) (by rfl) (by rfl) ⟨_, (by go_simp; rfl), (by simp [World.setCell]), (by repeat (first | (with_reducible exact RExt.refl _ _) | (with_reducible refine RExt.putc ?_ _ _))), (by simpa using (BP.set 3 (.int .i64 g.out)).set 4 (.int .i64 (1000 + px)))⟩ ?_
  (try simp only [Act.put, List.setIfInBounds_toArray, List.set_cons_zero, List.set_cons_succ])
  clear hwr cBP fBP BP
  rintro w6 s6 ⟨x6, BP⟩
  replace BG := BG.rext x6 (by omega)
  replace BR := BR.rext x6 (by omega)
  replace BS := BS.rext x6 (by omega)
  replace T0 := T0.rextFar x6 (fun hn x e => by have := lT0 hn x e; omega)
  replace K0 := K0.rextFar x6 (fun hn x e => by have := lK0 hn x e; omega)
  replace S0 := S0.rextFar x6 (fun hn x e => by have := lS0 hn x e; omega)
  replace X0 := RExt.new X0 x6 (by omega)
  have := (x6).size
  replace r0 := r0.rextNew x6 (by omega)
  clear x6
  refine ChF.nil ?_
  have zBG := BG.lt
  have zBP := BP.lt
  have cBG := BG.cells
  have fBG := BG.frozens
  have cBP := BP.cells
  have fBP := BP.frozens
  have cBR := BR.cells
  have fBR := BR.frozens
  have zBR := BR.lt
  have cBS := BS.cells
  have fBS := BS.frozens
  have zBS := BS.lt
  go_wp2_with fail
  refine (pick_any _ B _ 3 _ r0 (by omega) (by omega) (by omega)).mono ?_
  rintro e w7 ⟨d, rfl, d0, d1, q7, hx7⟩
  have hy7 := hx7.size
  (try simp at hy7)
  clear cBR fBR zBR
  clear cBS fBS zBS
  clear cBG fBG zBG
  clear cBP fBP zBP
  replace BR : Blk w7 w.heap.size 40 (#[.int .i64 0, .int .i64 0, .int .i64 0, .slice none 0 0, .slice none 0 0, .int .i64 0, .int .i64 0, .int .i64 0]) := by refine Blk.rext ?_ hx7 (by omega); repeat (first | (with_reducible exact BR) | (with_reducible exact Blk.new _ _ _) | exact Blk.newAt _ _ _ (by simp) | (with_reducible refine Blk.alloc ?_ _) | (with_reducible refine Blk.drew ?_) | (with_reducible refine Blk.drewN ?_ _) | refine Blk.far ?_ (by simp only []; omega) _)
  replace BS : Blk w7 (w.heap.size+1) 44 (#[.int .i64 0, .int .i64 0, .int .i64 0, .int .i64 0, .int .i64 0, .slice none 0 0]) := by refine Blk.rext ?_ hx7 (by omega); repeat (first | (with_reducible exact BS) | (with_reducible exact Blk.new _ _ _) | exact Blk.newAt _ _ _ (by simp) | (with_reducible refine Blk.alloc ?_ _) | (with_reducible refine Blk.drew ?_) | (with_reducible refine Blk.drewN ?_ _) | refine Blk.far ?_ (by simp only []; omega) _)
  replace BG : Blk w7 w2.heap.size 40 (#[.int .i64 g.net.base, .int .i64 g.net.bits, .int .i64 g.out, .slice ta tn tc, .slice ka kn kc, .int .i64 g.filter, .int .i64 g.hold, .int .i64 g.now]) := by refine Blk.rext ?_ hx7 (by omega); repeat (first | (with_reducible exact BG) | (with_reducible exact Blk.new _ _ _) | exact Blk.newAt _ _ _ (by simp) | (with_reducible refine Blk.alloc ?_ _) | (with_reducible refine Blk.drew ?_) | (with_reducible refine Blk.drewN ?_ _) | refine Blk.far ?_ (by simp only []; omega) _)
  replace BP : Blk w7 w3.heap.size 44 (#[.int .i64 k, .int .i64 x1, .int .i64 y1, .int .i64 g.out, .int .i64 (1000 + px), .slice sa sn sc]) := by refine Blk.rext ?_ hx7 (by omega); repeat (first | (with_reducible exact BP) | (with_reducible exact Blk.new _ _ _) | exact Blk.newAt _ _ _ (by simp) | (with_reducible refine Blk.alloc ?_ _) | (with_reducible refine Blk.drew ?_) | (with_reducible refine Blk.drewN ?_ _) | refine Blk.far ?_ (by simp only []; omega) _)
  replace T0 : Sl encM 4 w7 ta tn tc g.table := by refine Sl.rextFar ?_ hx7 (fun hn x e => by have := lT0 hn x e; omega); repeat (first | (with_reducible exact T0) | (with_reducible refine Sl.alloc ?_ _) | (with_reducible refine Sl.drew ?_) | (with_reducible refine Sl.drewN ?_ _) | refine Sl.setFar ?_ (fun hn x e => by have := lT0 hn x e; simp only []; omega) _)
  replace K0 : Sl encC 3 w7 ka kn kc g.cons := by refine Sl.rextFar ?_ hx7 (fun hn x e => by have := lK0 hn x e; omega); repeat (first | (with_reducible exact K0) | (with_reducible refine Sl.alloc ?_ _) | (with_reducible refine Sl.drew ?_) | (with_reducible refine Sl.drewN ?_ _) | refine Sl.setFar ?_ (fun hn x e => by have := lK0 hn x e; simp only []; omega) _)
  replace S0 : Sl encI 1 w7 sa sn sc L := by refine Sl.rextFar ?_ hx7 (fun hn x e => by have := lS0 hn x e; omega); repeat (first | (with_reducible exact S0) | (with_reducible refine Sl.alloc ?_ _) | (with_reducible refine Sl.drew ?_) | (with_reducible refine Sl.drewN ?_ _) | refine Sl.setFar ?_ (fun hn x e => by have := lS0 hn x e; simp only []; omega) _)
  have cBR := BR.cells
  have fBR := BR.frozens
  have zBR := BR.lt
  have cBS := BS.cells
  have fBS := BS.frozens
  have zBS := BS.lt
  have cBG := BG.cells
  have fBG := BG.frozens
  have zBG := BG.lt
  have cBP := BP.cells
  have fBP := BP.frozens
  have zBP := BP.lt
  replace X0 : Ext w w7 := by refine RExt.new ?_ hx7 (by omega); exact (by repeat (first | (with_reducible exact Ext.refl _) | (with_reducible assumption) | (with_reducible refine Ext.alloc ?_ _) | (with_reducible refine Ext.drewN ?_ _) | (with_reducible refine Ext.drew ?_) | (with_reducible refine Ext.setCell ?_ ?_ _; rotate_left; (simp only []; omega)) | (with_reducible refine Ext.trans ?_ (by assumption))))
  clear hx7 r0
  by_cases e0 : d = 0
  · subst e0
    go_wp2_with fail
    refine (pick_any _ B _ 12 _ (by exact q7.to (by repeat (first | (with_reducible exact Since.refl q7.le) | (with_reducible refine Since.alloc ?_ _) | (with_reducible refine Since.drew ?_) | (with_reducible refine Since.drewN ?_ _) | (with_reducible refine Since.setCell ?_ ?_ _; rotate_left; (simp only []; omega)) | (with_reducible refine Since.ext ?_ (by assumption))))) (by omega) (by omega) (by omega)).mono ?_
    rintro e w8 ⟨f, rfl, f0, f1, q8, hx8⟩
    have hy8 := hx8.size
    (try simp at hy8)
    clear cBR fBR zBR
    clear cBS fBS zBS
    clear cBG fBG zBG
    clear cBP fBP zBP
    replace BR : Blk w8 w.heap.size 40 (#[.int .i64 0, .int .i64 0, .int .i64 0, .slice none 0 0, .slice none 0 0, .int .i64 0, .int .i64 0, .int .i64 0]) := by refine Blk.rext ?_ hx8 (by omega); repeat (first | (with_reducible exact BR) | (with_reducible exact Blk.new _ _ _) | exact Blk.newAt _ _ _ (by simp) | (with_reducible refine Blk.alloc ?_ _) | (with_reducible refine Blk.drew ?_) | (with_reducible refine Blk.drewN ?_ _) | refine Blk.far ?_ (by simp only []; omega) _)
    replace BS : Blk w8 (w.heap.size+1) 44 (#[.int .i64 0, .int .i64 0, .int .i64 0, .int .i64 0, .int .i64 0, .slice none 0 0]) := by refine Blk.rext ?_ hx8 (by omega); repeat (first | (with_reducible exact BS) | (with_reducible exact Blk.new _ _ _) | exact Blk.newAt _ _ _ (by simp) | (with_reducible refine Blk.alloc ?_ _) | (with_reducible refine Blk.drew ?_) | (with_reducible refine Blk.drewN ?_ _) | refine Blk.far ?_ (by simp only []; omega) _)
    replace BG : Blk w8 w2.heap.size 40 (#[.int .i64 g.net.base, .int .i64 g.net.bits, .int .i64 g.out, .slice ta tn tc, .slice ka kn kc, .int .i64 0, .int .i64 g.hold, .int .i64 g.now]) := by refine Blk.rext ?_ hx8 (by omega); repeat (first | (exact (show Blk _ w2.heap.size 40 (#[.int .i64 g.net.base, .int .i64 g.net.bits, .int .i64 g.out, .slice ta tn tc, .slice ka kn kc, .int .i64 0, .int .i64 g.hold, .int .i64 g.now]) from by simpa using (BG.set 5 (.int .i64 0)))) | (with_reducible exact Blk.new _ _ _) | exact Blk.newAt _ _ _ (by simp) | (with_reducible refine Blk.alloc ?_ _) | (with_reducible refine Blk.drew ?_) | (with_reducible refine Blk.drewN ?_ _) | refine Blk.far ?_ (by simp only []; omega) _)
    replace BP : Blk w8 w3.heap.size 44 (#[.int .i64 k, .int .i64 x1, .int .i64 y1, .int .i64 g.out, .int .i64 (1000 + px), .slice sa sn sc]) := by refine Blk.rext ?_ hx8 (by omega); repeat (first | (with_reducible exact BP) | (with_reducible exact Blk.new _ _ _) | exact Blk.newAt _ _ _ (by simp) | (with_reducible refine Blk.alloc ?_ _) | (with_reducible refine Blk.drew ?_) | (with_reducible refine Blk.drewN ?_ _) | refine Blk.far ?_ (by simp only []; omega) _)
    replace T0 : Sl encM 4 w8 ta tn tc g.table := by refine Sl.rextFar ?_ hx8 (fun hn x e => by have := lT0 hn x e; omega); repeat (first | (with_reducible exact T0) | (with_reducible refine Sl.alloc ?_ _) | (with_reducible refine Sl.drew ?_) | (with_reducible refine Sl.drewN ?_ _) | refine Sl.setFar ?_ (fun hn x e => by have := lT0 hn x e; simp only []; omega) _)
    replace K0 : Sl encC 3 w8 ka kn kc g.cons := by refine Sl.rextFar ?_ hx8 (fun hn x e => by have := lK0 hn x e; omega); repeat (first | (with_reducible exact K0) | (with_reducible refine Sl.alloc ?_ _) | (with_reducible refine Sl.drew ?_) | (with_reducible refine Sl.drewN ?_ _) | refine Sl.setFar ?_ (fun hn x e => by have := lK0 hn x e; simp only []; omega) _)
    replace S0 : Sl encI 1 w8 sa sn sc L := by refine Sl.rextFar ?_ hx8 (fun hn x e => by have := lS0 hn x e; omega); repeat (first | (with_reducible exact S0) | (with_reducible refine Sl.alloc ?_ _) | (with_reducible refine Sl.drew ?_) | (with_reducible refine Sl.drewN ?_ _) | refine Sl.setFar ?_ (fun hn x e => by have := lS0 hn x e; simp only []; omega) _)
    have cBR := BR.cells
    have fBR := BR.frozens
    have zBR := BR.lt
    have cBS := BS.cells
    have fBS := BS.frozens
    have zBS := BS.lt
    have cBG := BG.cells
    have fBG := BG.frozens
    have zBG := BG.lt
    have cBP := BP.cells
    have fBP := BP.frozens
    have zBP := BP.lt
    replace X0 : Ext w w8 := by refine RExt.new ?_ hx8 (by omega); exact (by repeat (first | (with_reducible exact Ext.refl _) | (with_reducible assumption) | (with_reducible refine Ext.alloc ?_ _) | (with_reducible refine Ext.drewN ?_ _) | (with_reducible refine Ext.drew ?_) | (with_reducible refine Ext.setCell ?_ ?_ _; rotate_left; (simp only []; omega)) | (with_reducible refine Ext.trans ?_ (by assumption))))
    clear hx8 q7
    obtain ⟨g2, hg2⟩ : ∃ g2 : GateD, g2 = { g with filter := 0 } := ⟨_, rfl⟩
    replace BG : Blk w8 w2.heap.size 40 (#[.int .i64 g2.net.base, .int .i64 g2.net.bits, .int .i64 g2.out, .slice ta tn tc, .slice ka kn kc, .int .i64 g2.filter, .int .i64 g2.hold, .int .i64 g2.now]) := by rw [hg2]; exact BG
    replace T0 : Sl encM 4 w8 ta tn tc g2.table := by rw [hg2]; exact T0
    replace K0 : Sl encC 3 w8 ka kn kc g2.cons := by rw [hg2]; exact K0
    clear hg2
    by_cases e1 : f = 0
    · subst e1
      go_wp2_with fail
      refine (anyPacket_any _ B _ _ (by exact q8.to (by repeat (first | (with_reducible exact Since.refl q8.le) | (with_reducible refine Since.alloc ?_ _) | (with_reducible refine Since.drew ?_) | (with_reducible refine Since.drewN ?_ _) | (with_reducible refine Since.setCell ?_ ?_ _; rotate_left; (simp only []; omega)) | (with_reducible refine Since.ext ?_ (by assumption))))) (by omega)).mono ?_
      rintro e w9 ⟨k', fa', fp', ga', gp', sb, sm, sd, L', rfl, S1, _, fS, q9, hx9⟩
      have hy9 := hx9.size
      (try simp at hy9)
      clear cBR fBR zBR
      clear cBS fBS zBS
      clear cBG fBG zBG
      clear cBP fBP zBP
      replace BR : Blk w9 w.heap.size 40 (#[.int .i64 0, .int .i64 0, .int .i64 0, .slice none 0 0, .slice none 0 0, .int .i64 0, .int .i64 0, .int .i64 0]) := by refine Blk.rext ?_ hx9 (by omega); repeat (first | (with_reducible exact BR) | (with_reducible exact Blk.new _ _ _) | exact Blk.newAt _ _ _ (by simp) | (with_reducible refine Blk.alloc ?_ _) | (with_reducible refine Blk.drew ?_) | (with_reducible refine Blk.drewN ?_ _) | refine Blk.far ?_ (by simp only []; omega) _)
      replace BS : Blk w9 (w.heap.size+1) 44 (#[.int .i64 0, .int .i64 0, .int .i64 0, .int .i64 0, .int .i64 0, .slice none 0 0]) := by refine Blk.rext ?_ hx9 (by omega); repeat (first | (with_reducible exact BS) | (with_reducible exact Blk.new _ _ _) | exact Blk.newAt _ _ _ (by simp) | (with_reducible refine Blk.alloc ?_ _) | (with_reducible refine Blk.drew ?_) | (with_reducible refine Blk.drewN ?_ _) | refine Blk.far ?_ (by simp only []; omega) _)
      replace BG : Blk w9 w2.heap.size 40 (#[.int .i64 g2.net.base, .int .i64 g2.net.bits, .int .i64 g2.out, .slice ta tn tc, .slice ka kn kc, .int .i64 g2.filter, .int .i64 g2.hold, .int .i64 g2.now]) := by refine Blk.rext ?_ hx9 (by omega); repeat (first | (with_reducible exact BG) | (with_reducible exact Blk.new _ _ _) | exact Blk.newAt _ _ _ (by simp) | (with_reducible refine Blk.alloc ?_ _) | (with_reducible refine Blk.drew ?_) | (with_reducible refine Blk.drewN ?_ _) | refine Blk.far ?_ (by simp only []; omega) _)
      replace BP : Blk w9 w3.heap.size 44 (#[.int .i64 k, .int .i64 x1, .int .i64 y1, .int .i64 g.out, .int .i64 (1000 + px), .slice sa sn sc]) := by refine Blk.rext ?_ hx9 (by omega); repeat (first | (with_reducible exact BP) | (with_reducible exact Blk.new _ _ _) | exact Blk.newAt _ _ _ (by simp) | (with_reducible refine Blk.alloc ?_ _) | (with_reducible refine Blk.drew ?_) | (with_reducible refine Blk.drewN ?_ _) | refine Blk.far ?_ (by simp only []; omega) _)
      replace T0 : Sl encM 4 w9 ta tn tc g2.table := by refine Sl.rextFar ?_ hx9 (fun hn x e => by have := lT0 hn x e; omega); repeat (first | (with_reducible exact T0) | (with_reducible refine Sl.alloc ?_ _) | (with_reducible refine Sl.drew ?_) | (with_reducible refine Sl.drewN ?_ _) | refine Sl.setFar ?_ (fun hn x e => by have := lT0 hn x e; simp only []; omega) _)
      replace K0 : Sl encC 3 w9 ka kn kc g2.cons := by refine Sl.rextFar ?_ hx9 (fun hn x e => by have := lK0 hn x e; omega); repeat (first | (with_reducible exact K0) | (with_reducible refine Sl.alloc ?_ _) | (with_reducible refine Sl.drew ?_) | (with_reducible refine Sl.drewN ?_ _) | refine Sl.setFar ?_ (fun hn x e => by have := lK0 hn x e; simp only []; omega) _)
      replace S0 : Sl encI 1 w9 sa sn sc L := by refine Sl.rextFar ?_ hx9 (fun hn x e => by have := lS0 hn x e; omega); repeat (first | (with_reducible exact S0) | (with_reducible refine Sl.alloc ?_ _) | (with_reducible refine Sl.drew ?_) | (with_reducible refine Sl.drewN ?_ _) | refine Sl.setFar ?_ (fun hn x e => by have := lS0 hn x e; simp only []; omega) _)
      have cBR := BR.cells
      have fBR := BR.frozens
      have zBR := BR.lt
      have cBS := BS.cells
      have fBS := BS.frozens
      have zBS := BS.lt
      have cBG := BG.cells
      have fBG := BG.frozens
      have zBG := BG.lt
      have cBP := BP.cells
      have fBP := BP.frozens
      have zBP := BP.lt
      replace X0 : Ext w w9 := by refine RExt.new ?_ hx9 (by omega); exact (by repeat (first | (with_reducible exact Ext.refl _) | (with_reducible assumption) | (with_reducible refine Ext.alloc ?_ _) | (with_reducible refine Ext.drewN ?_ _) | (with_reducible refine Ext.drew ?_) | (with_reducible refine Ext.setCell ?_ ?_ _; rotate_left; (simp only []; omega)) | (with_reducible refine Ext.trans ?_ (by assumption))))
      clear hx9 q8
      go_wp2_with fail
      refine wp_gen (fun W => RExt w3.heap.size w9 W ∧ Blk W w3.heap.size 44 #[.int .i64 k', .int .i64 fa', .int .i64 fp', .int .i64 ga', .int .i64 gp', .slice sb sm sd]) ⟨(by repeat (first | (with_reducible exact RExt.refl _ _) | (with_reducible refine RExt.putc ?_ _ _))), by exact BP.put6 _ _ _ _ _ _⟩ ?_
      rintro v9 ⟨x9, BP9⟩
      clear cBG fBG zBG cBP fBP zBP cBR fBR zBR cBS fBS zBS BP S0 lS0
      have BP := BP9
      have S0 := S1
      have lS0 : 0 < sm → ∀ x, sb = some x → w8.heap.size ≤ x.block ∧ x.block < w9.heap.size := fun h x e => ⟨fS x e, S1.lt h x e⟩
      replace BG := BG.rext x9 (by omega)
      replace BR := BR.rext x9 (by omega)
      replace BS := BS.rext x9 (by omega)
      replace T0 := T0.rextFar x9 (fun hn x e => by have := lT0 hn x e; omega)
      replace K0 := K0.rextFar x9 (fun hn x e => by have := lK0 hn x e; omega)
      replace S0 := S0.rextFar x9 (fun hn x e => by have := lS0 hn x e; omega)
      replace X0 := RExt.new X0 x9 (by omega)
      have := (x9).size
      clear x9 S1 fS BP9
      have hBv : B < v9.heap.size := by omega
      replace BG := BG.drew
      replace BP := BP.drew
      replace BR := BR.drew
      replace BS := BS.drew
      replace T0 := T0.drew
      replace K0 := K0.drew
      (try replace S0 := S0.drew)
      (try replace r0 := r0.drew)
      replace X0 := X0.drew
      have hdrS : ∀ W : World, W.drew.heap.size = W.heap.size := fun _ => rfl
      refine wp_region_eager (R := RX (fun i => i = B ∨ i = w.heap.size ∨ i = w.heap.size + 1)) [0, 1, 2, 3] (by kernel_rfl) (by kernel_rfl) (RX.refl _) (fun _ _ _ => RX.trans) ?_
      have hdrW := hdrS (v9)
      generalize (v9).drew = vD at *
      repeat' (first
        | (refine ChX.skip (by rfl) (by rfl) ?_
           (try simp only [Act.put, List.setIfInBounds_toArray, List.set_cons_zero, List.set_cons_succ]))
        | (refine' ChX.quiet (v := _) (by rfl) (by rfl) (by rfl) ?_ ?_
           rotate_left
           · (intro wS hS
              have cG := (BG.rx hS (by omega)).cells; have cP := (BP.rx hS (by omega)).cells
              go_simp
              with_reducible rfl)
           (try simp only [Act.put, List.setIfInBounds_toArray, List.set_cons_zero, List.set_cons_succ]))
        | (refine ChX.nil ?_)
        | (refine' ChX.guard (x := _) (by rfl) ?_ ?_ ?_
           rotate_left
           · (go_simp
              rfl)
           all_goals
             intro hg
             simp only [hg])
        | (refine' ChX.guardN (x := _) (by rfl) ?_ ?_ ?_
           rotate_left
           · (go_simp
              rfl)
           all_goals
             intro hg
             simp only [hg]))
      skip
      have cR := BR.cells
      have fR := BR.frozens
      refine ChX.storeP (fun W => RExt w.heap.size vD W ∧ Blk W w.heap.size 40 (#[.int .i64 g2.net.base, .int .i64 g2.net.bits, .int .i64 g2.out, .slice ta tn tc, .slice ka kn kc, .int .i64 g2.filter, .int .i64 g2.hold, .int .i64 g2.now])) (by rfl) (by rfl) (by rfl) ⟨_, (by go_simp; rfl), RX.of_rext (B := w.heap.size) (by repeat (first | (with_reducible exact RExt.refl _ _) | (with_reducible refine RExt.putc ?_ _ _))) (.inr (.inl rfl)), (by repeat (first | (with_reducible exact RExt.refl _ _) | (with_reducible refine RExt.putc ?_ _ _))), (by exact BR.put8 _ _ _ _ _ _ _ _)⟩ ?_
      (try simp only [Act.put, List.setIfInBounds_toArray, List.set_cons_zero, List.set_cons_succ])
      rintro yW1 _ ⟨z1, BR1⟩
      clear cR fR
      have BS1 := BS.rext z1 (by omega)
      have cS := BS1.cells
      have fS := BS1.frozens
      refine ChX.storeP (fun W => RExt (w.heap.size + 1) yW1 W ∧ Blk W (w.heap.size + 1) 44 #[.int .i64 k', .int .i64 fa', .int .i64 fp', .int .i64 ga', .int .i64 gp', .slice sb sm sd]) (by rfl) (by rfl) (by rfl) ⟨_, (by go_simp; rfl), RX.of_rext (B := w.heap.size + 1) (by repeat (first | (with_reducible exact RExt.refl _ _) | (with_reducible refine RExt.putc ?_ _ _))) (.inr (.inr rfl)), (by repeat (first | (with_reducible exact RExt.refl _ _) | (with_reducible refine RExt.putc ?_ _ _))), (by exact BS1.put6 _ _ _ _ _ _)⟩ ?_
      (try simp only [Act.put, List.setIfInBounds_toArray, List.set_cons_zero, List.set_cons_succ])
      rintro yW2 _ ⟨z2, BS2⟩
      clear cS fS BS1
      have BR2 := BR1.rext z2 (by omega)
      replace T0 := (T0.rextFar z1 (fun hn x e => by have := lT0 hn x e; omega)).rextFar z2 (fun hn x e => by have := lT0 hn x e; omega)
      replace K0 := (K0.rextFar z1 (fun hn x e => by have := lK0 hn x e; omega)).rextFar z2 (fun hn x e => by have := lK0 hn x e; omega)
      replace S0 := (S0.rextFar z1 (fun hn x e => by have := lS0 hn x e; omega)).rextFar z2 (fun hn x e => by have := lS0 hn x e; omega)
      replace X0 := RExt.new (RExt.new X0 z1 (by omega)) z2 (by omega)
      refine ChX.nil ?_
      have cR := BR2.cells
      have cS := BS2.cells
      have zR := BR2.lt
      have zS := BS2.lt
      go_wp2
      refine' bodyPost_ret (v := _) ?_ rfl ?_
      rotate_left
      · (simp only [results, Try.results87]
         go_simp
         rfl)
      exact ⟨g2, ⟨k', ⟨fa', fp'⟩, ⟨ga', gp'⟩, L'⟩, ta, tn, tc, ka, kn, kc, sb, sm, sd, rfl, T0, K0, S0, (fun h x e => by have := lT0 h x e; omega), (fun h x e => by have := lK0 h x e; omega), (fun h x e => by have := lS0 h x e; omega), X0⟩
    · go_wp2_with fail
      clear cBG fBG zBG cBP fBP zBP cBR fBR zBR cBS fBS zBS
      have hBv : B < w8.heap.size := by omega
      replace BG := BG.drew
      replace BP := BP.drew
      replace BR := BR.drew
      replace BS := BS.drew
      replace T0 := T0.drew
      replace K0 := K0.drew
      (try replace S0 := S0.drew)
      (try replace r0 := r0.drew)
      replace X0 := X0.drew
      have hdrS : ∀ W : World, W.drew.heap.size = W.heap.size := fun _ => rfl
      refine wp_region_eager (R := RX (fun i => i = B ∨ i = w.heap.size ∨ i = w.heap.size + 1)) [0, 1, 2, 3] (by kernel_rfl) (by kernel_rfl) (RX.refl _) (fun _ _ _ => RX.trans) ?_
      have hdrW := hdrS (w8)
      generalize (w8).drew = vD at *
      repeat' (first
        | (refine ChX.skip (by rfl) (by rfl) ?_
           (try simp only [Act.put, List.setIfInBounds_toArray, List.set_cons_zero, List.set_cons_succ]))
        | (refine' ChX.quiet (v := _) (by rfl) (by rfl) (by rfl) ?_ ?_
           rotate_left
           · (intro wS hS
              have cG := (BG.rx hS (by omega)).cells; have cP := (BP.rx hS (by omega)).cells
              go_simp
              with_reducible rfl)
           (try simp only [Act.put, List.setIfInBounds_toArray, List.set_cons_zero, List.set_cons_succ]))
        | (refine ChX.nil ?_)
        | (refine' ChX.guard (x := _) (by rfl) ?_ ?_ ?_
           rotate_left
           · (go_simp
              rfl)
           all_goals
             intro hg
             simp only [hg])
        | (refine' ChX.guardN (x := _) (by rfl) ?_ ?_ ?_
           rotate_left
           · (go_simp
              rfl)
           all_goals
             intro hg
             simp only [hg]))
      skip
      have cR := BR.cells
      have fR := BR.frozens
      refine ChX.storeP (fun W => RExt w.heap.size vD W ∧ Blk W w.heap.size 40 (#[.int .i64 g2.net.base, .int .i64 g2.net.bits, .int .i64 g2.out, .slice ta tn tc, .slice ka kn kc, .int .i64 g2.filter, .int .i64 g2.hold, .int .i64 g2.now])) (by rfl) (by rfl) (by rfl) ⟨_, (by go_simp; rfl), RX.of_rext (B := w.heap.size) (by repeat (first | (with_reducible exact RExt.refl _ _) | (with_reducible refine RExt.putc ?_ _ _))) (.inr (.inl rfl)), (by repeat (first | (with_reducible exact RExt.refl _ _) | (with_reducible refine RExt.putc ?_ _ _))), (by exact BR.put8 _ _ _ _ _ _ _ _)⟩ ?_
      (try simp only [Act.put, List.setIfInBounds_toArray, List.set_cons_zero, List.set_cons_succ])
      rintro yW1 _ ⟨z1, BR1⟩
      clear cR fR
      have BS1 := BS.rext z1 (by omega)
      have cS := BS1.cells
      have fS := BS1.frozens
      refine ChX.storeP (fun W => RExt (w.heap.size + 1) yW1 W ∧ Blk W (w.heap.size + 1) 44 #[.int .i64 k, .int .i64 x1, .int .i64 y1, .int .i64 g.out, .int .i64 (1000 + px), .slice sa sn sc]) (by rfl) (by rfl) (by rfl) ⟨_, (by go_simp; rfl), RX.of_rext (B := w.heap.size + 1) (by repeat (first | (with_reducible exact RExt.refl _ _) | (with_reducible refine RExt.putc ?_ _ _))) (.inr (.inr rfl)), (by repeat (first | (with_reducible exact RExt.refl _ _) | (with_reducible refine RExt.putc ?_ _ _))), (by exact BS1.put6 _ _ _ _ _ _)⟩ ?_
      (try simp only [Act.put, List.setIfInBounds_toArray, List.set_cons_zero, List.set_cons_succ])
      rintro yW2 _ ⟨z2, BS2⟩
      clear cS fS BS1
      have BR2 := BR1.rext z2 (by omega)
      replace T0 := (T0.rextFar z1 (fun hn x e => by have := lT0 hn x e; omega)).rextFar z2 (fun hn x e => by have := lT0 hn x e; omega)
      replace K0 := (K0.rextFar z1 (fun hn x e => by have := lK0 hn x e; omega)).rextFar z2 (fun hn x e => by have := lK0 hn x e; omega)
      replace S0 := (S0.rextFar z1 (fun hn x e => by have := lS0 hn x e; omega)).rextFar z2 (fun hn x e => by have := lS0 hn x e; omega)
      replace X0 := RExt.new (RExt.new X0 z1 (by omega)) z2 (by omega)
      refine ChX.nil ?_
      have cR := BR2.cells
      have cS := BS2.cells
      have zR := BR2.lt
      have zS := BS2.lt
      go_wp2
      refine' bodyPost_ret (v := _) ?_ rfl ?_
      rotate_left
      · (simp only [results, Try.results87]
         go_simp
         rfl)
      exact ⟨g2, ⟨k, ⟨x1, y1⟩, ⟨g.out, 1000 + px⟩, L⟩, ta, tn, tc, ka, kn, kc, sa, sn, sc, rfl, T0, K0, S0, (fun h x e => by have := lT0 h x e; omega), (fun h x e => by have := lK0 h x e; omega), (fun h x e => by have := lS0 h x e; omega), X0⟩
  · have e1 := e0
    go_wp2_with fail
    refine (pick_any _ B _ 12 _ (by exact q7.to (by repeat (first | (with_reducible exact Since.refl q7.le) | (with_reducible refine Since.alloc ?_ _) | (with_reducible refine Since.drew ?_) | (with_reducible refine Since.drewN ?_ _) | (with_reducible refine Since.setCell ?_ ?_ _; rotate_left; (simp only []; omega)) | (with_reducible refine Since.ext ?_ (by assumption))))) (by omega) (by omega) (by omega)).mono ?_
    rintro e w8 ⟨f, rfl, f0, f1, q8, hx8⟩
    have hy8 := hx8.size
    (try simp at hy8)
    clear cBR fBR zBR
    clear cBS fBS zBS
    clear cBG fBG zBG
    clear cBP fBP zBP
    replace BR : Blk w8 w.heap.size 40 (#[.int .i64 0, .int .i64 0, .int .i64 0, .slice none 0 0, .slice none 0 0, .int .i64 0, .int .i64 0, .int .i64 0]) := by refine Blk.rext ?_ hx8 (by omega); repeat (first | (with_reducible exact BR) | (with_reducible exact Blk.new _ _ _) | exact Blk.newAt _ _ _ (by simp) | (with_reducible refine Blk.alloc ?_ _) | (with_reducible refine Blk.drew ?_) | (with_reducible refine Blk.drewN ?_ _) | refine Blk.far ?_ (by simp only []; omega) _)
    replace BS : Blk w8 (w.heap.size+1) 44 (#[.int .i64 0, .int .i64 0, .int .i64 0, .int .i64 0, .int .i64 0, .slice none 0 0]) := by refine Blk.rext ?_ hx8 (by omega); repeat (first | (with_reducible exact BS) | (with_reducible exact Blk.new _ _ _) | exact Blk.newAt _ _ _ (by simp) | (with_reducible refine Blk.alloc ?_ _) | (with_reducible refine Blk.drew ?_) | (with_reducible refine Blk.drewN ?_ _) | refine Blk.far ?_ (by simp only []; omega) _)
    replace BG : Blk w8 w2.heap.size 40 (#[.int .i64 g.net.base, .int .i64 g.net.bits, .int .i64 g.out, .slice ta tn tc, .slice ka kn kc, .int .i64 g.filter, .int .i64 g.hold, .int .i64 g.now]) := by refine Blk.rext ?_ hx8 (by omega); repeat (first | (with_reducible exact BG) | (with_reducible exact Blk.new _ _ _) | exact Blk.newAt _ _ _ (by simp) | (with_reducible refine Blk.alloc ?_ _) | (with_reducible refine Blk.drew ?_) | (with_reducible refine Blk.drewN ?_ _) | refine Blk.far ?_ (by simp only []; omega) _)
    replace BP : Blk w8 w3.heap.size 44 (#[.int .i64 k, .int .i64 x1, .int .i64 y1, .int .i64 g.out, .int .i64 (1000 + px), .slice sa sn sc]) := by refine Blk.rext ?_ hx8 (by omega); repeat (first | (with_reducible exact BP) | (with_reducible exact Blk.new _ _ _) | exact Blk.newAt _ _ _ (by simp) | (with_reducible refine Blk.alloc ?_ _) | (with_reducible refine Blk.drew ?_) | (with_reducible refine Blk.drewN ?_ _) | refine Blk.far ?_ (by simp only []; omega) _)
    replace T0 : Sl encM 4 w8 ta tn tc g.table := by refine Sl.rextFar ?_ hx8 (fun hn x e => by have := lT0 hn x e; omega); repeat (first | (with_reducible exact T0) | (with_reducible refine Sl.alloc ?_ _) | (with_reducible refine Sl.drew ?_) | (with_reducible refine Sl.drewN ?_ _) | refine Sl.setFar ?_ (fun hn x e => by have := lT0 hn x e; simp only []; omega) _)
    replace K0 : Sl encC 3 w8 ka kn kc g.cons := by refine Sl.rextFar ?_ hx8 (fun hn x e => by have := lK0 hn x e; omega); repeat (first | (with_reducible exact K0) | (with_reducible refine Sl.alloc ?_ _) | (with_reducible refine Sl.drew ?_) | (with_reducible refine Sl.drewN ?_ _) | refine Sl.setFar ?_ (fun hn x e => by have := lK0 hn x e; simp only []; omega) _)
    replace S0 : Sl encI 1 w8 sa sn sc L := by refine Sl.rextFar ?_ hx8 (fun hn x e => by have := lS0 hn x e; omega); repeat (first | (with_reducible exact S0) | (with_reducible refine Sl.alloc ?_ _) | (with_reducible refine Sl.drew ?_) | (with_reducible refine Sl.drewN ?_ _) | refine Sl.setFar ?_ (fun hn x e => by have := lS0 hn x e; simp only []; omega) _)
    have cBR := BR.cells
    have fBR := BR.frozens
    have zBR := BR.lt
    have cBS := BS.cells
    have fBS := BS.frozens
    have zBS := BS.lt
    have cBG := BG.cells
    have fBG := BG.frozens
    have zBG := BG.lt
    have cBP := BP.cells
    have fBP := BP.frozens
    have zBP := BP.lt
    replace X0 : Ext w w8 := by refine RExt.new ?_ hx8 (by omega); exact (by repeat (first | (with_reducible exact Ext.refl _) | (with_reducible assumption) | (with_reducible refine Ext.alloc ?_ _) | (with_reducible refine Ext.drewN ?_ _) | (with_reducible refine Ext.drew ?_) | (with_reducible refine Ext.setCell ?_ ?_ _; rotate_left; (simp only []; omega)) | (with_reducible refine Ext.trans ?_ (by assumption))))
    clear hx8 q7
    by_cases e1 : f = 0
    · subst e1
      go_wp2_with fail
      refine (anyPacket_any _ B _ _ (by exact q8.to (by repeat (first | (with_reducible exact Since.refl q8.le) | (with_reducible refine Since.alloc ?_ _) | (with_reducible refine Since.drew ?_) | (with_reducible refine Since.drewN ?_ _) | (with_reducible refine Since.setCell ?_ ?_ _; rotate_left; (simp only []; omega)) | (with_reducible refine Since.ext ?_ (by assumption))))) (by omega)).mono ?_
      rintro e w9 ⟨k', fa', fp', ga', gp', sb, sm, sd, L', rfl, S1, _, fS, q9, hx9⟩
      have hy9 := hx9.size
      (try simp at hy9)
      clear cBR fBR zBR
      clear cBS fBS zBS
      clear cBG fBG zBG
      clear cBP fBP zBP
      replace BR : Blk w9 w.heap.size 40 (#[.int .i64 0, .int .i64 0, .int .i64 0, .slice none 0 0, .slice none 0 0, .int .i64 0, .int .i64 0, .int .i64 0]) := by refine Blk.rext ?_ hx9 (by omega); repeat (first | (with_reducible exact BR) | (with_reducible exact Blk.new _ _ _) | exact Blk.newAt _ _ _ (by simp) | (with_reducible refine Blk.alloc ?_ _) | (with_reducible refine Blk.drew ?_) | (with_reducible refine Blk.drewN ?_ _) | refine Blk.far ?_ (by simp only []; omega) _)
      replace BS : Blk w9 (w.heap.size+1) 44 (#[.int .i64 0, .int .i64 0, .int .i64 0, .int .i64 0, .int .i64 0, .slice none 0 0]) := by refine Blk.rext ?_ hx9 (by omega); repeat (first | (with_reducible exact BS) | (with_reducible exact Blk.new _ _ _) | exact Blk.newAt _ _ _ (by simp) | (with_reducible refine Blk.alloc ?_ _) | (with_reducible refine Blk.drew ?_) | (with_reducible refine Blk.drewN ?_ _) | refine Blk.far ?_ (by simp only []; omega) _)
      replace BG : Blk w9 w2.heap.size 40 (#[.int .i64 g.net.base, .int .i64 g.net.bits, .int .i64 g.out, .slice ta tn tc, .slice ka kn kc, .int .i64 g.filter, .int .i64 g.hold, .int .i64 g.now]) := by refine Blk.rext ?_ hx9 (by omega); repeat (first | (with_reducible exact BG) | (with_reducible exact Blk.new _ _ _) | exact Blk.newAt _ _ _ (by simp) | (with_reducible refine Blk.alloc ?_ _) | (with_reducible refine Blk.drew ?_) | (with_reducible refine Blk.drewN ?_ _) | refine Blk.far ?_ (by simp only []; omega) _)
      replace BP : Blk w9 w3.heap.size 44 (#[.int .i64 k, .int .i64 x1, .int .i64 y1, .int .i64 g.out, .int .i64 (1000 + px), .slice sa sn sc]) := by refine Blk.rext ?_ hx9 (by omega); repeat (first | (with_reducible exact BP) | (with_reducible exact Blk.new _ _ _) | exact Blk.newAt _ _ _ (by simp) | (with_reducible refine Blk.alloc ?_ _) | (with_reducible refine Blk.drew ?_) | (with_reducible refine Blk.drewN ?_ _) | refine Blk.far ?_ (by simp only []; omega) _)
      replace T0 : Sl encM 4 w9 ta tn tc g.table := by refine Sl.rextFar ?_ hx9 (fun hn x e => by have := lT0 hn x e; omega); repeat (first | (with_reducible exact T0) | (with_reducible refine Sl.alloc ?_ _) | (with_reducible refine Sl.drew ?_) | (with_reducible refine Sl.drewN ?_ _) | refine Sl.setFar ?_ (fun hn x e => by have := lT0 hn x e; simp only []; omega) _)
      replace K0 : Sl encC 3 w9 ka kn kc g.cons := by refine Sl.rextFar ?_ hx9 (fun hn x e => by have := lK0 hn x e; omega); repeat (first | (with_reducible exact K0) | (with_reducible refine Sl.alloc ?_ _) | (with_reducible refine Sl.drew ?_) | (with_reducible refine Sl.drewN ?_ _) | refine Sl.setFar ?_ (fun hn x e => by have := lK0 hn x e; simp only []; omega) _)
      replace S0 : Sl encI 1 w9 sa sn sc L := by refine Sl.rextFar ?_ hx9 (fun hn x e => by have := lS0 hn x e; omega); repeat (first | (with_reducible exact S0) | (with_reducible refine Sl.alloc ?_ _) | (with_reducible refine Sl.drew ?_) | (with_reducible refine Sl.drewN ?_ _) | refine Sl.setFar ?_ (fun hn x e => by have := lS0 hn x e; simp only []; omega) _)
      have cBR := BR.cells
      have fBR := BR.frozens
      have zBR := BR.lt
      have cBS := BS.cells
      have fBS := BS.frozens
      have zBS := BS.lt
      have cBG := BG.cells
      have fBG := BG.frozens
      have zBG := BG.lt
      have cBP := BP.cells
      have fBP := BP.frozens
      have zBP := BP.lt
      replace X0 : Ext w w9 := by refine RExt.new ?_ hx9 (by omega); exact (by repeat (first | (with_reducible exact Ext.refl _) | (with_reducible assumption) | (with_reducible refine Ext.alloc ?_ _) | (with_reducible refine Ext.drewN ?_ _) | (with_reducible refine Ext.drew ?_) | (with_reducible refine Ext.setCell ?_ ?_ _; rotate_left; (simp only []; omega)) | (with_reducible refine Ext.trans ?_ (by assumption))))
      clear hx9 q8
      go_wp2_with fail
      refine wp_gen (fun W => RExt w3.heap.size w9 W ∧ Blk W w3.heap.size 44 #[.int .i64 k', .int .i64 fa', .int .i64 fp', .int .i64 ga', .int .i64 gp', .slice sb sm sd]) ⟨(by repeat (first | (with_reducible exact RExt.refl _ _) | (with_reducible refine RExt.putc ?_ _ _))), by exact BP.put6 _ _ _ _ _ _⟩ ?_
      rintro v9 ⟨x9, BP9⟩
      clear cBG fBG zBG cBP fBP zBP cBR fBR zBR cBS fBS zBS BP S0 lS0
      have BP := BP9
      have S0 := S1
      have lS0 : 0 < sm → ∀ x, sb = some x → w8.heap.size ≤ x.block ∧ x.block < w9.heap.size := fun h x e => ⟨fS x e, S1.lt h x e⟩
      replace BG := BG.rext x9 (by omega)
      replace BR := BR.rext x9 (by omega)
      replace BS := BS.rext x9 (by omega)
      replace T0 := T0.rextFar x9 (fun hn x e => by have := lT0 hn x e; omega)
      replace K0 := K0.rextFar x9 (fun hn x e => by have := lK0 hn x e; omega)
      replace S0 := S0.rextFar x9 (fun hn x e => by have := lS0 hn x e; omega)
      replace X0 := RExt.new X0 x9 (by omega)
      have := (x9).size
      clear x9 S1 fS BP9
      have hBv : B < v9.heap.size := by omega
      replace BG := BG.drew
      replace BP := BP.drew
      replace BR := BR.drew
      replace BS := BS.drew
      replace T0 := T0.drew
      replace K0 := K0.drew
      (try replace S0 := S0.drew)
      (try replace r0 := r0.drew)
      replace X0 := X0.drew
      have hdrS : ∀ W : World, W.drew.heap.size = W.heap.size := fun _ => rfl
      refine wp_region_eager (R := RX (fun i => i = B ∨ i = w.heap.size ∨ i = w.heap.size + 1)) [0, 1, 2, 3] (by kernel_rfl) (by kernel_rfl) (RX.refl _) (fun _ _ _ => RX.trans) ?_
      have hdrW := hdrS (v9)
      generalize (v9).drew = vD at *
      repeat' (first
        | (refine ChX.skip (by rfl) (by rfl) ?_
           (try simp only [Act.put, List.setIfInBounds_toArray, List.set_cons_zero, List.set_cons_succ]))
        | (refine' ChX.quiet (v := _) (by rfl) (by rfl) (by rfl) ?_ ?_
           rotate_left
           · (intro wS hS
              have cG := (BG.rx hS (by omega)).cells; have cP := (BP.rx hS (by omega)).cells
              go_simp
              with_reducible rfl)
           (try simp only [Act.put, List.setIfInBounds_toArray, List.set_cons_zero, List.set_cons_succ]))
        | (refine ChX.nil ?_)
        | (refine' ChX.guard (x := _) (by rfl) ?_ ?_ ?_
           rotate_left
           · (go_simp
              rfl)
           all_goals
             intro hg
             simp only [hg])
        | (refine' ChX.guardN (x := _) (by rfl) ?_ ?_ ?_
           rotate_left
           · (go_simp
              rfl)
           all_goals
             intro hg
             simp only [hg]))
      skip
      have cR := BR.cells
      have fR := BR.frozens
      refine ChX.storeP (fun W => RExt w.heap.size vD W ∧ Blk W w.heap.size 40 (#[.int .i64 g.net.base, .int .i64 g.net.bits, .int .i64 g.out, .slice ta tn tc, .slice ka kn kc, .int .i64 g.filter, .int .i64 g.hold, .int .i64 g.now])) (by rfl) (by rfl) (by rfl) ⟨_, (by go_simp; rfl), RX.of_rext (B := w.heap.size) (by repeat (first | (with_reducible exact RExt.refl _ _) | (with_reducible refine RExt.putc ?_ _ _))) (.inr (.inl rfl)), (by repeat (first | (with_reducible exact RExt.refl _ _) | (with_reducible refine RExt.putc ?_ _ _))), (by exact BR.put8 _ _ _ _ _ _ _ _)⟩ ?_
      (try simp only [Act.put, List.setIfInBounds_toArray, List.set_cons_zero, List.set_cons_succ])
      rintro yW1 _ ⟨z1, BR1⟩
      clear cR fR
      have BS1 := BS.rext z1 (by omega)
      have cS := BS1.cells
      have fS := BS1.frozens
      refine ChX.storeP (fun W => RExt (w.heap.size + 1) yW1 W ∧ Blk W (w.heap.size + 1) 44 #[.int .i64 k', .int .i64 fa', .int .i64 fp', .int .i64 ga', .int .i64 gp', .slice sb sm sd]) (by rfl) (by rfl) (by rfl) ⟨_, (by go_simp; rfl), RX.of_rext (B := w.heap.size + 1) (by repeat (first | (with_reducible exact RExt.refl _ _) | (with_reducible refine RExt.putc ?_ _ _))) (.inr (.inr rfl)), (by repeat (first | (with_reducible exact RExt.refl _ _) | (with_reducible refine RExt.putc ?_ _ _))), (by exact BS1.put6 _ _ _ _ _ _)⟩ ?_
      (try simp only [Act.put, List.setIfInBounds_toArray, List.set_cons_zero, List.set_cons_succ])
      rintro yW2 _ ⟨z2, BS2⟩
      clear cS fS BS1
      have BR2 := BR1.rext z2 (by omega)
      replace T0 := (T0.rextFar z1 (fun hn x e => by have := lT0 hn x e; omega)).rextFar z2 (fun hn x e => by have := lT0 hn x e; omega)
      replace K0 := (K0.rextFar z1 (fun hn x e => by have := lK0 hn x e; omega)).rextFar z2 (fun hn x e => by have := lK0 hn x e; omega)
      replace S0 := (S0.rextFar z1 (fun hn x e => by have := lS0 hn x e; omega)).rextFar z2 (fun hn x e => by have := lS0 hn x e; omega)
      replace X0 := RExt.new (RExt.new X0 z1 (by omega)) z2 (by omega)
      refine ChX.nil ?_
      have cR := BR2.cells
      have cS := BS2.cells
      have zR := BR2.lt
      have zS := BS2.lt
      go_wp2
      refine' bodyPost_ret (v := _) ?_ rfl ?_
      rotate_left
      · (simp only [results, Try.results87]
         go_simp
         rfl)
      exact ⟨g, ⟨k', ⟨fa', fp'⟩, ⟨ga', gp'⟩, L'⟩, ta, tn, tc, ka, kn, kc, sb, sm, sd, rfl, T0, K0, S0, (fun h x e => by have := lT0 h x e; omega), (fun h x e => by have := lK0 h x e; omega), (fun h x e => by have := lS0 h x e; omega), X0⟩
    · go_wp2_with fail
      clear cBG fBG zBG cBP fBP zBP cBR fBR zBR cBS fBS zBS
      have hBv : B < w8.heap.size := by omega
      replace BG := BG.drew
      replace BP := BP.drew
      replace BR := BR.drew
      replace BS := BS.drew
      replace T0 := T0.drew
      replace K0 := K0.drew
      (try replace S0 := S0.drew)
      (try replace r0 := r0.drew)
      replace X0 := X0.drew
      have hdrS : ∀ W : World, W.drew.heap.size = W.heap.size := fun _ => rfl
      refine wp_region_eager (R := RX (fun i => i = B ∨ i = w.heap.size ∨ i = w.heap.size + 1)) [0, 1, 2, 3] (by kernel_rfl) (by kernel_rfl) (RX.refl _) (fun _ _ _ => RX.trans) ?_
      have hdrW := hdrS (w8)
      generalize (w8).drew = vD at *
      repeat' (first
        | (refine ChX.skip (by rfl) (by rfl) ?_
           (try simp only [Act.put, List.setIfInBounds_toArray, List.set_cons_zero, List.set_cons_succ]))
        | (refine' ChX.quiet (v := _) (by rfl) (by rfl) (by rfl) ?_ ?_
           rotate_left
           · (intro wS hS
              have cG := (BG.rx hS (by omega)).cells; have cP := (BP.rx hS (by omega)).cells
              go_simp
              with_reducible rfl)
           (try simp only [Act.put, List.setIfInBounds_toArray, List.set_cons_zero, List.set_cons_succ]))
        | (refine ChX.nil ?_)
        | (refine' ChX.guard (x := _) (by rfl) ?_ ?_ ?_
           rotate_left
           · (go_simp
              rfl)
           all_goals
             intro hg
             simp only [hg])
        | (refine' ChX.guardN (x := _) (by rfl) ?_ ?_ ?_
           rotate_left
           · (go_simp
              rfl)
           all_goals
             intro hg
             simp only [hg]))
      skip
      have cR := BR.cells
      have fR := BR.frozens
      refine ChX.storeP (fun W => RExt w.heap.size vD W ∧ Blk W w.heap.size 40 (#[.int .i64 g.net.base, .int .i64 g.net.bits, .int .i64 g.out, .slice ta tn tc, .slice ka kn kc, .int .i64 g.filter, .int .i64 g.hold, .int .i64 g.now])) (by rfl) (by rfl) (by rfl) ⟨_, (by go_simp; rfl), RX.of_rext (B := w.heap.size) (by repeat (first | (with_reducible exact RExt.refl _ _) | (with_reducible refine RExt.putc ?_ _ _))) (.inr (.inl rfl)), (by repeat (first | (with_reducible exact RExt.refl _ _) | (with_reducible refine RExt.putc ?_ _ _))), (by exact BR.put8 _ _ _ _ _ _ _ _)⟩ ?_
      (try simp only [Act.put, List.setIfInBounds_toArray, List.set_cons_zero, List.set_cons_succ])
      rintro yW1 _ ⟨z1, BR1⟩
      clear cR fR
      have BS1 := BS.rext z1 (by omega)
      have cS := BS1.cells
      have fS := BS1.frozens
      refine ChX.storeP (fun W => RExt (w.heap.size + 1) yW1 W ∧ Blk W (w.heap.size + 1) 44 #[.int .i64 k, .int .i64 x1, .int .i64 y1, .int .i64 g.out, .int .i64 (1000 + px), .slice sa sn sc]) (by rfl) (by rfl) (by rfl) ⟨_, (by go_simp; rfl), RX.of_rext (B := w.heap.size + 1) (by repeat (first | (with_reducible exact RExt.refl _ _) | (with_reducible refine RExt.putc ?_ _ _))) (.inr (.inr rfl)), (by repeat (first | (with_reducible exact RExt.refl _ _) | (with_reducible refine RExt.putc ?_ _ _))), (by exact BS1.put6 _ _ _ _ _ _)⟩ ?_
      (try simp only [Act.put, List.setIfInBounds_toArray, List.set_cons_zero, List.set_cons_succ])
      rintro yW2 _ ⟨z2, BS2⟩
      clear cS fS BS1
      have BR2 := BR1.rext z2 (by omega)
      replace T0 := (T0.rextFar z1 (fun hn x e => by have := lT0 hn x e; omega)).rextFar z2 (fun hn x e => by have := lT0 hn x e; omega)
      replace K0 := (K0.rextFar z1 (fun hn x e => by have := lK0 hn x e; omega)).rextFar z2 (fun hn x e => by have := lK0 hn x e; omega)
      replace S0 := (S0.rextFar z1 (fun hn x e => by have := lS0 hn x e; omega)).rextFar z2 (fun hn x e => by have := lS0 hn x e; omega)
      replace X0 := RExt.new (RExt.new X0 z1 (by omega)) z2 (by omega)
      refine ChX.nil ?_
      have cR := BR2.cells
      have cS := BS2.cells
      have zR := BR2.lt
      have zS := BS2.lt
      go_wp2
      refine' bodyPost_ret (v := _) ?_ rfl ?_
      rotate_left
      · (simp only [results, Try.results87]
         go_simp
         rfl)
      exact ⟨g, ⟨k, ⟨x1, y1⟩, ⟨g.out, 1000 + px⟩, L⟩, ta, tn, tc, ka, kn, kc, sa, sn, sc, rfl, T0, K0, S0, (fun h x e => by have := lT0 h x e; omega), (fun h x e => by have := lK0 h x e; omega), (fun h x e => by have := lS0 h x e; omega), X0⟩
set_option maxHeartbeats 2000000 in
theorem DrawWayOf_any (a : Option Addr) (n c : Nat) (w : World) (hc : Code w a n c) :
    Calls Try.prog 30 #[.slice a n c] w fun e w' => ∃ (g : GateD) (p : PktD) (ta : Option Addr) (tn tc : Nat) (ka : Option Addr) (kn kc : Nat) (a : Option Addr) (n c : Nat), e = .returned (.tuple #[.agg #[.int .i64 g.net.base, .int .i64 g.net.bits, .int .i64 g.out, .slice ta tn tc, .slice ka kn kc, .int .i64 g.filter, .int .i64 g.hold, .int .i64 g.now], .agg #[.int .i64 p.kind, .int .i64 p.fr.addr, .int .i64 p.fr.port, .int .i64 p.to_.addr, .int .i64 p.to_.port, .slice a n c]]) ∧
          Sl encM 4 w' ta tn tc g.table ∧ Sl encC 3 w' ka kn kc g.cons ∧ Sl encI 1 w' a n c p.data ∧ (0 < tn → ∀ x, ta = some x → w.heap.size ≤ x.block) ∧ (0 < kn → ∀ x, ka = some x → w.heap.size ≤ x.block) ∧ (0 < n → ∀ x, a = some x → w.heap.size ≤ x.block) ∧ Ext w w' := by
  obtain ⟨zs, hs, hz⟩ := hc
  go_enter Try.func30, Try.ntmps30
  go_wp2_with fail
  refine (newReader_any a n c zs _ (hs.ext (by repeat (first | (with_reducible exact Ext.refl _) | (with_reducible assumption) | (with_reducible refine Ext.alloc ?_ _) | (with_reducible refine Ext.drewN ?_ _) | (with_reducible refine Ext.drew ?_) | (with_reducible refine Ext.setCell ?_ ?_ _; rotate_left; (simp only []; omega)) | (with_reducible refine Ext.trans ?_ (by assumption))))) hz).mono ?_
  rintro e w1 ⟨B, rfl, hB, hr, hx⟩
  have hy1 := hx.size
  (try simp at hy1)
  (try simp at hB)
  have hBl := hr.lt
  have BR : Blk w1 w.heap.size 40 #[.int .i64 0, .int .i64 0, .int .i64 0, .slice none 0 0, .slice none 0 0, .int .i64 0, .int .i64 0, .int .i64 0] := by refine Blk.ext ?_ hx; exact (by repeat (first | (with_reducible assumption) | (with_reducible exact Blk.new _ _ _) | exact Blk.newAt _ _ _ (by simp) | (with_reducible refine Blk.alloc ?_ _) | (with_reducible refine Blk.drew ?_) | (with_reducible refine Blk.drewN ?_ _) | refine Blk.far ?_ (by simp only []; omega) _ | refine Blk.rext ?_ (by assumption) (by omega) | refine Blk.ext ?_ (by assumption)))
  have BS : Blk w1 (w.heap.size + 1) 44 #[.int .i64 0, .int .i64 0, .int .i64 0, .int .i64 0, .int .i64 0, .slice none 0 0] := by refine Blk.ext ?_ hx; exact (by repeat (first | (with_reducible assumption) | (with_reducible exact Blk.new _ _ _) | exact Blk.newAt _ _ _ (by simp) | (with_reducible refine Blk.alloc ?_ _) | (with_reducible refine Blk.drew ?_) | (with_reducible refine Blk.drewN ?_ _) | refine Blk.far ?_ (by simp only []; omega) _ | refine Blk.rext ?_ (by assumption) (by omega) | refine Blk.ext ?_ (by assumption)))
  have X0 : Ext w w1 := (by repeat (first | (with_reducible exact Ext.refl _) | (with_reducible assumption) | (with_reducible refine Ext.alloc ?_ _) | (with_reducible refine Ext.drewN ?_ _) | (with_reducible refine Ext.drew ?_) | (with_reducible refine Ext.setCell ?_ ?_ _; rotate_left; (simp only []; omega)) | (with_reducible refine Ext.trans ?_ (by assumption))))
  clear hx
  go_wp2_with fail
  refine (pick_any _ B _ 4 _ hr (by omega) (by omega) (by omega)).mono ?_
  rintro e w2 ⟨d, rfl, d0, d1, q2, hx2⟩
  have hy2 := hx2.size
  (try simp at hy2)
  have BR : Blk w2 w.heap.size 40 (#[.int .i64 0, .int .i64 0, .int .i64 0, .slice none 0 0, .slice none 0 0, .int .i64 0, .int .i64 0, .int .i64 0]) := by refine Blk.rext ?_ hx2 (by omega); repeat (first | (with_reducible exact BR) | (with_reducible exact Blk.new _ _ _) | exact Blk.newAt _ _ _ (by simp) | (with_reducible refine Blk.alloc ?_ _) | (with_reducible refine Blk.drew ?_) | (with_reducible refine Blk.drewN ?_ _) | refine Blk.far ?_ (by simp only []; omega) _)
  have BS : Blk w2 (w.heap.size+1) 44 (#[.int .i64 0, .int .i64 0, .int .i64 0, .int .i64 0, .int .i64 0, .slice none 0 0]) := by refine Blk.rext ?_ hx2 (by omega); repeat (first | (with_reducible exact BS) | (with_reducible exact Blk.new _ _ _) | exact Blk.newAt _ _ _ (by simp) | (with_reducible refine Blk.alloc ?_ _) | (with_reducible refine Blk.drew ?_) | (with_reducible refine Blk.drewN ?_ _) | refine Blk.far ?_ (by simp only []; omega) _)
  have cBR := BR.cells
  have fBR := BR.frozens
  have zBR := BR.lt
  have cBS := BS.cells
  have fBS := BS.frozens
  have zBS := BS.lt
  replace X0 : Ext w w2 := by refine RExt.new ?_ hx2 (by omega); exact (by repeat (first | (with_reducible exact Ext.refl _) | (with_reducible assumption) | (with_reducible refine Ext.alloc ?_ _) | (with_reducible refine Ext.drewN ?_ _) | (with_reducible refine Ext.drew ?_) | (with_reducible refine Ext.setCell ?_ ?_ _; rotate_left; (simp only []; omega)) | (with_reducible refine Ext.trans ?_ (by assumption))))
  clear hx2 hr
  by_cases e0 : d = 0
  · subst e0
    go_wp2_with fail
    refine (DrawSendOut_any a n c _ ⟨zs, hs.ext X0, hz⟩).mono ?_
    rintro e w3 ⟨g, p, ta, tn, tc, ka, kn, kc, sa, sn, sc, rfl, T0, K0, S0, fT, fK, fS, x3⟩
    have s3 := x3.size
    clear cBR fBR zBR cBS fBS zBS
    replace BR := BR.ext x3
    replace BS := BS.ext x3
    replace X0 := X0.trans x3
    clear x3
    have cBR := BR.cells
    have fBR := BR.frozens
    have zBR := BR.lt
    have cBS := BS.cells
    have fBS := BS.frozens
    have zBS := BS.lt
    go_wp2
    refine' bodyPost_ret (v := _) ?_ rfl ?_
    rotate_left
    · (simp only [results, Try.results30]
       go_simp
       rfl)
    refine ⟨g, p, ta, tn, tc, ka, kn, kc, sa, sn, sc, rfl, ?_, ?_, ?_, (fun h x e => by have := fT h x e; omega), (fun h x e => by have := fK h x e; omega), (fun h x e => by have := fS h x e; omega), (by repeat (first | (with_reducible exact Ext.refl _) | (with_reducible assumption) | (with_reducible refine Ext.alloc ?_ _) | (with_reducible refine Ext.drewN ?_ _) | (with_reducible refine Ext.drew ?_) | (with_reducible refine Ext.setCell ?_ ?_ _; rotate_left; (simp only []; omega)) | (with_reducible refine Ext.trans ?_ (by assumption))))⟩
    · repeat (refine Sl.setFar ?_ (fun hn y hy => by have := fT hn y hy; simp only []; omega) _)
      exact T0
    · repeat (refine Sl.setFar ?_ (fun hn y hy => by have := fK hn y hy; simp only []; omega) _)
      exact K0
    · repeat (refine Sl.setFar ?_ (fun hn y hy => by have := fS hn y hy; simp only []; omega) _)
      exact S0
  by_cases e1 : d = 1
  · subst e1
    go_wp2_with fail
    refine (DrawReceiveIn_any a n c _ ⟨zs, hs.ext X0, hz⟩).mono ?_
    rintro e w3 ⟨g, p, ta, tn, tc, ka, kn, kc, sa, sn, sc, rfl, T0, K0, S0, fT, fK, fS, x3⟩
    have s3 := x3.size
    clear cBR fBR zBR cBS fBS zBS
    replace BR := BR.ext x3
    replace BS := BS.ext x3
    replace X0 := X0.trans x3
    clear x3
    have cBR := BR.cells
    have fBR := BR.frozens
    have zBR := BR.lt
    have cBS := BS.cells
    have fBS := BS.frozens
    have zBS := BS.lt
    go_wp2
    refine' bodyPost_ret (v := _) ?_ rfl ?_
    rotate_left
    · (simp only [results, Try.results30]
       go_simp
       rfl)
    refine ⟨g, p, ta, tn, tc, ka, kn, kc, sa, sn, sc, rfl, ?_, ?_, ?_, (fun h x e => by have := fT h x e; omega), (fun h x e => by have := fK h x e; omega), (fun h x e => by have := fS h x e; omega), (by repeat (first | (with_reducible exact Ext.refl _) | (with_reducible assumption) | (with_reducible refine Ext.alloc ?_ _) | (with_reducible refine Ext.drewN ?_ _) | (with_reducible refine Ext.drew ?_) | (with_reducible refine Ext.setCell ?_ ?_ _; rotate_left; (simp only []; omega)) | (with_reducible refine Ext.trans ?_ (by assumption))))⟩
    · repeat (refine Sl.setFar ?_ (fun hn y hy => by have := fT hn y hy; simp only []; omega) _)
      exact T0
    · repeat (refine Sl.setFar ?_ (fun hn y hy => by have := fK hn y hy; simp only []; omega) _)
      exact K0
    · repeat (refine Sl.setFar ?_ (fun hn y hy => by have := fS hn y hy; simp only []; omega) _)
      exact S0
  by_cases e2 : d = 2
  · subst e2
    go_wp2_with fail
    refine (DrawPassBetween_any a n c _ ⟨zs, hs.ext X0, hz⟩).mono ?_
    rintro e w3 ⟨g, p, ta, tn, tc, ka, kn, kc, sa, sn, sc, rfl, T0, K0, S0, fT, fK, fS, x3⟩
    have s3 := x3.size
    clear cBR fBR zBR cBS fBS zBS
    replace BR := BR.ext x3
    replace BS := BS.ext x3
    replace X0 := X0.trans x3
    clear x3
    have cBR := BR.cells
    have fBR := BR.frozens
    have zBR := BR.lt
    have cBS := BS.cells
    have fBS := BS.frozens
    have zBS := BS.lt
    go_wp2
    refine' bodyPost_ret (v := _) ?_ rfl ?_
    rotate_left
    · (simp only [results, Try.results30]
       go_simp
       rfl)
    refine ⟨g, p, ta, tn, tc, ka, kn, kc, sa, sn, sc, rfl, ?_, ?_, ?_, (fun h x e => by have := fT h x e; omega), (fun h x e => by have := fK h x e; omega), (fun h x e => by have := fS h x e; omega), (by repeat (first | (with_reducible exact Ext.refl _) | (with_reducible assumption) | (with_reducible refine Ext.alloc ?_ _) | (with_reducible refine Ext.drewN ?_ _) | (with_reducible refine Ext.drew ?_) | (with_reducible refine Ext.setCell ?_ ?_ _; rotate_left; (simp only []; omega)) | (with_reducible refine Ext.trans ?_ (by assumption))))⟩
    · repeat (refine Sl.setFar ?_ (fun hn y hy => by have := fT hn y hy; simp only []; omega) _)
      exact T0
    · repeat (refine Sl.setFar ?_ (fun hn y hy => by have := fK hn y hy; simp only []; omega) _)
      exact K0
    · repeat (refine Sl.setFar ?_ (fun hn y hy => by have := fS hn y hy; simp only []; omega) _)
      exact S0
  go_wp2_with fail
  refine (anyGate_any _ B _ _ q2 (by omega)).mono ?_
  rintro e w3 ⟨g, ta, tn, tc, ka, kn, kc, rfl, T0, K0, _, _, _, _, fT, fK, q3, hx3⟩
  have hy3 := hx3.size
  (try simp at hy3)
  clear cBR fBR zBR
  clear cBS fBS zBS
  replace BR : Blk w3 w.heap.size 40 (#[.int .i64 0, .int .i64 0, .int .i64 0, .slice none 0 0, .slice none 0 0, .int .i64 0, .int .i64 0, .int .i64 0]) := by refine Blk.rext ?_ hx3 (by omega); repeat (first | (with_reducible exact BR) | (with_reducible exact Blk.new _ _ _) | exact Blk.newAt _ _ _ (by simp) | (with_reducible refine Blk.alloc ?_ _) | (with_reducible refine Blk.drew ?_) | (with_reducible refine Blk.drewN ?_ _) | refine Blk.far ?_ (by simp only []; omega) _)
  replace BS : Blk w3 (w.heap.size+1) 44 (#[.int .i64 0, .int .i64 0, .int .i64 0, .int .i64 0, .int .i64 0, .slice none 0 0]) := by refine Blk.rext ?_ hx3 (by omega); repeat (first | (with_reducible exact BS) | (with_reducible exact Blk.new _ _ _) | exact Blk.newAt _ _ _ (by simp) | (with_reducible refine Blk.alloc ?_ _) | (with_reducible refine Blk.drew ?_) | (with_reducible refine Blk.drewN ?_ _) | refine Blk.far ?_ (by simp only []; omega) _)
  have cBR := BR.cells
  have fBR := BR.frozens
  have zBR := BR.lt
  have cBS := BS.cells
  have fBS := BS.frozens
  have zBS := BS.lt
  have lT0 : 0 < tn → ∀ x, ta = some x → w1.heap.size ≤ x.block ∧ x.block < w3.heap.size := fun h x e => ⟨by have := fT x e; omega, T0.lt h x e⟩
  have lK0 : 0 < kn → ∀ x, ka = some x → w1.heap.size ≤ x.block ∧ x.block < w3.heap.size := fun h x e => ⟨by have := fK x e; omega, K0.lt h x e⟩
  clear fT fK
  replace X0 : Ext w w3 := by refine RExt.new ?_ hx3 (by omega); exact (by repeat (first | (with_reducible exact Ext.refl _) | (with_reducible assumption) | (with_reducible refine Ext.alloc ?_ _) | (with_reducible refine Ext.drewN ?_ _) | (with_reducible refine Ext.drew ?_) | (with_reducible refine Ext.setCell ?_ ?_ _; rotate_left; (simp only []; omega)) | (with_reducible refine Ext.trans ?_ (by assumption))))
  clear cBR fBR zBR cBS fBS zBS
  go_wp2_with fail
  refine wp_gen (fun W => Ext w3 W ∧ Blk W w3.heap.size 40 (#[.int .i64 g.net.base, .int .i64 g.net.bits, .int .i64 g.out, .slice ta tn tc, .slice ka kn kc, .int .i64 g.filter, .int .i64 g.hold, .int .i64 g.now])) ⟨(by repeat (first | (with_reducible exact Ext.refl _) | (with_reducible assumption) | (with_reducible refine Ext.alloc ?_ _) | (with_reducible refine Ext.drewN ?_ _) | (with_reducible refine Ext.drew ?_) | (with_reducible refine Ext.setCell ?_ ?_ _; rotate_left; (simp only []; omega)) | (with_reducible refine Ext.trans ?_ (by assumption)))), (by repeat (first | (with_reducible assumption) | (with_reducible exact Blk.new _ _ _) | exact Blk.newAt _ _ _ (by simp) | (with_reducible refine Blk.alloc ?_ _) | (with_reducible refine Blk.drew ?_) | (with_reducible refine Blk.drewN ?_ _) | refine Blk.far ?_ (by simp only []; omega) _ | refine Blk.rext ?_ (by assumption) (by omega) | refine Blk.ext ?_ (by assumption)))⟩ ?_
  rintro v3 ⟨x3, BG⟩
  have hv2 := BG.lt
  replace BR := BR.ext x3
  replace BS := BS.ext x3
  replace T0 := T0.ext x3
  replace K0 := K0.ext x3
  replace X0 := X0.trans x3
  have := (x3).size
  have r0 := q3.ext x3
  clear x3 q3 hx3
  have BP := BG
  have hBv : B < v3.heap.size := by omega
  go_wp2_with fail
  replace BG := BG.drew
  replace BP := BP.drew
  replace BR := BR.drew
  replace BS := BS.drew
  replace T0 := T0.drew
  replace K0 := K0.drew
  (try replace S0 := S0.drew)
  (try replace r0 := r0.drew)
  replace X0 := X0.drew
  have hdrS : ∀ W : World, W.drew.heap.size = W.heap.size := fun _ => rfl
  refine wp_region_eager (R := RX (fun i => i = B ∨ i = w.heap.size ∨ i = w.heap.size + 1)) [0, 1, 2, 3, 4] (by kernel_rfl) (by kernel_rfl) (RX.refl _) (fun _ _ _ => RX.trans) ?_
  have hdrW := hdrS (v3)
  generalize (v3).drew = vD at *
  repeat' (first
    | (refine ChX.skip (by rfl) (by rfl) ?_
       (try simp only [Act.put, List.setIfInBounds_toArray, List.set_cons_zero, List.set_cons_succ]))
    | (refine' ChX.quiet (v := _) (by rfl) (by rfl) (by rfl) ?_ ?_
       rotate_left
       · (intro wS hS
          have cG := (BG.rx hS (by omega)).cells; have cP := (BP.rx hS (by omega)).cells
          go_simp
          with_reducible rfl)
       (try simp only [Act.put, List.setIfInBounds_toArray, List.set_cons_zero, List.set_cons_succ]))
    | (refine ChX.nil ?_)
    | (refine' ChX.guard (x := _) (by rfl) ?_ ?_ ?_
       rotate_left
       · (go_simp
          rfl)
       all_goals
         intro hg
         simp only [hg])
    | (refine' ChX.guardN (x := _) (by rfl) ?_ ?_ ?_
       rotate_left
       · (go_simp
          rfl)
       all_goals
         intro hg
         simp only [hg]))
  skip
  refine ChX.call (by rfl) (by rfl) (by rfl) (by go_simp; (constructor <;> rfl)) ?_
  refine (anyPacket_any _ B _ vD r0 (by omega)).mono ?_
  rintro e v8 ⟨k, fa, fp, ga, gp, sa, sn, sc, L, rfl, S0, _, fS, q8, h8⟩
  refine ⟨_, rfl, RX.of_rext h8 (.inl rfl), ?_⟩
  have lS0 : 0 < sn → ∀ x, sa = some x → vD.heap.size ≤ x.block ∧ x.block < v8.heap.size := fun h x e => ⟨fS x e, S0.lt h x e⟩
  (try simp only [Act.put, List.setIfInBounds_toArray, List.set_cons_zero, List.set_cons_succ])
  replace BG := BG.rext h8 (by omega)
  replace BR := BR.rext h8 (by omega)
  replace BS := BS.rext h8 (by omega)
  replace T0 := T0.rextFar h8 (fun hn x e => by have := lT0 hn x e; omega)
  replace K0 := K0.rextFar h8 (fun hn x e => by have := lK0 hn x e; omega)
  replace X0 := RExt.new X0 h8 (by omega)
  have := (h8).size
  clear h8 q8 fS
  have cR := BR.cells
  have fR := BR.frozens
  refine ChX.storeP (fun W => RExt w.heap.size v8 W ∧ Blk W w.heap.size 40 (#[.int .i64 g.net.base, .int .i64 g.net.bits, .int .i64 g.out, .slice ta tn tc, .slice ka kn kc, .int .i64 g.filter, .int .i64 g.hold, .int .i64 g.now])) (by rfl) (by rfl) (by rfl) ⟨_, (by go_simp; rfl), RX.of_rext (B := w.heap.size) (by repeat (first | (with_reducible exact RExt.refl _ _) | (with_reducible refine RExt.putc ?_ _ _))) (.inr (.inl rfl)), (by repeat (first | (with_reducible exact RExt.refl _ _) | (with_reducible refine RExt.putc ?_ _ _))), (by exact BR.put8 _ _ _ _ _ _ _ _)⟩ ?_
  (try simp only [Act.put, List.setIfInBounds_toArray, List.set_cons_zero, List.set_cons_succ])
  rintro yW1 _ ⟨z1, BR1⟩
  clear cR fR
  have BS1 := BS.rext z1 (by omega)
  have cS := BS1.cells
  have fS := BS1.frozens
  refine ChX.storeP (fun W => RExt (w.heap.size + 1) yW1 W ∧ Blk W (w.heap.size + 1) 44 #[.int .i64 k, .int .i64 fa, .int .i64 fp, .int .i64 ga, .int .i64 gp, .slice sa sn sc]) (by rfl) (by rfl) (by rfl) ⟨_, (by go_simp; rfl), RX.of_rext (B := w.heap.size + 1) (by repeat (first | (with_reducible exact RExt.refl _ _) | (with_reducible refine RExt.putc ?_ _ _))) (.inr (.inr rfl)), (by repeat (first | (with_reducible exact RExt.refl _ _) | (with_reducible refine RExt.putc ?_ _ _))), (by exact BS1.put6 _ _ _ _ _ _)⟩ ?_
  (try simp only [Act.put, List.setIfInBounds_toArray, List.set_cons_zero, List.set_cons_succ])
  rintro yW2 _ ⟨z2, BS2⟩
  clear cS fS BS1
  have BR2 := BR1.rext z2 (by omega)
  replace T0 := (T0.rextFar z1 (fun hn x e => by have := lT0 hn x e; omega)).rextFar z2 (fun hn x e => by have := lT0 hn x e; omega)
  replace K0 := (K0.rextFar z1 (fun hn x e => by have := lK0 hn x e; omega)).rextFar z2 (fun hn x e => by have := lK0 hn x e; omega)
  replace S0 := (S0.rextFar z1 (fun hn x e => by have := lS0 hn x e; omega)).rextFar z2 (fun hn x e => by have := lS0 hn x e; omega)
  replace X0 := RExt.new (RExt.new X0 z1 (by omega)) z2 (by omega)
  refine ChX.nil ?_
  have cR := BR2.cells
  have cS := BS2.cells
  have zR := BR2.lt
  have zS := BS2.lt
  go_wp2
  refine' bodyPost_ret (v := _) ?_ rfl ?_
  rotate_left
  · (simp only [results, Try.results30]
     go_simp
     rfl)
  exact ⟨g, ⟨k, ⟨fa, fp⟩, ⟨ga, gp⟩, L⟩, ta, tn, tc, ka, kn, kc, sa, sn, sc, rfl, T0, K0, S0, (fun h x e => by have := lT0 h x e; omega), (fun h x e => by have := lK0 h x e; omega), (fun h x e => by have := lS0 h x e; omega), X0⟩
end Go.Proofs.Ytafmomocmodbhaa
/- Contracts of what is drawn: gates and times. -/
namespace Go.Proofs.Ytafmomocmodbhaa
set_option linter.unusedVariables false
set_option linter.unusedSimpArgs false
open Go.RowKit

theorem one_litX (n0 B : Nat) (m : Int) (T : TypeId) (cs : Array Value) (b n : Nat) (W : World) (hr : Rd n0 W B m) (hm : m + 1 ≤ 1000000) (hb : b = W.heap.size) (hn : cs.size = n) (h0 : 0 < n) (hn' : n ≤ 1000)
    (hc : ∀ v ∈ cs.toList, v = .int .i64 (intOf v)) :
    Calls Try.prog 62 #[.pointer (some ⟨B, 0, none⟩), .slice (some ⟨b, 0, none⟩) n n] (W.alloc (.cells cs T)) fun e w' => ∃ x, e = .returned (.int .i64 x) ∧ x ∈ cs.toList.map intOf ∧ Rd n0 w' B (m + 1) ∧ RExt B (W.alloc (.cells cs T)) w' := by
  refine one_any n0 B m (cs.toList.map intOf) _ _ _ _ (hr.alloc _) hm (Sl.lits W T cs hb hn hn' hc) h0 hn' ?_
  intro x hx
  injection hx with hx
  subst hx
  have := hr.lt
  have := hr.le
  simp only []
  omega
set_option maxHeartbeats 2000000 in
theorem DrawTickGate_any (a : Option Addr) (n c : Nat) (w : World) (hc : Code w a n c) :
    Calls Try.prog 20 #[.slice a n c] w fun e w' => ∃ (g : GateD) (now : Int) (ta : Option Addr) (tn tc : Nat) (ka : Option Addr) (kn kc : Nat), e = .returned (.tuple #[.agg #[.int .i64 g.net.base, .int .i64 g.net.bits, .int .i64 g.out, .slice ta tn tc, .slice ka kn kc, .int .i64 g.filter, .int .i64 g.hold, .int .i64 g.now], .int .i64 now]) ∧
      Sl encM 4 w' ta tn tc g.table ∧ Sl encC 3 w' ka kn kc g.cons ∧ Ext w w' := by
  obtain ⟨zs, hs, hz⟩ := hc
  go_enter Try.func20, Try.ntmps20
  go_wp2_with fail
  refine (newReader_any a n c zs _ (hs.ext (by repeat (first | (with_reducible exact Ext.refl _) | (with_reducible assumption) | (with_reducible refine Ext.alloc ?_ _) | (with_reducible refine Ext.drewN ?_ _) | (with_reducible refine Ext.drew ?_) | (with_reducible refine Ext.setCell ?_ ?_ _; rotate_left; (simp only []; omega)) | (with_reducible refine Ext.trans ?_ (by assumption))))) hz).mono ?_
  rintro e w1 ⟨B, rfl, hB, hr, hx⟩
  have hy1 := hx.size
  (try simp at hy1)
  (try simp at hB)
  have hBl := hr.lt
  have BR : Blk w1 w.heap.size 40 #[.int .i64 0, .int .i64 0, .int .i64 0, .slice none 0 0, .slice none 0 0, .int .i64 0, .int .i64 0, .int .i64 0] := by refine Blk.ext ?_ hx; exact (by repeat (first | (with_reducible assumption) | (with_reducible exact Blk.new _ _ _) | exact Blk.newAt _ _ _ (by simp) | (with_reducible refine Blk.alloc ?_ _) | (with_reducible refine Blk.drew ?_) | (with_reducible refine Blk.drewN ?_ _) | refine Blk.far ?_ (by simp only []; omega) _ | refine Blk.rext ?_ (by assumption) (by omega) | refine Blk.ext ?_ (by assumption)))
  have X0 : Ext w w1 := (by repeat (first | (with_reducible exact Ext.refl _) | (with_reducible assumption) | (with_reducible refine Ext.alloc ?_ _) | (with_reducible refine Ext.drewN ?_ _) | (with_reducible refine Ext.drew ?_) | (with_reducible refine Ext.setCell ?_ ?_ _; rotate_left; (simp only []; omega)) | (with_reducible refine Ext.trans ?_ (by assumption))))
  clear hx
  go_wp2_with fail
  refine (anyGate_any _ B _ _ hr (by omega)).mono ?_
  rintro e w2 ⟨g, ta, tn, tc, ka, kn, kc, rfl, T0, K0, _, _, now0, now1, fT, fK, q2, hx2⟩
  have hy2 := hx2.size
  (try simp at hy2)
  have BR : Blk w2 w.heap.size 40 (#[.int .i64 0, .int .i64 0, .int .i64 0, .slice none 0 0, .slice none 0 0, .int .i64 0, .int .i64 0, .int .i64 0]) := by refine Blk.rext ?_ hx2 (by omega); repeat (first | (with_reducible exact BR) | (with_reducible exact Blk.new _ _ _) | exact Blk.newAt _ _ _ (by simp) | (with_reducible refine Blk.alloc ?_ _) | (with_reducible refine Blk.drew ?_) | (with_reducible refine Blk.drewN ?_ _) | refine Blk.far ?_ (by simp only []; omega) _)
  have cBR := BR.cells
  have fBR := BR.frozens
  have zBR := BR.lt
  have lT0 : 0 < tn → ∀ x, ta = some x → w1.heap.size ≤ x.block ∧ x.block < w2.heap.size := fun h x e => ⟨fT x e, T0.lt h x e⟩
  have lK0 : 0 < kn → ∀ x, ka = some x → w1.heap.size ≤ x.block ∧ x.block < w2.heap.size := fun h x e => ⟨fK x e, K0.lt h x e⟩
  clear fT fK
  replace X0 : Ext w w2 := by refine RExt.new ?_ hx2 (by omega); exact (by repeat (first | (with_reducible exact Ext.refl _) | (with_reducible assumption) | (with_reducible refine Ext.alloc ?_ _) | (with_reducible refine Ext.drewN ?_ _) | (with_reducible refine Ext.drew ?_) | (with_reducible refine Ext.setCell ?_ ?_ _; rotate_left; (simp only []; omega)) | (with_reducible refine Ext.trans ?_ (by assumption))))
  clear cBR fBR zBR
  go_wp2_with fail
  refine wp_gen (fun W => Ext w2 W ∧ Blk W w2.heap.size 40 (#[.int .i64 g.net.base, .int .i64 g.net.bits, .int .i64 g.out, .slice ta tn tc, .slice ka kn kc, .int .i64 g.filter, .int .i64 g.hold, .int .i64 g.now])) ⟨(by repeat (first | (with_reducible exact Ext.refl _) | (with_reducible assumption) | (with_reducible refine Ext.alloc ?_ _) | (with_reducible refine Ext.drewN ?_ _) | (with_reducible refine Ext.drew ?_) | (with_reducible refine Ext.setCell ?_ ?_ _; rotate_left; (simp only []; omega)) | (with_reducible refine Ext.trans ?_ (by assumption)))), (by repeat (first | (with_reducible assumption) | (with_reducible exact Blk.new _ _ _) | exact Blk.newAt _ _ _ (by simp) | (with_reducible refine Blk.alloc ?_ _) | (with_reducible refine Blk.drew ?_) | (with_reducible refine Blk.drewN ?_ _) | refine Blk.far ?_ (by simp only []; omega) _ | refine Blk.rext ?_ (by assumption) (by omega) | refine Blk.ext ?_ (by assumption)))⟩ ?_
  rintro v3 ⟨x3, BG⟩
  have hv2 := BG.lt
  replace BR := BR.ext x3
  replace T0 := T0.ext x3
  replace K0 := K0.ext x3
  replace X0 := X0.trans x3
  have r0 := q2.ext x3
  clear x3 q2 hx2
  have hBv : B < v3.heap.size := by omega
  go_wp2_with fail
  replace BG := BG.drew
  replace BR := BR.drew
  replace T0 := T0.drew
  replace K0 := K0.drew
  replace r0 := r0.drew
  replace X0 := X0.drew
  have hdrS : ∀ W : World, W.drew.heap.size = W.heap.size := fun _ => rfl
  refine wp_region_eager (R := RX (fun i => i = B ∨ i = w.heap.size)) [0, 1, 2, 3, 4, 5, 6, 7, 8] (by kernel_rfl) (by kernel_rfl) (RX.refl _) (fun _ _ _ => RX.trans) ?_
  have hdrW := hdrS v3
  generalize v3.drew = vD at *
  repeat' (first
    | (refine ChX.skip (by rfl) (by rfl) ?_
       (try simp only [Act.put, List.setIfInBounds_toArray, List.set_cons_zero, List.set_cons_succ]))
    | (refine' ChX.quiet (v := _) (by rfl) (by rfl) (by rfl) ?_ ?_
       rotate_left
       · (intro wS hS
          have cG := (BG.rx hS (by omega)).cells
          go_simp
          with_reducible rfl)
       (try simp only [Act.put, List.setIfInBounds_toArray, List.set_cons_zero, List.set_cons_succ]))
    | (refine ChX.nil ?_)
    | (refine' ChX.guard (x := _) (by rfl) ?_ ?_ ?_
       rotate_left
       · (go_simp
          rfl)
       all_goals
         intro hg
         simp only [hg])
    | (refine' ChX.guardN (x := _) (by rfl) ?_ ?_ ?_
       rotate_left
       · (go_simp
          rfl)
       all_goals
         intro hg
         simp only [hg]))
  refine ChX.eff (by rfl) (by rfl) (by rfl) (by go_simp; (constructor <;> rfl)) (RX.of_ext (by exact (by repeat (first | (with_reducible exact Ext.refl _) | (with_reducible assumption) | (with_reducible refine Ext.alloc ?_ _) | (with_reducible refine Ext.drewN ?_ _) | (with_reducible refine Ext.drew ?_) | (with_reducible refine Ext.setCell ?_ ?_ _; rotate_left; (simp only []; omega)) | (with_reducible refine Ext.trans ?_ (by assumption)))))) ?_
  (try simp only [Act.put, List.setIfInBounds_toArray, List.set_cons_zero, List.set_cons_succ])
  refine ChX.call (by rfl) (by rfl) (by rfl) (by go_simp; (constructor <;> rfl)) ?_
  refine (one_litX _ B _ _ _ _ _ _ r0 (by omega) hdrW.symm (by rfl) (by omega) (by omega) (by simp [intOf])).mono ?_
  rintro e v8 ⟨z, rfl, hm, q8, h8⟩
  simp [intOf] at hm
  refine ⟨_, rfl, RX.of_rext (B := B) h8 (.inl rfl), ?_⟩
  (try simp only [Act.put, List.setIfInBounds_toArray, List.set_cons_zero, List.set_cons_succ])
  replace BG := (BG.alloc _).rext h8 (by omega)
  replace BR := (BR.alloc _).rext h8 (by omega)
  replace T0 := (T0.alloc _).rextFar h8 (fun hn x e => by have := lT0 hn x e; omega)
  replace K0 := (K0.alloc _).rextFar h8 (fun hn x e => by have := lK0 hn x e; omega)
  replace X0 := RExt.new (X0.alloc _) h8 (by omega)
  clear h8 q8 r0
  have hwr : IntKind.i64.wrap (g.now + z) = g.now + z := IntWalk.i64_in _ (by omega)
  clear hm
  repeat' (first
    | (refine ChX.skip (by rfl) (by rfl) ?_
       (try simp only [Act.put, List.setIfInBounds_toArray, List.set_cons_zero, List.set_cons_succ]))
    | (refine' ChX.quiet (v := _) (by rfl) (by rfl) (by rfl) ?_ ?_
       rotate_left
       · (intro wS hS
          skip
          go_simp
          with_reducible rfl)
       (try simp only [Act.put, List.setIfInBounds_toArray, List.set_cons_zero, List.set_cons_succ]))
    | (refine ChX.nil ?_)
    | (refine' ChX.guard (x := _) (by rfl) ?_ ?_ ?_
       rotate_left
       · (go_simp
          rfl)
       all_goals
         intro hg
         simp only [hg])
    | (refine' ChX.guardN (x := _) (by rfl) ?_ ?_ ?_
       rotate_left
       · (go_simp
          rfl)
       all_goals
         intro hg
         simp only [hg]))
  have cR := BR.cells
  have fR := BR.frozens
  refine ChX.storeP (fun W => RExt w.heap.size v8 W ∧ Blk W w.heap.size 40 (#[.int .i64 g.net.base, .int .i64 g.net.bits, .int .i64 g.out, .slice ta tn tc, .slice ka kn kc, .int .i64 g.filter, .int .i64 g.hold, .int .i64 g.now])) (by rfl) (by rfl) (by rfl) ⟨_, (by go_simp; rfl), RX.of_rext (B := w.heap.size) (by repeat (first | (with_reducible exact RExt.refl _ _) | (with_reducible refine RExt.putc ?_ _ _))) (.inr rfl), (by repeat (first | (with_reducible exact RExt.refl _ _) | (with_reducible refine RExt.putc ?_ _ _))), (by exact BR.put8 _ _ _ _ _ _ _ _)⟩ ?_
  (try simp only [Act.put, List.setIfInBounds_toArray, List.set_cons_zero, List.set_cons_succ])
  rintro yW1 _ ⟨z1, BR1⟩
  clear cR fR
  replace T0 := T0.rextFar z1 (fun hn x e => by have := lT0 hn x e; omega)
  replace K0 := K0.rextFar z1 (fun hn x e => by have := lK0 hn x e; omega)
  replace X0 := RExt.new X0 z1 (by omega)
  have cR := BR1.cells
  have zR := BR1.lt
  repeat' (first
    | (refine ChX.skip (by rfl) (by rfl) ?_
       (try simp only [Act.put, List.setIfInBounds_toArray, List.set_cons_zero, List.set_cons_succ]))
    | (refine' ChX.quiet (v := _) (by rfl) (by rfl) (by rfl) ?_ ?_
       rotate_left
       · (intro wS hS
          skip
          go_simp
          with_reducible rfl)
       (try simp only [Act.put, List.setIfInBounds_toArray, List.set_cons_zero, List.set_cons_succ]))
    | (refine ChX.nil ?_)
    | (refine' ChX.guard (x := _) (by rfl) ?_ ?_ ?_
       rotate_left
       · (go_simp
          rfl)
       all_goals
         intro hg
         simp only [hg])
    | (refine' ChX.guardN (x := _) (by rfl) ?_ ?_ ?_
       rotate_left
       · (go_simp
          rfl)
       all_goals
         intro hg
         simp only [hg]))
  go_wp2
  refine' bodyPost_ret (v := _) ?_ rfl ?_
  rotate_left
  · (simp only [results, Try.results20]
     go_simp
     rfl)
  exact ⟨g, g.now + z, ta, tn, tc, ka, kn, kc, rfl, T0, K0, X0⟩
end Go.Proofs.Ytafmomocmodbhaa
/- Contracts: slices.DeleteFunc on own rows of mappings and contacts, whatever predicate. -/
namespace Go.Proofs.Ytafmomocmodbhaa
set_option linter.unusedVariables false
set_option linter.unusedSimpArgs false
open Go.RowKit Go.Shelf

theorem filt_le {α : Type} (p : α → Bool) (L : List α) (k : Nat) : ((L.take k).filter p).length ≤ k :=
  Nat.le_trans (List.length_filter_le _ _) (by simp; omega)
/-- Cells written into a row from a place on. -/
theorem Blk.sets {T : TypeId} {g : Nat} : ∀ (vs : List Value) (o : Nat) (w : World) (cur : Array Value), Blk w g T cur → ∃ cur', Blk (w.setCells g o vs) g T cur' ∧ cur'.size = cur.size ∧ (∀ j, j < o → cur'[j]? = cur[j]?) ∧ RExt g w (w.setCells g o vs)
  | [], _, w, cur, h => ⟨cur, h, rfl, fun _ _ => rfl, RExt.refl g w⟩
  | v :: r, o, w, cur, h => by
    obtain ⟨cur', h1, h2, h3, h4⟩ := Blk.sets r (o + 1) _ _ (h.set o v)
    refine ⟨cur', h1, by simpa using h2, fun j hj => (h3 j (by omega)).trans ?_, ?_⟩
    · rw [Array.getElem?_setIfInBounds_ne (by omega)]
    · exact (RExt.setCell (RExt.refl g w) (.inl rfl) v).trans h4
theorem run_clear_blk {P : Program} {t E : TypeId} {k bytes : Nat} {T : TypeId} (hE : EI P t E k bytes) (h1 : ∀ z i, P.info? E = some i → i.zero = some z → ∀ u ∈ z.cells.toList, u.oneCell' = true) (w : World) (g o n c : Nat) (cur : Array Value) (hB : Blk w g T cur) (hfit : o + n * k ≤ cur.size) (hn : 0 < n) :
    ∃ W' cur', (∀ ty, (Builtin.clear_ #[t] ty #[.slice (some ⟨g, o, none⟩) n c]).run P w = .ok (.tuple #[]) W') ∧ Blk W' g T cur' ∧ cur'.size = cur.size ∧ (∀ j, j < o → cur'[j]? = cur[j]?) ∧ RExt g w W' := by
  obtain ⟨ht, i, z, hi, hz, hsz, hbs, hzs, hk0⟩ := hE
  obtain ⟨cur', h2, h3, h4, h5⟩ := Blk.sets (Builtin.zeroCells z.cells n).toList o w cur hB
  refine ⟨_, cur', fun ty => ?_, h2, h3, h4, h5⟩
  have hlen : (Builtin.zeroCells z.cells n).toList.length = n * k := by simp [Builtin.zeroCells, hzs]
  have hst := run_storeCells_cells (P := P) g o (Builtin.zeroCells z.cells n).toList 0 w
    (fun j hj => by
      rw [hlen] at hj
      rw [Nat.add_zero, hB.cells, Array.getElem?_eq_getElem (by omega)]; rfl)
    (fun j _ => hB.frozens _)
    (fun v hv => by
      simp only [Builtin.zeroCells, Array.toList_map, List.mem_map] at hv
      obtain ⟨q, hq, rfl⟩ := hv
      have hlt : q % z.cells.size < z.cells.size := Nat.mod_lt _ (by omega)
      rw [getElem!_pos z.cells _ hlt]
      exact h1 z i hi hz _ (by simp))
  simp only [Nat.add_zero] at hst
  obtain ⟨m, rfl⟩ : ∃ m, n = m + 1 := ⟨n - 1, by omega⟩
  simp [Builtin.clear_, run_underlying ht, zeroValue, typeInfo, hi, hz, hst]
theorem zero1 {P : Program} {E : TypeId} {zz : Value} (he : (P.info? E).map (fun i => i.zero) = some (some zz)) (h : ∀ u ∈ zz.cells.toList, u.oneCell' = true) : ∀ z i, P.info? E = some i → i.zero = some z → ∀ u ∈ z.cells.toList, u.oneCell' = true := by
  intro z i hi hz
  rw [hi] at he
  simp only [Option.map_some, Option.some.injEq] at he
  rw [hz] at he
  injection he with he
  subst he
  exact h
theorem zero1_C : ∀ z i, Try.prog.info? 115 = some i → i.zero = some z → ∀ u ∈ z.cells.toList, u.oneCell' = true :=
  zero1 (zz := .agg #[.int .i64 0, .int .i64 0, .int .i64 0]) (by kernel_rfl) (by intro u hu; simp [Value.cells] at hu; subst hu; rfl)
theorem zero1_M : ∀ z i, Try.prog.info? 102 = some i → i.zero = some z → ∀ u ∈ z.cells.toList, u.oneCell' = true :=
  zero1 (zz := .agg #[.int .i64 0, .int .i64 0, .int .i64 0, .int .i64 0]) (by kernel_rfl) (by intro u hu; simp [Value.cells] at hu; subst hu; rfl)
theorem run_drop_C (g n c m : Nat) (h : m < n) (hc : n ≤ c) (W : World) : (Instr.slice 38 (.slice (some ⟨g, 0, none⟩) n c) (some (.int .i64 m)) none none).run Try.prog W = .ok (.slice (some ⟨g, m * 3, none⟩) (n - m) (c - m)) W := by
  rw [run_slice_l (P := Try.prog) W 38 (some ⟨g, 0, none⟩) n c (by kernel_rfl) .i64 (m : Int) (by omega) (by omega)]
  have hcm : ¬ c = m := by omega
  go_simp
theorem run_drop_M (g n c m : Nat) (h : m < n) (hc : n ≤ c) (W : World) : (Instr.slice 37 (.slice (some ⟨g, 0, none⟩) n c) (some (.int .i64 m)) none none).run Try.prog W = .ok (.slice (some ⟨g, m * 4, none⟩) (n - m) (c - m)) W := by
  rw [run_slice_l (P := Try.prog) W 37 (some ⟨g, 0, none⟩) n c (by kernel_rfl) .i64 (m : Int) (by omega) (by omega)]
  have hcm : ¬ c = m := by omega
  go_simp
theorem put_three {cur : Array Value} {i : Nat} {K : List ConD} {x : ConD} (hlt : i * 3 + 2 < cur.size) (h2 : cur.toList.take (i * 3) = K.flatMap encC) :
    (((cur.setIfInBounds (i * 3) (.int .i64 x.port)).setIfInBounds (i * 3 + 1) (.int .i64 x.to_.addr)).setIfInBounds (i * 3 + 2) (.int .i64 x.to_.port)).toList.take ((i + 1) * 3) = (K ++ [x]).flatMap encC := by
  rw [show (i + 1) * 3 = i * 3 + 2 + 1 by omega]
  simp only [Array.toList_setIfInBounds]
  rw [set_take (by simp; omega), set_take (by simp; omega), set_take (by simp; omega), h2]
  simp [encC]
set_option maxHeartbeats 2000000 in
theorem DeleteFunc_C (g0 : FuncId) (lb : Array Value) (eg : ∀ args w, (callFunc g0 args).run Try.prog w = .ok (.enter g0 args) w) (p : ConD → Bool) (a : Option Addr) (n c base : Nat) (L : List ConD) (w : World) (ho : Ow 115 encC 3 base w a n c L) (hn : n ≤ 1000)
    (hcall : ∀ x, x ∈ L → ∀ W, w.grownBy W (a.map (·.block)) → Calls Try.prog g0 (#[.agg #[.int .i64 x.port, .int .i64 x.to_.addr, .int .i64 x.to_.port]] ++ lb) W fun e w' => e = .returned (.bool (p x)) ∧ Ext W w') :
    Calls Try.prog 121 #[.slice a n c, .func (.func g0) #[] lb] w fun e w' => ∃ m, e = .returned (.slice a m c) ∧ Ow 115 encC 3 base w' a m c (L.filter fun x => !p x) ∧ m ≤ n ∧ w.grownBy w' (a.map (·.block)) := by
  have hs := ho.sl encC_len
  have hIF := Lib.hid (IndexFunc_C g0 lb eg p a n c L w hs (fun x hx W hW => hcall x hx W (by
    obtain ⟨h1, h2, h3, h4, h5⟩ := hW
    exact ⟨h1, h2, h3, h4, fun i hi _ => h5 i hi (by simp)⟩)))
  rcases ix_cases p L with ⟨e1, hall⟩ | ⟨k0, x0, e1, hx0, ht0, hall⟩
  · rw [e1] at hIF
    have hf : L.filter (fun x => !p x) = L := List.filter_eq_self.2 fun x hx => by simp [hall x hx]
    rw [hf]
    have HO := Lib.hid ho
    clear ho hs hcall hall
    go_enter Try.func121, Try.ntmps121
    go_wp2_with fail
    refine (hIF.out).mono ?_
    rintro e w1 ⟨rfl, hx⟩
    go_wp2
    go_ret
    exact ⟨n, rfl, HO.out.ext hx, Nat.le_refl _, ⟨World.grownBy.os hx, World.grownBy.tape hx, World.grownBy.output hx, hx.size, fun i hi _ => hx.block i hi⟩⟩
  · obtain ⟨hl, ⟨rfl, h0, rfl⟩ | ⟨g, cur, rfl, hb, hg, hnc, hcm, hcs, ht⟩⟩ := ho
    · have := (List.getElem?_eq_some_iff.1 hx0).1
      omega
    have hk0 : k0 < n := by have := (List.getElem?_eq_some_iff.1 hx0).1; omega
    rw [e1] at hIF
    have hK0 : (L.take k0).filter (fun x => !p x) = L.take k0 := List.filter_eq_self.2 fun x hx => by simp [hall x hx]
    have hK1 : (L.take (k0 + 1)).filter (fun x => !p x) = L.take k0 := by rw [filt_drop (by omega) (by rw [nth_of hx0]; simp [ht0]), hK0]
    have hcs0 : ∀ j, j < n → cur[j * 3]? = some (.int .i64 (nth L j).port) ∧ cur[j * 3 + 1]? = some (.int .i64 (nth L j).to_.addr) ∧ cur[j * 3 + 2]? = some (.int .i64 (nth L j).to_.port) := by
      intro j hj
      have key : ∀ q u, (encC (nth L j))[q]? = some u → cur[j * 3 + q]? = some u := by
        intro q u hu
        have hq : q < 3 := by have := (List.getElem?_eq_some_iff.1 hu).1; simpa [encC] using this
        have h1 := flat_at encC_len L j _ (nth_some (by omega)) q u hu
        rw [← ht, List.getElem?_take, if_pos (by omega)] at h1
        simpa using h1
      exact ⟨key 0 _ rfl, key 1 _ rfl, key 2 _ rfl⟩
    have hfin0 : cur.toList.take (k0 * 3) = (L.take k0).flatMap encC := by
      have e : (L.take k0).flatMap encC = (L.flatMap encC).take (k0 * 3) := by
        have h1 : L.flatMap encC = (L.take k0).flatMap encC ++ (L.drop k0).flatMap encC := by rw [← List.flatMap_append, List.take_append_drop]
        rw [h1, List.take_left' (by rw [flat_len encC_len, List.length_take]; congr 1; omega)]
      rw [e, ← ht, List.take_take]
      congr 1
      omega
    have HC := Lib.hid hcall
    have HS := Lib.hid hcs0
    have HK := Lib.hid (show (L.take k0).length = k0 by rw [List.length_take]; omega)
    have HF := Lib.hid (And.intro hK1 hfin0)
    have HM := Lib.hid (show ∀ j, j < n → nth L j ∈ L from fun j hj => nth_mem (by omega))
    have HL := Lib.hid hl
    have HB := Lib.hid (show Blk w g 115 cur from hg)
    have hle := hs.le
    clear hs hcall hcs0 hx0 ht0 hall hK0 hK1 hfin0 hl ht hg e1
    go_enter Try.func121, Try.ntmps121
    go_wp2_with fail
    refine (hIF.out).mono ?_
    rintro e w1 ⟨rfl, hx1⟩
    have hne1 : ((k0 : Int) == -1) = false := beq_eq_false_iff_ne.2 (by omega)
    have X1 := RExt.of_ext hx1 g
    have B1 := (HB.out).ext hx1
    clear hx1
    go_wp2
    go_loopw [5, 6, 7] (fun v5 v6 _ wr => ∃ (i j : Nat) (ck : Array Value) (K : List ConD), v5 = .int .i64 i ∧ v6 = .int .i64 j ∧ i < j ∧ j ≤ n ∧ K.length = i ∧ K = (L.take j).filter (fun x => !p x) ∧ Blk wr g 115 ck ∧ ck.size = cur.size ∧ ck.toList.take (i * 3) = K.flatMap encC ∧ (∀ q, j * 3 ≤ q → ck[q]? = cur[q]?) ∧ RExt g w wr) (fun _ v6 _ _ => n - (intOf v6).toNat)
    case atStart => exact ⟨k0, k0 + 1, cur, L.take k0, rfl, by go_num, by omega, by omega, HK.out, HF.out.1.symm, B1, rfl, HF.out.2, fun _ _ => rfl, X1⟩
    case round =>
      clear X1 B1
      obtain ⟨i, j, ck, K, rfl, rfl, hij, hj, hKl, hK, B, hcz, hct, hcr, X⟩ := hrel
      by_cases hlt : j < n
      · obtain ⟨s0, s1, s2⟩ := HS.out j hlt
        have d0 : wr.cell? ⟨g, j * 3, none⟩ = some (.int .i64 (nth L j).port) := by rw [B.cells, hcr _ (Nat.le_refl _)]; exact s0
        have d1 : wr.cell? ⟨g, j * 3 + 1, none⟩ = some (.int .i64 (nth L j).to_.addr) := by rw [B.cells, hcr _ (by omega)]; exact s1
        have d2 : wr.cell? ⟨g, j * 3 + 2, none⟩ = some (.int .i64 (nth L j).to_.port) := by rw [B.cells, hcr _ (by omega)]; exact s2
        have zg := B.lt
        have hcl := fun W (hW : RExt g w W) => HC.out (nth L j) (HM.out j hlt) W hW
        have HCR := Lib.hid hcr
        have HCT := Lib.hid hct
        have HKK := Lib.hid hK
        have HCZ := Lib.hid hcz
        clear s0 s1 s2 hcr hct hK hcz
        cases hp : p (nth L j) with
        | true =>
          rw [hp] at hcl
          replace hcl := Lib.hid hcl
          replace hp := Lib.hid hp
          go_wp2_with fail
          refine (hcl.out _ (by repeat (first | (with_reducible exact RExt.refl _ _) | (with_reducible assumption) | (with_reducible refine RExt.alloc ?_ _) | (with_reducible refine RExt.drewN ?_ _) | (with_reducible refine RExt.drew ?_) | (with_reducible refine RExt.setCell ?_ (.inr ?_) _; rotate_left; (simp only []; omega)) | (with_reducible refine RExt.trans ?_ (by assumption)) | (with_reducible refine RExt.ext ?_ (by assumption))))).mono ?_
          rintro e w2 ⟨rfl, hx2⟩
          have X2 : RExt g w w2 := (by repeat (first | (with_reducible exact RExt.refl _ _) | (with_reducible assumption) | (with_reducible refine RExt.alloc ?_ _) | (with_reducible refine RExt.drewN ?_ _) | (with_reducible refine RExt.drew ?_) | (with_reducible refine RExt.setCell ?_ (.inr ?_) _; rotate_left; (simp only []; omega)) | (with_reducible refine RExt.trans ?_ (by assumption)) | (with_reducible refine RExt.ext ?_ (by assumption))))
          have B2 := Blk.ext (by exact (by repeat (first | (with_reducible assumption) | (with_reducible exact Blk.new _ _ _) | exact Blk.newAt _ _ _ (by simp) | (with_reducible refine Blk.alloc ?_ _) | (with_reducible refine Blk.drew ?_) | (with_reducible refine Blk.drewN ?_ _) | refine Blk.far ?_ (by simp only []; omega) _ | refine Blk.rext ?_ (by assumption) (by omega) | refine Blk.ext ?_ (by assumption)))) hx2 (T := 115) (b := g) (cs := ck)
          clear hx2
          go_wp2
          go_roundw
          case rel => exact ⟨i, j + 1, ck, K, rfl, by go_num, by omega, by omega, hKl, by rw [HKK.out, filt_drop (by rw [HL.out]; exact hlt) (by simp [hp.out])], B2, HCZ.out, HCT.out, fun q hq => HCR.out q (by omega), X2⟩
          case measure => simp [intOf]; omega
        | false =>
          rw [hp] at hcl
          replace hcl := Lib.hid hcl
          replace hp := Lib.hid hp
          go_wp2_with fail
          refine (hcl.out _ (by repeat (first | (with_reducible exact RExt.refl _ _) | (with_reducible assumption) | (with_reducible refine RExt.alloc ?_ _) | (with_reducible refine RExt.drewN ?_ _) | (with_reducible refine RExt.drew ?_) | (with_reducible refine RExt.setCell ?_ (.inr ?_) _; rotate_left; (simp only []; omega)) | (with_reducible refine RExt.trans ?_ (by assumption)) | (with_reducible refine RExt.ext ?_ (by assumption))))).mono ?_
          rintro e w2 ⟨rfl, hx2⟩
          have X2 : RExt g w w2 := (by repeat (first | (with_reducible exact RExt.refl _ _) | (with_reducible assumption) | (with_reducible refine RExt.alloc ?_ _) | (with_reducible refine RExt.drewN ?_ _) | (with_reducible refine RExt.drew ?_) | (with_reducible refine RExt.setCell ?_ (.inr ?_) _; rotate_left; (simp only []; omega)) | (with_reducible refine RExt.trans ?_ (by assumption)) | (with_reducible refine RExt.ext ?_ (by assumption))))
          have B2 := Blk.ext (by exact (by repeat (first | (with_reducible assumption) | (with_reducible exact Blk.new _ _ _) | exact Blk.newAt _ _ _ (by simp) | (with_reducible refine Blk.alloc ?_ _) | (with_reducible refine Blk.drew ?_) | (with_reducible refine Blk.drewN ?_ _) | refine Blk.far ?_ (by simp only []; omega) _ | refine Blk.rext ?_ (by assumption) (by omega) | refine Blk.ext ?_ (by assumption)))) hx2 (T := 115) (b := g) (cs := ck)
          have BT : Blk w2 wr.heap.size 115 #[.int .i64 (nth L j).port, .int .i64 (nth L j).to_.addr, .int .i64 (nth L j).to_.port] := by refine Blk.ext ?_ hx2; exact (by repeat (first | (with_reducible assumption) | (with_reducible exact Blk.new _ _ _) | exact Blk.newAt _ _ _ (by simp) | (with_reducible refine Blk.alloc ?_ _) | (with_reducible refine Blk.drew ?_) | (with_reducible refine Blk.drewN ?_ _) | refine Blk.far ?_ (by simp only []; omega) _ | refine Blk.rext ?_ (by assumption) (by omega) | refine Blk.ext ?_ (by assumption)))
          clear hx2
          have cT := BT.cells
          have fT := BT.frozens
          have zT := BT.lt
          obtain ⟨v0, c0⟩ : ∃ v, w2.cell? ⟨g, i * 3, none⟩ = some v := ⟨_, by rw [B2.cells]; exact Array.getElem?_eq_getElem (by rw [HCZ.out]; omega)⟩
          obtain ⟨v1, c1⟩ : ∃ v, w2.cell? ⟨g, i * 3 + 1, none⟩ = some v := ⟨_, by rw [B2.cells]; exact Array.getElem?_eq_getElem (by rw [HCZ.out]; omega)⟩
          obtain ⟨v2, c2⟩ : ∃ v, w2.cell? ⟨g, i * 3 + 2, none⟩ = some v := ⟨_, by rw [B2.cells]; exact Array.getElem?_eq_getElem (by rw [HCZ.out]; omega)⟩
          have fB := B2.frozens
          have zB := B2.lt
          go_wp2
          go_roundw
          case rel =>
            refine ⟨i + 1, j + 1, _, K ++ [nth L j], by go_num, by go_num, by omega, by omega, by simp [hKl], by rw [HKK.out, filt_keep (by rw [HL.out]; exact hlt) (by simp [hp.out])], ((B2.set _ _).set _ _).set _ _, by simpa using HCZ.out, put_three (by rw [HCZ.out]; omega) HCT.out, fun q hq => ?_, ?_⟩
            · rw [Array.getElem?_setIfInBounds_ne (by omega), Array.getElem?_setIfInBounds_ne (by omega), Array.getElem?_setIfInBounds_ne (by omega)]
              exact HCR.out q (by omega)
            · exact ((X2.setCell (.inl rfl) _).setCell (.inl rfl) _).setCell (.inl rfl) _
          case measure => simp [intOf]; omega
      · have e : j = n := by omega
        subst e
        obtain ⟨W', cur', hclr, B', hz', hlow, X'⟩ := run_clear_blk eiC zero1_C wr g (i * 3) (j - i) (c - i) ck B (by omega) (by omega)
        have hdr := run_drop_C g j c i hij hnc
        have htk := run_take_C (some ⟨g, 0, none⟩) j c i (by omega)
        have HR := Lib.hid (X.trans X')
        have HOW := Lib.hid (show Ow 115 encC 3 base W' (some ⟨g, 0, none⟩) i c K by
          refine ⟨hKl, .inr ⟨g, cur', rfl, hb, B', by omega, hcm, by omega, ?_⟩⟩
          rw [← hct]
          apply List.ext_getElem?
          intro q
          rw [List.getElem?_take, List.getElem?_take]
          split
          · have := hlow q (by omega)
            simpa using this
          · rfl)
        rw [List.take_of_length_le (by rw [HL.out]; omega)] at hK
        clear B' hz' hlow X' hcr hct X B hcz
        go_wp2
        go_ret
        exact ⟨i, rfl, hK ▸ HOW.out, by omega, HR.out⟩
theorem put_four {cur : Array Value} {i : Nat} {K : List MapD} {x : MapD} (hlt : i * 4 + 3 < cur.size) (h2 : cur.toList.take (i * 4) = K.flatMap encM) :
    ((((cur.setIfInBounds (i * 4) (.int .i64 x.ins.addr)).setIfInBounds (i * 4 + 1) (.int .i64 x.ins.port)).setIfInBounds (i * 4 + 2) (.int .i64 x.port)).setIfInBounds (i * 4 + 3) (.int .i64 x.last)).toList.take ((i + 1) * 4) = (K ++ [x]).flatMap encM := by
  rw [show (i + 1) * 4 = i * 4 + 3 + 1 by omega]
  simp only [Array.toList_setIfInBounds]
  rw [set_take (by simp; omega), set_take (by simp; omega), set_take (by simp; omega), set_take (by simp; omega), h2]
  simp [encM]
set_option maxHeartbeats 2000000 in
theorem DeleteFunc_M (g0 : FuncId) (lb : Array Value) (eg : ∀ args w, (callFunc g0 args).run Try.prog w = .ok (.enter g0 args) w) (p : MapD → Bool) (a : Option Addr) (n c base : Nat) (L : List MapD) (w : World) (ho : Ow 102 encM 4 base w a n c L) (hn : n ≤ 1000)
    (hcall : ∀ x, x ∈ L → ∀ W, w.grownBy W (a.map (·.block)) → Calls Try.prog g0 (#[.agg #[.int .i64 x.ins.addr, .int .i64 x.ins.port, .int .i64 x.port, .int .i64 x.last]] ++ lb) W fun e w' => e = .returned (.bool (p x)) ∧ Ext W w') :
    Calls Try.prog 125 #[.slice a n c, .func (.func g0) #[] lb] w fun e w' => ∃ m, e = .returned (.slice a m c) ∧ Ow 102 encM 4 base w' a m c (L.filter fun x => !p x) ∧ m ≤ n ∧ w.grownBy w' (a.map (·.block)) := by
  have hs := ho.sl encM_len
  have hIF := Lib.hid (IndexFunc_M g0 lb eg p a n c L w hs (fun x hx W hW => hcall x hx W (by
    obtain ⟨h1, h2, h3, h4, h5⟩ := hW
    exact ⟨h1, h2, h3, h4, fun i hi _ => h5 i hi (by simp)⟩)))
  rcases ix_cases p L with ⟨e1, hall⟩ | ⟨k0, x0, e1, hx0, ht0, hall⟩
  · rw [e1] at hIF
    have hf : L.filter (fun x => !p x) = L := List.filter_eq_self.2 fun x hx => by simp [hall x hx]
    rw [hf]
    have HO := Lib.hid ho
    clear ho hs hcall hall
    go_enter Try.func125, Try.ntmps125
    go_wp2_with fail
    refine (hIF.out).mono ?_
    rintro e w1 ⟨rfl, hx⟩
    go_wp2
    go_ret
    exact ⟨n, rfl, HO.out.ext hx, Nat.le_refl _, ⟨World.grownBy.os hx, World.grownBy.tape hx, World.grownBy.output hx, hx.size, fun i hi _ => hx.block i hi⟩⟩
  · obtain ⟨hl, ⟨rfl, h0, rfl⟩ | ⟨g, cur, rfl, hb, hg, hnc, hcm, hcs, ht⟩⟩ := ho
    · have := (List.getElem?_eq_some_iff.1 hx0).1
      omega
    have hk0 : k0 < n := by have := (List.getElem?_eq_some_iff.1 hx0).1; omega
    rw [e1] at hIF
    have hK0 : (L.take k0).filter (fun x => !p x) = L.take k0 := List.filter_eq_self.2 fun x hx => by simp [hall x hx]
    have hK1 : (L.take (k0 + 1)).filter (fun x => !p x) = L.take k0 := by rw [filt_drop (by omega) (by rw [nth_of hx0]; simp [ht0]), hK0]
    have hcs0 : ∀ j, j < n → cur[j * 4]? = some (.int .i64 (nth L j).ins.addr) ∧ cur[j * 4 + 1]? = some (.int .i64 (nth L j).ins.port) ∧ cur[j * 4 + 2]? = some (.int .i64 (nth L j).port) ∧ cur[j * 4 + 3]? = some (.int .i64 (nth L j).last) := by
      intro j hj
      have key : ∀ q u, (encM (nth L j))[q]? = some u → cur[j * 4 + q]? = some u := by
        intro q u hu
        have hq : q < 4 := by have := (List.getElem?_eq_some_iff.1 hu).1; simpa [encM] using this
        have h1 := flat_at encM_len L j _ (nth_some (by omega)) q u hu
        rw [← ht, List.getElem?_take, if_pos (by omega)] at h1
        simpa using h1
      exact ⟨key 0 _ rfl, key 1 _ rfl, key 2 _ rfl, key 3 _ rfl⟩
    have hfin0 : cur.toList.take (k0 * 4) = (L.take k0).flatMap encM := by
      have e : (L.take k0).flatMap encM = (L.flatMap encM).take (k0 * 4) := by
        have h1 : L.flatMap encM = (L.take k0).flatMap encM ++ (L.drop k0).flatMap encM := by rw [← List.flatMap_append, List.take_append_drop]
        rw [h1, List.take_left' (by rw [flat_len encM_len, List.length_take]; congr 1; omega)]
      rw [e, ← ht, List.take_take]
      congr 1
      omega
    have HC := Lib.hid hcall
    have HS := Lib.hid hcs0
    have HK := Lib.hid (show (L.take k0).length = k0 by rw [List.length_take]; omega)
    have HF := Lib.hid (And.intro hK1 hfin0)
    have HM := Lib.hid (show ∀ j, j < n → nth L j ∈ L from fun j hj => nth_mem (by omega))
    have HL := Lib.hid hl
    have HB := Lib.hid (show Blk w g 102 cur from hg)
    have hle := hs.le
    clear hs hcall hcs0 hx0 ht0 hall hK0 hK1 hfin0 hl ht hg e1
    go_enter Try.func125, Try.ntmps125
    go_wp2_with fail
    refine (hIF.out).mono ?_
    rintro e w1 ⟨rfl, hx1⟩
    have hne1 : ((k0 : Int) == -1) = false := beq_eq_false_iff_ne.2 (by omega)
    have X1 := RExt.of_ext hx1 g
    have B1 := (HB.out).ext hx1
    clear hx1
    go_wp2
    go_loopw [5, 6, 7] (fun v5 v6 _ wr => ∃ (i j : Nat) (ck : Array Value) (K : List MapD), v5 = .int .i64 i ∧ v6 = .int .i64 j ∧ i < j ∧ j ≤ n ∧ K.length = i ∧ K = (L.take j).filter (fun x => !p x) ∧ Blk wr g 102 ck ∧ ck.size = cur.size ∧ ck.toList.take (i * 4) = K.flatMap encM ∧ (∀ q, j * 4 ≤ q → ck[q]? = cur[q]?) ∧ RExt g w wr) (fun _ v6 _ _ => n - (intOf v6).toNat)
    case atStart => exact ⟨k0, k0 + 1, cur, L.take k0, rfl, by go_num, by omega, by omega, HK.out, HF.out.1.symm, B1, rfl, HF.out.2, fun _ _ => rfl, X1⟩
    case round =>
      clear X1 B1
      obtain ⟨i, j, ck, K, rfl, rfl, hij, hj, hKl, hK, B, hcz, hct, hcr, X⟩ := hrel
      by_cases hlt : j < n
      · obtain ⟨s0, s1, s2, s3⟩ := HS.out j hlt
        have d0 : wr.cell? ⟨g, j * 4, none⟩ = some (.int .i64 (nth L j).ins.addr) := by rw [B.cells, hcr _ (Nat.le_refl _)]; exact s0
        have d1 : wr.cell? ⟨g, j * 4 + 1, none⟩ = some (.int .i64 (nth L j).ins.port) := by rw [B.cells, hcr _ (by omega)]; exact s1
        have d2 : wr.cell? ⟨g, j * 4 + 2, none⟩ = some (.int .i64 (nth L j).port) := by rw [B.cells, hcr _ (by omega)]; exact s2
        have d3 : wr.cell? ⟨g, j * 4 + 3, none⟩ = some (.int .i64 (nth L j).last) := by rw [B.cells, hcr _ (by omega)]; exact s3
        have zg := B.lt
        have hcl := fun W (hW : RExt g w W) => HC.out (nth L j) (HM.out j hlt) W hW
        have HCR := Lib.hid hcr
        have HCT := Lib.hid hct
        have HKK := Lib.hid hK
        have HCZ := Lib.hid hcz
        clear s0 s1 s2 s3 hcr hct hK hcz
        cases hp : p (nth L j) with
        | true =>
          rw [hp] at hcl
          replace hcl := Lib.hid hcl
          replace hp := Lib.hid hp
          go_wp2_with fail
          refine (hcl.out _ (by repeat (first | (with_reducible exact RExt.refl _ _) | (with_reducible assumption) | (with_reducible refine RExt.alloc ?_ _) | (with_reducible refine RExt.drewN ?_ _) | (with_reducible refine RExt.drew ?_) | (with_reducible refine RExt.setCell ?_ (.inr ?_) _; rotate_left; (simp only []; omega)) | (with_reducible refine RExt.trans ?_ (by assumption)) | (with_reducible refine RExt.ext ?_ (by assumption))))).mono ?_
          rintro e w2 ⟨rfl, hx2⟩
          have X2 : RExt g w w2 := (by repeat (first | (with_reducible exact RExt.refl _ _) | (with_reducible assumption) | (with_reducible refine RExt.alloc ?_ _) | (with_reducible refine RExt.drewN ?_ _) | (with_reducible refine RExt.drew ?_) | (with_reducible refine RExt.setCell ?_ (.inr ?_) _; rotate_left; (simp only []; omega)) | (with_reducible refine RExt.trans ?_ (by assumption)) | (with_reducible refine RExt.ext ?_ (by assumption))))
          have B2 := Blk.ext (by exact (by repeat (first | (with_reducible assumption) | (with_reducible exact Blk.new _ _ _) | exact Blk.newAt _ _ _ (by simp) | (with_reducible refine Blk.alloc ?_ _) | (with_reducible refine Blk.drew ?_) | (with_reducible refine Blk.drewN ?_ _) | refine Blk.far ?_ (by simp only []; omega) _ | refine Blk.rext ?_ (by assumption) (by omega) | refine Blk.ext ?_ (by assumption)))) hx2 (T := 102) (b := g) (cs := ck)
          clear hx2
          go_wp2
          go_roundw
          case rel => exact ⟨i, j + 1, ck, K, rfl, by go_num, by omega, by omega, hKl, by rw [HKK.out, filt_drop (by rw [HL.out]; exact hlt) (by simp [hp.out])], B2, HCZ.out, HCT.out, fun q hq => HCR.out q (by omega), X2⟩
          case measure => simp [intOf]; omega
        | false =>
          rw [hp] at hcl
          replace hcl := Lib.hid hcl
          replace hp := Lib.hid hp
          go_wp2_with fail
          refine (hcl.out _ (by repeat (first | (with_reducible exact RExt.refl _ _) | (with_reducible assumption) | (with_reducible refine RExt.alloc ?_ _) | (with_reducible refine RExt.drewN ?_ _) | (with_reducible refine RExt.drew ?_) | (with_reducible refine RExt.setCell ?_ (.inr ?_) _; rotate_left; (simp only []; omega)) | (with_reducible refine RExt.trans ?_ (by assumption)) | (with_reducible refine RExt.ext ?_ (by assumption))))).mono ?_
          rintro e w2 ⟨rfl, hx2⟩
          have X2 : RExt g w w2 := (by repeat (first | (with_reducible exact RExt.refl _ _) | (with_reducible assumption) | (with_reducible refine RExt.alloc ?_ _) | (with_reducible refine RExt.drewN ?_ _) | (with_reducible refine RExt.drew ?_) | (with_reducible refine RExt.setCell ?_ (.inr ?_) _; rotate_left; (simp only []; omega)) | (with_reducible refine RExt.trans ?_ (by assumption)) | (with_reducible refine RExt.ext ?_ (by assumption))))
          have B2 := Blk.ext (by exact (by repeat (first | (with_reducible assumption) | (with_reducible exact Blk.new _ _ _) | exact Blk.newAt _ _ _ (by simp) | (with_reducible refine Blk.alloc ?_ _) | (with_reducible refine Blk.drew ?_) | (with_reducible refine Blk.drewN ?_ _) | refine Blk.far ?_ (by simp only []; omega) _ | refine Blk.rext ?_ (by assumption) (by omega) | refine Blk.ext ?_ (by assumption)))) hx2 (T := 102) (b := g) (cs := ck)
          have BT : Blk w2 wr.heap.size 102 #[.int .i64 (nth L j).ins.addr, .int .i64 (nth L j).ins.port, .int .i64 (nth L j).port, .int .i64 (nth L j).last] := by refine Blk.ext ?_ hx2; exact (by repeat (first | (with_reducible assumption) | (with_reducible exact Blk.new _ _ _) | exact Blk.newAt _ _ _ (by simp) | (with_reducible refine Blk.alloc ?_ _) | (with_reducible refine Blk.drew ?_) | (with_reducible refine Blk.drewN ?_ _) | refine Blk.far ?_ (by simp only []; omega) _ | refine Blk.rext ?_ (by assumption) (by omega) | refine Blk.ext ?_ (by assumption)))
          clear hx2
          have cT := BT.cells
          have fT := BT.frozens
          have zT := BT.lt
          obtain ⟨v0, c0⟩ : ∃ v, w2.cell? ⟨g, i * 4, none⟩ = some v := ⟨_, by rw [B2.cells]; exact Array.getElem?_eq_getElem (by rw [HCZ.out]; omega)⟩
          obtain ⟨v1, c1⟩ : ∃ v, w2.cell? ⟨g, i * 4 + 1, none⟩ = some v := ⟨_, by rw [B2.cells]; exact Array.getElem?_eq_getElem (by rw [HCZ.out]; omega)⟩
          obtain ⟨v2, c2⟩ : ∃ v, w2.cell? ⟨g, i * 4 + 2, none⟩ = some v := ⟨_, by rw [B2.cells]; exact Array.getElem?_eq_getElem (by rw [HCZ.out]; omega)⟩
          obtain ⟨v3, c3⟩ : ∃ v, w2.cell? ⟨g, i * 4 + 3, none⟩ = some v := ⟨_, by rw [B2.cells]; exact Array.getElem?_eq_getElem (by rw [HCZ.out]; omega)⟩
          have fB := B2.frozens
          have zB := B2.lt
          go_wp2
          go_roundw
          case rel =>
            refine ⟨i + 1, j + 1, _, K ++ [nth L j], by go_num, by go_num, by omega, by omega, by simp [hKl], by rw [HKK.out, filt_keep (by rw [HL.out]; exact hlt) (by simp [hp.out])], (((B2.set _ _).set _ _).set _ _).set _ _, by simpa using HCZ.out, put_four (by rw [HCZ.out]; omega) HCT.out, fun q hq => ?_, ?_⟩
            · rw [Array.getElem?_setIfInBounds_ne (by omega), Array.getElem?_setIfInBounds_ne (by omega), Array.getElem?_setIfInBounds_ne (by omega), Array.getElem?_setIfInBounds_ne (by omega)]
              exact HCR.out q (by omega)
            · exact (((X2.setCell (.inl rfl) _).setCell (.inl rfl) _).setCell (.inl rfl) _).setCell (.inl rfl) _
          case measure => simp [intOf]; omega
      · have e : j = n := by omega
        subst e
        obtain ⟨W', cur', hclr, B', hz', hlow, X'⟩ := run_clear_blk eiM zero1_M wr g (i * 4) (j - i) (c - i) ck B (by omega) (by omega)
        have hdr := run_drop_M g j c i hij hnc
        have htk := run_take_M (some ⟨g, 0, none⟩) j c i (by omega)
        have HR := Lib.hid (X.trans X')
        have HOW := Lib.hid (show Ow 102 encM 4 base W' (some ⟨g, 0, none⟩) i c K by
          refine ⟨hKl, .inr ⟨g, cur', rfl, hb, B', by omega, hcm, by omega, ?_⟩⟩
          rw [← hct]
          apply List.ext_getElem?
          intro q
          rw [List.getElem?_take, List.getElem?_take]
          split
          · have := hlow q (by omega)
            simpa using this
          · rfl)
        rw [List.take_of_length_le (by rw [HL.out]; omega)] at hK
        clear B' hz' hlow X' hcr hct X B hcz
        go_wp2
        go_ret
        exact ⟨i, rfl, hK ▸ HOW.out, by omega, HR.out⟩
end Go.Proofs.Ytafmomocmodbhaa
/- The first package's time steps. -/
namespace Go.Proofs.Ytafmomocmodbhaa
set_option linter.unusedVariables false
set_option linter.unusedSimpArgs false
open Go.RowKit Go.Shelf

theorem RExt.toExt {a b c : World} {row : Option Nat} (h : Ext a b) (k : b.grownBy c row) (hr : ∀ g, row = some g → a.heap.size ≤ g) : Ext a c := h.grown k hr
theorem clo_without (q : Int) (x : ConD) (G : Nat) (W : World) (hB : Blk W G 3 #[.int .i64 q]) :
    Calls Try.prog 123 (#[.agg #[.int .i64 x.port, .int .i64 x.to_.addr, .int .i64 x.to_.port]] ++ #[.pointer (some ⟨G, 0, none⟩)]) W fun r w' => r = .returned (.bool (decide (x.port = q))) ∧ Ext W w' := by
  show Calls Try.prog 123 #[.agg #[.int .i64 x.port, .int .i64 x.to_.addr, .int .i64 x.to_.port], .pointer (some ⟨G, 0, none⟩)] W _
  have hcB := hB.cells
  have hzB := hB.lt
  clear hB
  go_enter Try.func123, Try.ntmps123
  go_wp2
  go_ret
  exact ⟨rfl, (by repeat (first | (with_reducible exact Ext.refl _) | (with_reducible assumption) | (with_reducible refine Ext.alloc ?_ _) | (with_reducible refine Ext.drewN ?_ _) | (with_reducible refine Ext.drew ?_) | (with_reducible refine Ext.setCell ?_ ?_ _; rotate_left; (simp only []; omega)) | (with_reducible refine Ext.trans ?_ (by assumption))))⟩
theorem impl_without (a : Option Addr) (n c : Nat) (L : List ConD) (q : Int) (w : World) (hs : Sl encC 3 w a n c L) (hn : n ≤ 1000) :
    Calls Try.prog 66 #[.slice a n c, .int .i64 q] w fun e w' => ∃ a' m, e = .returned (.slice a' m m) ∧ Ow 115 encC 3 w.heap.size w' a' m m (without L q) ∧ m ≤ n ∧ Ext w w' := by
  have e1 : ∀ args w, (callFunc 123 args).run Try.prog w = .ok (.enter 123 args) w := enters_of Try.func123 (by kernel_rfl) rfl
  go_enter Try.func66, Try.ntmps66
  go_wp2_with fail
  refine (Clone_C a n c L _ (by exact hs.ext (by repeat (first | (with_reducible exact Ext.refl _) | (with_reducible assumption) | (with_reducible refine Ext.alloc ?_ _) | (with_reducible refine Ext.drewN ?_ _) | (with_reducible refine Ext.drew ?_) | (with_reducible refine Ext.setCell ?_ ?_ _; rotate_left; (simp only []; omega)) | (with_reducible refine Ext.trans ?_ (by assumption))))) (by omega)).mono ?_
  rintro e w1 ⟨a1, c1, rfl, hown, hx1⟩
  have hO1 := (Ow.of_row hown encC_len (by omega)).rebase (b' := w.heap.size + 1) (by simp)
  have BQ : Blk w1 w.heap.size 3 #[.int .i64 q] := by refine Blk.ext ?_ hx1; exact (by repeat (first | (with_reducible assumption) | (with_reducible exact Blk.new _ _ _) | exact Blk.newAt _ _ _ (by simp) | (with_reducible refine Blk.alloc ?_ _) | (with_reducible refine Blk.drew ?_) | (with_reducible refine Blk.drewN ?_ _) | refine Blk.far ?_ (by simp only []; omega) _ | refine Blk.rext ?_ (by assumption) (by omega) | refine Blk.ext ?_ (by assumption)))
  have X1 : Ext w w1 := (by repeat (first | (with_reducible exact Ext.refl _) | (with_reducible assumption) | (with_reducible refine Ext.alloc ?_ _) | (with_reducible refine Ext.drewN ?_ _) | (with_reducible refine Ext.drew ?_) | (with_reducible refine Ext.setCell ?_ ?_ _; rotate_left; (simp only []; omega)) | (with_reducible refine Ext.trans ?_ (by assumption))))
  have l1 := hO1.lt
  clear hx1 hown
  go_wp2_with fail
  refine (DeleteFunc_C 123 _ e1 (fun x => decide (x.port = q)) a1 n c1 (w.heap.size + 1) L w1 hO1 hn (fun x _ W hW => clo_without q x w.heap.size W (BQ.grown hW (row_ne fun y e => by have := (l1 y e).1; omega)))).mono ?_
  rintro e w2 ⟨m, rfl, hO2, hm, hg2⟩
  have X2 : Ext w w2 := X1.grown hg2 (fun g e => by
    cases a1 with
    | none => cases e
    | some y => have := (l1 y rfl).1; simp at e; omega)
  clear hg2 e1
  go_wp2_with fail
  refine (Clip_C a1 m c1 _ _ _ hO2 (by omega)).mono ?_
  rintro e w3 ⟨rfl, rfl⟩
  go_wp2
  go_ret
  exact ⟨a1, m, rfl, (hO2.clip).rebase (by omega), hm, X2⟩
theorem clo_expire (now hold : Int) (m : MapD) (G H : Nat) (W : World) (hB : Blk W G 3 #[.int .i64 now]) (hC : Blk W H 3 #[.int .i64 hold]) (l0 : 0 ≤ m.last) (l1 : m.last ≤ 10000) (n0 : 0 ≤ now) (n1 : now ≤ 10000) :
    Calls Try.prog 127 (#[.agg #[.int .i64 m.ins.addr, .int .i64 m.ins.port, .int .i64 m.port, .int .i64 m.last]] ++ #[.pointer (some ⟨G, 0, none⟩), .pointer (some ⟨H, 0, none⟩)]) W fun r w' => r = .returned (.bool (expired m now hold)) ∧ Ext W w' := by
  show Calls Try.prog 127 #[.agg #[.int .i64 m.ins.addr, .int .i64 m.ins.port, .int .i64 m.port, .int .i64 m.last], .pointer (some ⟨G, 0, none⟩), .pointer (some ⟨H, 0, none⟩)] W _
  have hcB := hB.cells
  have hzB := hB.lt
  have hcC := hC.cells
  have hzC := hC.lt
  clear hB hC
  go_enter Try.func127, Try.ntmps127
  go_wp2_with (go_at_call 110; refine (impl_expired m _ _ _ l0 l1 n0 n1).mono ?_; rintro e w1 ⟨rfl, hx⟩; have hc := hx.cells; have hf := hx.frozens; have hy := hx.size; (try simp at hy); have hz : W.heap.size < w1.heap.size := (by omega))
  go_ret
  exact ⟨rfl, (by repeat (first | (with_reducible exact Ext.refl _) | (with_reducible assumption) | (with_reducible refine Ext.alloc ?_ _) | (with_reducible refine Ext.drewN ?_ _) | (with_reducible refine Ext.drew ?_) | (with_reducible refine Ext.setCell ?_ ?_ _; rotate_left; (simp only []; omega)) | (with_reducible refine Ext.trans ?_ (by assumption))))⟩
theorem impl_ExpireTable (a : Option Addr) (n c : Nat) (L : List MapD) (now hold : Int) (w : World) (hs : Sl encM 4 w a n c L) (hn : n ≤ 1000) (hv : validTable L = true) (ht : timer now hold = true) (hl : ∀ m ∈ L, 0 ≤ m.last ∧ m.last ≤ 10000) (n0 : 0 ≤ now) (n1 : now ≤ 10000) :
    Calls Try.prog 67 #[.slice a n c, .int .i64 now, .int .i64 hold] w fun e w' => ∃ a' m, e = .returned (.slice a' m m) ∧ Ow 102 encM 4 w.heap.size w' a' m m (expire L now hold) ∧ m ≤ n ∧ Ext w w' := by
  have e1 : ∀ args w, (callFunc 127 args).run Try.prog w = .ok (.enter 127 args) w := enters_of Try.func127 (by kernel_rfl) rfl
  have hv1 := fun W h => impl_timed a n c L now hold W h
  rw [hv, ht] at hv1
  replace hv1 := Lib.hid hv1
  have HL := Lib.hid hl
  clear hl
  go_enter Try.func67, Try.ntmps67
  go_wp2_with fail
  refine (hv1.out _ (by exact hs.ext (by repeat (first | (with_reducible exact Ext.refl _) | (with_reducible assumption) | (with_reducible refine Ext.alloc ?_ _) | (with_reducible refine Ext.drewN ?_ _) | (with_reducible refine Ext.drew ?_) | (with_reducible refine Ext.setCell ?_ ?_ _; rotate_left; (simp only []; omega)) | (with_reducible refine Ext.trans ?_ (by assumption)))))).mono ?_
  rintro e w1 ⟨rfl, hx1⟩
  have BQ : Blk w1 w.heap.size 3 #[.int .i64 now] := by refine Blk.ext ?_ hx1; exact (by repeat (first | (with_reducible assumption) | (with_reducible exact Blk.new _ _ _) | exact Blk.newAt _ _ _ (by simp) | (with_reducible refine Blk.alloc ?_ _) | (with_reducible refine Blk.drew ?_) | (with_reducible refine Blk.drewN ?_ _) | refine Blk.far ?_ (by simp only []; omega) _ | refine Blk.rext ?_ (by assumption) (by omega) | refine Blk.ext ?_ (by assumption)))
  have BH : Blk w1 (w.heap.size + 1) 3 #[.int .i64 hold] := by refine Blk.ext ?_ hx1; exact (by repeat (first | (with_reducible assumption) | (with_reducible exact Blk.new _ _ _) | exact Blk.newAt _ _ _ (by simp) | (with_reducible refine Blk.alloc ?_ _) | (with_reducible refine Blk.drew ?_) | (with_reducible refine Blk.drewN ?_ _) | refine Blk.far ?_ (by simp only []; omega) _ | refine Blk.rext ?_ (by assumption) (by omega) | refine Blk.ext ?_ (by assumption)))
  have X1 : Ext w w1 := (by repeat (first | (with_reducible exact Ext.refl _) | (with_reducible assumption) | (with_reducible refine Ext.alloc ?_ _) | (with_reducible refine Ext.drewN ?_ _) | (with_reducible refine Ext.drew ?_) | (with_reducible refine Ext.setCell ?_ ?_ _; rotate_left; (simp only []; omega)) | (with_reducible refine Ext.trans ?_ (by assumption))))
  have z1 := BH.lt
  clear hx1
  go_wp2_with fail
  refine (Clone_M a n c L _ (by exact hs.ext (by repeat (first | (with_reducible exact Ext.refl _) | (with_reducible assumption) | (with_reducible refine Ext.alloc ?_ _) | (with_reducible refine Ext.drewN ?_ _) | (with_reducible refine Ext.drew ?_) | (with_reducible refine Ext.setCell ?_ ?_ _; rotate_left; (simp only []; omega)) | (with_reducible refine Ext.trans ?_ (by assumption))))) (by omega)).mono ?_
  rintro e w2 ⟨a1, c1, rfl, hown, hx2⟩
  have hO1 := (Ow.of_row hown encM_len (by omega)).rebase (b' := w.heap.size + 2) (by (try simp); omega)
  replace BQ := BQ.ext (show Ext w1 w2 from (by repeat (first | (with_reducible exact Ext.refl _) | (with_reducible assumption) | (with_reducible refine Ext.alloc ?_ _) | (with_reducible refine Ext.drewN ?_ _) | (with_reducible refine Ext.drew ?_) | (with_reducible refine Ext.setCell ?_ ?_ _; rotate_left; (simp only []; omega)) | (with_reducible refine Ext.trans ?_ (by assumption)))))
  replace BH := BH.ext (show Ext w1 w2 from (by repeat (first | (with_reducible exact Ext.refl _) | (with_reducible assumption) | (with_reducible refine Ext.alloc ?_ _) | (with_reducible refine Ext.drewN ?_ _) | (with_reducible refine Ext.drew ?_) | (with_reducible refine Ext.setCell ?_ ?_ _; rotate_left; (simp only []; omega)) | (with_reducible refine Ext.trans ?_ (by assumption)))))
  have X2 : Ext w w2 := (by repeat (first | (with_reducible exact Ext.refl _) | (with_reducible assumption) | (with_reducible refine Ext.alloc ?_ _) | (with_reducible refine Ext.drewN ?_ _) | (with_reducible refine Ext.drew ?_) | (with_reducible refine Ext.setCell ?_ ?_ _; rotate_left; (simp only []; omega)) | (with_reducible refine Ext.trans ?_ (by assumption))))
  have l1 := hO1.lt
  clear hx2 hown X1
  go_wp2_with fail
  refine (DeleteFunc_M 127 _ e1 (fun m => expired m now hold) a1 n c1 (w.heap.size + 2) L w2 hO1 hn (fun x hx W hW => clo_expire now hold x w.heap.size (w.heap.size + 1) W (BQ.grown hW (row_ne fun y e => by have := (l1 y e).1; omega)) (BH.grown hW (row_ne fun y e => by have := (l1 y e).1; omega)) (HL.out x hx).1 (HL.out x hx).2 n0 n1)).mono ?_
  rintro e w3 ⟨m, rfl, hO2, hm, hg2⟩
  have X3 : Ext w w3 := X2.grown hg2 (fun g e => by
    cases a1 with
    | none => cases e
    | some y => have := (l1 y rfl).1; simp at e; omega)
  clear hg2 e1
  go_wp2_with fail
  refine (Clip_M a1 m c1 _ _ _ hO2 (by omega)).mono ?_
  rintro e w4 ⟨rfl, rfl⟩
  go_wp2
  go_ret
  exact ⟨a1, m, rfl, (hO2.clip).rebase (by omega), hm, X3⟩
end Go.Proofs.Ytafmomocmodbhaa
