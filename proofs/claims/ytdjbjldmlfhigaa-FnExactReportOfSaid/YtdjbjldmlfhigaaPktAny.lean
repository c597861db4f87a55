/- Contracts of the generators: packets and reports that may be invalid. -/
import Derived.Test.YtdjbjldmlfhigaaPkt
namespace Go.Proofs.Ytdjbjldmlfhigaa
open Go.RowKit

set_option maxRecDepth 100000 in
set_option maxHeartbeats 2000000 in
theorem anyPacket_any (n0 B : Nat) (m : Int) (w : World) (hr : Rd n0 w B m) (hm : m + 100 ≤ 1000000) :
    Calls Try.prog 71 #[.pointer (some ⟨B, 0, none⟩)] w fun e w' => ∃ k fa fp ta tp a n c L, e = .returned (.agg #[.int .i64 k, .int .i64 fa, .int .i64 fp, .int .i64 ta, .int .i64 tp, .slice a n c]) ∧
      Sl encI 1 w' a n c L ∧ n ≤ 13 ∧ (∀ x, a = some x → w.heap.size ≤ x.block) ∧ Rd n0 w' B (m + 100) ∧ RExt B w w' := by
  have hnw : n0 ≤ w.heap.size := hr.le
  have hBw : B < w.heap.size := (by have := hr.lt; omega)
  go_enter Try.func71, Try.ntmps71
  go_wp2_with fail
  refine (somePacket_any n0 B m _ (by exact hr.to (by repeat (first | (with_reducible exact Since.refl hr.le) | (with_reducible refine Since.alloc ?_ _) | (with_reducible refine Since.drew ?_) | (with_reducible refine Since.drewN ?_ _) | (with_reducible refine Since.setCell ?_ ?_ _; rotate_left; (simp only []; omega)) | (with_reducible refine Since.ext ?_ (by assumption))))) (by omega)).mono ?_
  rintro e w1 ⟨k, fa, fp, ta, tp, a, n, c, L, rfl, hs, hv, hfr, hr1, hx1⟩
  have hz1 := hx1.size
  simp at hz1
  have hB0 : Blk w1 w.heap.size 48 #[.int .i64 0, .int .i64 0, .int .i64 0, .int .i64 0, .int .i64 0, .slice none 0 0] := by refine Blk.rext ?_ hx1 (by omega); exact (by repeat (first | (with_reducible assumption) | (with_reducible exact Blk.new _ _ _) | exact Blk.newAt _ _ _ (by simp) | (with_reducible refine Blk.alloc ?_ _) | (with_reducible refine Blk.drew ?_) | (with_reducible refine Blk.drewN ?_ _) | refine Blk.far ?_ (by simp only []; omega) _ | refine Blk.rext ?_ (by assumption) (by omega) | refine Blk.ext ?_ (by assumption)))
  have hn12 : n ≤ 12 := by
    have h1 := hs.len
    simp only [validPkt, Bool.and_eq_true, decide_eq_true_eq] at hv
    omega
  have hfr1 : ∀ x, a = some x → w.heap.size < x.block := by
    intro x hx
    have h2 := hfr x hx
    simp at h2
    omega
  have hfr' : 0 < n → ∀ x, a = some x → w.heap.size < x.block ∧ x.block < w1.heap.size := fun h x hx => ⟨hfr1 x hx, hs.lt h x hx⟩
  go_wp2_with fail
  refine (pick_any n0 B _ 24 _ (by exact hr1.to (by repeat (first | (with_reducible exact Since.refl hr1.le) | (with_reducible refine Since.alloc ?_ _) | (with_reducible refine Since.drew ?_) | (with_reducible refine Since.drewN ?_ _) | (with_reducible refine Since.setCell ?_ ?_ _; rotate_left; (simp only []; omega)) | (with_reducible refine Since.ext ?_ (by assumption))))) (by omega) (by omega) (by omega)).mono ?_
  rintro e w2 ⟨d, rfl, d0, d1, hr2, hx2⟩
  have hz2 := hx2.size
  simp at hz2
  have hBR : Blk w2 w.heap.size 48 #[.int .i64 0, .int .i64 0, .int .i64 0, .int .i64 0, .int .i64 0, .slice none 0 0] := by refine Blk.rext ?_ hx2 (by omega); exact (by repeat (first | (with_reducible assumption) | (with_reducible exact Blk.new _ _ _) | exact Blk.newAt _ _ _ (by simp) | (with_reducible refine Blk.alloc ?_ _) | (with_reducible refine Blk.drew ?_) | (with_reducible refine Blk.drewN ?_ _) | refine Blk.far ?_ (by simp only []; omega) _ | refine Blk.rext ?_ (by assumption) (by omega) | refine Blk.ext ?_ (by assumption)))
  have hBP : Blk w2 w1.heap.size 48 #[.int .i64 k, .int .i64 fa, .int .i64 fp, .int .i64 ta, .int .i64 tp, .slice a n c] := by refine Blk.rext ?_ hx2 (by omega); exact (by repeat (first | (with_reducible assumption) | (with_reducible exact Blk.new _ _ _) | exact Blk.newAt _ _ _ (by simp) | (with_reducible refine Blk.alloc ?_ _) | (with_reducible refine Blk.drew ?_) | (with_reducible refine Blk.drewN ?_ _) | refine Blk.far ?_ (by simp only []; omega) _ | refine Blk.rext ?_ (by assumption) (by omega) | refine Blk.ext ?_ (by assumption)))
  have hs2 : Sl encI 1 w2 a n c L := (hs.alloc _).rextFar hx2 (fun h x hx => by have := hfr' h x hx; omega)
  have hX2 : RExt B w w2 := (by repeat (first | (with_reducible exact RExt.refl _ _) | (with_reducible assumption) | (with_reducible refine RExt.alloc ?_ _) | (with_reducible refine RExt.drewN ?_ _) | (with_reducible refine RExt.drew ?_) | (with_reducible refine RExt.setCell ?_ (.inr ?_) _; rotate_left; (simp only []; omega)) | (with_reducible refine RExt.trans ?_ (by assumption)) | (with_reducible refine RExt.ext ?_ (by assumption))))
  have hwl : w.heap.size < w2.heap.size := by omega
  have hPl : w1.heap.size < w2.heap.size := by omega
  have hB2 : B < w2.heap.size := by omega
  have hw1 : w.heap.size < w1.heap.size := by omega
  clear hx1 hx2 hr1 hz1 hz2 hs hfr hB0
  generalize w1.heap.size = P at *
  by_cases e2 : d = 2
  · subst e2
    have hcP := hBP.cells
    go_wp2_with fail
    refine (spec_copyInts a n c L _ hs2 (by omega)).mono ?_
    rintro e v1 ⟨a1, c1, rfl, hown1, hy1⟩
    have hs1 := hy1.size
    have hlt1 := hown1.lt
    clear hcP
    go_wp2_with fail
    refine (one_lit n0 B _ _ _ _ _ _ (hr2.ext hy1) (by omega) (by simp) (by rfl) (by omega) (by omega) (by simp [intOf])).mono ?_
    rintro e v2 ⟨x, rfl, _, hr3, hy2⟩
    have hs2' := hy2.size
    have hown2 := World.ownsRow.kept hown1 hy2 (by
      cases ha : (Value.slice a1 n c1).ownBlock with
      | none => exact .inl rfl
      | some g => right; intro e; injection e with e; have := (hlt1 g ha).1; omega)
    go_wp2_with (at_builtin; refine wpList_append_sl _ rfl _ _ rfl eiI encI_len encI_one w2.heap.size (.slice a1 n c1) n (L.flatMap encI) rfl (hown2.alloc _) _ 1 1 [x] rfl (by exact Sl.lit _ _ [x] rfl) (by simp only [maxLen]; omega) (by omega) (by simp; omega) ?_; intro a3 c3 v3 hown3 hg3 hat3; have hBP3 := Blk.grown (((hBP.ext hy1).rext hy2 (by omega)).alloc _) hg3 (by intro e; have := (hlt1 P e.symm).1; omega); have hcP := hBP3.cells; have hfP := hBP3.frozens; have hBR3 := Blk.grown (((hBR.ext hy1).rext hy2 (by omega)).alloc _) hg3 (by intro e; have := (hlt1 w.heap.size e.symm).1; omega); have hcR := hBR3.cells; have hfR := hBR3.frozens)
    have how3 : Ow 3 encI 1 w2.heap.size v3 a3 (n + 1) c3 (L ++ [x]) := Ow.of_row (by simpa using hown3) encI_len (by omega)
    have hlt3 := how3.lt
    have hX3 : RExt B w v3 := by
      have h1 : RExt B w (v2.alloc (Obj.cells #[Value.int IntKind.i64 x] 3)) := ((hX2.ext hy1).trans hy2).alloc _
      refine ⟨(World.grownBy.os hg3).trans (World.grownBy.os h1), (World.grownBy.tape hg3).trans (World.grownBy.tape h1), (World.grownBy.output hg3).trans (World.grownBy.output h1), Nat.le_trans h1.size hg3.size, fun i hi hne => ?_⟩
      have hsz1 := h1.size
      exact (hg3.block i (by omega) (by intro e; have := (hlt1 i e.symm).1; omega)).trans (World.grownBy.block h1 i hi hne)
    have hr3 : Rd n0 v3 B (m + 100) := by
      refine (Rd.mono (hr3.alloc (Obj.cells #[Value.int IntKind.i64 x] 3)) (by omega)).keep hg3.size fun i hi => ?_
      have := hr2.le
      exact hg3.block i (by simp; omega) (by intro e; have := (hlt1 i e.symm).1; omega)
    refine' bodyPost_ret (v := _) ?_ rfl ?_
    rotate_left
    · (simp only [results, Try.results71]
       go_simp
       rfl)
    refine ⟨k, fa, fp, ta, tp, a3, n + 1, c3, L ++ [x], rfl, ?_, by omega, (fun y hy => by have := (hlt3 y hy).1; omega), (by exact hr3.to (by repeat (first | (with_reducible exact Since.refl hr3.le) | (with_reducible refine Since.alloc ?_ _) | (with_reducible refine Since.drew ?_) | (with_reducible refine Since.drewN ?_ _) | (with_reducible refine Since.setCell ?_ ?_ _; rotate_left; (simp only []; omega)) | (with_reducible refine Since.ext ?_ (by assumption))))), (by repeat (first | (with_reducible exact RExt.refl _ _) | (with_reducible assumption) | (with_reducible refine RExt.alloc ?_ _) | (with_reducible refine RExt.drewN ?_ _) | (with_reducible refine RExt.drew ?_) | (with_reducible refine RExt.setCell ?_ (.inr ?_) _; rotate_left; (simp only []; omega)) | (with_reducible refine RExt.trans ?_ (by assumption)) | (with_reducible refine RExt.ext ?_ (by assumption))))⟩
    · repeat (refine Sl.setCell ?_ (fun y hy => by have := (hlt3 y hy).1; simp only []; omega) _)
      exact how3.sl encI_len
  · have hcP := hBP.cells
    have hfP := hBP.frozens
    have hcR := hBR.cells
    have hfR := hBR.frozens
    by_cases e0 : d = 0
    · subst e0
      go_wp2_with fail
      refine (one_lit n0 B _ _ _ _ _ _ hr2 (by omega) (by simp) (by rfl) (by omega) (by omega) (by simp [intOf])).mono ?_
      rintro e w3 ⟨z, rfl, _, hr3, hx3⟩
      have hBR3 := hBR.rext hx3 (by omega)
      have hBP3 := hBP.rext hx3 (by omega)
      have hcP3 := hBP3.cells
      have hfP3 := hBP3.frozens
      have hcR3 := hBR3.cells
      have hfR3 := hBR3.frozens
      have hy3 := hx3.size
      have hs3 := hs2.rextFar hx3 (fun h x hx => by have := hfr' h x hx; omega)
      have hX3 := hX2.trans hx3
      clear hx3 hX2
      go_wp2
      refine' bodyPost_ret (v := _) ?_ rfl ?_
      rotate_left
      · (simp only [results, Try.results71]
         go_simp
         rfl)
      refine ⟨_, _, _, _, _, a, n, c, L, rfl, ?_, by omega, (fun y hy => by have := hfr1 y hy; omega), (by exact (hr3.mono (show m + 98 + 1 + 1 ≤ m + 100 by omega)).to (by repeat (first | (with_reducible exact Since.refl (hr3.mono (show m + 98 + 1 + 1 ≤ m + 100 by omega)).le) | (with_reducible refine Since.alloc ?_ _) | (with_reducible refine Since.drew ?_) | (with_reducible refine Since.drewN ?_ _) | (with_reducible refine Since.setCell ?_ ?_ _; rotate_left; (simp only []; omega)) | (with_reducible refine Since.ext ?_ (by assumption))))), (by repeat (first | (with_reducible exact RExt.refl _ _) | (with_reducible assumption) | (with_reducible refine RExt.alloc ?_ _) | (with_reducible refine RExt.drewN ?_ _) | (with_reducible refine RExt.drew ?_) | (with_reducible refine RExt.setCell ?_ (.inr ?_) _; rotate_left; (simp only []; omega)) | (with_reducible refine RExt.trans ?_ (by assumption)) | (with_reducible refine RExt.ext ?_ (by assumption))))⟩
      repeat (refine Sl.setFar ?_ (fun h y hy => by have := hfr' h y hy; simp only []; omega) _)
      exact hs3
    by_cases e1 : d = 1
    · subst e1
      go_wp2_with fail
      refine (one_lit n0 B _ _ _ _ _ _ hr2 (by omega) (by simp) (by rfl) (by omega) (by omega) (by simp [intOf])).mono ?_
      rintro e w3 ⟨z, rfl, _, hr3, hx3⟩
      have hBR3 := hBR.rext hx3 (by omega)
      have hBP3 := hBP.rext hx3 (by omega)
      have hcP3 := hBP3.cells
      have hfP3 := hBP3.frozens
      have hcR3 := hBR3.cells
      have hfR3 := hBR3.frozens
      have hy3 := hx3.size
      have hs3 := hs2.rextFar hx3 (fun h x hx => by have := hfr' h x hx; omega)
      have hX3 := hX2.trans hx3
      clear hx3 hX2
      go_wp2
      refine' bodyPost_ret (v := _) ?_ rfl ?_
      rotate_left
      · (simp only [results, Try.results71]
         go_simp
         rfl)
      refine ⟨_, _, _, _, _, a, n, c, L, rfl, ?_, by omega, (fun y hy => by have := hfr1 y hy; omega), (by exact (hr3.mono (show m + 98 + 1 + 1 ≤ m + 100 by omega)).to (by repeat (first | (with_reducible exact Since.refl (hr3.mono (show m + 98 + 1 + 1 ≤ m + 100 by omega)).le) | (with_reducible refine Since.alloc ?_ _) | (with_reducible refine Since.drew ?_) | (with_reducible refine Since.drewN ?_ _) | (with_reducible refine Since.setCell ?_ ?_ _; rotate_left; (simp only []; omega)) | (with_reducible refine Since.ext ?_ (by assumption))))), (by repeat (first | (with_reducible exact RExt.refl _ _) | (with_reducible assumption) | (with_reducible refine RExt.alloc ?_ _) | (with_reducible refine RExt.drewN ?_ _) | (with_reducible refine RExt.drew ?_) | (with_reducible refine RExt.setCell ?_ (.inr ?_) _; rotate_left; (simp only []; omega)) | (with_reducible refine RExt.trans ?_ (by assumption)) | (with_reducible refine RExt.ext ?_ (by assumption))))⟩
      repeat (refine Sl.setFar ?_ (fun h y hy => by have := hfr' h y hy; simp only []; omega) _)
      exact hs3
    by_cases e3 : d = 3
    · subst e3
      obtain ⟨cs, hcs, hmk⟩ : ∃ cs : Array Value, cs = #[.int .i64 0, .int .i64 0, .int .i64 0, .int .i64 0, .int .i64 0, .int .i64 0, .int .i64 0, .int .i64 0, .int .i64 0, .int .i64 0, .int .i64 0, .int .i64 0, .int .i64 0] ∧ ∀ W : World, (Instr.makeSlice 46 (.int .i64 13) (.int .i64 13)).run Try.prog W = .ok (.slice (some ⟨W.heap.size, 0, none⟩) 13 13) (W.alloc (.cells cs 3)) := ⟨_, rfl, fun _ => by kernel_rfl⟩
      have hsl : ∀ (W : World) (b : Nat), b = W.heap.size → Sl encI 1 (W.alloc (.cells cs 3)) (some ⟨b, 0, none⟩) 13 13 (List.replicate 13 0) := by
        rintro W b rfl
        have h := Sl.lits W 3 cs (n := 13) rfl (by rw [hcs]; rfl) (by omega) (by rw [hcs]; simp [intOf])
        rw [show cs.toList.map intOf = List.replicate 13 0 by rw [hcs]; rfl] at h
        exact h
      clear hcs
      go_wp2
      refine' bodyPost_ret (v := _) ?_ rfl ?_
      rotate_left
      · (simp only [results, Try.results71]
         go_simp
         rfl)
      refine ⟨_, _, _, _, _, _, 13, 13, List.replicate 13 0, rfl, ?_, by omega, ?_, (by exact (hr2.mono (show m + 98 + 1 ≤ m + 100 by omega)).to (by repeat (first | (with_reducible exact Since.refl (hr2.mono (show m + 98 + 1 ≤ m + 100 by omega)).le) | (with_reducible refine Since.alloc ?_ _) | (with_reducible refine Since.drew ?_) | (with_reducible refine Since.drewN ?_ _) | (with_reducible refine Since.setCell ?_ ?_ _; rotate_left; (simp only []; omega)) | (with_reducible refine Since.ext ?_ (by assumption))))), (by repeat (first | (with_reducible exact RExt.refl _ _) | (with_reducible assumption) | (with_reducible refine RExt.alloc ?_ _) | (with_reducible refine RExt.drewN ?_ _) | (with_reducible refine RExt.drew ?_) | (with_reducible refine RExt.setCell ?_ (.inr ?_) _; rotate_left; (simp only []; omega)) | (with_reducible refine RExt.trans ?_ (by assumption)) | (with_reducible refine RExt.ext ?_ (by assumption))))⟩
      · exact hsl _ _ (by simp)
      · intro y hy
        injection hy with hy
        subst hy
        simp only []
        omega
    · go_wp2
      refine' bodyPost_ret (v := _) ?_ rfl ?_
      rotate_left
      · (simp only [results, Try.results71]
         go_simp
         rfl)
      refine ⟨_, _, _, _, _, a, n, c, L, rfl, ?_, by omega, (fun y hy => by have := hfr1 y hy; omega), (by exact (hr2.mono (show m + 98 + 1 ≤ m + 100 by omega)).to (by repeat (first | (with_reducible exact Since.refl (hr2.mono (show m + 98 + 1 ≤ m + 100 by omega)).le) | (with_reducible refine Since.alloc ?_ _) | (with_reducible refine Since.drew ?_) | (with_reducible refine Since.drewN ?_ _) | (with_reducible refine Since.setCell ?_ ?_ _; rotate_left; (simp only []; omega)) | (with_reducible refine Since.ext ?_ (by assumption))))), (by repeat (first | (with_reducible exact RExt.refl _ _) | (with_reducible assumption) | (with_reducible refine RExt.alloc ?_ _) | (with_reducible refine RExt.drewN ?_ _) | (with_reducible refine RExt.drew ?_) | (with_reducible refine RExt.setCell ?_ (.inr ?_) _; rotate_left; (simp only []; omega)) | (with_reducible refine RExt.trans ?_ (by assumption)) | (with_reducible refine RExt.ext ?_ (by assumption))))⟩
      repeat (refine Sl.setFar ?_ (fun h y hy => by have := hfr' h y hy; simp only []; omega) _)
      exact hs2
set_option maxHeartbeats 2000000 in
theorem anyReport_any (n0 B : Nat) (m : Int) (w : World) (hr : Rd n0 w B m) (hm : m + 113 ≤ 1000000) :
    Calls Try.prog 67 #[.pointer (some ⟨B, 0, none⟩)] w fun e w' => ∃ o s t k fa fp ta tp a n c L, e = .returned (.agg #[.int .i64 o, .int .i64 s, .int .i64 t, .int .i64 k, .int .i64 fa, .int .i64 fp, .int .i64 ta, .int .i64 tp, .slice a n c]) ∧
      Sl encI 1 w' a n c L ∧ n ≤ 13 ∧ (∀ x, a = some x → w.heap.size ≤ x.block) ∧ Rd n0 w' B (m + 113) ∧ RExt B w w' := by
  have hnw : n0 ≤ w.heap.size := hr.le
  have hBw : B < w.heap.size := (by have := hr.lt; omega)
  go_enter Try.func67, Try.ntmps67
  go_wp2_with fail
  refine (pick_any n0 B _ 16 _ (by exact hr.to (by repeat (first | (with_reducible exact Since.refl hr.le) | (with_reducible refine Since.alloc ?_ _) | (with_reducible refine Since.drew ?_) | (with_reducible refine Since.drewN ?_ _) | (with_reducible refine Since.setCell ?_ ?_ _; rotate_left; (simp only []; omega)) | (with_reducible refine Since.ext ?_ (by assumption))))) (by omega) (by omega) (by omega)).mono ?_
  rintro e u1 ⟨o, rfl, _, _, hr1, hx1⟩
  have hz1 := hx1.size
  simp at hz1
  have hB1 : Blk u1 w.heap.size 50 #[.int .i64 0, .int .i64 0, .int .i64 0, .int .i64 0, .int .i64 0, .int .i64 0, .int .i64 0, .int .i64 0, .slice none 0 0] := by refine Blk.rext ?_ hx1 (by omega); exact (by repeat (first | (with_reducible assumption) | (with_reducible exact Blk.new _ _ _) | exact Blk.newAt _ _ _ (by simp) | (with_reducible refine Blk.alloc ?_ _) | (with_reducible refine Blk.drew ?_) | (with_reducible refine Blk.drewN ?_ _) | refine Blk.far ?_ (by simp only []; omega) _ | refine Blk.rext ?_ (by assumption) (by omega) | refine Blk.ext ?_ (by assumption)))
  go_wp2_with fail
  refine (someWord_any n0 B _ _ (by exact hr1.to (by repeat (first | (with_reducible exact Since.refl hr1.le) | (with_reducible refine Since.alloc ?_ _) | (with_reducible refine Since.drew ?_) | (with_reducible refine Since.drewN ?_ _) | (with_reducible refine Since.setCell ?_ ?_ _; rotate_left; (simp only []; omega)) | (with_reducible refine Since.ext ?_ (by assumption))))) (by omega)).mono ?_
  rintro e u2 ⟨s, rfl, _, _, hr2, hx2⟩
  have hz2 := hx2.size
  have hB2 : Blk u2 w.heap.size 50 _ := Blk.rext hB1 hx2 (by omega)
  go_wp2_with fail
  refine (someWord_any n0 B _ _ (by exact hr2.to (by repeat (first | (with_reducible exact Since.refl hr2.le) | (with_reducible refine Since.alloc ?_ _) | (with_reducible refine Since.drew ?_) | (with_reducible refine Since.drewN ?_ _) | (with_reducible refine Since.setCell ?_ ?_ _; rotate_left; (simp only []; omega)) | (with_reducible refine Since.ext ?_ (by assumption))))) (by omega)).mono ?_
  rintro e u3 ⟨t, rfl, _, _, hr3, hx3⟩
  have hz3 := hx3.size
  have hB3 : Blk u3 w.heap.size 50 _ := Blk.rext hB2 hx3 (by omega)
  go_wp2_with fail
  refine (anyPacket_any n0 B _ _ (by exact hr3.to (by repeat (first | (with_reducible exact Since.refl hr3.le) | (with_reducible refine Since.alloc ?_ _) | (with_reducible refine Since.drew ?_) | (with_reducible refine Since.drewN ?_ _) | (with_reducible refine Since.setCell ?_ ?_ _; rotate_left; (simp only []; omega)) | (with_reducible refine Since.ext ?_ (by assumption))))) (by omega)).mono ?_
  rintro e w1 ⟨k, fa, fp, ta, tp, a, n, c, L, rfl, hs, hn13, hfr, hr4, hx4⟩
  have hz4 := hx4.size
  have hB4 : Blk w1 w.heap.size 50 _ := Blk.rext hB3 hx4 (by omega)
  have hfr1 : ∀ x, a = some x → w.heap.size < x.block := by
    intro x hx
    have h2 := hfr x hx
    omega
  have hfr' : 0 < n → ∀ x, a = some x → w.heap.size < x.block ∧ x.block < w1.heap.size := fun h x hx => ⟨hfr1 x hx, hs.lt h x hx⟩
  go_wp2_with fail
  refine (pick_any n0 B _ 10 _ (by exact hr4.to (by repeat (first | (with_reducible exact Since.refl hr4.le) | (with_reducible refine Since.alloc ?_ _) | (with_reducible refine Since.drew ?_) | (with_reducible refine Since.drewN ?_ _) | (with_reducible refine Since.setCell ?_ ?_ _; rotate_left; (simp only []; omega)) | (with_reducible refine Since.ext ?_ (by assumption))))) (by omega) (by omega) (by omega)).mono ?_
  rintro e w2 ⟨d, rfl, d0, d1, hr2, hx5⟩
  have hz5 := hx5.size
  simp at hz5
  have hBR : Blk w2 w.heap.size 50 #[.int .i64 0, .int .i64 0, .int .i64 0, .int .i64 0, .int .i64 0, .int .i64 0, .int .i64 0, .int .i64 0, .slice none 0 0] := by refine Blk.rext ?_ hx5 (by omega); exact (by repeat (first | (with_reducible assumption) | (with_reducible exact Blk.new _ _ _) | exact Blk.newAt _ _ _ (by simp) | (with_reducible refine Blk.alloc ?_ _) | (with_reducible refine Blk.drew ?_) | (with_reducible refine Blk.drewN ?_ _) | refine Blk.far ?_ (by simp only []; omega) _ | refine Blk.rext ?_ (by assumption) (by omega) | refine Blk.ext ?_ (by assumption)))
  have hBP : Blk w2 w1.heap.size 50 #[.int .i64 o, .int .i64 s, .int .i64 t, .int .i64 k, .int .i64 fa, .int .i64 fp, .int .i64 ta, .int .i64 tp, .slice a n c] := by refine Blk.rext ?_ hx5 (by omega); exact (by repeat (first | (with_reducible assumption) | (with_reducible exact Blk.new _ _ _) | exact Blk.newAt _ _ _ (by simp) | (with_reducible refine Blk.alloc ?_ _) | (with_reducible refine Blk.drew ?_) | (with_reducible refine Blk.drewN ?_ _) | refine Blk.far ?_ (by simp only []; omega) _ | refine Blk.rext ?_ (by assumption) (by omega) | refine Blk.ext ?_ (by assumption)))
  have hs2 : Sl encI 1 w2 a n c L := (hs.alloc _).rextFar hx5 (fun h x hx => by have := hfr' h x hx; omega)
  have hX2 : RExt B w w2 := (by repeat (first | (with_reducible exact RExt.refl _ _) | (with_reducible assumption) | (with_reducible refine RExt.alloc ?_ _) | (with_reducible refine RExt.drewN ?_ _) | (with_reducible refine RExt.drew ?_) | (with_reducible refine RExt.setCell ?_ (.inr ?_) _; rotate_left; (simp only []; omega)) | (with_reducible refine RExt.trans ?_ (by assumption)) | (with_reducible refine RExt.ext ?_ (by assumption))))
  have hwl : w.heap.size < w2.heap.size := by omega
  have hPl : w1.heap.size < w2.heap.size := by omega
  have hBl2 : B < w2.heap.size := by omega
  have hw1 : w.heap.size < w1.heap.size := by omega
  clear hx1 hx2 hx3 hx4 hx5 hr1 hr3 hr4 hz1 hz2 hz3 hz4 hz5 hB1 hB2 hB3 hB4 hs hfr
  generalize w1.heap.size = P at *
  have hcP := hBP.cells
  have hfP := hBP.frozens
  have hcR := hBR.cells
  have hfR := hBR.frozens
  by_cases e0 : d = 0
  · subst e0
    go_wp2_with fail
    refine (one_lit n0 B _ _ _ _ _ _ hr2 (by omega) (by simp) (by rfl) (by omega) (by omega) (by simp [intOf])).mono ?_
    rintro e w3 ⟨z, rfl, _, hr3, hx3⟩
    have hBR3 := hBR.rext hx3 (by omega)
    have hBP3 := hBP.rext hx3 (by omega)
    have hcP3 := hBP3.cells
    have hfP3 := hBP3.frozens
    have hcR3 := hBR3.cells
    have hfR3 := hBR3.frozens
    have hy3 := hx3.size
    have hs3 := hs2.rextFar hx3 (fun h x hx => by have := hfr' h x hx; omega)
    have hX3 := hX2.trans hx3
    clear hx3 hX2
    go_wp2
    refine' bodyPost_ret (v := _) ?_ rfl ?_
    rotate_left
    · (simp only [results, Try.results67]
       go_simp
       rfl)
    refine ⟨_, _, _, _, _, _, _, _, a, n, c, L, rfl, ?_, by omega, (fun y hy => by have := hfr1 y hy; omega), (by exact (hr3.mono (show m + 1 + 5 + 5 + 100 + 1 + 1 ≤ m + 113 by omega)).to (by repeat (first | (with_reducible exact Since.refl (hr3.mono (show m + 1 + 5 + 5 + 100 + 1 + 1 ≤ m + 113 by omega)).le) | (with_reducible refine Since.alloc ?_ _) | (with_reducible refine Since.drew ?_) | (with_reducible refine Since.drewN ?_ _) | (with_reducible refine Since.setCell ?_ ?_ _; rotate_left; (simp only []; omega)) | (with_reducible refine Since.ext ?_ (by assumption))))), (by repeat (first | (with_reducible exact RExt.refl _ _) | (with_reducible assumption) | (with_reducible refine RExt.alloc ?_ _) | (with_reducible refine RExt.drewN ?_ _) | (with_reducible refine RExt.drew ?_) | (with_reducible refine RExt.setCell ?_ (.inr ?_) _; rotate_left; (simp only []; omega)) | (with_reducible refine RExt.trans ?_ (by assumption)) | (with_reducible refine RExt.ext ?_ (by assumption))))⟩
    repeat (refine Sl.setFar ?_ (fun h y hy => by have := hfr' h y hy; simp only []; omega) _)
    exact hs3
  · go_wp2
    refine' bodyPost_ret (v := _) ?_ rfl ?_
    rotate_left
    · (simp only [results, Try.results67]
       go_simp
       rfl)
    refine ⟨_, _, _, _, _, _, _, _, a, n, c, L, rfl, ?_, by omega, (fun y hy => by have := hfr1 y hy; omega), (by exact (hr2.mono (show m + 1 + 5 + 5 + 100 + 1 ≤ m + 113 by omega)).to (by repeat (first | (with_reducible exact Since.refl (hr2.mono (show m + 1 + 5 + 5 + 100 + 1 ≤ m + 113 by omega)).le) | (with_reducible refine Since.alloc ?_ _) | (with_reducible refine Since.drew ?_) | (with_reducible refine Since.drewN ?_ _) | (with_reducible refine Since.setCell ?_ ?_ _; rotate_left; (simp only []; omega)) | (with_reducible refine Since.ext ?_ (by assumption))))), (by repeat (first | (with_reducible exact RExt.refl _ _) | (with_reducible assumption) | (with_reducible refine RExt.alloc ?_ _) | (with_reducible refine RExt.drewN ?_ _) | (with_reducible refine RExt.drew ?_) | (with_reducible refine RExt.setCell ?_ (.inr ?_) _; rotate_left; (simp only []; omega)) | (with_reducible refine RExt.trans ?_ (by assumption)) | (with_reducible refine RExt.ext ?_ (by assumption))))⟩
    repeat (refine Sl.setFar ?_ (fun h y hy => by have := hfr' h y hy; simp only []; omega) _)
    exact hs2
end Go.Proofs.Ytdjbjldmlfhigaa
