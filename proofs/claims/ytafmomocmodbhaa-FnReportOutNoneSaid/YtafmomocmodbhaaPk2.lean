/- Part 2 of the words, laws and contracts that the claims of this seat share, joined from their texts. No condition. -/
import Derived.Test.YtafmomocmodbhaaPk1
/- Contracts of the generators of packets. -/
namespace Go.Proofs.Ytafmomocmodbhaa
set_option linter.unusedVariables false
set_option linter.unusedSimpArgs false
open Go.RowKit

set_option maxHeartbeats 1000000 in
theorem somePacket_any (n0 B : Nat) (m : Int) (w : World) (hr : Rd n0 w B m) (hm : m + 98 ≤ 1000000) :
    Calls Try.prog 140 #[.pointer (some ⟨B, 0, none⟩)] w fun e w' => ∃ k fa fp ta tp a n c L, e = .returned (.agg #[.int .i64 k, .int .i64 fa, .int .i64 fp, .int .i64 ta, .int .i64 tp, .slice a n c]) ∧
      Sl encI 1 w' a n c L ∧ validPkt ⟨k, ⟨fa, fp⟩, ⟨ta, tp⟩, L⟩ = true ∧ (∀ x, a = some x → w.heap.size ≤ x.block) ∧ Rd n0 w' B (m + 98) ∧ RExt B w w' := by
  have hnw : n0 ≤ w.heap.size := hr.le
  have hBw : B < w.heap.size := (by have := hr.lt; omega)
  go_enter Try.func140, Try.ntmps140
  go_wp2_with fail
  refine (pick_any n0 B _ 3 _ (by exact hr.to (by repeat (first | (with_reducible exact Since.refl hr.le) | (with_reducible refine Since.alloc ?_ _) | (with_reducible refine Since.drew ?_) | (with_reducible refine Since.drewN ?_ _) | (with_reducible refine Since.setCell ?_ ?_ _; rotate_left; (simp only []; omega)) | (with_reducible refine Since.ext ?_ (by assumption))))) (by omega) (by omega) (by omega)).mono ?_
  rintro e w1 ⟨kd, rfl, kd0, kd1, hr1, hx1⟩
  have hz1 := hx1.size
  simp at hz1
  go_wp2_with fail
  refine (someEnd_any n0 B _ _ (by exact hr1.to (by repeat (first | (with_reducible exact Since.refl hr1.le) | (with_reducible refine Since.alloc ?_ _) | (with_reducible refine Since.drew ?_) | (with_reducible refine Since.drewN ?_ _) | (with_reducible refine Since.setCell ?_ ?_ _; rotate_left; (simp only []; omega)) | (with_reducible refine Since.ext ?_ (by assumption))))) (by omega)).mono ?_
  rintro e w2 ⟨fa, fp, rfl, fa0, fa1, fp0, fp1, hr2, hx2⟩
  have hz2 := hx2.size
  go_wp2_with fail
  refine (someEnd_any n0 B _ _ (by exact hr2.to (by repeat (first | (with_reducible exact Since.refl hr2.le) | (with_reducible refine Since.alloc ?_ _) | (with_reducible refine Since.drew ?_) | (with_reducible refine Since.drewN ?_ _) | (with_reducible refine Since.setCell ?_ ?_ _; rotate_left; (simp only []; omega)) | (with_reducible refine Since.ext ?_ (by assumption))))) (by omega)).mono ?_
  rintro e w3 ⟨ta, tp, rfl, ta0, ta1, tp0, tp1, hr3, hx3⟩
  have hz3 := hx3.size
  go_wp2_with fail
  refine (one_lit n0 B _ _ _ _ _ _ (by exact hr3.to (by repeat (first | (with_reducible exact Since.refl hr3.le) | (with_reducible refine Since.alloc ?_ _) | (with_reducible refine Since.drew ?_) | (with_reducible refine Since.drewN ?_ _) | (with_reducible refine Since.setCell ?_ ?_ _; rotate_left; (simp only []; omega)) | (with_reducible refine Since.ext ?_ (by assumption))))) (by omega) (by simp) (by rfl) (by omega) (by omega) (by simp [intOf])).mono ?_
  rintro e w4 ⟨n, rfl, hm4, hr4, hx4⟩
  simp [intOf] at hm4
  have hz4 := hx4.size
  simp at hz4
  have hn0 : 0 ≤ n := by omega
  have hn1 : n ≤ 12 := by omega
  clear hm4
  have hBR : Blk w4 w.heap.size 44 _ := Blk.rext (Blk.alloc (Blk.alloc (Blk.rext (Blk.rext (Blk.rext (Blk.new w _ _) hx1 (by omega)) hx2 (by omega)) hx3 (by omega)) _) _) hx4 (by omega)
  have hBP : Blk w4 (w3.heap.size + 1) 44 _ := Blk.rext (Blk.newAt _ _ _ (by simp)) hx4 (by omega)
  obtain ⟨P, hP⟩ : ∃ P, P = w3.heap.size + 1 := ⟨_, rfl⟩
  have hPn : w.heap.size < P := by omega
  rw [← hP] at hBP
  have hX4 : RExt B w w4 := (by repeat (first | (with_reducible exact RExt.refl _ _) | (with_reducible assumption) | (with_reducible refine RExt.alloc ?_ _) | (with_reducible refine RExt.drewN ?_ _) | (with_reducible refine RExt.drew ?_) | (with_reducible refine RExt.setCell ?_ (.inr ?_) _; rotate_left; (simp only []; omega)) | (with_reducible refine RExt.trans ?_ (by assumption)) | (with_reducible refine RExt.ext ?_ (by assumption))))
  have hr5 := hr4.mono (show m + 1 + 12 + 12 + 1 ≤ m + 26 by omega)
  go_wp2
  rw [← hP]
  have hw3 : w.heap.size < w3.heap.size := by omega
  clear hx1 hx2 hx3 hx4 hr1 hr2 hr3 hr4 hz1 hz2 hz3 hz4 hP
  go_loopw [4] (fun i wr => ∃ (k : Nat) (a : Option Addr) (l c : Nat) (L : List Int), k ≤ 12 ∧ i = .int .i64 k ∧
      Blk wr w.heap.size 44 #[.int .i64 0, .int .i64 0, .int .i64 0, .int .i64 0, .int .i64 0, .slice none 0 0] ∧
      Blk wr P 44 #[.int .i64 kd, .int .i64 fa, .int .i64 fp, .int .i64 ta, .int .i64 tp, .slice a l c] ∧
      Sl encI 1 wr a l c L ∧ l + k ≤ 12 ∧ L.all word = true ∧ (∀ x, a = some x → w.heap.size < x.block) ∧ Rd n0 wr B (m + 26 + 6 * (12 - k)) ∧ RExt B w wr) (fun i _ => (intOf i).toNat)
  case atStart =>
    obtain ⟨q, rfl⟩ := Int.eq_ofNat_of_zero_le hn0
    exact ⟨q, _, 0, 0, [], by omega, rfl, hBR, hBP, ⟨rfl, Nat.le_refl _, by omega, (fun e => by cases e), (fun h => by omega)⟩, by omega, rfl, (fun x hx => by injection hx with hx; subst hx; simp only []; omega), hr5.mono (by omega), hX4⟩
  case round =>
    obtain ⟨k, a, l, c, L, hk, rfl, hBR, hBP, hs, hlk, hw, hfr, hr, hX⟩ := hrel
    have hsz := hX.size
    have hPl := hBP.lt
    have hBl := hBw
    have hle := hs.le
    have hmax := hs.max
    by_cases hk0 : k = 0
    · subst hk0
      have hcR := hBR.cells
      have hfR := hBR.frozens
      have hcP := hBP.cells
      go_wp2
      refine' bodyPost_ret (v := _) ?_ rfl ?_
      rotate_left
      · (simp only [results, Try.results140]
         go_simp
         rfl)
      refine ⟨kd, fa, fp, ta, tp, a, l, c, L, rfl, ?_, ?_, (fun x hx => by have := hfr x hx; omega), ?_, ?_⟩
      · repeat (refine Sl.setCell ?_ (fun y hy => by have := hfr y hy; simp only []; omega) _)
        exact hs
      · have hlen := hs.len
        simp only [validPkt, validEnd, word_iff, inR_iff, Bool.and_eq_true, decide_eq_true_eq]
        refine ⟨⟨⟨⟨?_, ?_⟩, ?_⟩, ?_⟩, hw⟩ <;> omega
      · exact (Rd.mono hr (by omega)).to (by repeat (first | (with_reducible exact Since.refl hr.le) | (with_reducible refine Since.alloc ?_ _) | (with_reducible refine Since.drew ?_) | (with_reducible refine Since.drewN ?_ _) | (with_reducible refine Since.setCell ?_ ?_ _; rotate_left; (simp only []; omega)) | (with_reducible refine Since.ext ?_ (by assumption))))
      · exact (by repeat (first | (with_reducible exact RExt.refl _ _) | (with_reducible assumption) | (with_reducible refine RExt.alloc ?_ _) | (with_reducible refine RExt.drewN ?_ _) | (with_reducible refine RExt.drew ?_) | (with_reducible refine RExt.setCell ?_ (.inr ?_) _; rotate_left; (simp only []; omega)) | (with_reducible refine RExt.trans ?_ (by assumption)) | (with_reducible refine RExt.ext ?_ (by assumption))))
    · have hkp : (0 : Int) < (k : Int) := by omega
      have hcP := hBP.cells
      go_wp2_with fail
      refine (spec_copyInts a l c L _ hs (by omega)).mono ?_
      rintro e v1 ⟨a1, c1, rfl, hown1, hy1⟩
      have hs1 := hy1.size
      clear hcP
      go_wp2_with fail
      refine (someWord_any n0 B _ _ (hr.ext hy1) (by omega)).mono ?_
      rintro e v2 ⟨x, rfl, x0, x1, hr2, hy2⟩
      have hs2 := hy2.size
      have hlt1 := hown1.lt
      have hown2 := World.ownsRow.kept hown1 hy2 (by
        cases ha : (Value.slice a1 l c1).ownBlock with
        | none => exact .inl rfl
        | some g => right; intro e; injection e with e; have := (hlt1 g ha).1; omega)
      go_wp2_with (at_builtin; refine wpList_append_sl _ rfl _ _ rfl eiI encI_len encI_one wr.heap.size (.slice a1 l c1) l (L.flatMap encI) rfl (hown2.alloc _) _ 1 1 [x] rfl (by exact Sl.lit _ _ [x] rfl) (by simp only [maxLen]; omega) (by omega) (by simp; omega) ?_; intro a3 c3 v3 hown3 hg3 hat3; have hBP3 := Blk.grown (((hBP.ext hy1).rext hy2 (by omega)).alloc _) hg3 (by intro e; have := (hlt1 P e.symm).1; omega); have hcP := hBP3.cells; have hfP := hBP3.frozens)
      have how3 : Ow 3 encI 1 wr.heap.size v3 a3 (l + 1) c3 (L ++ [x]) := Ow.of_row (by simpa using hown3) encI_len (by omega)
      have hlt3 := how3.lt
      have hX3 : RExt B w v3 := by
        have h1 : RExt B w (v2.alloc (Obj.cells #[Value.int IntKind.i64 x] 3)) := ((hX.ext hy1).trans hy2).alloc _
        refine ⟨(World.grownBy.os hg3).trans (World.grownBy.os h1), (World.grownBy.tape hg3).trans (World.grownBy.tape h1), (World.grownBy.output hg3).trans (World.grownBy.output h1), Nat.le_trans h1.size hg3.size, fun i hi hne => ?_⟩
        have hsz1 := h1.size
        exact (hg3.block i (by omega) (by intro e; have := (hlt1 i e.symm).1; omega)).trans (World.grownBy.block h1 i hi hne)
      have hr3 : Rd n0 v3 B (m + 26 + 6 * (12 - k) + 5) := by
        refine (hr2.alloc (Obj.cells #[Value.int IntKind.i64 x] 3)).keep hg3.size fun i hi => ?_
        have := hr2.le
        exact hg3.block i (by simp; omega) (by intro e; have := (hlt1 i e.symm).1; omega)
      go_roundw
      case rel =>
        refine ⟨k - 1, a3, l + 1, c3, L ++ [x], by omega, ?_, ?_, ?_, ?_, by omega, ?_, ?_, ?_, ?_⟩
        · rw [show ((k : Int) - 1) = ((k - 1 : Nat) : Int) by omega]
        · exact Blk.far (Blk.grown (((hBR.ext hy1).rext hy2 (by omega)).alloc _) hg3 (by intro e; have := (hlt1 w.heap.size e.symm).1; omega)) (by simp only []; omega) _
        · exact hBP3.set 5 _
        · exact (how3.sl encI_len).setCell (fun y hy => by have := (hlt3 y hy).1; simp only []; omega) _
        · rw [List.all_append, hw]; simp [word, inR, x0, x1]
        · intro y hy
          have := (hlt3 y hy).1
          omega
        · exact (hr3.mono (by omega)).setCell (by simp only []; omega) _
        · exact hX3.setCell (.inr (by simp only []; omega)) _
      case measure => simp [intOf]; omega
end Go.Proofs.Ytafmomocmodbhaa
/- Contracts of the generators: packets and reports that may be invalid. -/
namespace Go.Proofs.Ytafmomocmodbhaa
set_option linter.unusedVariables false
set_option linter.unusedSimpArgs false
open Go.RowKit

set_option maxRecDepth 100000 in
set_option maxHeartbeats 2000000 in
theorem anyPacket_any (n0 B : Nat) (m : Int) (w : World) (hr : Rd n0 w B m) (hm : m + 100 ≤ 1000000) :
    Calls Try.prog 88 #[.pointer (some ⟨B, 0, none⟩)] w fun e w' => ∃ k fa fp ta tp a n c L, e = .returned (.agg #[.int .i64 k, .int .i64 fa, .int .i64 fp, .int .i64 ta, .int .i64 tp, .slice a n c]) ∧
      Sl encI 1 w' a n c L ∧ n ≤ 13 ∧ (∀ x, a = some x → w.heap.size ≤ x.block) ∧ Rd n0 w' B (m + 100) ∧ RExt B w w' := by
  have hnw : n0 ≤ w.heap.size := hr.le
  have hBw : B < w.heap.size := (by have := hr.lt; omega)
  go_enter Try.func88, Try.ntmps88
  go_wp2_with fail
  refine (somePacket_any n0 B m _ (by exact hr.to (by repeat (first | (with_reducible exact Since.refl hr.le) | (with_reducible refine Since.alloc ?_ _) | (with_reducible refine Since.drew ?_) | (with_reducible refine Since.drewN ?_ _) | (with_reducible refine Since.setCell ?_ ?_ _; rotate_left; (simp only []; omega)) | (with_reducible refine Since.ext ?_ (by assumption))))) (by omega)).mono ?_
  rintro e w1 ⟨k, fa, fp, ta, tp, a, n, c, L, rfl, hs, hv, hfr, hr1, hx1⟩
  have hz1 := hx1.size
  simp at hz1
  have hB0 : Blk w1 w.heap.size 44 #[.int .i64 0, .int .i64 0, .int .i64 0, .int .i64 0, .int .i64 0, .slice none 0 0] := by refine Blk.rext ?_ hx1 (by omega); exact (by repeat (first | (with_reducible assumption) | (with_reducible exact Blk.new _ _ _) | exact Blk.newAt _ _ _ (by simp) | (with_reducible refine Blk.alloc ?_ _) | (with_reducible refine Blk.drew ?_) | (with_reducible refine Blk.drewN ?_ _) | refine Blk.far ?_ (by simp only []; omega) _ | refine Blk.rext ?_ (by assumption) (by omega) | refine Blk.ext ?_ (by assumption)))
  have hn12 : n ≤ 12 := by
    have h1 := hs.len
    simp only [validPkt, Bool.and_eq_true, decide_eq_true_eq] at hv
    omega
  have hfr1 : ∀ x, a = some x → w.heap.size < x.block := by
    intro x hx
    have h2 := hfr x hx
    simp at h2
    omega
  have hfr' : 0 < n → ∀ x, a = some x → w.heap.size < x.block ∧ x.block < w1.heap.size := fun h x hx => ⟨hfr1 x hx, hs.lt h x hx⟩
  go_wp2_with fail
  refine (pick_any n0 B _ 24 _ (by exact hr1.to (by repeat (first | (with_reducible exact Since.refl hr1.le) | (with_reducible refine Since.alloc ?_ _) | (with_reducible refine Since.drew ?_) | (with_reducible refine Since.drewN ?_ _) | (with_reducible refine Since.setCell ?_ ?_ _; rotate_left; (simp only []; omega)) | (with_reducible refine Since.ext ?_ (by assumption))))) (by omega) (by omega) (by omega)).mono ?_
  rintro e w2 ⟨d, rfl, d0, d1, hr2, hx2⟩
  have hz2 := hx2.size
  simp at hz2
  have hBR : Blk w2 w.heap.size 44 #[.int .i64 0, .int .i64 0, .int .i64 0, .int .i64 0, .int .i64 0, .slice none 0 0] := by refine Blk.rext ?_ hx2 (by omega); exact (by repeat (first | (with_reducible assumption) | (with_reducible exact Blk.new _ _ _) | exact Blk.newAt _ _ _ (by simp) | (with_reducible refine Blk.alloc ?_ _) | (with_reducible refine Blk.drew ?_) | (with_reducible refine Blk.drewN ?_ _) | refine Blk.far ?_ (by simp only []; omega) _ | refine Blk.rext ?_ (by assumption) (by omega) | refine Blk.ext ?_ (by assumption)))
  have hBP : Blk w2 w1.heap.size 44 #[.int .i64 k, .int .i64 fa, .int .i64 fp, .int .i64 ta, .int .i64 tp, .slice a n c] := by refine Blk.rext ?_ hx2 (by omega); exact (by repeat (first | (with_reducible assumption) | (with_reducible exact Blk.new _ _ _) | exact Blk.newAt _ _ _ (by simp) | (with_reducible refine Blk.alloc ?_ _) | (with_reducible refine Blk.drew ?_) | (with_reducible refine Blk.drewN ?_ _) | refine Blk.far ?_ (by simp only []; omega) _ | refine Blk.rext ?_ (by assumption) (by omega) | refine Blk.ext ?_ (by assumption)))
  have hs2 : Sl encI 1 w2 a n c L := (hs.alloc _).rextFar hx2 (fun h x hx => by have := hfr' h x hx; omega)
  have hX2 : RExt B w w2 := (by repeat (first | (with_reducible exact RExt.refl _ _) | (with_reducible assumption) | (with_reducible refine RExt.alloc ?_ _) | (with_reducible refine RExt.drewN ?_ _) | (with_reducible refine RExt.drew ?_) | (with_reducible refine RExt.setCell ?_ (.inr ?_) _; rotate_left; (simp only []; omega)) | (with_reducible refine RExt.trans ?_ (by assumption)) | (with_reducible refine RExt.ext ?_ (by assumption))))
  have hwl : w.heap.size < w2.heap.size := by omega
  have hPl : w1.heap.size < w2.heap.size := by omega
  have hB2 : B < w2.heap.size := by omega
  have hw1 : w.heap.size < w1.heap.size := by omega
  clear hx1 hx2 hr1 hz1 hz2 hs hfr hB0
  generalize w1.heap.size = P at *
  by_cases e2 : d = 2
  · subst e2
    have hcP := hBP.cells
    go_wp2_with fail
    refine (spec_copyInts a n c L _ hs2 (by omega)).mono ?_
    rintro e v1 ⟨a1, c1, rfl, hown1, hy1⟩
    have hs1 := hy1.size
    have hlt1 := hown1.lt
    clear hcP
    go_wp2_with fail
    refine (one_lit n0 B _ _ _ _ _ _ (hr2.ext hy1) (by omega) (by simp) (by rfl) (by omega) (by omega) (by simp [intOf])).mono ?_
    rintro e v2 ⟨x, rfl, _, hr3, hy2⟩
    have hs2' := hy2.size
    have hown2 := World.ownsRow.kept hown1 hy2 (by
      cases ha : (Value.slice a1 n c1).ownBlock with
      | none => exact .inl rfl
      | some g => right; intro e; injection e with e; have := (hlt1 g ha).1; omega)
    go_wp2_with (at_builtin; refine wpList_append_sl _ rfl _ _ rfl eiI encI_len encI_one w2.heap.size (.slice a1 n c1) n (L.flatMap encI) rfl (hown2.alloc _) _ 1 1 [x] rfl (by exact Sl.lit _ _ [x] rfl) (by simp only [maxLen]; omega) (by omega) (by simp; omega) ?_; intro a3 c3 v3 hown3 hg3 hat3; have hBP3 := Blk.grown (((hBP.ext hy1).rext hy2 (by omega)).alloc _) hg3 (by intro e; have := (hlt1 P e.symm).1; omega); have hcP := hBP3.cells; have hfP := hBP3.frozens; have hBR3 := Blk.grown (((hBR.ext hy1).rext hy2 (by omega)).alloc _) hg3 (by intro e; have := (hlt1 w.heap.size e.symm).1; omega); have hcR := hBR3.cells; have hfR := hBR3.frozens)
    have how3 : Ow 3 encI 1 w2.heap.size v3 a3 (n + 1) c3 (L ++ [x]) := Ow.of_row (by simpa using hown3) encI_len (by omega)
    have hlt3 := how3.lt
    have hX3 : RExt B w v3 := by
      have h1 : RExt B w (v2.alloc (Obj.cells #[Value.int IntKind.i64 x] 3)) := ((hX2.ext hy1).trans hy2).alloc _
      refine ⟨(World.grownBy.os hg3).trans (World.grownBy.os h1), (World.grownBy.tape hg3).trans (World.grownBy.tape h1), (World.grownBy.output hg3).trans (World.grownBy.output h1), Nat.le_trans h1.size hg3.size, fun i hi hne => ?_⟩
      have hsz1 := h1.size
      exact (hg3.block i (by omega) (by intro e; have := (hlt1 i e.symm).1; omega)).trans (World.grownBy.block h1 i hi hne)
    have hr3 : Rd n0 v3 B (m + 100) := by
      refine (Rd.mono (hr3.alloc (Obj.cells #[Value.int IntKind.i64 x] 3)) (by omega)).keep hg3.size fun i hi => ?_
      have := hr2.le
      exact hg3.block i (by simp; omega) (by intro e; have := (hlt1 i e.symm).1; omega)
    refine' bodyPost_ret (v := _) ?_ rfl ?_
    rotate_left
    · (simp only [results, Try.results88]
       go_simp
       rfl)
    refine ⟨k, fa, fp, ta, tp, a3, n + 1, c3, L ++ [x], rfl, ?_, by omega, (fun y hy => by have := (hlt3 y hy).1; omega), (by exact hr3.to (by repeat (first | (with_reducible exact Since.refl hr3.le) | (with_reducible refine Since.alloc ?_ _) | (with_reducible refine Since.drew ?_) | (with_reducible refine Since.drewN ?_ _) | (with_reducible refine Since.setCell ?_ ?_ _; rotate_left; (simp only []; omega)) | (with_reducible refine Since.ext ?_ (by assumption))))), (by repeat (first | (with_reducible exact RExt.refl _ _) | (with_reducible assumption) | (with_reducible refine RExt.alloc ?_ _) | (with_reducible refine RExt.drewN ?_ _) | (with_reducible refine RExt.drew ?_) | (with_reducible refine RExt.setCell ?_ (.inr ?_) _; rotate_left; (simp only []; omega)) | (with_reducible refine RExt.trans ?_ (by assumption)) | (with_reducible refine RExt.ext ?_ (by assumption))))⟩
    · repeat (refine Sl.setCell ?_ (fun y hy => by have := (hlt3 y hy).1; simp only []; omega) _)
      exact how3.sl encI_len
  · have hcP := hBP.cells
    have hfP := hBP.frozens
    have hcR := hBR.cells
    have hfR := hBR.frozens
    by_cases e0 : d = 0
    · subst e0
      go_wp2_with fail
      refine (one_lit n0 B _ _ _ _ _ _ hr2 (by omega) (by simp) (by rfl) (by omega) (by omega) (by simp [intOf])).mono ?_
      rintro e w3 ⟨z, rfl, _, hr3, hx3⟩
      have hBR3 := hBR.rext hx3 (by omega)
      have hBP3 := hBP.rext hx3 (by omega)
      have hcP3 := hBP3.cells
      have hfP3 := hBP3.frozens
      have hcR3 := hBR3.cells
      have hfR3 := hBR3.frozens
      have hy3 := hx3.size
      have hs3 := hs2.rextFar hx3 (fun h x hx => by have := hfr' h x hx; omega)
      have hX3 := hX2.trans hx3
      clear hx3 hX2
      go_wp2
      refine' bodyPost_ret (v := _) ?_ rfl ?_
      rotate_left
      · (simp only [results, Try.results88]
         go_simp
         rfl)
      refine ⟨_, _, _, _, _, a, n, c, L, rfl, ?_, by omega, (fun y hy => by have := hfr1 y hy; omega), (by exact (hr3.mono (show m + 98 + 1 + 1 ≤ m + 100 by omega)).to (by repeat (first | (with_reducible exact Since.refl (hr3.mono (show m + 98 + 1 + 1 ≤ m + 100 by omega)).le) | (with_reducible refine Since.alloc ?_ _) | (with_reducible refine Since.drew ?_) | (with_reducible refine Since.drewN ?_ _) | (with_reducible refine Since.setCell ?_ ?_ _; rotate_left; (simp only []; omega)) | (with_reducible refine Since.ext ?_ (by assumption))))), (by repeat (first | (with_reducible exact RExt.refl _ _) | (with_reducible assumption) | (with_reducible refine RExt.alloc ?_ _) | (with_reducible refine RExt.drewN ?_ _) | (with_reducible refine RExt.drew ?_) | (with_reducible refine RExt.setCell ?_ (.inr ?_) _; rotate_left; (simp only []; omega)) | (with_reducible refine RExt.trans ?_ (by assumption)) | (with_reducible refine RExt.ext ?_ (by assumption))))⟩
      repeat (refine Sl.setFar ?_ (fun h y hy => by have := hfr' h y hy; simp only []; omega) _)
      exact hs3
    by_cases e1 : d = 1
    · subst e1
      go_wp2_with fail
      refine (one_lit n0 B _ _ _ _ _ _ hr2 (by omega) (by simp) (by rfl) (by omega) (by omega) (by simp [intOf])).mono ?_
      rintro e w3 ⟨z, rfl, _, hr3, hx3⟩
      have hBR3 := hBR.rext hx3 (by omega)
      have hBP3 := hBP.rext hx3 (by omega)
      have hcP3 := hBP3.cells
      have hfP3 := hBP3.frozens
      have hcR3 := hBR3.cells
      have hfR3 := hBR3.frozens
      have hy3 := hx3.size
      have hs3 := hs2.rextFar hx3 (fun h x hx => by have := hfr' h x hx; omega)
      have hX3 := hX2.trans hx3
      clear hx3 hX2
      go_wp2
      refine' bodyPost_ret (v := _) ?_ rfl ?_
      rotate_left
      · (simp only [results, Try.results88]
         go_simp
         rfl)
      refine ⟨_, _, _, _, _, a, n, c, L, rfl, ?_, by omega, (fun y hy => by have := hfr1 y hy; omega), (by exact (hr3.mono (show m + 98 + 1 + 1 ≤ m + 100 by omega)).to (by repeat (first | (with_reducible exact Since.refl (hr3.mono (show m + 98 + 1 + 1 ≤ m + 100 by omega)).le) | (with_reducible refine Since.alloc ?_ _) | (with_reducible refine Since.drew ?_) | (with_reducible refine Since.drewN ?_ _) | (with_reducible refine Since.setCell ?_ ?_ _; rotate_left; (simp only []; omega)) | (with_reducible refine Since.ext ?_ (by assumption))))), (by repeat (first | (with_reducible exact RExt.refl _ _) | (with_reducible assumption) | (with_reducible refine RExt.alloc ?_ _) | (with_reducible refine RExt.drewN ?_ _) | (with_reducible refine RExt.drew ?_) | (with_reducible refine RExt.setCell ?_ (.inr ?_) _; rotate_left; (simp only []; omega)) | (with_reducible refine RExt.trans ?_ (by assumption)) | (with_reducible refine RExt.ext ?_ (by assumption))))⟩
      repeat (refine Sl.setFar ?_ (fun h y hy => by have := hfr' h y hy; simp only []; omega) _)
      exact hs3
    by_cases e3 : d = 3
    · subst e3
      obtain ⟨cs, hcs, hmk⟩ : ∃ cs : Array Value, cs = #[.int .i64 0, .int .i64 0, .int .i64 0, .int .i64 0, .int .i64 0, .int .i64 0, .int .i64 0, .int .i64 0, .int .i64 0, .int .i64 0, .int .i64 0, .int .i64 0, .int .i64 0] ∧ ∀ W : World, (Instr.makeSlice 30 (.int .i64 13) (.int .i64 13)).run Try.prog W = .ok (.slice (some ⟨W.heap.size, 0, none⟩) 13 13) (W.alloc (.cells cs 3)) := ⟨_, rfl, fun _ => by kernel_rfl⟩
      have hsl : ∀ (W : World) (b : Nat), b = W.heap.size → Sl encI 1 (W.alloc (.cells cs 3)) (some ⟨b, 0, none⟩) 13 13 (List.replicate 13 0) := by
        rintro W b rfl
        have h := Sl.lits W 3 cs (n := 13) rfl (by rw [hcs]; rfl) (by omega) (by rw [hcs]; simp [intOf])
        rw [show cs.toList.map intOf = List.replicate 13 0 by rw [hcs]; rfl] at h
        exact h
      clear hcs
      go_wp2
      refine' bodyPost_ret (v := _) ?_ rfl ?_
      rotate_left
      · (simp only [results, Try.results88]
         go_simp
         rfl)
      refine ⟨_, _, _, _, _, _, 13, 13, List.replicate 13 0, rfl, ?_, by omega, ?_, (by exact (hr2.mono (show m + 98 + 1 ≤ m + 100 by omega)).to (by repeat (first | (with_reducible exact Since.refl (hr2.mono (show m + 98 + 1 ≤ m + 100 by omega)).le) | (with_reducible refine Since.alloc ?_ _) | (with_reducible refine Since.drew ?_) | (with_reducible refine Since.drewN ?_ _) | (with_reducible refine Since.setCell ?_ ?_ _; rotate_left; (simp only []; omega)) | (with_reducible refine Since.ext ?_ (by assumption))))), (by repeat (first | (with_reducible exact RExt.refl _ _) | (with_reducible assumption) | (with_reducible refine RExt.alloc ?_ _) | (with_reducible refine RExt.drewN ?_ _) | (with_reducible refine RExt.drew ?_) | (with_reducible refine RExt.setCell ?_ (.inr ?_) _; rotate_left; (simp only []; omega)) | (with_reducible refine RExt.trans ?_ (by assumption)) | (with_reducible refine RExt.ext ?_ (by assumption))))⟩
      · exact hsl _ _ (by simp)
      · intro y hy
        injection hy with hy
        subst hy
        simp only []
        omega
    · go_wp2
      refine' bodyPost_ret (v := _) ?_ rfl ?_
      rotate_left
      · (simp only [results, Try.results88]
         go_simp
         rfl)
      refine ⟨_, _, _, _, _, a, n, c, L, rfl, ?_, by omega, (fun y hy => by have := hfr1 y hy; omega), (by exact (hr2.mono (show m + 98 + 1 ≤ m + 100 by omega)).to (by repeat (first | (with_reducible exact Since.refl (hr2.mono (show m + 98 + 1 ≤ m + 100 by omega)).le) | (with_reducible refine Since.alloc ?_ _) | (with_reducible refine Since.drew ?_) | (with_reducible refine Since.drewN ?_ _) | (with_reducible refine Since.setCell ?_ ?_ _; rotate_left; (simp only []; omega)) | (with_reducible refine Since.ext ?_ (by assumption))))), (by repeat (first | (with_reducible exact RExt.refl _ _) | (with_reducible assumption) | (with_reducible refine RExt.alloc ?_ _) | (with_reducible refine RExt.drewN ?_ _) | (with_reducible refine RExt.drew ?_) | (with_reducible refine RExt.setCell ?_ (.inr ?_) _; rotate_left; (simp only []; omega)) | (with_reducible refine RExt.trans ?_ (by assumption)) | (with_reducible refine RExt.ext ?_ (by assumption))))⟩
      repeat (refine Sl.setFar ?_ (fun h y hy => by have := hfr' h y hy; simp only []; omega) _)
      exact hs2
set_option maxHeartbeats 2000000 in
theorem anyReport_any (n0 B : Nat) (m : Int) (w : World) (hr : Rd n0 w B m) (hm : m + 113 ≤ 1000000) :
    Calls Try.prog 72 #[.pointer (some ⟨B, 0, none⟩)] w fun e w' => ∃ o s t k fa fp ta tp a n c L, e = .returned (.agg #[.int .i64 o, .int .i64 s, .int .i64 t, .int .i64 k, .int .i64 fa, .int .i64 fp, .int .i64 ta, .int .i64 tp, .slice a n c]) ∧
      Sl encI 1 w' a n c L ∧ n ≤ 13 ∧ (∀ x, a = some x → w.heap.size ≤ x.block) ∧ Rd n0 w' B (m + 113) ∧ RExt B w w' := by
  have hnw : n0 ≤ w.heap.size := hr.le
  have hBw : B < w.heap.size := (by have := hr.lt; omega)
  go_enter Try.func72, Try.ntmps72
  go_wp2_with fail
  refine (pick_any n0 B _ 16 _ (by exact hr.to (by repeat (first | (with_reducible exact Since.refl hr.le) | (with_reducible refine Since.alloc ?_ _) | (with_reducible refine Since.drew ?_) | (with_reducible refine Since.drewN ?_ _) | (with_reducible refine Since.setCell ?_ ?_ _; rotate_left; (simp only []; omega)) | (with_reducible refine Since.ext ?_ (by assumption))))) (by omega) (by omega) (by omega)).mono ?_
  rintro e u1 ⟨o, rfl, _, _, hr1, hx1⟩
  have hz1 := hx1.size
  simp at hz1
  have hB1 : Blk u1 w.heap.size 56 #[.int .i64 0, .int .i64 0, .int .i64 0, .int .i64 0, .int .i64 0, .int .i64 0, .int .i64 0, .int .i64 0, .slice none 0 0] := by refine Blk.rext ?_ hx1 (by omega); exact (by repeat (first | (with_reducible assumption) | (with_reducible exact Blk.new _ _ _) | exact Blk.newAt _ _ _ (by simp) | (with_reducible refine Blk.alloc ?_ _) | (with_reducible refine Blk.drew ?_) | (with_reducible refine Blk.drewN ?_ _) | refine Blk.far ?_ (by simp only []; omega) _ | refine Blk.rext ?_ (by assumption) (by omega) | refine Blk.ext ?_ (by assumption)))
  go_wp2_with fail
  refine (someWord_any n0 B _ _ (by exact hr1.to (by repeat (first | (with_reducible exact Since.refl hr1.le) | (with_reducible refine Since.alloc ?_ _) | (with_reducible refine Since.drew ?_) | (with_reducible refine Since.drewN ?_ _) | (with_reducible refine Since.setCell ?_ ?_ _; rotate_left; (simp only []; omega)) | (with_reducible refine Since.ext ?_ (by assumption))))) (by omega)).mono ?_
  rintro e u2 ⟨s, rfl, _, _, hr2, hx2⟩
  have hz2 := hx2.size
  have hB2 : Blk u2 w.heap.size 56 _ := Blk.rext hB1 hx2 (by omega)
  go_wp2_with fail
  refine (someWord_any n0 B _ _ (by exact hr2.to (by repeat (first | (with_reducible exact Since.refl hr2.le) | (with_reducible refine Since.alloc ?_ _) | (with_reducible refine Since.drew ?_) | (with_reducible refine Since.drewN ?_ _) | (with_reducible refine Since.setCell ?_ ?_ _; rotate_left; (simp only []; omega)) | (with_reducible refine Since.ext ?_ (by assumption))))) (by omega)).mono ?_
  rintro e u3 ⟨t, rfl, _, _, hr3, hx3⟩
  have hz3 := hx3.size
  have hB3 : Blk u3 w.heap.size 56 _ := Blk.rext hB2 hx3 (by omega)
  go_wp2_with fail
  refine (anyPacket_any n0 B _ _ (by exact hr3.to (by repeat (first | (with_reducible exact Since.refl hr3.le) | (with_reducible refine Since.alloc ?_ _) | (with_reducible refine Since.drew ?_) | (with_reducible refine Since.drewN ?_ _) | (with_reducible refine Since.setCell ?_ ?_ _; rotate_left; (simp only []; omega)) | (with_reducible refine Since.ext ?_ (by assumption))))) (by omega)).mono ?_
  rintro e w1 ⟨k, fa, fp, ta, tp, a, n, c, L, rfl, hs, hn13, hfr, hr4, hx4⟩
  have hz4 := hx4.size
  have hB4 : Blk w1 w.heap.size 56 _ := Blk.rext hB3 hx4 (by omega)
  have hfr1 : ∀ x, a = some x → w.heap.size < x.block := by
    intro x hx
    have h2 := hfr x hx
    omega
  have hfr' : 0 < n → ∀ x, a = some x → w.heap.size < x.block ∧ x.block < w1.heap.size := fun h x hx => ⟨hfr1 x hx, hs.lt h x hx⟩
  go_wp2_with fail
  refine (pick_any n0 B _ 10 _ (by exact hr4.to (by repeat (first | (with_reducible exact Since.refl hr4.le) | (with_reducible refine Since.alloc ?_ _) | (with_reducible refine Since.drew ?_) | (with_reducible refine Since.drewN ?_ _) | (with_reducible refine Since.setCell ?_ ?_ _; rotate_left; (simp only []; omega)) | (with_reducible refine Since.ext ?_ (by assumption))))) (by omega) (by omega) (by omega)).mono ?_
  rintro e w2 ⟨d, rfl, d0, d1, hr2, hx5⟩
  have hz5 := hx5.size
  simp at hz5
  have hBR : Blk w2 w.heap.size 56 #[.int .i64 0, .int .i64 0, .int .i64 0, .int .i64 0, .int .i64 0, .int .i64 0, .int .i64 0, .int .i64 0, .slice none 0 0] := by refine Blk.rext ?_ hx5 (by omega); exact (by repeat (first | (with_reducible assumption) | (with_reducible exact Blk.new _ _ _) | exact Blk.newAt _ _ _ (by simp) | (with_reducible refine Blk.alloc ?_ _) | (with_reducible refine Blk.drew ?_) | (with_reducible refine Blk.drewN ?_ _) | refine Blk.far ?_ (by simp only []; omega) _ | refine Blk.rext ?_ (by assumption) (by omega) | refine Blk.ext ?_ (by assumption)))
  have hBP : Blk w2 w1.heap.size 56 #[.int .i64 o, .int .i64 s, .int .i64 t, .int .i64 k, .int .i64 fa, .int .i64 fp, .int .i64 ta, .int .i64 tp, .slice a n c] := by refine Blk.rext ?_ hx5 (by omega); exact (by repeat (first | (with_reducible assumption) | (with_reducible exact Blk.new _ _ _) | exact Blk.newAt _ _ _ (by simp) | (with_reducible refine Blk.alloc ?_ _) | (with_reducible refine Blk.drew ?_) | (with_reducible refine Blk.drewN ?_ _) | refine Blk.far ?_ (by simp only []; omega) _ | refine Blk.rext ?_ (by assumption) (by omega) | refine Blk.ext ?_ (by assumption)))
  have hs2 : Sl encI 1 w2 a n c L := (hs.alloc _).rextFar hx5 (fun h x hx => by have := hfr' h x hx; omega)
  have hX2 : RExt B w w2 := (by repeat (first | (with_reducible exact RExt.refl _ _) | (with_reducible assumption) | (with_reducible refine RExt.alloc ?_ _) | (with_reducible refine RExt.drewN ?_ _) | (with_reducible refine RExt.drew ?_) | (with_reducible refine RExt.setCell ?_ (.inr ?_) _; rotate_left; (simp only []; omega)) | (with_reducible refine RExt.trans ?_ (by assumption)) | (with_reducible refine RExt.ext ?_ (by assumption))))
  have hwl : w.heap.size < w2.heap.size := by omega
  have hPl : w1.heap.size < w2.heap.size := by omega
  have hBl2 : B < w2.heap.size := by omega
  have hw1 : w.heap.size < w1.heap.size := by omega
  clear hx1 hx2 hx3 hx4 hx5 hr1 hr3 hr4 hz1 hz2 hz3 hz4 hz5 hB1 hB2 hB3 hB4 hs hfr
  generalize w1.heap.size = P at *
  have hcP := hBP.cells
  have hfP := hBP.frozens
  have hcR := hBR.cells
  have hfR := hBR.frozens
  by_cases e0 : d = 0
  · subst e0
    go_wp2_with fail
    refine (one_lit n0 B _ _ _ _ _ _ hr2 (by omega) (by simp) (by rfl) (by omega) (by omega) (by simp [intOf])).mono ?_
    rintro e w3 ⟨z, rfl, _, hr3, hx3⟩
    have hBR3 := hBR.rext hx3 (by omega)
    have hBP3 := hBP.rext hx3 (by omega)
    have hcP3 := hBP3.cells
    have hfP3 := hBP3.frozens
    have hcR3 := hBR3.cells
    have hfR3 := hBR3.frozens
    have hy3 := hx3.size
    have hs3 := hs2.rextFar hx3 (fun h x hx => by have := hfr' h x hx; omega)
    have hX3 := hX2.trans hx3
    clear hx3 hX2
    go_wp2
    refine' bodyPost_ret (v := _) ?_ rfl ?_
    rotate_left
    · (simp only [results, Try.results72]
       go_simp
       rfl)
    refine ⟨_, _, _, _, _, _, _, _, a, n, c, L, rfl, ?_, by omega, (fun y hy => by have := hfr1 y hy; omega), (by exact (hr3.mono (show m + 1 + 5 + 5 + 100 + 1 + 1 ≤ m + 113 by omega)).to (by repeat (first | (with_reducible exact Since.refl (hr3.mono (show m + 1 + 5 + 5 + 100 + 1 + 1 ≤ m + 113 by omega)).le) | (with_reducible refine Since.alloc ?_ _) | (with_reducible refine Since.drew ?_) | (with_reducible refine Since.drewN ?_ _) | (with_reducible refine Since.setCell ?_ ?_ _; rotate_left; (simp only []; omega)) | (with_reducible refine Since.ext ?_ (by assumption))))), (by repeat (first | (with_reducible exact RExt.refl _ _) | (with_reducible assumption) | (with_reducible refine RExt.alloc ?_ _) | (with_reducible refine RExt.drewN ?_ _) | (with_reducible refine RExt.drew ?_) | (with_reducible refine RExt.setCell ?_ (.inr ?_) _; rotate_left; (simp only []; omega)) | (with_reducible refine RExt.trans ?_ (by assumption)) | (with_reducible refine RExt.ext ?_ (by assumption))))⟩
    repeat (refine Sl.setFar ?_ (fun h y hy => by have := hfr' h y hy; simp only []; omega) _)
    exact hs3
  · go_wp2
    refine' bodyPost_ret (v := _) ?_ rfl ?_
    rotate_left
    · (simp only [results, Try.results72]
       go_simp
       rfl)
    refine ⟨_, _, _, _, _, _, _, _, a, n, c, L, rfl, ?_, by omega, (fun y hy => by have := hfr1 y hy; omega), (by exact (hr2.mono (show m + 1 + 5 + 5 + 100 + 1 ≤ m + 113 by omega)).to (by repeat (first | (with_reducible exact Since.refl (hr2.mono (show m + 1 + 5 + 5 + 100 + 1 ≤ m + 113 by omega)).le) | (with_reducible refine Since.alloc ?_ _) | (with_reducible refine Since.drew ?_) | (with_reducible refine Since.drewN ?_ _) | (with_reducible refine Since.setCell ?_ ?_ _; rotate_left; (simp only []; omega)) | (with_reducible refine Since.ext ?_ (by assumption))))), (by repeat (first | (with_reducible exact RExt.refl _ _) | (with_reducible assumption) | (with_reducible refine RExt.alloc ?_ _) | (with_reducible refine RExt.drewN ?_ _) | (with_reducible refine RExt.drew ?_) | (with_reducible refine RExt.setCell ?_ (.inr ?_) _; rotate_left; (simp only []; omega)) | (with_reducible refine RExt.trans ?_ (by assumption)) | (with_reducible refine RExt.ext ?_ (by assumption))))⟩
    repeat (refine Sl.setFar ?_ (fun h y hy => by have := hfr' h y hy; simp only []; omega) _)
    exact hs2
end Go.Proofs.Ytafmomocmodbhaa
/- Contracts: valid reports; the law on them. -/
namespace Go.Proofs.Ytafmomocmodbhaa
set_option linter.unusedVariables false
set_option linter.unusedSimpArgs false
open Go.RowKit

theorem impl_ValidReport (o s t kind fa fp ta tp : Int) (a : Option Addr) (n c : Nat) (L : List Int) (w : World) (hs : Sl encI 1 w a n c L) :
    Calls Try.prog 29 #[.agg #[.int .i64 o, .int .i64 s, .int .i64 t, .int .i64 kind, .int .i64 fa, .int .i64 fp, .int .i64 ta, .int .i64 tp, .slice a n c]] w fun e w' =>
      e = .returned (.bool (validRep ⟨o, s, t, ⟨kind, ⟨fa, fp⟩, ⟨ta, tp⟩, L⟩⟩)) ∧ Ext w w' := by
  rw [show validRep ⟨o, s, t, ⟨kind, ⟨fa, fp⟩, ⟨ta, tp⟩, L⟩⟩ = (inR o 0 15 && ([s, t].all word) && validPkt ⟨kind, ⟨fa, fp⟩, ⟨ta, tp⟩, L⟩) by simp [validRep, Bool.and_assoc]]
  go_enter Try.func29, Try.ntmps29
  go_wp2_with (first | (go_at_call 63; refine (impl_in _ _ _ _).mono ?_; rintro e w' ⟨rfl, rfl⟩) | (go_at_call 84; refine (impl_areWords _ _ _ [s, t] _ (by exact Sl.lit _ _ [s, t] (by simp))).mono ?_; rintro e w' ⟨rfl, rfl⟩) | (go_at_call 53; refine (impl_ValidPacket _ _ _ _ _ _ _ _ L _ (by exact hs.ext (by repeat (first | (with_reducible exact Ext.refl _) | (with_reducible assumption) | (with_reducible refine Ext.alloc ?_ _) | (with_reducible refine Ext.drewN ?_ _) | (with_reducible refine Ext.drew ?_) | (with_reducible refine Ext.setCell ?_ ?_ _; rotate_left; (simp only []; omega)) | (with_reducible refine Ext.trans ?_ (by assumption)))))).mono ?_; rintro e w1 ⟨rfl, hx⟩; have hc := hx.cells; have hf := hx.frozens; have hy := hx.size; (try simp at hy); have hz : w.heap.size < w1.heap.size := (by omega)))
  all_goals (go_ret; exact ⟨ret_bool (by simp [*]), (by repeat (first | (with_reducible exact Ext.refl _) | (with_reducible assumption) | (with_reducible refine Ext.alloc ?_ _) | (with_reducible refine Ext.drewN ?_ _) | (with_reducible refine Ext.drew ?_) | (with_reducible refine Ext.setCell ?_ ?_ _; rotate_left; (simp only []; omega)) | (with_reducible refine Ext.trans ?_ (by assumption))))⟩)
theorem spec_validReport (o s t kind fa fp ta tp : Int) (a : Option Addr) (n c : Nat) (L : List Int) (w : World) (hs : Sl encI 1 w a n c L) :
    Calls Try.prog 78 #[.agg #[.int .i64 o, .int .i64 s, .int .i64 t, .int .i64 kind, .int .i64 fa, .int .i64 fp, .int .i64 ta, .int .i64 tp, .slice a n c]] w fun e w' =>
      e = .returned (.bool (validRep ⟨o, s, t, ⟨kind, ⟨fa, fp⟩, ⟨ta, tp⟩, L⟩⟩)) ∧ Ext w w' := by
  rw [show validRep ⟨o, s, t, ⟨kind, ⟨fa, fp⟩, ⟨ta, tp⟩, L⟩⟩ = (inR o 0 15 && word s && word t && validPkt ⟨kind, ⟨fa, fp⟩, ⟨ta, tp⟩, L⟩) by simp [validRep, Bool.and_assoc]]
  go_enter Try.func78, Try.ntmps78
  go_wp2_with (first | (go_at_call 68; refine (spec_inRange _ _ _ _).mono ?_; rintro e w' ⟨rfl, rfl⟩) | (go_at_call 97; refine (spec_validAddr _ _).mono ?_; rintro e w' ⟨rfl, rfl⟩) | (go_at_call 43; refine (spec_validPacket _ _ _ _ _ _ _ _ L _ (by exact hs.ext (by repeat (first | (with_reducible exact Ext.refl _) | (with_reducible assumption) | (with_reducible refine Ext.alloc ?_ _) | (with_reducible refine Ext.drewN ?_ _) | (with_reducible refine Ext.drew ?_) | (with_reducible refine Ext.setCell ?_ ?_ _; rotate_left; (simp only []; omega)) | (with_reducible refine Ext.trans ?_ (by assumption)))))).mono ?_; rintro e w1 ⟨rfl, hx⟩; have hc := hx.cells; have hf := hx.frozens; have hy := hx.size; (try simp at hy); have hz : w.heap.size < w1.heap.size := (by omega)))
  all_goals (go_ret; exact ⟨ret_bool (by simp [*]), (by repeat (first | (with_reducible exact Ext.refl _) | (with_reducible assumption) | (with_reducible refine Ext.alloc ?_ _) | (with_reducible refine Ext.drewN ?_ _) | (with_reducible refine Ext.drew ?_) | (with_reducible refine Ext.setCell ?_ ?_ _; rotate_left; (simp only []; omega)) | (with_reducible refine Ext.trans ?_ (by assumption))))⟩)
end Go.Proofs.Ytafmomocmodbhaa
/- Contracts: the report about a packet. -/
namespace Go.Proofs.Ytafmomocmodbhaa
set_option linter.unusedVariables false
set_option linter.unusedSimpArgs false
open Go.RowKit

theorem Ow.setCell {α : Type} {E : TypeId} {enc : α → List Value} {k base : Nat} {w : World} {a : Option Addr} {n c : Nat} {L : List α} (h : Ow E enc k base w a n c L) {p : Addr} (hp : ∀ x, a = some x → x.block ≠ p.block) (u : Value) :
    Ow E enc k base (w.setCell p u) a n c L := h.keep fun x e _ => Below.heap_setCell w p u x.block (hp x e)
theorem spec_copyPacket (k fa fp ta tp : Int) (a : Option Addr) (n c : Nat) (L : List Int) (w : World) (hs : Sl encI 1 w a n c L) (hn : n ≤ 1048576) :
    Calls Try.prog 137 #[.agg #[.int .i64 k, .int .i64 fa, .int .i64 fp, .int .i64 ta, .int .i64 tp, .slice a n c]] w fun e w' => ∃ a' c', e = .returned (.agg #[.int .i64 k, .int .i64 fa, .int .i64 fp, .int .i64 ta, .int .i64 tp, .slice a' n c']) ∧
      Ow 3 encI 1 w.heap.size w' a' n c' L ∧ Ext w w' := by
  go_enter Try.func137, Try.ntmps137
  go_wp2_with fail
  refine (spec_copyInts a n c L _ (by exact hs.ext (by repeat (first | (with_reducible exact Ext.refl _) | (with_reducible assumption) | (with_reducible refine Ext.alloc ?_ _) | (with_reducible refine Ext.drewN ?_ _) | (with_reducible refine Ext.drew ?_) | (with_reducible refine Ext.setCell ?_ ?_ _; rotate_left; (simp only []; omega)) | (with_reducible refine Ext.trans ?_ (by assumption))))) hn).mono ?_
  rintro e w1 ⟨a', c', rfl, hown, hx⟩
  have how := Ow.of_row hown encI_len (by omega)
  have hB1 : Blk w1 w.heap.size 44 #[.int .i64 k, .int .i64 fa, .int .i64 fp, .int .i64 ta, .int .i64 tp, .slice a n c] := by refine Blk.ext ?_ hx; exact (by repeat (first | (with_reducible assumption) | (with_reducible exact Blk.new _ _ _) | exact Blk.newAt _ _ _ (by simp) | (with_reducible refine Blk.alloc ?_ _) | (with_reducible refine Blk.drew ?_) | (with_reducible refine Blk.drewN ?_ _) | refine Blk.far ?_ (by simp only []; omega) _ | refine Blk.rext ?_ (by assumption) (by omega) | refine Blk.ext ?_ (by assumption)))
  have hB2 : Blk w1 (w.heap.size + 1) 44 #[.int .i64 0, .int .i64 0, .int .i64 0, .int .i64 0, .int .i64 0, .slice none 0 0] := by refine Blk.ext ?_ hx; exact (by repeat (first | (with_reducible assumption) | (with_reducible exact Blk.new _ _ _) | exact Blk.newAt _ _ _ (by simp) | (with_reducible refine Blk.alloc ?_ _) | (with_reducible refine Blk.drew ?_) | (with_reducible refine Blk.drewN ?_ _) | refine Blk.far ?_ (by simp only []; omega) _ | refine Blk.rext ?_ (by assumption) (by omega) | refine Blk.ext ?_ (by assumption)))
  have hc1 := hB1.cells
  have hf1 := hB1.frozens
  have hc2 := hB2.cells
  have hf2 := hB2.frozens
  have hy := hx.size
  simp at hy
  have hz : w.heap.size < w1.heap.size ∧ w.heap.size + 1 < w1.heap.size := by omega
  have hlt := how.lt
  simp at hlt
  clear hown
  go_wp2
  refine' bodyPost_ret (v := _) ?_ rfl ?_
  rotate_left
  · (simp only [results, Try.results137]
     go_simp
     rfl)
  refine ⟨a', c', rfl, ?_, (by repeat (first | (with_reducible exact Ext.refl _) | (with_reducible assumption) | (with_reducible refine Ext.alloc ?_ _) | (with_reducible refine Ext.drewN ?_ _) | (with_reducible refine Ext.drew ?_) | (with_reducible refine Ext.setCell ?_ ?_ _; rotate_left; (simp only []; omega)) | (with_reducible refine Ext.trans ?_ (by assumption))))⟩
  refine Ow.rebase (base := w.heap.size + 2) ?_ (by omega)
  repeat (refine Ow.setCell ?_ (fun y hy => by have := (hlt y hy).1; simp only []; omega) _)
  simpa using how
end Go.Proofs.Ytafmomocmodbhaa
/- The second package's way out. -/
namespace Go.Proofs.Ytafmomocmodbhaa
set_option linter.unusedVariables false
set_option linter.unusedSimpArgs false
open Go.RowKit

set_option maxHeartbeats 1000000 in
theorem spec_freePort (a : Option Addr) (n c : Nat) (L : List MapD) (want : Int) (w : World) (hs : Sl encM 4 w a n c L) (h0 : 0 ≤ want) (h1 : want ≤ 65535) :
    Calls Try.prog 156 #[.slice a n c, .int .i64 want] w fun e w' => e = .returned (.int .i64 (freePort L want)) ∧ w = w' := by
  have hP := Lib.hid (fun q W h => spec_byPort q a n c L W h)
  have hS := Lib.hid hs
  clear hs
  have hbL : ∀ q, -1 ≤ byPort L q := fun q => ix_ge _ _
  have HBL := Lib.hid hbL
  obtain ⟨R, hR⟩ : ∃ R, R = freePort L want := ⟨_, rfl⟩
  rw [← hR]
  have tw : want.tmod 2 = want % 2 := Int.tmod_eq_emod_of_nonneg h0
  cases hi : inR want 1000 1007 && freeAt L want with
  | true =>
    have e : R = want := by rw [hR]; unfold freePort; rw [if_pos hi]
    simp only [Bool.and_eq_true] at hi
    have c1 := spec_inRange want 1000 1007
    rw [hi.1] at c1
    have hf : byPort L want < 0 := of_decide_eq_true hi.2
    clear hR hbL hi tw
    subst e
    go_enter Try.func156, Try.ntmps156
    go_wp2_with (first | (go_at_call 68; refine (c1 _).mono ?_; rintro e w' ⟨rfl, rfl⟩) | (go_at_call 90; refine (hP.out _ _ hS.out).mono ?_; rintro e w' ⟨rfl, rfl⟩))
    go_ret
    exact ⟨rfl, rfl⟩
  | false =>
    have e : R = if firstOf (fun n => decide (n % 2 = want % 2) && freeAt L n) 1000 8 < 0 then firstOf (freeAt L) 1000 8 else firstOf (fun n => decide (n % 2 = want % 2) && freeAt L n) 1000 8 := by rw [hR]; unfold freePort; rw [if_neg (by rw [hi]; simp)]
    have HE := Lib.hid e
    have c1 := fun W => spec_inRange want 1000 1007 W
    have fin : ∀ (Q : World → Prop), Q w → True := fun _ _ => trivial
    clear hR e fin hbL
    have hstart : ∃ x y : Bool, inR want 1000 1007 = x ∧ decide (byPort L want < 0) = y ∧ (x && y) = false := ⟨_, _, rfl, rfl, hi⟩
    obtain ⟨x, y, hx, hy, hxy⟩ := hstart
    rw [hx] at c1
    clear hi
    have hyd : (byPort L want < 0) ↔ y = true := by rw [← hy]; simp
    cases x with
    | true =>
      have hy0 : ¬ byPort L want < 0 := by rw [hyd]; simpa using hxy
      clear hyd hxy hy hx
      go_enter Try.func156, Try.ntmps156
      go_wp2_with (first | (go_at_call 68; refine (c1 _).mono ?_; rintro e w' ⟨rfl, rfl⟩) | (go_at_call 90; refine (hP.out _ _ hS.out).mono ?_; rintro e w' ⟨rfl, rfl⟩))
      clear c1
      go_loop [5] (fun i => ∃ k : Nat, k ≤ 8 ∧ i = .int .i64 (1000 + k) ∧ (∀ j : Int, 1000 ≤ j → j < 1000 + k → (decide (j % 2 = want % 2) && freeAt L j) = false)) (fun i => 8 - (intOf i - 1000).toNat)
      case atStart => exact ⟨0, by omega, by go_num, fun j h1 h2 => by omega⟩
      case round =>
        obtain ⟨k, hk, rfl, hall⟩ := hrel
        have HA := Lib.hid hall
        clear hall
        have t1 : (1000 + (k : Int)).tmod 2 = (1000 + (k : Int)) % 2 := Int.tmod_eq_emod_of_nonneg (by omega)
        by_cases hlt : k < 8
        · by_cases hp : (1000 + (k : Int)) % 2 = want % 2
          · by_cases hf : byPort L (1000 + k) < 0
            · have hfin := Lib.hid (show R = 1000 + k by
                have h := firstOf_some (f := fun n => decide (n % 2 = want % 2) && freeAt L n) 8 1000 (1000 + k) (by omega) (by omega) HA.out (by simp [freeAt, hf, hp])
                rw [HE.out, h, if_neg (by omega)])
              go_wp2_with (go_at_call 90; refine (hP.out _ _ hS.out).mono ?_; rintro e w' ⟨rfl, rfl⟩)
              go_ret
              exact ⟨ret_int hfin.out.symm, rfl⟩
            · go_wp2_with (go_at_call 90; refine (hP.out _ _ hS.out).mono ?_; rintro e w' ⟨rfl, rfl⟩)
              go_round
              case rel => exact ⟨k + 1, by omega, by congr 1 <;> omega, fun j h1 h2 => by
                rcases Int.lt_or_le j (1000 + k) with h | h
                · exact HA.out j h1 h
                · have e : j = 1000 + k := by omega
                  rw [e]; simp [freeAt, hf]⟩
              case measure => simp [intOf]; omega
          · go_wp2
            go_round
            case rel => exact ⟨k + 1, by omega, by congr 1 <;> omega, fun j h1 h2 => by
              rcases Int.lt_or_le j (1000 + k) with h | h
              · exact HA.out j h1 h
              · have e : j = 1000 + k := by omega
                rw [e]; simp [hp]⟩
            case measure => simp [intOf]; omega
        · have e : k = 8 := by omega
          subst e
          have HE2 := Lib.hid (show R = firstOf (freeAt L) 1000 8 by
            have h := firstOf_none (f := fun n => decide (n % 2 = want % 2) && freeAt L n) 8 1000 (fun j h1 h2 => HA.out j h1 (by omega))
            rw [HE.out, h, if_pos (by omega)])
          clear t1 HE HA
          go_wp2
          go_loop [6] (fun i => ∃ k : Nat, k ≤ 8 ∧ i = .int .i64 (1000 + k) ∧ (∀ j : Int, 1000 ≤ j → j < 1000 + k → freeAt L j = false)) (fun i => 8 - (intOf i - 1000).toNat)
          case atStart => exact ⟨0, by omega, by go_num, fun j h1 h2 => by omega⟩
          case round =>
            obtain ⟨k, hk2, rfl, hall⟩ := hrel
            have HA := Lib.hid hall
            clear hall
            by_cases hlt : k < 8
            · by_cases hf : byPort L (1000 + k) < 0
              · have hfin := Lib.hid (show R = 1000 + k by
                  rw [HE2.out, firstOf_some (f := freeAt L) 8 1000 (1000 + k) (by omega) (by omega) HA.out (by simp [freeAt, hf])])
                go_wp2_with (go_at_call 90; refine (hP.out _ _ hS.out).mono ?_; rintro e w' ⟨rfl, rfl⟩)
                go_ret
                exact ⟨ret_int hfin.out.symm, rfl⟩
              · go_wp2_with (go_at_call 90; refine (hP.out _ _ hS.out).mono ?_; rintro e w' ⟨rfl, rfl⟩)
                go_round
                case rel => exact ⟨k + 1, by omega, by congr 1 <;> omega, fun j h1 h2 => by
                  rcases Int.lt_or_le j (1000 + k) with h | h
                  · exact HA.out j h1 h
                  · have e : j = 1000 + k := by omega
                    rw [e]; simp [freeAt, hf]⟩
                case measure => simp [intOf]; omega
            · have e : k = 8 := by omega
              subst e
              have hfin := Lib.hid (show R = -1 by rw [HE2.out, firstOf_none (f := freeAt L) 8 1000 (fun j h1 h2 => HA.out j h1 (by omega))])
              go_wp2
              go_ret
              exact ⟨ret_int hfin.out.symm, rfl⟩
    | false =>
      clear hyd hxy hy hx
      go_enter Try.func156, Try.ntmps156
      go_wp2_with (first | (go_at_call 68; refine (c1 _).mono ?_; rintro e w' ⟨rfl, rfl⟩))
      clear c1
      go_loop [5] (fun i => ∃ k : Nat, k ≤ 8 ∧ i = .int .i64 (1000 + k) ∧ (∀ j : Int, 1000 ≤ j → j < 1000 + k → (decide (j % 2 = want % 2) && freeAt L j) = false)) (fun i => 8 - (intOf i - 1000).toNat)
      case atStart => exact ⟨0, by omega, by go_num, fun j h1 h2 => by omega⟩
      case round =>
        obtain ⟨k, hk, rfl, hall⟩ := hrel
        have HA := Lib.hid hall
        clear hall
        have t1 : (1000 + (k : Int)).tmod 2 = (1000 + (k : Int)) % 2 := Int.tmod_eq_emod_of_nonneg (by omega)
        by_cases hlt : k < 8
        · by_cases hp : (1000 + (k : Int)) % 2 = want % 2
          · by_cases hf : byPort L (1000 + k) < 0
            · have hfin := Lib.hid (show R = 1000 + k by
                have h := firstOf_some (f := fun n => decide (n % 2 = want % 2) && freeAt L n) 8 1000 (1000 + k) (by omega) (by omega) HA.out (by simp [freeAt, hf, hp])
                rw [HE.out, h, if_neg (by omega)])
              go_wp2_with (go_at_call 90; refine (hP.out _ _ hS.out).mono ?_; rintro e w' ⟨rfl, rfl⟩)
              go_ret
              exact ⟨ret_int hfin.out.symm, rfl⟩
            · go_wp2_with (go_at_call 90; refine (hP.out _ _ hS.out).mono ?_; rintro e w' ⟨rfl, rfl⟩)
              go_round
              case rel => exact ⟨k + 1, by omega, by congr 1 <;> omega, fun j h1 h2 => by
                rcases Int.lt_or_le j (1000 + k) with h | h
                · exact HA.out j h1 h
                · have e : j = 1000 + k := by omega
                  rw [e]; simp [freeAt, hf]⟩
              case measure => simp [intOf]; omega
          · go_wp2
            go_round
            case rel => exact ⟨k + 1, by omega, by congr 1 <;> omega, fun j h1 h2 => by
              rcases Int.lt_or_le j (1000 + k) with h | h
              · exact HA.out j h1 h
              · have e : j = 1000 + k := by omega
                rw [e]; simp [hp]⟩
            case measure => simp [intOf]; omega
        · have e : k = 8 := by omega
          subst e
          have HE2 := Lib.hid (show R = firstOf (freeAt L) 1000 8 by
            have h := firstOf_none (f := fun n => decide (n % 2 = want % 2) && freeAt L n) 8 1000 (fun j h1 h2 => HA.out j h1 (by omega))
            rw [HE.out, h, if_pos (by omega)])
          clear t1 HE HA
          go_wp2
          go_loop [6] (fun i => ∃ k : Nat, k ≤ 8 ∧ i = .int .i64 (1000 + k) ∧ (∀ j : Int, 1000 ≤ j → j < 1000 + k → freeAt L j = false)) (fun i => 8 - (intOf i - 1000).toNat)
          case atStart => exact ⟨0, by omega, by go_num, fun j h1 h2 => by omega⟩
          case round =>
            obtain ⟨k, hk2, rfl, hall⟩ := hrel
            have HA := Lib.hid hall
            clear hall
            by_cases hlt : k < 8
            · by_cases hf : byPort L (1000 + k) < 0
              · have hfin := Lib.hid (show R = 1000 + k by
                  rw [HE2.out, firstOf_some (f := freeAt L) 8 1000 (1000 + k) (by omega) (by omega) HA.out (by simp [freeAt, hf])])
                go_wp2_with (go_at_call 90; refine (hP.out _ _ hS.out).mono ?_; rintro e w' ⟨rfl, rfl⟩)
                go_ret
                exact ⟨ret_int hfin.out.symm, rfl⟩
              · go_wp2_with (go_at_call 90; refine (hP.out _ _ hS.out).mono ?_; rintro e w' ⟨rfl, rfl⟩)
                go_round
                case rel => exact ⟨k + 1, by omega, by congr 1 <;> omega, fun j h1 h2 => by
                  rcases Int.lt_or_le j (1000 + k) with h | h
                  · exact HA.out j h1 h
                  · have e : j = 1000 + k := by omega
                    rw [e]; simp [freeAt, hf]⟩
                case measure => simp [intOf]; omega
            · have e : k = 8 := by omega
              subst e
              have hfin := Lib.hid (show R = -1 by rw [HE2.out, firstOf_none (f := freeAt L) 8 1000 (fun j h1 h2 => HA.out j h1 (by omega))])
              go_wp2
              go_ret
              exact ⟨ret_int hfin.out.symm, rfl⟩
end Go.Proofs.Ytafmomocmodbhaa
/- The second package's noted contacts and mapped ends. -/
namespace Go.Proofs.Ytafmomocmodbhaa
set_option linter.unusedVariables false
set_option linter.unusedSimpArgs false
open Go.RowKit

theorem Sl.drop0 {α : Type} {enc : α → List Value} {k : Nat} {w : World} {g n c : Nat} {L : List α} (h : Sl enc k w (some ⟨g, 0, none⟩) n c L) {j : Nat} (hj : j ≤ n) : Sl enc k w (some ⟨g, j * k, none⟩) (n - j) (c - j) (L.drop j) := by
  have hl := h.len
  have h1 := h.le
  have h2 := h.max
  refine ⟨by simp; omega, by omega, by omega, (fun e => by cases e), fun hn => ?_⟩
  obtain ⟨b, off, e, hb, hc⟩ := h.at_ (by omega)
  injection e with e
  injection e with e1 e2
  subst e1; subst e2
  refine ⟨g, j * k, rfl, hb, fun i x hx q u hu => ?_⟩
  have := hc (j + i) x (by rw [List.getElem?_drop] at hx; exact hx) q u hu
  rw [← this]
  congr 2
  rw [Nat.add_mul]; omega
theorem run_drop_C' (g n c m : Nat) (h : m < n) (hc : n ≤ c) (W : World) : (Instr.slice 38 (.slice (some ⟨g, 0, none⟩) n c) (some (.int .i64 m)) none none).run Try.prog W = .ok (.slice (some ⟨g, m * 3, none⟩) (n - m) (c - m)) W := by
  rw [run_slice_l (P := Try.prog) W 38 (some ⟨g, 0, none⟩) n c (by kernel_rfl) .i64 (m : Int) (by omega) (by omega)]
  have hcm : ¬ c = m := by omega
  go_simp
theorem OwR.form {α : Type} {E : TypeId} {enc : α → List Value} {k base : Nat} {w : World} {a : Option Addr} {n c : Nat} {L : List α} (h : OwR E enc k base w a n c L) (hn : 0 < n) : ∃ g, a = some ⟨g, 0, none⟩ := by
  rcases h.2 with ⟨e, h0⟩ | ⟨g, cap, cur, e, _⟩
  · omega
  · injection e with e1 e2 e3
    exact ⟨g, e1⟩
set_option maxHeartbeats 1000000 in
theorem spec_note (a : Option Addr) (n c : Nat) (L : List ConD) (x : ConD) (w : World) (hs : Sl encC 3 w a n c L) (hn : n ≤ 10) :
    Calls Try.prog 155 #[.slice a n c, .agg #[.int .i64 x.port, .int .i64 x.to_.addr, .int .i64 x.to_.port]] w fun e w' => ∃ a' m c', e = .returned (.slice a' m c') ∧ OwR 115 encC 3 w.heap.size w' a' m c' (note L x) ∧ m ≤ 11 ∧ Ext w w' := by
  have hle := hs.le
  have hmax := hs.max
  have hlen := hs.len
  have HL := Lib.hid hlen
  have HI := Lib.hid hs.cons
  clear hlen hs
  go_enter Try.func155, Try.ntmps155
  go_wp2
  go_loopw [5, 6] (fun v i wr => ∃ (k : Nat) (a' : Option Addr) (m c' : Nat) (M : List ConD), k ≤ n ∧ i = .int .i64 k ∧ v = .slice a' m c' ∧ m ≤ k ∧ M = (L.take k).filter (fun d => !decide (d = x)) ∧ OwR 115 encC 3 (w.heap.size + 1) wr a' m c' M ∧ Blk wr w.heap.size 115 #[.int .i64 x.port, .int .i64 x.to_.addr, .int .i64 x.to_.port] ∧ Ext w wr) (fun _ i _ => n - (intOf i).toNat)
  case atStart => exact ⟨0, _, 0, 0, [], Nat.zero_le _, rfl, rfl, Nat.le_refl _, rfl, OwR.empty _ _ (by simp) (by simp), (by repeat (first | (with_reducible assumption) | (with_reducible exact Blk.new _ _ _) | exact Blk.newAt _ _ _ (by simp) | (with_reducible refine Blk.alloc ?_ _) | (with_reducible refine Blk.drew ?_) | (with_reducible refine Blk.drewN ?_ _) | refine Blk.far ?_ (by simp only []; omega) _ | refine Blk.rext ?_ (by assumption) (by omega) | refine Blk.ext ?_ (by assumption))), (by repeat (first | (with_reducible exact Ext.refl _) | (with_reducible assumption) | (with_reducible refine Ext.alloc ?_ _) | (with_reducible refine Ext.drewN ?_ _) | (with_reducible refine Ext.drew ?_) | (with_reducible refine Ext.setCell ?_ ?_ _; rotate_left; (simp only []; omega)) | (with_reducible refine Ext.trans ?_ (by assumption))))⟩
  case round =>
    obtain ⟨k, a', m, c', M, hk, rfl, rfl, hmk, hM, hO, BX, hX⟩ := hrel
    have cX := BX.cells
    have fX := BX.frozens
    have zX := BX.lt
    have lO := hO.lt
    by_cases hlt : k < n
    · obtain ⟨_, b, off, rfl, hb, hc⟩ := (HI.out).resolve_left (by omega)
      obtain ⟨d0, d1, d2⟩ := hc k hlt
      rw [← hX.cells _ _ hb] at d0 d1 d2
      have hbr : b < wr.heap.size := by have := hX.size; omega
      have HO := Lib.hid hO
      have HM := Lib.hid hM
      clear hc hO hM
      by_cases hq : nth L k = x
      · have heq : ∀ W : World, (Go.binOp .neq 115 (.agg #[.int .i64 (nth L k).port, .int .i64 (nth L k).to_.addr, .int .i64 (nth L k).to_.port]) (.agg #[.int .i64 x.port, .int .i64 x.to_.addr, .int .i64 x.to_.port])).run Try.prog W = .ok (.bool false) W := fun W => by rw [run_neq_C (nth L k) x, decide_eq_true hq]; rfl
        have HQ := Lib.hid hq
        clear hq
        go_wp2_with fail
        have hdrS : ∀ W : World, W.drew.heap.size = W.heap.size := fun _ => rfl
        refine wp_region_eager (R := Ext) [0, 1, 2, 3, 4, 5] (by kernel_rfl) (by kernel_rfl) Ext.refl (fun _ _ _ => Ext.trans) ?_
        repeat' (first
          | (refine ChX.skip (by rfl) (by rfl) ?_
             (try simp only [Act.put, List.setIfInBounds_toArray, List.set_cons_zero, List.set_cons_succ]))
          | (refine' ChX.quiet (v := _) (by rfl) (by rfl) (by rfl) ?_ ?_
             rotate_left
             · (intro wS hS
                have hcS := Ext.cells hS
                go_simp
                with_reducible rfl)
             (try simp only [Act.put, List.setIfInBounds_toArray, List.set_cons_zero, List.set_cons_succ]))
          | (refine ChX.nil ?_)
          | (refine' ChX.guard (x := _) (by rfl) ?_ ?_ ?_
             rotate_left
             · (go_simp
                rfl)
             all_goals
               intro hg
               simp only [hg])
          | (refine' ChX.guardN (x := _) (by rfl) ?_ ?_ ?_
             rotate_left
             · (go_simp
                rfl)
             all_goals
               intro hg
               simp only [hg]))
        go_wp2
        go_roundw
        case rel => exact ⟨k + 1, a', m, c', M, hlt, by go_num, rfl, by omega, by rw [HM.out, filt_drop (by rw [HL.out]; exact hlt) (by simp [HQ.out])], HO.out.ext (show Ext wr _ from (by repeat (first | (with_reducible exact Ext.refl _) | (with_reducible assumption) | (with_reducible refine Ext.alloc ?_ _) | (with_reducible refine Ext.drewN ?_ _) | (with_reducible refine Ext.drew ?_) | (with_reducible refine Ext.setCell ?_ ?_ _; rotate_left; (simp only []; omega)) | (with_reducible refine Ext.trans ?_ (by assumption))))), BX.ext (show Ext wr _ from (by repeat (first | (with_reducible exact Ext.refl _) | (with_reducible assumption) | (with_reducible refine Ext.alloc ?_ _) | (with_reducible refine Ext.drewN ?_ _) | (with_reducible refine Ext.drew ?_) | (with_reducible refine Ext.setCell ?_ ?_ _; rotate_left; (simp only []; omega)) | (with_reducible refine Ext.trans ?_ (by assumption))))), hX.trans (show Ext wr _ from (by repeat (first | (with_reducible exact Ext.refl _) | (with_reducible assumption) | (with_reducible refine Ext.alloc ?_ _) | (with_reducible refine Ext.drewN ?_ _) | (with_reducible refine Ext.drew ?_) | (with_reducible refine Ext.setCell ?_ ?_ _; rotate_left; (simp only []; omega)) | (with_reducible refine Ext.trans ?_ (by assumption)))))⟩
        case measure => simp [intOf]; omega
      · have heq : ∀ W : World, (Go.binOp .neq 115 (.agg #[.int .i64 (nth L k).port, .int .i64 (nth L k).to_.addr, .int .i64 (nth L k).to_.port]) (.agg #[.int .i64 x.port, .int .i64 x.to_.addr, .int .i64 x.to_.port])).run Try.prog W = .ok (.bool true) W := fun W => by rw [run_neq_C (nth L k) x, decide_eq_false hq]; rfl
        have HQ := Lib.hid hq
        clear hq
        go_wp2_with fail
        have hdrS : ∀ W : World, W.drew.heap.size = W.heap.size := fun _ => rfl
        refine wp_region_eager (R := Ext) [0, 1, 2, 3, 4, 5] (by kernel_rfl) (by kernel_rfl) Ext.refl (fun _ _ _ => Ext.trans) ?_
        repeat' (first
          | (refine ChX.skip (by rfl) (by rfl) ?_
             (try simp only [Act.put, List.setIfInBounds_toArray, List.set_cons_zero, List.set_cons_succ]))
          | (refine' ChX.quiet (v := _) (by rfl) (by rfl) (by rfl) ?_ ?_
             rotate_left
             · (intro wS hS
                have hcS := Ext.cells hS
                go_simp
                with_reducible rfl)
             (try simp only [Act.put, List.setIfInBounds_toArray, List.set_cons_zero, List.set_cons_succ]))
          | (refine ChX.nil ?_)
          | (refine' ChX.guard (x := _) (by rfl) ?_ ?_ ?_
             rotate_left
             · (go_simp
                rfl)
             all_goals
               intro hg
               simp only [hg])
          | (refine' ChX.guardN (x := _) (by rfl) ?_ ?_ ?_
             rotate_left
             · (go_simp
                rfl)
             all_goals
               intro hg
               simp only [hg]))
        have HX := Lib.hid hX
        have HBX := Lib.hid BX
        have HLO := Lib.hid lO
        clear hX BX lO
        go_wp2_with (at_builtin; refine wpList_append_ow _ rfl _ _ rfl (by with_reducible exact eiC) encC_len encC_one (by omega) (w.heap.size + 1) a' m c' M rfl (by exact HO.out.ext (show Ext wr _ from (by repeat (first | (with_reducible exact Ext.refl _) | (with_reducible assumption) | (with_reducible refine Ext.alloc ?_ _) | (with_reducible refine Ext.drewN ?_ _) | (with_reducible refine Ext.drew ?_) | (with_reducible refine Ext.setCell ?_ ?_ _; rotate_left; (simp only []; omega)) | (with_reducible refine Ext.trans ?_ (by assumption)))))) _ 1 1 [nth L k] rfl (by first | exact Sl.lit1 _ _ (nth L k) _ rfl rfl | (refine Sl.ext ?_ ((Ext.refl _).drew); exact Sl.lit1 _ _ (nth L k) _ rfl rfl)) (by omega) (by (try simp); omega) ?_; intro a3 c3 w3 hO3 hX3 hg3; replace hX3 := hX3 w ((show Ext w wr from HX.out).trans (by repeat (first | (with_reducible exact Ext.refl _) | (with_reducible assumption) | (with_reducible refine Ext.alloc ?_ _) | (with_reducible refine Ext.drewN ?_ _) | (with_reducible refine Ext.drew ?_) | (with_reducible refine Ext.setCell ?_ ?_ _; rotate_left; (simp only []; omega)) | (with_reducible refine Ext.trans ?_ (by assumption))))) (by omega); have BX3 := Blk.grown (Blk.ext HBX.out (show Ext wr _ from (by repeat (first | (with_reducible exact Ext.refl _) | (with_reducible assumption) | (with_reducible refine Ext.alloc ?_ _) | (with_reducible refine Ext.drewN ?_ _) | (with_reducible refine Ext.drew ?_) | (with_reducible refine Ext.setCell ?_ ?_ _; rotate_left; (simp only []; omega)) | (with_reducible refine Ext.trans ?_ (by assumption)))))) hg3 (row_ne fun y e => by have := (HLO.out y e).1; omega))
        go_roundw
        case rel => exact ⟨k + 1, a3, m + 1, c3, _, hlt, by go_num, rfl, by omega, by rw [HM.out, filt_keep (by rw [HL.out]; exact hlt) (by simp [HQ.out])], hO3, BX3, hX3⟩
        case measure => simp [intOf]; omega
    · have e : k = n := by omega
      subst e
      rw [List.take_of_length_le (by rw [HL.out]; omega)] at hM
      have hNA := Lib.hid (show M ++ [x] = noteAll L x by rw [hM]; rfl)
      have HX := Lib.hid hX
      have HO := Lib.hid hO
      clear hX hO hM BX lO
      by_cases h10 : m + 1 ≤ 10
      · have hmx : max (0 : Int) ((m : Int) + 1 - 10) = 0 := by omega
        go_wp2_with (first
          | (at_builtin; refine wpList_append_ow _ rfl _ _ rfl (by with_reducible exact eiC) encC_len encC_one (by omega) (w.heap.size + 1) a' m c' M rfl (by exact HO.out.ext (show Ext wr _ from (by repeat (first | (with_reducible exact Ext.refl _) | (with_reducible assumption) | (with_reducible refine Ext.alloc ?_ _) | (with_reducible refine Ext.drewN ?_ _) | (with_reducible refine Ext.drew ?_) | (with_reducible refine Ext.setCell ?_ ?_ _; rotate_left; (simp only []; omega)) | (with_reducible refine Ext.trans ?_ (by assumption)))))) _ 1 1 [x] rfl (by first | exact Sl.lit1 _ _ x _ rfl rfl | (refine Sl.ext ?_ ((Ext.refl _).drew); exact Sl.lit1 _ _ x _ rfl rfl)) (by omega) (by (try simp); omega) ?_; intro a3 c3 w3 hO3 hX3 hg3; replace hX3 := hX3 w ((show Ext w wr from HX.out).trans (by repeat (first | (with_reducible exact Ext.refl _) | (with_reducible assumption) | (with_reducible refine Ext.alloc ?_ _) | (with_reducible refine Ext.drewN ?_ _) | (with_reducible refine Ext.drew ?_) | (with_reducible refine Ext.setCell ?_ ?_ _; rotate_left; (simp only []; omega)) | (with_reducible refine Ext.trans ?_ (by assumption))))) (by omega); obtain ⟨g3, rfl⟩ := hO3.form (by omega); have hS3 := (hO3.ow encC_len (by omega)).sl encC_len; have hle3 := hS3.le; have hmx3 := hS3.max; have hl3 := hS3.len; have hdr := run_drop_C' g3 (m + 1) c3 0 (by omega) hle3; have hD3 := Lib.hid (hS3.drop0 (j := 0) (by omega)); have HO3 := Lib.hid hO3; clear hS3 hO3 hg3)
          | (at_builtin; refine wpList_append_ow _ rfl _ _ rfl (by with_reducible exact eiC) encC_len encC_one (by omega) w3.heap.size (some ⟨w3.heap.size, 0, none⟩) 0 0 [] rfl (by exact OwR.empty _ _ (by simp) (by simp)) (some ⟨g3, 0 * 3, none⟩) (m + 1 - 0) (c3 - 0) _ rfl (by exact hD3.out.ext (by repeat (first | (with_reducible exact Ext.refl _) | (with_reducible assumption) | (with_reducible refine Ext.alloc ?_ _) | (with_reducible refine Ext.drewN ?_ _) | (with_reducible refine Ext.drew ?_) | (with_reducible refine Ext.setCell ?_ ?_ _; rotate_left; (simp only []; omega)) | (with_reducible refine Ext.trans ?_ (by assumption))))) (by omega) (by simp) ?_; intro a4 c4 w4 hO4 hX4 hg4; replace hX4 := hX4 w (by repeat (first | (with_reducible exact Ext.refl _) | (with_reducible assumption) | (with_reducible refine Ext.alloc ?_ _) | (with_reducible refine Ext.drewN ?_ _) | (with_reducible refine Ext.drew ?_) | (with_reducible refine Ext.setCell ?_ ?_ _; rotate_left; (simp only []; omega)) | (with_reducible refine Ext.trans ?_ (by assumption)))) (by have := hX3.size; omega)))
        go_ret
        refine ⟨a4, 0 + (m + 1 - 0), c4, by (first | rfl | simp), ?_, by omega, hX4⟩
        rw [hNA.out] at hO4 hl3
        have e : (noteAll L x).length - 10 = 0 := by omega
        unfold note
        rw [e]
        exact OwR.rebase (by simpa using hO4) (by have := hX3.size; omega)
      · have hmx : max (0 : Int) ((m : Int) + 1 - 10) = 1 := by omega
        go_wp2_with (first
          | (at_builtin; refine wpList_append_ow _ rfl _ _ rfl (by with_reducible exact eiC) encC_len encC_one (by omega) (w.heap.size + 1) a' m c' M rfl (by exact HO.out.ext (show Ext wr _ from (by repeat (first | (with_reducible exact Ext.refl _) | (with_reducible assumption) | (with_reducible refine Ext.alloc ?_ _) | (with_reducible refine Ext.drewN ?_ _) | (with_reducible refine Ext.drew ?_) | (with_reducible refine Ext.setCell ?_ ?_ _; rotate_left; (simp only []; omega)) | (with_reducible refine Ext.trans ?_ (by assumption)))))) _ 1 1 [x] rfl (by first | exact Sl.lit1 _ _ x _ rfl rfl | (refine Sl.ext ?_ ((Ext.refl _).drew); exact Sl.lit1 _ _ x _ rfl rfl)) (by omega) (by (try simp); omega) ?_; intro a3 c3 w3 hO3 hX3 hg3; replace hX3 := hX3 w ((show Ext w wr from HX.out).trans (by repeat (first | (with_reducible exact Ext.refl _) | (with_reducible assumption) | (with_reducible refine Ext.alloc ?_ _) | (with_reducible refine Ext.drewN ?_ _) | (with_reducible refine Ext.drew ?_) | (with_reducible refine Ext.setCell ?_ ?_ _; rotate_left; (simp only []; omega)) | (with_reducible refine Ext.trans ?_ (by assumption))))) (by omega); obtain ⟨g3, rfl⟩ := hO3.form (by omega); have hS3 := (hO3.ow encC_len (by omega)).sl encC_len; have hle3 := hS3.le; have hmx3 := hS3.max; have hl3 := hS3.len; have hdr := run_drop_C' g3 (m + 1) c3 1 (by omega) hle3; have hD3 := Lib.hid (hS3.drop0 (j := 1) (by omega)); have HO3 := Lib.hid hO3; clear hS3 hO3 hg3)
          | (at_builtin; refine wpList_append_ow _ rfl _ _ rfl (by with_reducible exact eiC) encC_len encC_one (by omega) w3.heap.size (some ⟨w3.heap.size, 0, none⟩) 0 0 [] rfl (by exact OwR.empty _ _ (by simp) (by simp)) (some ⟨g3, 1 * 3, none⟩) (m + 1 - 1) (c3 - 1) _ rfl (by exact hD3.out.ext (by repeat (first | (with_reducible exact Ext.refl _) | (with_reducible assumption) | (with_reducible refine Ext.alloc ?_ _) | (with_reducible refine Ext.drewN ?_ _) | (with_reducible refine Ext.drew ?_) | (with_reducible refine Ext.setCell ?_ ?_ _; rotate_left; (simp only []; omega)) | (with_reducible refine Ext.trans ?_ (by assumption))))) (by omega) (by simp) ?_; intro a4 c4 w4 hO4 hX4 hg4; replace hX4 := hX4 w (by repeat (first | (with_reducible exact Ext.refl _) | (with_reducible assumption) | (with_reducible refine Ext.alloc ?_ _) | (with_reducible refine Ext.drewN ?_ _) | (with_reducible refine Ext.drew ?_) | (with_reducible refine Ext.setCell ?_ ?_ _; rotate_left; (simp only []; omega)) | (with_reducible refine Ext.trans ?_ (by assumption)))) (by have := hX3.size; omega)))
        go_ret
        refine ⟨a4, 0 + (m + 1 - 1), c4, by (first | rfl | simp), ?_, by omega, hX4⟩
        rw [hNA.out] at hO4 hl3
        have e : (noteAll L x).length - 10 = 1 := by omega
        unfold note
        rw [e]
        exact OwR.rebase (by simpa using hO4) (by have := hX3.size; omega)
end Go.Proofs.Ytafmomocmodbhaa
/- The second package's mapped ends. -/
namespace Go.Proofs.Ytafmomocmodbhaa
set_option linter.unusedVariables false
set_option linter.unusedSimpArgs false
open Go.RowKit

theorem flat_setLast (v : Int) : ∀ (L : List MapD) (k : Nat), k < L.length → (L.flatMap encM).set (k * 4 + 3) (.int .i64 v) = (L.set k { nth L k with last := v }).flatMap encM
  | [], k, h => by simp at h
  | y :: L, 0, _ => by simp [encM, nth]
  | y :: L, k + 1, h => by
    have ih := flat_setLast v L k (by simpa using h)
    rw [List.set_cons_succ, List.flatMap_cons, List.flatMap_cons, List.set_append_right _ _ (by simp [encM]; omega)]
    have e : (k + 1) * 4 + 3 - (encM y).length = k * 4 + 3 := by simp [encM]; omega
    rw [e, ih]
    rfl
theorem OwR.blk {α : Type} {E : TypeId} {enc : α → List Value} {k base : Nat} {w : World} {g n c : Nat} {L : List α} (h : OwR E enc k base w (some ⟨g, 0, none⟩) n c L) : ∃ cur, Blk w g E cur := by
  rcases h.2 with ⟨e, h0⟩ | ⟨g', cap, cur, e, hb, hg, _⟩
  · cases e
  · injection e with e1 e2 e3
    injection e1 with e1
    injection e1 with e1
    subst e1
    exact ⟨cur, hg⟩
theorem OwR.setLast {E : TypeId} {base : Nat} {w : World} {g n c : Nat} {L : List MapD} (h : OwR E encM 4 base w (some ⟨g, 0, none⟩) n c L) {k : Nat} (hk : k < n) (v : Int) :
    OwR E encM 4 base (w.setCell ⟨g, k * 4 + 3, none⟩ (.int .i64 v)) (some ⟨g, 0, none⟩) n c (L.set k { nth L k with last := v }) := by
  have hl := (h.ow encM_len (by omega)).1
  rcases h.2 with ⟨e, h0⟩ | ⟨g', cap, cur, e, hb, hg, hnc, hcm, hcs, ht⟩
  · cases e
  · injection e with e1 e2 e3
    injection e1 with e1
    injection e1 with e1
    subst e1
    refine ⟨by rw [flat_len encM_len]; simp [hl], .inr ⟨g, cap, cur.setIfInBounds (k * 4 + 3) (.int .i64 v), by rw [e3], hb, Blk.set (show Blk w g E cur from hg) _ _, hnc, hcm, by simpa using hcs, ?_⟩⟩
    rw [Array.toList_setIfInBounds, List.take_set, ht, flat_setLast v L k (by omega)]
set_option maxHeartbeats 1000000 in
theorem spec_mapEnd_some (a : Option Addr) (n c : Nat) (L : List MapD) (x : EndD) (now : Int) (w : World) (hs : Sl encM 4 w a n c L) (hn : n ≤ 1000) (h0 : 0 ≤ x.port) (h1 : x.port ≤ 65535) (T : List MapD) (p : Int) (hm : mapEnd L x now = some (T, p)) :
    Calls Try.prog 154 #[.slice a n c, .agg #[.int .i64 x.addr, .int .i64 x.port], .int .i64 now] w fun r w' => ∃ a' m c', r = .returned (.tuple #[.slice a' m c', .int .i64 p, .bool true]) ∧ OwR 102 encM 4 w.heap.size w' a' m c' T ∧ Ext w w' := by
  have hlen := hs.len
  have cE := fun W h => spec_byInside x a n c L W h
  by_cases hb : 0 ≤ byEnd L x
  · obtain ⟨k, m, e1, e2, e3, e4⟩ := byEnd_some hb
    have hk : k < n := by have := (List.getElem?_eq_some_iff.1 e2).1; omega
    have hT : T = L.set k { nth L k with last := max (nth L k).last now } ∧ p = (nth L k).port := by
      unfold mapEnd at hm
      rw [if_pos hb, e1] at hm
      simp only [Int.toNat_natCast, Option.some.injEq, Prod.mk.injEq] at hm
      exact ⟨hm.1.symm, hm.2.symm⟩
    obtain ⟨rfl, rfl⟩ := hT
    rw [e1] at cE
    replace cE := Lib.hid cE
    have hmn := hs.max
    have hle := hs.le
    clear hm e1 e2 e3 e4 hb
    go_enter Try.func154, Try.ntmps154
    go_wp2_with (at_builtin; refine wpList_append_ow _ rfl _ _ rfl (by with_reducible exact eiM) encM_len encM_one (by omega) (w.heap.size + 1) (some ⟨w.heap.size + 1, 0, none⟩) 0 0 [] rfl (by exact OwR.empty _ _ (by simp) (by simp)) a n c L rfl (by exact hs.ext (by repeat (first | (with_reducible exact Ext.refl _) | (with_reducible assumption) | (with_reducible refine Ext.alloc ?_ _) | (with_reducible refine Ext.drewN ?_ _) | (with_reducible refine Ext.drew ?_) | (with_reducible refine Ext.setCell ?_ ?_ _; rotate_left; (simp only []; omega)) | (with_reducible refine Ext.trans ?_ (by assumption))))) (by omega) (by simp) ?_; intro a3 c3 w3 hO3 hX3 hg3; (replace hX3 := hX3 w (by repeat (first | (with_reducible exact Ext.refl _) | (with_reducible assumption) | (with_reducible refine Ext.alloc ?_ _) | (with_reducible refine Ext.drewN ?_ _) | (with_reducible refine Ext.drew ?_) | (with_reducible refine Ext.setCell ?_ ?_ _; rotate_left; (simp only []; omega)) | (with_reducible refine Ext.trans ?_ (by assumption)))) (by omega)); (have hB3 : Blk w3 w.heap.size 42 #[.int .i64 x.addr, .int .i64 x.port] := Blk.grown (by repeat (first | (with_reducible assumption) | (with_reducible exact Blk.new _ _ _) | exact Blk.newAt _ _ _ (by simp) | (with_reducible refine Blk.alloc ?_ _) | (with_reducible refine Blk.drew ?_) | (with_reducible refine Blk.drewN ?_ _) | refine Blk.far ?_ (by simp only []; omega) _ | refine Blk.rext ?_ (by assumption) (by omega) | refine Blk.ext ?_ (by assumption))) hg3 (by simp)); simp only [Nat.zero_add, List.nil_append] at hO3; obtain ⟨g3, rfl⟩ := hO3.form (by omega); have cB := hB3.cells; have fB := hB3.frozens; have zB := hB3.lt)
    refine (cE.out _ (by exact hs.ext hX3)).mono ?_
    rintro e w4 ⟨rfl, hx4⟩
    have X4 : Ext w w4 := hX3.trans hx4
    have hO4 := hO3.ext hx4
    obtain ⟨cur, BR⟩ := hO4.blk
    have fR := BR.frozens
    have zR := BR.lt
    obtain ⟨_, b, off, eab, hb, hc⟩ := (((hO4.ow encM_len (by omega)).sl encM_len).maps).resolve_left (by omega)
    injection eab with eab
    injection eab with eb eo
    subst eb; subst eo
    simp only [Nat.zero_add] at hc
    obtain ⟨d0, d1, d2, d3⟩ := hc k hk
    have lR := hO4.lt _ rfl
    simp only [] at lR
    have hfin := Lib.hid (hO4.setLast hk (max (nth L k).last now))
    have HX := Lib.hid X4
    clear hg3 hX3 hB3 cB fB zB hx4 hO3 hO4 BR hc X4
    go_wp2_with fail
    have hdrS : ∀ W : World, W.drew.heap.size = W.heap.size := fun _ => rfl
    refine wp_region_eager (R := Ext) [0, 1, 2, 3, 4, 5, 6, 7, 8] (by kernel_rfl) (by kernel_rfl) Ext.refl (fun _ _ _ => Ext.trans) ?_
    repeat' (first
      | (refine ChX.skip (by rfl) (by rfl) ?_
         (try simp only [Act.put, List.setIfInBounds_toArray, List.set_cons_zero, List.set_cons_succ]))
      | (refine' ChX.quiet (v := _) (by rfl) (by rfl) (by rfl) ?_ ?_
         rotate_left
         · (intro wS hS
            have hcS := Ext.cells hS
            go_simp
            with_reducible rfl)
         (try simp only [Act.put, List.setIfInBounds_toArray, List.set_cons_zero, List.set_cons_succ]))
      | (refine ChX.nil ?_)
      | (refine' ChX.guard (x := _) (by rfl) ?_ ?_ ?_
         rotate_left
         · (go_simp
            rfl)
         all_goals
           intro hg
           simp only [hg])
      | (refine' ChX.guardN (x := _) (by rfl) ?_ ?_ ?_
         rotate_left
         · (go_simp
            rfl)
         all_goals
           intro hg
           simp only [hg]))
    go_wp2
    refine' bodyPost_ret (v := _) ?_ rfl ?_
    rotate_left
    · (simp only [results, Try.results154]
       go_simp
       rfl)
    exact ⟨some ⟨g3, 0, none⟩, n, c3, rfl, (hfin.out.ext ((Ext.refl _).drew)).rebase (by omega), ((HX.out).setCell (show w.heap.size ≤ g3 by omega) _).drew⟩
  · have hb2 := byEnd_neg hb
    have hq : ¬ freePort L x.port < 0 ∧ T = L ++ [⟨x, freePort L x.port, now⟩] ∧ p = freePort L x.port := by
      unfold mapEnd at hm
      rw [if_neg hb] at hm
      by_cases hf : freePort L x.port < 0
      · rw [if_pos hf] at hm; cases hm
      · rw [if_neg hf] at hm
        simp only [Option.some.injEq, Prod.mk.injEq] at hm
        exact ⟨hf, hm.1.symm, hm.2.symm⟩
    have cF := fun W h => spec_freePort a n c L x.port W h h0 h1
    rw [hb2.1] at cE
    obtain ⟨hq1, rfl, rfl⟩ := hq
    clear hm hb hb2
    generalize freePort L x.port = q at *
    replace cE := Lib.hid cE
    replace cF := Lib.hid cF
    have hmn := hs.max
    have hle := hs.le
    go_enter Try.func154, Try.ntmps154
    go_wp2_with (at_builtin; refine wpList_append_ow _ rfl _ _ rfl (by with_reducible exact eiM) encM_len encM_one (by omega) (w.heap.size + 1) (some ⟨w.heap.size + 1, 0, none⟩) 0 0 [] rfl (by exact OwR.empty _ _ (by simp) (by simp)) a n c L rfl (by exact hs.ext (by repeat (first | (with_reducible exact Ext.refl _) | (with_reducible assumption) | (with_reducible refine Ext.alloc ?_ _) | (with_reducible refine Ext.drewN ?_ _) | (with_reducible refine Ext.drew ?_) | (with_reducible refine Ext.setCell ?_ ?_ _; rotate_left; (simp only []; omega)) | (with_reducible refine Ext.trans ?_ (by assumption))))) (by omega) (by simp) ?_; intro a3 c3 w3 hO3 hX3 hg3; (replace hX3 := hX3 w (by repeat (first | (with_reducible exact Ext.refl _) | (with_reducible assumption) | (with_reducible refine Ext.alloc ?_ _) | (with_reducible refine Ext.drewN ?_ _) | (with_reducible refine Ext.drew ?_) | (with_reducible refine Ext.setCell ?_ ?_ _; rotate_left; (simp only []; omega)) | (with_reducible refine Ext.trans ?_ (by assumption)))) (by omega)); (have hB3 : Blk w3 w.heap.size 42 #[.int .i64 x.addr, .int .i64 x.port] := Blk.grown (by repeat (first | (with_reducible assumption) | (with_reducible exact Blk.new _ _ _) | exact Blk.newAt _ _ _ (by simp) | (with_reducible refine Blk.alloc ?_ _) | (with_reducible refine Blk.drew ?_) | (with_reducible refine Blk.drewN ?_ _) | refine Blk.far ?_ (by simp only []; omega) _ | refine Blk.rext ?_ (by assumption) (by omega) | refine Blk.ext ?_ (by assumption))) hg3 (by simp)); simp only [Nat.zero_add, List.nil_append] at hO3; have cB := hB3.cells; have fB := hB3.frozens; have zB := hB3.lt)
    refine (cE.out _ (by exact hs.ext hX3)).mono ?_
    rintro e w4 ⟨rfl, hx4⟩
    have X4 : Ext w w4 := hX3.trans hx4
    have hO4 := hO3.ext hx4
    have hB4 := hB3.ext hx4
    clear hg3 hX3 hB3 cB fB zB hx4 hO3
    have cB := hB4.cells
    have fB := hB4.frozens
    have zB := hB4.lt
    go_wp2_with (first | (go_at_call 156; refine (cF.out _ (by exact hs.ext (show Ext w _ from (by repeat (first | (with_reducible exact Ext.refl _) | (with_reducible assumption) | (with_reducible refine Ext.alloc ?_ _) | (with_reducible refine Ext.drewN ?_ _) | (with_reducible refine Ext.drew ?_) | (with_reducible refine Ext.setCell ?_ ?_ _; rotate_left; (simp only []; omega)) | (with_reducible refine Ext.trans ?_ (by assumption))))))).mono ?_; rintro e w' ⟨rfl, rfl⟩) | (at_builtin; refine wpList_append_ow _ rfl _ _ rfl (by with_reducible exact eiM) encM_len encM_one (by omega) (w.heap.size + 1) a3 n c3 L rfl (by exact hO4.ext (show Ext w4 _ from (by repeat (first | (with_reducible exact Ext.refl _) | (with_reducible assumption) | (with_reducible refine Ext.alloc ?_ _) | (with_reducible refine Ext.drewN ?_ _) | (with_reducible refine Ext.drew ?_) | (with_reducible refine Ext.setCell ?_ ?_ _; rotate_left; (simp only []; omega)) | (with_reducible refine Ext.trans ?_ (by assumption)))))) _ 1 1 [(⟨x, q, now⟩ : MapD)] rfl (by first | exact Sl.lit1 _ _ (⟨x, q, now⟩ : MapD) _ rfl rfl | (refine Sl.ext ?_ ((Ext.refl _).drew); exact Sl.lit1 _ _ (⟨x, q, now⟩ : MapD) _ rfl rfl)) (by omega) (by (try simp); omega) ?_; intro a5 c5 w5 hO5 hX5 hg5; (replace hX5 := hX5 w (by repeat (first | (with_reducible exact Ext.refl _) | (with_reducible assumption) | (with_reducible refine Ext.alloc ?_ _) | (with_reducible refine Ext.drewN ?_ _) | (with_reducible refine Ext.drew ?_) | (with_reducible refine Ext.setCell ?_ ?_ _; rotate_left; (simp only []; omega)) | (with_reducible refine Ext.trans ?_ (by assumption)))) (by omega))))
    refine' bodyPost_ret (v := _) ?_ rfl ?_
    rotate_left
    · (simp only [results, Try.results154]
       go_simp
       rfl)
    exact ⟨a5, n + 1, c5, rfl, hO5.rebase (by omega), hX5⟩
theorem spec_mapEnd_none (a : Option Addr) (n c : Nat) (L : List MapD) (x : EndD) (now : Int) (w : World) (hs : Sl encM 4 w a n c L) (hn : n ≤ 1000) (h0 : 0 ≤ x.port) (h1 : x.port ≤ 65535) (hm : mapEnd L x now = none) :
    Calls Try.prog 154 #[.slice a n c, .agg #[.int .i64 x.addr, .int .i64 x.port], .int .i64 now] w fun r w' => r = .returned (.tuple #[.slice none 0 0, .int .i64 (-1), .bool false]) ∧ Ext w w' := by
  have cE := fun W h => spec_byInside x a n c L W h
  have hb : ¬ 0 ≤ byEnd L x := by
    intro hb
    unfold mapEnd at hm
    rw [if_pos hb] at hm
    cases hm
  have hb2 := byEnd_neg hb
  have hq1 : freePort L x.port < 0 := by
    unfold mapEnd at hm
    rw [if_neg hb] at hm
    by_cases hf : freePort L x.port < 0
    · exact hf
    · rw [if_neg hf] at hm; cases hm
  have cF := fun W h => spec_freePort a n c L x.port W h h0 h1
  rw [hb2.1] at cE
  clear hm hb hb2
  generalize freePort L x.port = q at *
  replace cE := Lib.hid cE
  replace cF := Lib.hid cF
  have hmn := hs.max
  have hle := hs.le
  go_enter Try.func154, Try.ntmps154
  go_wp2_with (at_builtin; refine wpList_append_ow _ rfl _ _ rfl (by with_reducible exact eiM) encM_len encM_one (by omega) (w.heap.size + 1) (some ⟨w.heap.size + 1, 0, none⟩) 0 0 [] rfl (by exact OwR.empty _ _ (by simp) (by simp)) a n c L rfl (by exact hs.ext (by repeat (first | (with_reducible exact Ext.refl _) | (with_reducible assumption) | (with_reducible refine Ext.alloc ?_ _) | (with_reducible refine Ext.drewN ?_ _) | (with_reducible refine Ext.drew ?_) | (with_reducible refine Ext.setCell ?_ ?_ _; rotate_left; (simp only []; omega)) | (with_reducible refine Ext.trans ?_ (by assumption))))) (by omega) (by simp) ?_; intro a3 c3 w3 hO3 hX3 hg3; (replace hX3 := hX3 w (by repeat (first | (with_reducible exact Ext.refl _) | (with_reducible assumption) | (with_reducible refine Ext.alloc ?_ _) | (with_reducible refine Ext.drewN ?_ _) | (with_reducible refine Ext.drew ?_) | (with_reducible refine Ext.setCell ?_ ?_ _; rotate_left; (simp only []; omega)) | (with_reducible refine Ext.trans ?_ (by assumption)))) (by omega)); (have hB3 : Blk w3 w.heap.size 42 #[.int .i64 x.addr, .int .i64 x.port] := Blk.grown (by repeat (first | (with_reducible assumption) | (with_reducible exact Blk.new _ _ _) | exact Blk.newAt _ _ _ (by simp) | (with_reducible refine Blk.alloc ?_ _) | (with_reducible refine Blk.drew ?_) | (with_reducible refine Blk.drewN ?_ _) | refine Blk.far ?_ (by simp only []; omega) _ | refine Blk.rext ?_ (by assumption) (by omega) | refine Blk.ext ?_ (by assumption))) hg3 (by simp)); simp only [Nat.zero_add, List.nil_append] at hO3; have cB := hB3.cells; have fB := hB3.frozens; have zB := hB3.lt)
  refine (cE.out _ (by exact hs.ext hX3)).mono ?_
  rintro e w4 ⟨rfl, hx4⟩
  have X4 : Ext w w4 := hX3.trans hx4
  have hB4 := hB3.ext hx4
  clear hg3 hX3 hB3 cB fB zB hx4 hO3
  have cB := hB4.cells
  have fB := hB4.frozens
  have zB := hB4.lt
  go_wp2_with (go_at_call 156; refine (cF.out _ (by exact hs.ext (show Ext w _ from (by repeat (first | (with_reducible exact Ext.refl _) | (with_reducible assumption) | (with_reducible refine Ext.alloc ?_ _) | (with_reducible refine Ext.drewN ?_ _) | (with_reducible refine Ext.drew ?_) | (with_reducible refine Ext.setCell ?_ ?_ _; rotate_left; (simp only []; omega)) | (with_reducible refine Ext.trans ?_ (by assumption))))))).mono ?_; rintro e w' ⟨rfl, rfl⟩)
  refine' bodyPost_ret (v := _) ?_ rfl ?_
  rotate_left
  · (simp only [results, Try.results154]
     go_simp
     rfl)
  exact ⟨rfl, (by repeat (first | (with_reducible exact Ext.refl _) | (with_reducible assumption) | (with_reducible refine Ext.alloc ?_ _) | (with_reducible refine Ext.drewN ?_ _) | (with_reducible refine Ext.drew ?_) | (with_reducible refine Ext.setCell ?_ ?_ _; rotate_left; (simp only []; omega)) | (with_reducible refine Ext.trans ?_ (by assumption))))⟩
end Go.Proofs.Ytafmomocmodbhaa
/- The second package's SendOut. -/
namespace Go.Proofs.Ytafmomocmodbhaa
set_option linter.unusedVariables false
set_option linter.unusedSimpArgs false
open Go.RowKit

/-- Blocks b1 and b2 may have turned, new ones may lie behind; all else is as it was. -/
def Two (b1 b2 : Nat) (x y : World) : Prop := y.os = x.os ∧ y.tape = x.tape ∧ y.output = x.output ∧ x.heap.size ≤ y.heap.size ∧ ∀ i, i < x.heap.size → i ≠ b1 → i ≠ b2 → y.heap[i]? = x.heap[i]?
theorem Two.refl (b1 b2 : Nat) (x : World) : Two b1 b2 x x := ⟨rfl, rfl, rfl, Nat.le_refl _, fun _ _ _ _ => rfl⟩
theorem Two.set1 {b1 b2 : Nat} {x y : World} (h : Two b1 b2 x y) (o : Nat) (u : Value) : Two b1 b2 x (y.setCell ⟨b1, o, none⟩ u) :=
  ⟨h.1, h.2.1, h.2.2.1, by simpa [World.setCell] using h.2.2.2.1, fun i hi h1 h2 => (Below.heap_setCell y ⟨b1, o, none⟩ u i h1).trans (h.2.2.2.2 i hi h1 h2)⟩
theorem Two.set2 {b1 b2 : Nat} {x y : World} (h : Two b1 b2 x y) (o : Nat) (u : Value) : Two b1 b2 x (y.setCell ⟨b2, o, none⟩ u) :=
  ⟨h.1, h.2.1, h.2.2.1, by simpa [World.setCell] using h.2.2.2.1, fun i hi h1 h2 => (Below.heap_setCell y ⟨b2, o, none⟩ u i h2).trans (h.2.2.2.2 i hi h1 h2)⟩
theorem Two.alloc {b1 b2 : Nat} {x y : World} (h : Two b1 b2 x y) (o : Obj) : Two b1 b2 x (y.alloc o) :=
  ⟨h.1, h.2.1, h.2.2.1, by have := h.2.2.2.1; simp; omega, fun i hi h1 h2 => (Below.heap_alloc y o i (by have := h.2.2.2.1; omega)).trans (h.2.2.2.2 i hi h1 h2)⟩
theorem Two.drew {b1 b2 : Nat} {x y : World} (h : Two b1 b2 x y) : Two b1 b2 x y.drew := h
theorem Two.ow {α : Type} {E : TypeId} {enc : α → List Value} {k base : Nat} {b1 b2 : Nat} {x y : World} {a : Option Addr} {n c : Nat} {L : List α} (h : Two b1 b2 x y) (o : Ow E enc k base x a n c L) (h1 : ∀ z, a = some z → z.block ≠ b1) (h2 : ∀ z, a = some z → z.block ≠ b2) : Ow E enc k base y a n c L :=
  o.keep fun z e hb => h.2.2.2.2 z.block hb (h1 z e) (h2 z e)
theorem Two.ext {b1 b2 : Nat} {u x y : World} (h : Two b1 b2 x y) (k : Ext u x) (h1 : u.heap.size ≤ b1) (h2 : u.heap.size ≤ b2) : Ext u y :=
  ⟨h.1.trans (World.grownBy.os k), h.2.1.trans (World.grownBy.tape k), h.2.2.1.trans (World.grownBy.output k), Nat.le_trans k.size h.2.2.2.1, fun i hi _ => (h.2.2.2.2 i (Nat.lt_of_lt_of_le hi k.size) (by omega) (by omega)).trans (k.block i hi)⟩
set_option maxHeartbeats 4000000 in
theorem spec_send_some (g : GateD) (p : PktD) (ta : Option Addr) (tn tc : Nat) (ka : Option Addr) (kn kc : Nat) (a : Option Addr) (n c : Nat) (w : World) (ht : Sl encM 4 w ta tn tc g.table) (hk : Sl encC 3 w ka kn kc g.cons) (hs : Sl encI 1 w a n c p.data)
    (htn : tn ≤ 8) (hkn : kn ≤ 10) (hn : n ≤ 12) (h0 : 0 ≤ p.fr.port) (h1 : p.fr.port ≤ 65535) (T : List MapD) (port : Int) (hm : mapEnd g.table p.fr g.now = some (T, port)) :
    Calls Try.prog 153 #[.agg #[.int .i64 g.net.base, .int .i64 g.net.bits, .int .i64 g.out, .slice ta tn tc, .slice ka kn kc, .int .i64 g.filter, .int .i64 g.hold, .int .i64 g.now], .agg #[.int .i64 p.kind, .int .i64 p.fr.addr, .int .i64 p.fr.port, .int .i64 p.to_.addr, .int .i64 p.to_.port, .slice a n c]] w fun e w' => ∃ A C sa sn sc qa qn qc, e = .returned (.tuple #[.agg #[.int .i64 p.kind, .int .i64 g.out, .int .i64 port, .int .i64 p.to_.addr, .int .i64 p.to_.port, .slice A n C],
      .agg #[.int .i64 g.net.base, .int .i64 g.net.bits, .int .i64 g.out, .slice sa sn sc, .slice qa qn qc, .int .i64 g.filter, .int .i64 g.hold, .int .i64 g.now], .bool true]) ∧
      Ow 3 encI 1 w.heap.size w' A n C p.data ∧ Ow 102 encM 4 w.heap.size w' sa sn sc T ∧ Ow 115 encC 3 w.heap.size w' qa qn qc (note g.cons ⟨port, p.to_⟩) ∧ Ext w w' := by
  have T0 := ht
  have K0 := hk
  have S0 := hs
  have S0l := Lib.hid (fun (h : 0 < n) => hs.lt h)
  have hm := Lib.hid hm
  have XU := Ext.refl w
  clear ht hk hs
  go_enter Try.func153, Try.ntmps153
  go_wp2_with fail
  refine (spec_mapEnd_some ta tn tc g.table p.fr g.now _ (by exact T0.ext (by repeat (first | (with_reducible exact Ext.refl _) | (with_reducible assumption) | (with_reducible refine Ext.alloc ?_ _) | (with_reducible refine Ext.drewN ?_ _) | (with_reducible refine Ext.drew ?_) | (with_reducible refine Ext.setCell ?_ ?_ _; rotate_left; (simp only []; omega)) | (with_reducible refine Ext.trans ?_ (by assumption))))) (by omega) h0 h1 T port hm.out).mono ?_
  rintro e w1 ⟨a1, m1, c1, rfl, O1, hx1⟩
  have hy1 := hx1.size
  (try simp at hy1)
  replace T0 := T0.ext (show Ext _ w1 from (by repeat (first | (with_reducible exact Ext.refl _) | (with_reducible assumption) | (with_reducible refine Ext.alloc ?_ _) | (with_reducible refine Ext.drewN ?_ _) | (with_reducible refine Ext.drew ?_) | (with_reducible refine Ext.setCell ?_ ?_ _; rotate_left; (simp only []; omega)) | (with_reducible refine Ext.trans ?_ (by assumption)))))
  replace K0 := K0.ext (show Ext _ w1 from (by repeat (first | (with_reducible exact Ext.refl _) | (with_reducible assumption) | (with_reducible refine Ext.alloc ?_ _) | (with_reducible refine Ext.drewN ?_ _) | (with_reducible refine Ext.drew ?_) | (with_reducible refine Ext.setCell ?_ ?_ _; rotate_left; (simp only []; omega)) | (with_reducible refine Ext.trans ?_ (by assumption)))))
  replace S0 := S0.ext (show Ext _ w1 from (by repeat (first | (with_reducible exact Ext.refl _) | (with_reducible assumption) | (with_reducible refine Ext.alloc ?_ _) | (with_reducible refine Ext.drewN ?_ _) | (with_reducible refine Ext.drew ?_) | (with_reducible refine Ext.setCell ?_ ?_ _; rotate_left; (simp only []; omega)) | (with_reducible refine Ext.trans ?_ (by assumption)))))
  have BG : Blk w1 w.heap.size 40 (#[.int .i64 g.net.base, .int .i64 g.net.bits, .int .i64 g.out, .slice ta tn tc, .slice ka kn kc, .int .i64 g.filter, .int .i64 g.hold, .int .i64 g.now]) := by refine Blk.ext ?_ hx1; exact (by repeat (first | (with_reducible assumption) | (with_reducible exact Blk.new _ _ _) | exact Blk.newAt _ _ _ (by simp) | (with_reducible refine Blk.alloc ?_ _) | (with_reducible refine Blk.drew ?_) | (with_reducible refine Blk.drewN ?_ _) | refine Blk.far ?_ (by simp only []; omega) _ | refine Blk.rext ?_ (by assumption) (by omega) | refine Blk.ext ?_ (by assumption)))
  have BP : Blk w1 (w.heap.size+1) 44 (#[.int .i64 p.kind, .int .i64 p.fr.addr, .int .i64 p.fr.port, .int .i64 p.to_.addr, .int .i64 p.to_.port, .slice a n c]) := by refine Blk.ext ?_ hx1; exact (by repeat (first | (with_reducible assumption) | (with_reducible exact Blk.new _ _ _) | exact Blk.newAt _ _ _ (by simp) | (with_reducible refine Blk.alloc ?_ _) | (with_reducible refine Blk.drew ?_) | (with_reducible refine Blk.drewN ?_ _) | refine Blk.far ?_ (by simp only []; omega) _ | refine Blk.rext ?_ (by assumption) (by omega) | refine Blk.ext ?_ (by assumption)))
  have BQ : Blk w1 (w.heap.size+2) 44 #[.int .i64 0, .int .i64 0, .int .i64 0, .int .i64 0, .int .i64 0, .slice none 0 0] := by refine Blk.ext ?_ hx1; exact (by repeat (first | (with_reducible assumption) | (with_reducible exact Blk.new _ _ _) | exact Blk.newAt _ _ _ (by simp) | (with_reducible refine Blk.alloc ?_ _) | (with_reducible refine Blk.drew ?_) | (with_reducible refine Blk.drewN ?_ _) | refine Blk.far ?_ (by simp only []; omega) _ | refine Blk.rext ?_ (by assumption) (by omega) | refine Blk.ext ?_ (by assumption)))
  have BR : Blk w1 (w.heap.size+3) 40 #[.int .i64 0, .int .i64 0, .int .i64 0, .slice none 0 0, .slice none 0 0, .int .i64 0, .int .i64 0, .int .i64 0] := by refine Blk.ext ?_ hx1; exact (by repeat (first | (with_reducible assumption) | (with_reducible exact Blk.new _ _ _) | exact Blk.newAt _ _ _ (by simp) | (with_reducible refine Blk.alloc ?_ _) | (with_reducible refine Blk.drew ?_) | (with_reducible refine Blk.drewN ?_ _) | refine Blk.far ?_ (by simp only []; omega) _ | refine Blk.rext ?_ (by assumption) (by omega) | refine Blk.ext ?_ (by assumption)))
  replace XU := XU.ext (show Ext _ w1 from (by repeat (first | (with_reducible exact Ext.refl _) | (with_reducible assumption) | (with_reducible refine Ext.alloc ?_ _) | (with_reducible refine Ext.drewN ?_ _) | (with_reducible refine Ext.drew ?_) | (with_reducible refine Ext.setCell ?_ ?_ _; rotate_left; (simp only []; omega)) | (with_reducible refine Ext.trans ?_ (by assumption)))))
  have cBG := BG.cells
  have fBG := BG.frozens
  have zBG := BG.lt
  have cBP := BP.cells
  have fBP := BP.frozens
  have zBP := BP.lt
  have cBQ := BQ.cells
  have fBQ := BQ.frozens
  have zBQ := BQ.lt
  have cBR := BR.cells
  have fBR := BR.frozens
  have zBR := BR.lt
  have l1 := Lib.hid (show ∀ x, a1 = some x → w.heap.size + 4 ≤ x.block ∧ x.block < w1.heap.size from fun x e => by have h := O1.lt x e; simp at h; omega)
  go_wp2_with fail
  refine (spec_copyGate g ta tn tc ka kn kc _ (by exact T0.ext (by repeat (first | (with_reducible exact Ext.refl _) | (with_reducible assumption) | (with_reducible refine Ext.alloc ?_ _) | (with_reducible refine Ext.drewN ?_ _) | (with_reducible refine Ext.drew ?_) | (with_reducible refine Ext.setCell ?_ ?_ _; rotate_left; (simp only []; omega)) | (with_reducible refine Ext.trans ?_ (by assumption))))) (by exact K0.ext (by repeat (first | (with_reducible exact Ext.refl _) | (with_reducible assumption) | (with_reducible refine Ext.alloc ?_ _) | (with_reducible refine Ext.drewN ?_ _) | (with_reducible refine Ext.drew ?_) | (with_reducible refine Ext.setCell ?_ ?_ _; rotate_left; (simp only []; omega)) | (with_reducible refine Ext.trans ?_ (by assumption))))) (by omega) (by omega)).mono ?_
  rintro e w2 ⟨sa, sc, qa, qc, rfl, O2, O3, hx2⟩
  have hy2 := hx2.size
  (try simp at hy2)
  replace T0 := T0.ext (show Ext _ w2 from (by repeat (first | (with_reducible exact Ext.refl _) | (with_reducible assumption) | (with_reducible refine Ext.alloc ?_ _) | (with_reducible refine Ext.drewN ?_ _) | (with_reducible refine Ext.drew ?_) | (with_reducible refine Ext.setCell ?_ ?_ _; rotate_left; (simp only []; omega)) | (with_reducible refine Ext.trans ?_ (by assumption)))))
  replace K0 := K0.ext (show Ext _ w2 from (by repeat (first | (with_reducible exact Ext.refl _) | (with_reducible assumption) | (with_reducible refine Ext.alloc ?_ _) | (with_reducible refine Ext.drewN ?_ _) | (with_reducible refine Ext.drew ?_) | (with_reducible refine Ext.setCell ?_ ?_ _; rotate_left; (simp only []; omega)) | (with_reducible refine Ext.trans ?_ (by assumption)))))
  replace S0 := S0.ext (show Ext _ w2 from (by repeat (first | (with_reducible exact Ext.refl _) | (with_reducible assumption) | (with_reducible refine Ext.alloc ?_ _) | (with_reducible refine Ext.drewN ?_ _) | (with_reducible refine Ext.drew ?_) | (with_reducible refine Ext.setCell ?_ ?_ _; rotate_left; (simp only []; omega)) | (with_reducible refine Ext.trans ?_ (by assumption)))))
  clear cBG fBG zBG
  replace BG := BG.ext (show Ext _ w2 from (by repeat (first | (with_reducible exact Ext.refl _) | (with_reducible assumption) | (with_reducible refine Ext.alloc ?_ _) | (with_reducible refine Ext.drewN ?_ _) | (with_reducible refine Ext.drew ?_) | (with_reducible refine Ext.setCell ?_ ?_ _; rotate_left; (simp only []; omega)) | (with_reducible refine Ext.trans ?_ (by assumption)))))
  clear cBP fBP zBP
  replace BP := BP.ext (show Ext _ w2 from (by repeat (first | (with_reducible exact Ext.refl _) | (with_reducible assumption) | (with_reducible refine Ext.alloc ?_ _) | (with_reducible refine Ext.drewN ?_ _) | (with_reducible refine Ext.drew ?_) | (with_reducible refine Ext.setCell ?_ ?_ _; rotate_left; (simp only []; omega)) | (with_reducible refine Ext.trans ?_ (by assumption)))))
  clear cBQ fBQ zBQ
  replace BQ := BQ.ext (show Ext _ w2 from (by repeat (first | (with_reducible exact Ext.refl _) | (with_reducible assumption) | (with_reducible refine Ext.alloc ?_ _) | (with_reducible refine Ext.drewN ?_ _) | (with_reducible refine Ext.drew ?_) | (with_reducible refine Ext.setCell ?_ ?_ _; rotate_left; (simp only []; omega)) | (with_reducible refine Ext.trans ?_ (by assumption)))))
  clear cBR fBR zBR
  replace BR := BR.ext (show Ext _ w2 from (by repeat (first | (with_reducible exact Ext.refl _) | (with_reducible assumption) | (with_reducible refine Ext.alloc ?_ _) | (with_reducible refine Ext.drewN ?_ _) | (with_reducible refine Ext.drew ?_) | (with_reducible refine Ext.setCell ?_ ?_ _; rotate_left; (simp only []; omega)) | (with_reducible refine Ext.trans ?_ (by assumption)))))
  replace O1 := O1.ext (show Ext _ w2 from (by repeat (first | (with_reducible exact Ext.refl _) | (with_reducible assumption) | (with_reducible refine Ext.alloc ?_ _) | (with_reducible refine Ext.drewN ?_ _) | (with_reducible refine Ext.drew ?_) | (with_reducible refine Ext.setCell ?_ ?_ _; rotate_left; (simp only []; omega)) | (with_reducible refine Ext.trans ?_ (by assumption)))))
  replace XU := XU.ext (show Ext _ w2 from (by repeat (first | (with_reducible exact Ext.refl _) | (with_reducible assumption) | (with_reducible refine Ext.alloc ?_ _) | (with_reducible refine Ext.drewN ?_ _) | (with_reducible refine Ext.drew ?_) | (with_reducible refine Ext.setCell ?_ ?_ _; rotate_left; (simp only []; omega)) | (with_reducible refine Ext.trans ?_ (by assumption)))))
  have cBG := BG.cells
  have fBG := BG.frozens
  have zBG := BG.lt
  have cBP := BP.cells
  have fBP := BP.frozens
  have zBP := BP.lt
  have cBQ := BQ.cells
  have fBQ := BQ.frozens
  have zBQ := BQ.lt
  have cBR := BR.cells
  have fBR := BR.frozens
  have zBR := BR.lt
  clear O2 O3
  go_wp2_with fail
  refine (spec_note ka kn kc g.cons ⟨port, p.to_⟩ _ (by exact K0.ext (by repeat (first | (with_reducible exact Ext.refl _) | (with_reducible assumption) | (with_reducible refine Ext.alloc ?_ _) | (with_reducible refine Ext.drewN ?_ _) | (with_reducible refine Ext.drew ?_) | (with_reducible refine Ext.setCell ?_ ?_ _; rotate_left; (simp only []; omega)) | (with_reducible refine Ext.trans ?_ (by assumption))))) (by omega)).mono ?_
  rintro e w3 ⟨a3, m3, c3, rfl, O4, hm3, hx3⟩
  have hy3 := hx3.size
  (try simp at hy3)
  replace T0 := T0.ext (show Ext _ w3 from (by repeat (first | (with_reducible exact Ext.refl _) | (with_reducible assumption) | (with_reducible refine Ext.alloc ?_ _) | (with_reducible refine Ext.drewN ?_ _) | (with_reducible refine Ext.drew ?_) | (with_reducible refine Ext.setCell ?_ ?_ _; rotate_left; (simp only []; omega)) | (with_reducible refine Ext.trans ?_ (by assumption)))))
  replace K0 := K0.ext (show Ext _ w3 from (by repeat (first | (with_reducible exact Ext.refl _) | (with_reducible assumption) | (with_reducible refine Ext.alloc ?_ _) | (with_reducible refine Ext.drewN ?_ _) | (with_reducible refine Ext.drew ?_) | (with_reducible refine Ext.setCell ?_ ?_ _; rotate_left; (simp only []; omega)) | (with_reducible refine Ext.trans ?_ (by assumption)))))
  replace S0 := S0.ext (show Ext _ w3 from (by repeat (first | (with_reducible exact Ext.refl _) | (with_reducible assumption) | (with_reducible refine Ext.alloc ?_ _) | (with_reducible refine Ext.drewN ?_ _) | (with_reducible refine Ext.drew ?_) | (with_reducible refine Ext.setCell ?_ ?_ _; rotate_left; (simp only []; omega)) | (with_reducible refine Ext.trans ?_ (by assumption)))))
  clear cBG fBG zBG
  replace BG := BG.ext (show Ext _ w3 from (by repeat (first | (with_reducible exact Ext.refl _) | (with_reducible assumption) | (with_reducible refine Ext.alloc ?_ _) | (with_reducible refine Ext.drewN ?_ _) | (with_reducible refine Ext.drew ?_) | (with_reducible refine Ext.setCell ?_ ?_ _; rotate_left; (simp only []; omega)) | (with_reducible refine Ext.trans ?_ (by assumption)))))
  clear cBP fBP zBP
  replace BP := BP.ext (show Ext _ w3 from (by repeat (first | (with_reducible exact Ext.refl _) | (with_reducible assumption) | (with_reducible refine Ext.alloc ?_ _) | (with_reducible refine Ext.drewN ?_ _) | (with_reducible refine Ext.drew ?_) | (with_reducible refine Ext.setCell ?_ ?_ _; rotate_left; (simp only []; omega)) | (with_reducible refine Ext.trans ?_ (by assumption)))))
  clear cBQ fBQ zBQ
  replace BQ := BQ.ext (show Ext _ w3 from (by repeat (first | (with_reducible exact Ext.refl _) | (with_reducible assumption) | (with_reducible refine Ext.alloc ?_ _) | (with_reducible refine Ext.drewN ?_ _) | (with_reducible refine Ext.drew ?_) | (with_reducible refine Ext.setCell ?_ ?_ _; rotate_left; (simp only []; omega)) | (with_reducible refine Ext.trans ?_ (by assumption)))))
  clear cBR fBR zBR
  replace BR := BR.ext (show Ext _ w3 from (by repeat (first | (with_reducible exact Ext.refl _) | (with_reducible assumption) | (with_reducible refine Ext.alloc ?_ _) | (with_reducible refine Ext.drewN ?_ _) | (with_reducible refine Ext.drew ?_) | (with_reducible refine Ext.setCell ?_ ?_ _; rotate_left; (simp only []; omega)) | (with_reducible refine Ext.trans ?_ (by assumption)))))
  replace O1 := O1.ext (show Ext _ w3 from (by repeat (first | (with_reducible exact Ext.refl _) | (with_reducible assumption) | (with_reducible refine Ext.alloc ?_ _) | (with_reducible refine Ext.drewN ?_ _) | (with_reducible refine Ext.drew ?_) | (with_reducible refine Ext.setCell ?_ ?_ _; rotate_left; (simp only []; omega)) | (with_reducible refine Ext.trans ?_ (by assumption)))))
  have BX : Blk w3 w2.heap.size 40 (#[.int .i64 g.net.base, .int .i64 g.net.bits, .int .i64 g.out, .slice a1 m1 c1, .slice qa kn qc, .int .i64 g.filter, .int .i64 g.hold, .int .i64 g.now]) := by refine Blk.ext ?_ hx3; exact (by repeat (first | (with_reducible assumption) | (with_reducible exact Blk.new _ _ _) | exact Blk.newAt _ _ _ (by simp) | (with_reducible refine Blk.alloc ?_ _) | (with_reducible refine Blk.drew ?_) | (with_reducible refine Blk.drewN ?_ _) | refine Blk.far ?_ (by simp only []; omega) _ | refine Blk.rext ?_ (by assumption) (by omega) | refine Blk.ext ?_ (by assumption)))
  replace XU := XU.ext (show Ext _ w3 from (by repeat (first | (with_reducible exact Ext.refl _) | (with_reducible assumption) | (with_reducible refine Ext.alloc ?_ _) | (with_reducible refine Ext.drewN ?_ _) | (with_reducible refine Ext.drew ?_) | (with_reducible refine Ext.setCell ?_ ?_ _; rotate_left; (simp only []; omega)) | (with_reducible refine Ext.trans ?_ (by assumption)))))
  have cBG := BG.cells
  have fBG := BG.frozens
  have zBG := BG.lt
  have cBP := BP.cells
  have fBP := BP.frozens
  have zBP := BP.lt
  have cBQ := BQ.cells
  have fBQ := BQ.frozens
  have zBQ := BQ.lt
  have cBR := BR.cells
  have fBR := BR.frozens
  have zBR := BR.lt
  have cBX := BX.cells
  have fBX := BX.frozens
  have zBX := BX.lt
  have l4 := Lib.hid (show ∀ x, a3 = some x → w2.heap.size < x.block ∧ x.block < w3.heap.size from fun x e => by have h := O4.lt x e; simp at h; omega)
  go_wp2_with fail
  refine (spec_copyPacket p.kind p.fr.addr p.fr.port p.to_.addr p.to_.port a n c p.data _ (by exact S0.setFar (fun hn x e => by have := S0l.out hn x e; simp only []; omega) _) (by omega)).mono ?_
  rintro e w4 ⟨a4, c4, rfl, O5, hx4⟩
  have l5 := Lib.hid (show ∀ x, a4 = some x → w.heap.size + 4 ≤ x.block ∧ x.block < w4.heap.size from fun x e => by have h := O5.lt x e; simp at h; omega)
  have hy4 := hx4.size
  (try simp at hy4)
  clear cBG fBG cBP fBP cBQ fBQ cBR fBR cBX fBX
  replace BX := (show Blk (w3.setCell ⟨w2.heap.size, 4, none⟩ (.slice a3 m3 c3)) w2.heap.size 40 (#[.int .i64 g.net.base, .int .i64 g.net.bits, .int .i64 g.out, .slice a1 m1 c1, .slice a3 m3 c3, .int .i64 g.filter, .int .i64 g.hold, .int .i64 g.now]) from BX.set 4 _).ext hx4
  replace BG := (BG.far (by simp only []; omega) _).ext hx4
  replace BQ := (BQ.far (by simp only []; omega) _).ext hx4
  replace BR := (BR.far (by simp only []; omega) _).ext hx4
  replace O1 := (O1.setC (fun x e => by have := l1.out x e; simp only []; omega) _).ext hx4
  replace O4 := (O4.setC (fun x e => by have := l4.out x e; simp only []; omega) _).ext hx4
  have X4 : Ext w w4 := by refine Ext.trans ?_ hx4; exact XU.setCell (by simp only []; omega) _
  clear hx4 XU BP zBP T0 K0 S0 hx1 hx2 hx3 zBG zBQ zBR zBX
  have cBG := BG.cells
  have fBG := BG.frozens
  have zBG := BG.lt
  have cBX := BX.cells
  have fBX := BX.frozens
  have zBX := BX.lt
  have cBQ := BQ.cells
  have fBQ := BQ.frozens
  have zBQ := BQ.lt
  have cBR := BR.cells
  have fBR := BR.frozens
  have zBR := BR.lt
  have X5 : Ow 3 encI 1 (w.heap.size + 4) w4 a4 n c4 p.data := O5.rebase (by (try simp); (try omega))
  have X1 : Ow 102 encM 4 (w.heap.size + 4) w4 a1 m1 c1 T := (O1.ow encM_len (by omega)).rebase (by (try simp); (try omega))
  have X3 : Ow 115 encC 3 (w.heap.size + 4) w4 a3 m3 c3 (note g.cons ⟨port, p.to_⟩) := (O4.ow encC_len (by omega)).rebase (by (try simp); (try omega))
  clear O1 O4 O5
  have e2 : w.heap.size ≤ w.heap.size + 1 + 1 := by omega
  have e3 : w.heap.size ≤ w.heap.size + 1 + 1 + 1 := by omega
  have n52 : ∀ x, a4 = some x → x.block ≠ w.heap.size + 1 + 1 := fun x e => by have := l5.out x e; omega
  have n53 : ∀ x, a4 = some x → x.block ≠ w.heap.size + 1 + 1 + 1 := fun x e => by have := l5.out x e; omega
  have n12 : ∀ x, a1 = some x → x.block ≠ w.heap.size + 1 + 1 := fun x e => by have := l1.out x e; omega
  have n13 : ∀ x, a1 = some x → x.block ≠ w.heap.size + 1 + 1 + 1 := fun x e => by have := l1.out x e; omega
  have n42 : ∀ x, a3 = some x → x.block ≠ w.heap.size + 1 + 1 := fun x e => by have := l4.out x e; omega
  have n43 : ∀ x, a3 = some x → x.block ≠ w.heap.size + 1 + 1 + 1 := fun x e => by have := l4.out x e; omega
  have Y5 := Lib.hid (X5.rebase (b' := w.heap.size) (by omega))
  have Y1 := Lib.hid (X1.rebase (b' := w.heap.size) (by omega))
  have Y3 := Lib.hid (X3.rebase (b' := w.heap.size) (by omega))
  go_wp2_with fail
  go_region_with fail
  all_goals
    go_wp2
    refine' bodyPost_ret (v := _) ?_ rfl ?_
    rotate_left
    · (simp only [results, Try.results153]
       go_simp
       rfl)
    refine ⟨a4, c4, a1, m1, c1, a3, m3, c3, rfl, ?_⟩
    refine (fun (h : Two (w.heap.size + 1 + 1) (w.heap.size + 1 + 1 + 1) w4 _) => ⟨h.ow Y5.out n52 n53, h.ow Y1.out n12 n13, h.ow Y3.out n42 n43, h.ext X4 e2 e3⟩) ?_
    clear n52 n53 n12 n13 n42 n43 e2 e3 cBG fBG cBX fBX cBQ fBQ cBR fBR
    generalize w.heap.size + 1 + 1 + 1 = b2
    generalize w.heap.size + 1 + 1 = b1
    repeat (first | (with_reducible exact Two.refl _ _ _) | (with_reducible refine Two.drew ?_) | (with_reducible refine Two.alloc ?_ _) | (with_reducible refine Two.set1 ?_ _ _) | (with_reducible refine Two.set2 ?_ _ _))
end Go.Proofs.Ytafmomocmodbhaa
/- The second package's SendOut: where no end can be mapped. -/
namespace Go.Proofs.Ytafmomocmodbhaa
set_option linter.unusedVariables false
set_option linter.unusedSimpArgs false
open Go.RowKit

set_option maxHeartbeats 1000000 in
theorem spec_send_none (g : GateD) (p : PktD) (ta : Option Addr) (tn tc : Nat) (ka : Option Addr) (kn kc : Nat) (a : Option Addr) (n c : Nat) (w : World) (ht : Sl encM 4 w ta tn tc g.table)
    (htn : tn ≤ 8) (h0 : 0 ≤ p.fr.port) (h1 : p.fr.port ≤ 65535) (hm : mapEnd g.table p.fr g.now = none) :
    Calls Try.prog 153 #[.agg #[.int .i64 g.net.base, .int .i64 g.net.bits, .int .i64 g.out, .slice ta tn tc, .slice ka kn kc, .int .i64 g.filter, .int .i64 g.hold, .int .i64 g.now], .agg #[.int .i64 p.kind, .int .i64 p.fr.addr, .int .i64 p.fr.port, .int .i64 p.to_.addr, .int .i64 p.to_.port, .slice a n c]] w fun e w' => e = .returned (.tuple #[.agg #[.int .i64 0, .int .i64 0, .int .i64 0, .int .i64 0, .int .i64 0, .slice none 0 0], .agg #[.int .i64 0, .int .i64 0, .int .i64 0, .slice none 0 0, .slice none 0 0, .int .i64 0, .int .i64 0, .int .i64 0], .bool false]) ∧ Ext w w' := by
  have hm := Lib.hid hm
  have e2 : w.heap.size ≤ w.heap.size + 1 + 1 := by omega
  have e3 : w.heap.size ≤ w.heap.size + 1 + 1 + 1 := by omega
  go_enter Try.func153, Try.ntmps153
  go_wp2_with fail
  refine (spec_mapEnd_none ta tn tc g.table p.fr g.now _ (by exact ht.ext (by repeat (first | (with_reducible exact Ext.refl _) | (with_reducible assumption) | (with_reducible refine Ext.alloc ?_ _) | (with_reducible refine Ext.drewN ?_ _) | (with_reducible refine Ext.drew ?_) | (with_reducible refine Ext.setCell ?_ ?_ _; rotate_left; (simp only []; omega)) | (with_reducible refine Ext.trans ?_ (by assumption))))) (by omega) h0 h1 hm.out).mono ?_
  rintro e w1 ⟨rfl, hx1⟩
  have hy1 := hx1.size
  (try simp at hy1)
  replace ht := ht.ext (show Ext _ w1 from (by repeat (first | (with_reducible exact Ext.refl _) | (with_reducible assumption) | (with_reducible refine Ext.alloc ?_ _) | (with_reducible refine Ext.drewN ?_ _) | (with_reducible refine Ext.drew ?_) | (with_reducible refine Ext.setCell ?_ ?_ _; rotate_left; (simp only []; omega)) | (with_reducible refine Ext.trans ?_ (by assumption)))))
  have BQ : Blk w1 (w.heap.size+2) 44 #[.int .i64 0, .int .i64 0, .int .i64 0, .int .i64 0, .int .i64 0, .slice none 0 0] := by refine Blk.ext ?_ hx1; exact (by repeat (first | (with_reducible assumption) | (with_reducible exact Blk.new _ _ _) | exact Blk.newAt _ _ _ (by simp) | (with_reducible refine Blk.alloc ?_ _) | (with_reducible refine Blk.drew ?_) | (with_reducible refine Blk.drewN ?_ _) | refine Blk.far ?_ (by simp only []; omega) _ | refine Blk.rext ?_ (by assumption) (by omega) | refine Blk.ext ?_ (by assumption)))
  have BR : Blk w1 (w.heap.size+3) 40 #[.int .i64 0, .int .i64 0, .int .i64 0, .slice none 0 0, .slice none 0 0, .int .i64 0, .int .i64 0, .int .i64 0] := by refine Blk.ext ?_ hx1; exact (by repeat (first | (with_reducible assumption) | (with_reducible exact Blk.new _ _ _) | exact Blk.newAt _ _ _ (by simp) | (with_reducible refine Blk.alloc ?_ _) | (with_reducible refine Blk.drew ?_) | (with_reducible refine Blk.drewN ?_ _) | refine Blk.far ?_ (by simp only []; omega) _ | refine Blk.rext ?_ (by assumption) (by omega) | refine Blk.ext ?_ (by assumption)))
  have cBQ := BQ.cells
  have fBQ := BQ.frozens
  have zBQ := BQ.lt
  have cBR := BR.cells
  have fBR := BR.frozens
  have zBR := BR.lt
  have X1 : Ext w w1 := (by repeat (first | (with_reducible exact Ext.refl _) | (with_reducible assumption) | (with_reducible refine Ext.alloc ?_ _) | (with_reducible refine Ext.drewN ?_ _) | (with_reducible refine Ext.drew ?_) | (with_reducible refine Ext.setCell ?_ ?_ _; rotate_left; (simp only []; omega)) | (with_reducible refine Ext.trans ?_ (by assumption))))
  clear hx1
  go_wp2
  refine' bodyPost_ret (v := _) ?_ rfl ?_
  rotate_left
  · (simp only [results, Try.results153]
     go_simp
     rfl)
  refine ⟨rfl, ?_⟩
  refine (fun (h : Two (w.heap.size + 1 + 1) (w.heap.size + 1 + 1 + 1) w1 _) => h.ext X1 e2 e3) ?_
  clear e2 e3 cBQ fBQ cBR fBR
  generalize w.heap.size + 1 + 1 + 1 = b2
  generalize w.heap.size + 1 + 1 = b1
  repeat (first | (with_reducible exact Two.refl _ _ _) | (with_reducible refine Two.drew ?_) | (with_reducible refine Two.alloc ?_ _) | (with_reducible refine Two.set1 ?_ _ _) | (with_reducible refine Two.set2 ?_ _ _))
end Go.Proofs.Ytafmomocmodbhaa
/- The second package's SendOut. -/
namespace Go.Proofs.Ytafmomocmodbhaa
set_option linter.unusedVariables false
set_option linter.unusedSimpArgs false
open Go.RowKit

set_option maxHeartbeats 1000000 in
theorem spec_SendOut_not (g : GateD) (p : PktD) (ta : Option Addr) (tn tc : Nat) (ka : Option Addr) (kn kc : Nat) (a : Option Addr) (n c : Nat) (w : World) (ht : Sl encM 4 w ta tn tc g.table) (hk : Sl encC 3 w ka kn kc g.cons) (hs : Sl encI 1 w a n c p.data) (hg : goesOut g p = false) :
    Calls Try.prog 148 #[.agg #[.int .i64 g.net.base, .int .i64 g.net.bits, .int .i64 g.out, .slice ta tn tc, .slice ka kn kc, .int .i64 g.filter, .int .i64 g.hold, .int .i64 g.now], .agg #[.int .i64 p.kind, .int .i64 p.fr.addr, .int .i64 p.fr.port, .int .i64 p.to_.addr, .int .i64 p.to_.port, .slice a n c]] w fun e w' => e = .returned (.tuple #[.agg #[.int .i64 0, .int .i64 0, .int .i64 0, .int .i64 0, .int .i64 0, .slice none 0 0], .agg #[.int .i64 0, .int .i64 0, .int .i64 0, .slice none 0 0, .slice none 0 0, .int .i64 0, .int .i64 0, .int .i64 0], .bool false]) ∧ Ext w w' := by
  have c1 := fun W h1 h2 h3 => spec_goesOut g p ta tn tc ka kn kc a n c W h1 h2 h3
  rw [hg] at c1
  have c1 := Lib.hid c1
  have e2 : w.heap.size ≤ w.heap.size + 1 + 1 := by omega
  have e3 : w.heap.size ≤ w.heap.size + 1 + 1 + 1 := by omega
  go_enter Try.func148, Try.ntmps148
  go_wp2_with fail
  refine (c1.out _ (by exact ht.ext (by repeat (first | (with_reducible exact Ext.refl _) | (with_reducible assumption) | (with_reducible refine Ext.alloc ?_ _) | (with_reducible refine Ext.drewN ?_ _) | (with_reducible refine Ext.drew ?_) | (with_reducible refine Ext.setCell ?_ ?_ _; rotate_left; (simp only []; omega)) | (with_reducible refine Ext.trans ?_ (by assumption))))) (by exact hk.ext (by repeat (first | (with_reducible exact Ext.refl _) | (with_reducible assumption) | (with_reducible refine Ext.alloc ?_ _) | (with_reducible refine Ext.drewN ?_ _) | (with_reducible refine Ext.drew ?_) | (with_reducible refine Ext.setCell ?_ ?_ _; rotate_left; (simp only []; omega)) | (with_reducible refine Ext.trans ?_ (by assumption))))) (by exact hs.ext (by repeat (first | (with_reducible exact Ext.refl _) | (with_reducible assumption) | (with_reducible refine Ext.alloc ?_ _) | (with_reducible refine Ext.drewN ?_ _) | (with_reducible refine Ext.drew ?_) | (with_reducible refine Ext.setCell ?_ ?_ _; rotate_left; (simp only []; omega)) | (with_reducible refine Ext.trans ?_ (by assumption)))))).mono ?_
  rintro e w1 ⟨rfl, hx1⟩
  have hy1 := hx1.size
  (try simp at hy1)
  replace ht := ht.ext (show Ext _ w1 from (by repeat (first | (with_reducible exact Ext.refl _) | (with_reducible assumption) | (with_reducible refine Ext.alloc ?_ _) | (with_reducible refine Ext.drewN ?_ _) | (with_reducible refine Ext.drew ?_) | (with_reducible refine Ext.setCell ?_ ?_ _; rotate_left; (simp only []; omega)) | (with_reducible refine Ext.trans ?_ (by assumption)))))
  replace hk := hk.ext (show Ext _ w1 from (by repeat (first | (with_reducible exact Ext.refl _) | (with_reducible assumption) | (with_reducible refine Ext.alloc ?_ _) | (with_reducible refine Ext.drewN ?_ _) | (with_reducible refine Ext.drew ?_) | (with_reducible refine Ext.setCell ?_ ?_ _; rotate_left; (simp only []; omega)) | (with_reducible refine Ext.trans ?_ (by assumption)))))
  replace hs := hs.ext (show Ext _ w1 from (by repeat (first | (with_reducible exact Ext.refl _) | (with_reducible assumption) | (with_reducible refine Ext.alloc ?_ _) | (with_reducible refine Ext.drewN ?_ _) | (with_reducible refine Ext.drew ?_) | (with_reducible refine Ext.setCell ?_ ?_ _; rotate_left; (simp only []; omega)) | (with_reducible refine Ext.trans ?_ (by assumption)))))
  have BQ : Blk w1 (w.heap.size+2) 44 #[.int .i64 0, .int .i64 0, .int .i64 0, .int .i64 0, .int .i64 0, .slice none 0 0] := by refine Blk.ext ?_ hx1; exact (by repeat (first | (with_reducible assumption) | (with_reducible exact Blk.new _ _ _) | exact Blk.newAt _ _ _ (by simp) | (with_reducible refine Blk.alloc ?_ _) | (with_reducible refine Blk.drew ?_) | (with_reducible refine Blk.drewN ?_ _) | refine Blk.far ?_ (by simp only []; omega) _ | refine Blk.rext ?_ (by assumption) (by omega) | refine Blk.ext ?_ (by assumption)))
  have BR : Blk w1 (w.heap.size+3) 40 #[.int .i64 0, .int .i64 0, .int .i64 0, .slice none 0 0, .slice none 0 0, .int .i64 0, .int .i64 0, .int .i64 0] := by refine Blk.ext ?_ hx1; exact (by repeat (first | (with_reducible assumption) | (with_reducible exact Blk.new _ _ _) | exact Blk.newAt _ _ _ (by simp) | (with_reducible refine Blk.alloc ?_ _) | (with_reducible refine Blk.drew ?_) | (with_reducible refine Blk.drewN ?_ _) | refine Blk.far ?_ (by simp only []; omega) _ | refine Blk.rext ?_ (by assumption) (by omega) | refine Blk.ext ?_ (by assumption)))
  have cBQ := BQ.cells
  have fBQ := BQ.frozens
  have zBQ := BQ.lt
  have cBR := BR.cells
  have fBR := BR.frozens
  have zBR := BR.lt
  have X1 : Ext w w1 := (by repeat (first | (with_reducible exact Ext.refl _) | (with_reducible assumption) | (with_reducible refine Ext.alloc ?_ _) | (with_reducible refine Ext.drewN ?_ _) | (with_reducible refine Ext.drew ?_) | (with_reducible refine Ext.setCell ?_ ?_ _; rotate_left; (simp only []; omega)) | (with_reducible refine Ext.trans ?_ (by assumption))))
  clear hx1
  go_wp2
  refine' bodyPost_ret (v := _) ?_ rfl ?_
  rotate_left
  · (simp only [results, Try.results148]
     go_simp
     rfl)
  refine ⟨rfl, ?_⟩
  refine (fun (h : Two (w.heap.size + 1 + 1) (w.heap.size + 1 + 1 + 1) w1 _) => h.ext X1 e2 e3) ?_
  clear e2 e3 cBQ fBQ cBR fBR
  generalize w.heap.size + 1 + 1 + 1 = b2
  generalize w.heap.size + 1 + 1 = b1
  repeat (first | (with_reducible exact Two.refl _ _ _) | (with_reducible refine Two.drew ?_) | (with_reducible refine Two.alloc ?_ _) | (with_reducible refine Two.set1 ?_ _ _) | (with_reducible refine Two.set2 ?_ _ _))
set_option maxHeartbeats 2000000 in
theorem spec_SendOut_some (g : GateD) (p : PktD) (ta : Option Addr) (tn tc : Nat) (ka : Option Addr) (kn kc : Nat) (a : Option Addr) (n c : Nat) (w : World) (ht : Sl encM 4 w ta tn tc g.table) (hk : Sl encC 3 w ka kn kc g.cons) (hs : Sl encI 1 w a n c p.data) (hg : goesOut g p = true)
    (htn : tn ≤ 8) (hkn : kn ≤ 10) (hn : n ≤ 12) (h0 : 0 ≤ p.fr.port) (h1 : p.fr.port ≤ 65535) (T : List MapD) (port : Int) (hm : mapEnd g.table p.fr g.now = some (T, port)) :
    Calls Try.prog 148 #[.agg #[.int .i64 g.net.base, .int .i64 g.net.bits, .int .i64 g.out, .slice ta tn tc, .slice ka kn kc, .int .i64 g.filter, .int .i64 g.hold, .int .i64 g.now], .agg #[.int .i64 p.kind, .int .i64 p.fr.addr, .int .i64 p.fr.port, .int .i64 p.to_.addr, .int .i64 p.to_.port, .slice a n c]] w fun e w' => ∃ A C sa sn sc qa qn qc, e = .returned (.tuple #[.agg #[.int .i64 p.kind, .int .i64 g.out, .int .i64 port, .int .i64 p.to_.addr, .int .i64 p.to_.port, .slice A n C],
      .agg #[.int .i64 g.net.base, .int .i64 g.net.bits, .int .i64 g.out, .slice sa sn sc, .slice qa qn qc, .int .i64 g.filter, .int .i64 g.hold, .int .i64 g.now], .bool true]) ∧
      Ow 3 encI 1 w.heap.size w' A n C p.data ∧ Ow 102 encM 4 w.heap.size w' sa sn sc T ∧ Ow 115 encC 3 w.heap.size w' qa qn qc (note g.cons ⟨port, p.to_⟩) ∧ Ext w w' := by
  have c1 := fun W h1 h2 h3 => spec_goesOut g p ta tn tc ka kn kc a n c W h1 h2 h3
  rw [hg] at c1
  have c1 := Lib.hid c1
  have hm := Lib.hid hm
  have e2 : w.heap.size ≤ w.heap.size + 1 + 1 := by omega
  have e3 : w.heap.size ≤ w.heap.size + 1 + 1 + 1 := by omega
  go_enter Try.func148, Try.ntmps148
  go_wp2_with fail
  refine (c1.out _ (by exact ht.ext (by repeat (first | (with_reducible exact Ext.refl _) | (with_reducible assumption) | (with_reducible refine Ext.alloc ?_ _) | (with_reducible refine Ext.drewN ?_ _) | (with_reducible refine Ext.drew ?_) | (with_reducible refine Ext.setCell ?_ ?_ _; rotate_left; (simp only []; omega)) | (with_reducible refine Ext.trans ?_ (by assumption))))) (by exact hk.ext (by repeat (first | (with_reducible exact Ext.refl _) | (with_reducible assumption) | (with_reducible refine Ext.alloc ?_ _) | (with_reducible refine Ext.drewN ?_ _) | (with_reducible refine Ext.drew ?_) | (with_reducible refine Ext.setCell ?_ ?_ _; rotate_left; (simp only []; omega)) | (with_reducible refine Ext.trans ?_ (by assumption))))) (by exact hs.ext (by repeat (first | (with_reducible exact Ext.refl _) | (with_reducible assumption) | (with_reducible refine Ext.alloc ?_ _) | (with_reducible refine Ext.drewN ?_ _) | (with_reducible refine Ext.drew ?_) | (with_reducible refine Ext.setCell ?_ ?_ _; rotate_left; (simp only []; omega)) | (with_reducible refine Ext.trans ?_ (by assumption)))))).mono ?_
  rintro e w1 ⟨rfl, hx1⟩
  have hy1 := hx1.size
  (try simp at hy1)
  replace ht := ht.ext (show Ext _ w1 from (by repeat (first | (with_reducible exact Ext.refl _) | (with_reducible assumption) | (with_reducible refine Ext.alloc ?_ _) | (with_reducible refine Ext.drewN ?_ _) | (with_reducible refine Ext.drew ?_) | (with_reducible refine Ext.setCell ?_ ?_ _; rotate_left; (simp only []; omega)) | (with_reducible refine Ext.trans ?_ (by assumption)))))
  replace hk := hk.ext (show Ext _ w1 from (by repeat (first | (with_reducible exact Ext.refl _) | (with_reducible assumption) | (with_reducible refine Ext.alloc ?_ _) | (with_reducible refine Ext.drewN ?_ _) | (with_reducible refine Ext.drew ?_) | (with_reducible refine Ext.setCell ?_ ?_ _; rotate_left; (simp only []; omega)) | (with_reducible refine Ext.trans ?_ (by assumption)))))
  replace hs := hs.ext (show Ext _ w1 from (by repeat (first | (with_reducible exact Ext.refl _) | (with_reducible assumption) | (with_reducible refine Ext.alloc ?_ _) | (with_reducible refine Ext.drewN ?_ _) | (with_reducible refine Ext.drew ?_) | (with_reducible refine Ext.setCell ?_ ?_ _; rotate_left; (simp only []; omega)) | (with_reducible refine Ext.trans ?_ (by assumption)))))
  have BG : Blk w1 w.heap.size 40 (#[.int .i64 g.net.base, .int .i64 g.net.bits, .int .i64 g.out, .slice ta tn tc, .slice ka kn kc, .int .i64 g.filter, .int .i64 g.hold, .int .i64 g.now]) := by refine Blk.ext ?_ hx1; exact (by repeat (first | (with_reducible assumption) | (with_reducible exact Blk.new _ _ _) | exact Blk.newAt _ _ _ (by simp) | (with_reducible refine Blk.alloc ?_ _) | (with_reducible refine Blk.drew ?_) | (with_reducible refine Blk.drewN ?_ _) | refine Blk.far ?_ (by simp only []; omega) _ | refine Blk.rext ?_ (by assumption) (by omega) | refine Blk.ext ?_ (by assumption)))
  have BP : Blk w1 (w.heap.size+1) 44 (#[.int .i64 p.kind, .int .i64 p.fr.addr, .int .i64 p.fr.port, .int .i64 p.to_.addr, .int .i64 p.to_.port, .slice a n c]) := by refine Blk.ext ?_ hx1; exact (by repeat (first | (with_reducible assumption) | (with_reducible exact Blk.new _ _ _) | exact Blk.newAt _ _ _ (by simp) | (with_reducible refine Blk.alloc ?_ _) | (with_reducible refine Blk.drew ?_) | (with_reducible refine Blk.drewN ?_ _) | refine Blk.far ?_ (by simp only []; omega) _ | refine Blk.rext ?_ (by assumption) (by omega) | refine Blk.ext ?_ (by assumption)))
  have BQ : Blk w1 (w.heap.size+2) 44 #[.int .i64 0, .int .i64 0, .int .i64 0, .int .i64 0, .int .i64 0, .slice none 0 0] := by refine Blk.ext ?_ hx1; exact (by repeat (first | (with_reducible assumption) | (with_reducible exact Blk.new _ _ _) | exact Blk.newAt _ _ _ (by simp) | (with_reducible refine Blk.alloc ?_ _) | (with_reducible refine Blk.drew ?_) | (with_reducible refine Blk.drewN ?_ _) | refine Blk.far ?_ (by simp only []; omega) _ | refine Blk.rext ?_ (by assumption) (by omega) | refine Blk.ext ?_ (by assumption)))
  have BR : Blk w1 (w.heap.size+3) 40 #[.int .i64 0, .int .i64 0, .int .i64 0, .slice none 0 0, .slice none 0 0, .int .i64 0, .int .i64 0, .int .i64 0] := by refine Blk.ext ?_ hx1; exact (by repeat (first | (with_reducible assumption) | (with_reducible exact Blk.new _ _ _) | exact Blk.newAt _ _ _ (by simp) | (with_reducible refine Blk.alloc ?_ _) | (with_reducible refine Blk.drew ?_) | (with_reducible refine Blk.drewN ?_ _) | refine Blk.far ?_ (by simp only []; omega) _ | refine Blk.rext ?_ (by assumption) (by omega) | refine Blk.ext ?_ (by assumption)))
  have cBG := BG.cells
  have fBG := BG.frozens
  have zBG := BG.lt
  have cBP := BP.cells
  have fBP := BP.frozens
  have zBP := BP.lt
  have cBQ := BQ.cells
  have fBQ := BQ.frozens
  have zBQ := BQ.lt
  have cBR := BR.cells
  have fBR := BR.frozens
  have zBR := BR.lt
  have X1 : Ext w w1 := (by repeat (first | (with_reducible exact Ext.refl _) | (with_reducible assumption) | (with_reducible refine Ext.alloc ?_ _) | (with_reducible refine Ext.drewN ?_ _) | (with_reducible refine Ext.drew ?_) | (with_reducible refine Ext.setCell ?_ ?_ _; rotate_left; (simp only []; omega)) | (with_reducible refine Ext.trans ?_ (by assumption))))
  clear hx1
  go_wp2_with fail
  refine (spec_send_some g p ta tn tc ka kn kc a n c _ (by exact ht.ext (by repeat (first | (with_reducible exact Ext.refl _) | (with_reducible assumption) | (with_reducible refine Ext.alloc ?_ _) | (with_reducible refine Ext.drewN ?_ _) | (with_reducible refine Ext.drew ?_) | (with_reducible refine Ext.setCell ?_ ?_ _; rotate_left; (simp only []; omega)) | (with_reducible refine Ext.trans ?_ (by assumption))))) (by exact hk.ext (by repeat (first | (with_reducible exact Ext.refl _) | (with_reducible assumption) | (with_reducible refine Ext.alloc ?_ _) | (with_reducible refine Ext.drewN ?_ _) | (with_reducible refine Ext.drew ?_) | (with_reducible refine Ext.setCell ?_ ?_ _; rotate_left; (simp only []; omega)) | (with_reducible refine Ext.trans ?_ (by assumption))))) (by exact hs.ext (by repeat (first | (with_reducible exact Ext.refl _) | (with_reducible assumption) | (with_reducible refine Ext.alloc ?_ _) | (with_reducible refine Ext.drewN ?_ _) | (with_reducible refine Ext.drew ?_) | (with_reducible refine Ext.setCell ?_ ?_ _; rotate_left; (simp only []; omega)) | (with_reducible refine Ext.trans ?_ (by assumption))))) htn hkn hn h0 h1 T port hm.out).mono ?_
  rintro e w2 ⟨A, C, sa, sn, sc, qa, qn, qc, rfl, O1, O2, O3, hx2⟩
  have hy2 := hx2.size
  (try simp at hy2)
  replace ht := ht.ext (show Ext _ w2 from (by repeat (first | (with_reducible exact Ext.refl _) | (with_reducible assumption) | (with_reducible refine Ext.alloc ?_ _) | (with_reducible refine Ext.drewN ?_ _) | (with_reducible refine Ext.drew ?_) | (with_reducible refine Ext.setCell ?_ ?_ _; rotate_left; (simp only []; omega)) | (with_reducible refine Ext.trans ?_ (by assumption)))))
  replace hk := hk.ext (show Ext _ w2 from (by repeat (first | (with_reducible exact Ext.refl _) | (with_reducible assumption) | (with_reducible refine Ext.alloc ?_ _) | (with_reducible refine Ext.drewN ?_ _) | (with_reducible refine Ext.drew ?_) | (with_reducible refine Ext.setCell ?_ ?_ _; rotate_left; (simp only []; omega)) | (with_reducible refine Ext.trans ?_ (by assumption)))))
  replace hs := hs.ext (show Ext _ w2 from (by repeat (first | (with_reducible exact Ext.refl _) | (with_reducible assumption) | (with_reducible refine Ext.alloc ?_ _) | (with_reducible refine Ext.drewN ?_ _) | (with_reducible refine Ext.drew ?_) | (with_reducible refine Ext.setCell ?_ ?_ _; rotate_left; (simp only []; omega)) | (with_reducible refine Ext.trans ?_ (by assumption)))))
  clear cBG fBG zBG
  replace BG := BG.ext (show Ext _ w2 from (by repeat (first | (with_reducible exact Ext.refl _) | (with_reducible assumption) | (with_reducible refine Ext.alloc ?_ _) | (with_reducible refine Ext.drewN ?_ _) | (with_reducible refine Ext.drew ?_) | (with_reducible refine Ext.setCell ?_ ?_ _; rotate_left; (simp only []; omega)) | (with_reducible refine Ext.trans ?_ (by assumption)))))
  clear cBP fBP zBP
  replace BP := BP.ext (show Ext _ w2 from (by repeat (first | (with_reducible exact Ext.refl _) | (with_reducible assumption) | (with_reducible refine Ext.alloc ?_ _) | (with_reducible refine Ext.drewN ?_ _) | (with_reducible refine Ext.drew ?_) | (with_reducible refine Ext.setCell ?_ ?_ _; rotate_left; (simp only []; omega)) | (with_reducible refine Ext.trans ?_ (by assumption)))))
  clear cBQ fBQ zBQ
  replace BQ := BQ.ext (show Ext _ w2 from (by repeat (first | (with_reducible exact Ext.refl _) | (with_reducible assumption) | (with_reducible refine Ext.alloc ?_ _) | (with_reducible refine Ext.drewN ?_ _) | (with_reducible refine Ext.drew ?_) | (with_reducible refine Ext.setCell ?_ ?_ _; rotate_left; (simp only []; omega)) | (with_reducible refine Ext.trans ?_ (by assumption)))))
  clear cBR fBR zBR
  replace BR := BR.ext (show Ext _ w2 from (by repeat (first | (with_reducible exact Ext.refl _) | (with_reducible assumption) | (with_reducible refine Ext.alloc ?_ _) | (with_reducible refine Ext.drewN ?_ _) | (with_reducible refine Ext.drew ?_) | (with_reducible refine Ext.setCell ?_ ?_ _; rotate_left; (simp only []; omega)) | (with_reducible refine Ext.trans ?_ (by assumption)))))
  have cBG := BG.cells
  have fBG := BG.frozens
  have zBG := BG.lt
  have cBP := BP.cells
  have fBP := BP.frozens
  have zBP := BP.lt
  have cBQ := BQ.cells
  have fBQ := BQ.frozens
  have zBQ := BQ.lt
  have cBR := BR.cells
  have fBR := BR.frozens
  have zBR := BR.lt
  have X2 : Ext w w2 := X1.trans (show Ext w1 w2 from (by repeat (first | (with_reducible exact Ext.refl _) | (with_reducible assumption) | (with_reducible refine Ext.alloc ?_ _) | (with_reducible refine Ext.drewN ?_ _) | (with_reducible refine Ext.drew ?_) | (with_reducible refine Ext.setCell ?_ ?_ _; rotate_left; (simp only []; omega)) | (with_reducible refine Ext.trans ?_ (by assumption)))))
  have z1 := X1.size
  have l1 := O1.lt
  have l2 := O2.lt
  have l3 := O3.lt
  have hz : w.heap.size + 4 ≤ w1.heap.size := by (try simp at hy1); omega
  have Y1 := Lib.hid (O1.rebase (b' := w.heap.size) (by (try simp); (try omega)))
  have Y2 := Lib.hid (O2.rebase (b' := w.heap.size) (by (try simp); (try omega)))
  have Y3 := Lib.hid (O3.rebase (b' := w.heap.size) (by (try simp); (try omega)))
  have n12 : ∀ x, A = some x → x.block ≠ w.heap.size + 1 + 1 := fun x e => by have := (l1 x e).1; (try simp at this); omega
  have n13 : ∀ x, A = some x → x.block ≠ w.heap.size + 1 + 1 + 1 := fun x e => by have := (l1 x e).1; (try simp at this); omega
  have n22 : ∀ x, sa = some x → x.block ≠ w.heap.size + 1 + 1 := fun x e => by have := (l2 x e).1; (try simp at this); omega
  have n23 : ∀ x, sa = some x → x.block ≠ w.heap.size + 1 + 1 + 1 := fun x e => by have := (l2 x e).1; (try simp at this); omega
  have n32 : ∀ x, qa = some x → x.block ≠ w.heap.size + 1 + 1 := fun x e => by have := (l3 x e).1; (try simp at this); omega
  have n33 : ∀ x, qa = some x → x.block ≠ w.heap.size + 1 + 1 + 1 := fun x e => by have := (l3 x e).1; (try simp at this); omega
  clear hx2 O1 O2 O3 l1 l2 l3
  go_wp2
  refine' bodyPost_ret (v := _) ?_ rfl ?_
  rotate_left
  · (simp only [results, Try.results148]
     go_simp
     rfl)
  refine ⟨A, C, sa, sn, sc, qa, qn, qc, rfl, ?_⟩
  refine (fun (h : Two (w.heap.size + 1 + 1) (w.heap.size + 1 + 1 + 1) w2 _) => ⟨h.ow Y1.out n12 n13, h.ow Y2.out n22 n23, h.ow Y3.out n32 n33, h.ext X2 e2 e3⟩) ?_
  clear n12 n13 n22 n23 n32 n33 e2 e3 cBG fBG cBP fBP cBQ fBQ cBR fBR
  generalize w.heap.size + 1 + 1 + 1 = b2
  generalize w.heap.size + 1 + 1 = b1
  repeat (first | (with_reducible exact Two.refl _ _ _) | (with_reducible refine Two.drew ?_) | (with_reducible refine Two.alloc ?_ _) | (with_reducible refine Two.set1 ?_ _ _) | (with_reducible refine Two.set2 ?_ _ _))
set_option maxHeartbeats 1000000 in
theorem spec_SendOut_none (g : GateD) (p : PktD) (ta : Option Addr) (tn tc : Nat) (ka : Option Addr) (kn kc : Nat) (a : Option Addr) (n c : Nat) (w : World) (ht : Sl encM 4 w ta tn tc g.table) (hk : Sl encC 3 w ka kn kc g.cons) (hs : Sl encI 1 w a n c p.data) (hg : goesOut g p = true) (htn : tn ≤ 8) (h0 : 0 ≤ p.fr.port) (h1 : p.fr.port ≤ 65535) (hm : mapEnd g.table p.fr g.now = none) :
    Calls Try.prog 148 #[.agg #[.int .i64 g.net.base, .int .i64 g.net.bits, .int .i64 g.out, .slice ta tn tc, .slice ka kn kc, .int .i64 g.filter, .int .i64 g.hold, .int .i64 g.now], .agg #[.int .i64 p.kind, .int .i64 p.fr.addr, .int .i64 p.fr.port, .int .i64 p.to_.addr, .int .i64 p.to_.port, .slice a n c]] w fun e w' => e = .returned (.tuple #[.agg #[.int .i64 0, .int .i64 0, .int .i64 0, .int .i64 0, .int .i64 0, .slice none 0 0], .agg #[.int .i64 0, .int .i64 0, .int .i64 0, .slice none 0 0, .slice none 0 0, .int .i64 0, .int .i64 0, .int .i64 0], .bool false]) ∧ Ext w w' := by
  have c1 := fun W h1 h2 h3 => spec_goesOut g p ta tn tc ka kn kc a n c W h1 h2 h3
  rw [hg] at c1
  have c1 := Lib.hid c1
  have hm := Lib.hid hm
  have e2 : w.heap.size ≤ w.heap.size + 1 + 1 := by omega
  have e3 : w.heap.size ≤ w.heap.size + 1 + 1 + 1 := by omega
  go_enter Try.func148, Try.ntmps148
  go_wp2_with fail
  refine (c1.out _ (by exact ht.ext (by repeat (first | (with_reducible exact Ext.refl _) | (with_reducible assumption) | (with_reducible refine Ext.alloc ?_ _) | (with_reducible refine Ext.drewN ?_ _) | (with_reducible refine Ext.drew ?_) | (with_reducible refine Ext.setCell ?_ ?_ _; rotate_left; (simp only []; omega)) | (with_reducible refine Ext.trans ?_ (by assumption))))) (by exact hk.ext (by repeat (first | (with_reducible exact Ext.refl _) | (with_reducible assumption) | (with_reducible refine Ext.alloc ?_ _) | (with_reducible refine Ext.drewN ?_ _) | (with_reducible refine Ext.drew ?_) | (with_reducible refine Ext.setCell ?_ ?_ _; rotate_left; (simp only []; omega)) | (with_reducible refine Ext.trans ?_ (by assumption))))) (by exact hs.ext (by repeat (first | (with_reducible exact Ext.refl _) | (with_reducible assumption) | (with_reducible refine Ext.alloc ?_ _) | (with_reducible refine Ext.drewN ?_ _) | (with_reducible refine Ext.drew ?_) | (with_reducible refine Ext.setCell ?_ ?_ _; rotate_left; (simp only []; omega)) | (with_reducible refine Ext.trans ?_ (by assumption)))))).mono ?_
  rintro e w1 ⟨rfl, hx1⟩
  have hy1 := hx1.size
  (try simp at hy1)
  replace ht := ht.ext (show Ext _ w1 from (by repeat (first | (with_reducible exact Ext.refl _) | (with_reducible assumption) | (with_reducible refine Ext.alloc ?_ _) | (with_reducible refine Ext.drewN ?_ _) | (with_reducible refine Ext.drew ?_) | (with_reducible refine Ext.setCell ?_ ?_ _; rotate_left; (simp only []; omega)) | (with_reducible refine Ext.trans ?_ (by assumption)))))
  replace hk := hk.ext (show Ext _ w1 from (by repeat (first | (with_reducible exact Ext.refl _) | (with_reducible assumption) | (with_reducible refine Ext.alloc ?_ _) | (with_reducible refine Ext.drewN ?_ _) | (with_reducible refine Ext.drew ?_) | (with_reducible refine Ext.setCell ?_ ?_ _; rotate_left; (simp only []; omega)) | (with_reducible refine Ext.trans ?_ (by assumption)))))
  replace hs := hs.ext (show Ext _ w1 from (by repeat (first | (with_reducible exact Ext.refl _) | (with_reducible assumption) | (with_reducible refine Ext.alloc ?_ _) | (with_reducible refine Ext.drewN ?_ _) | (with_reducible refine Ext.drew ?_) | (with_reducible refine Ext.setCell ?_ ?_ _; rotate_left; (simp only []; omega)) | (with_reducible refine Ext.trans ?_ (by assumption)))))
  have BG : Blk w1 w.heap.size 40 (#[.int .i64 g.net.base, .int .i64 g.net.bits, .int .i64 g.out, .slice ta tn tc, .slice ka kn kc, .int .i64 g.filter, .int .i64 g.hold, .int .i64 g.now]) := by refine Blk.ext ?_ hx1; exact (by repeat (first | (with_reducible assumption) | (with_reducible exact Blk.new _ _ _) | exact Blk.newAt _ _ _ (by simp) | (with_reducible refine Blk.alloc ?_ _) | (with_reducible refine Blk.drew ?_) | (with_reducible refine Blk.drewN ?_ _) | refine Blk.far ?_ (by simp only []; omega) _ | refine Blk.rext ?_ (by assumption) (by omega) | refine Blk.ext ?_ (by assumption)))
  have BP : Blk w1 (w.heap.size+1) 44 (#[.int .i64 p.kind, .int .i64 p.fr.addr, .int .i64 p.fr.port, .int .i64 p.to_.addr, .int .i64 p.to_.port, .slice a n c]) := by refine Blk.ext ?_ hx1; exact (by repeat (first | (with_reducible assumption) | (with_reducible exact Blk.new _ _ _) | exact Blk.newAt _ _ _ (by simp) | (with_reducible refine Blk.alloc ?_ _) | (with_reducible refine Blk.drew ?_) | (with_reducible refine Blk.drewN ?_ _) | refine Blk.far ?_ (by simp only []; omega) _ | refine Blk.rext ?_ (by assumption) (by omega) | refine Blk.ext ?_ (by assumption)))
  have BQ : Blk w1 (w.heap.size+2) 44 #[.int .i64 0, .int .i64 0, .int .i64 0, .int .i64 0, .int .i64 0, .slice none 0 0] := by refine Blk.ext ?_ hx1; exact (by repeat (first | (with_reducible assumption) | (with_reducible exact Blk.new _ _ _) | exact Blk.newAt _ _ _ (by simp) | (with_reducible refine Blk.alloc ?_ _) | (with_reducible refine Blk.drew ?_) | (with_reducible refine Blk.drewN ?_ _) | refine Blk.far ?_ (by simp only []; omega) _ | refine Blk.rext ?_ (by assumption) (by omega) | refine Blk.ext ?_ (by assumption)))
  have BR : Blk w1 (w.heap.size+3) 40 #[.int .i64 0, .int .i64 0, .int .i64 0, .slice none 0 0, .slice none 0 0, .int .i64 0, .int .i64 0, .int .i64 0] := by refine Blk.ext ?_ hx1; exact (by repeat (first | (with_reducible assumption) | (with_reducible exact Blk.new _ _ _) | exact Blk.newAt _ _ _ (by simp) | (with_reducible refine Blk.alloc ?_ _) | (with_reducible refine Blk.drew ?_) | (with_reducible refine Blk.drewN ?_ _) | refine Blk.far ?_ (by simp only []; omega) _ | refine Blk.rext ?_ (by assumption) (by omega) | refine Blk.ext ?_ (by assumption)))
  have cBG := BG.cells
  have fBG := BG.frozens
  have zBG := BG.lt
  have cBP := BP.cells
  have fBP := BP.frozens
  have zBP := BP.lt
  have cBQ := BQ.cells
  have fBQ := BQ.frozens
  have zBQ := BQ.lt
  have cBR := BR.cells
  have fBR := BR.frozens
  have zBR := BR.lt
  have X1 : Ext w w1 := (by repeat (first | (with_reducible exact Ext.refl _) | (with_reducible assumption) | (with_reducible refine Ext.alloc ?_ _) | (with_reducible refine Ext.drewN ?_ _) | (with_reducible refine Ext.drew ?_) | (with_reducible refine Ext.setCell ?_ ?_ _; rotate_left; (simp only []; omega)) | (with_reducible refine Ext.trans ?_ (by assumption))))
  clear hx1
  go_wp2_with fail
  refine (spec_send_none g p ta tn tc ka kn kc a n c _ (by exact ht.ext (by repeat (first | (with_reducible exact Ext.refl _) | (with_reducible assumption) | (with_reducible refine Ext.alloc ?_ _) | (with_reducible refine Ext.drewN ?_ _) | (with_reducible refine Ext.drew ?_) | (with_reducible refine Ext.setCell ?_ ?_ _; rotate_left; (simp only []; omega)) | (with_reducible refine Ext.trans ?_ (by assumption))))) htn h0 h1 hm.out).mono ?_
  rintro e w2 ⟨rfl, hx2⟩
  have hy2 := hx2.size
  (try simp at hy2)
  replace ht := ht.ext (show Ext _ w2 from (by repeat (first | (with_reducible exact Ext.refl _) | (with_reducible assumption) | (with_reducible refine Ext.alloc ?_ _) | (with_reducible refine Ext.drewN ?_ _) | (with_reducible refine Ext.drew ?_) | (with_reducible refine Ext.setCell ?_ ?_ _; rotate_left; (simp only []; omega)) | (with_reducible refine Ext.trans ?_ (by assumption)))))
  replace hk := hk.ext (show Ext _ w2 from (by repeat (first | (with_reducible exact Ext.refl _) | (with_reducible assumption) | (with_reducible refine Ext.alloc ?_ _) | (with_reducible refine Ext.drewN ?_ _) | (with_reducible refine Ext.drew ?_) | (with_reducible refine Ext.setCell ?_ ?_ _; rotate_left; (simp only []; omega)) | (with_reducible refine Ext.trans ?_ (by assumption)))))
  replace hs := hs.ext (show Ext _ w2 from (by repeat (first | (with_reducible exact Ext.refl _) | (with_reducible assumption) | (with_reducible refine Ext.alloc ?_ _) | (with_reducible refine Ext.drewN ?_ _) | (with_reducible refine Ext.drew ?_) | (with_reducible refine Ext.setCell ?_ ?_ _; rotate_left; (simp only []; omega)) | (with_reducible refine Ext.trans ?_ (by assumption)))))
  clear cBG fBG zBG
  replace BG := BG.ext (show Ext _ w2 from (by repeat (first | (with_reducible exact Ext.refl _) | (with_reducible assumption) | (with_reducible refine Ext.alloc ?_ _) | (with_reducible refine Ext.drewN ?_ _) | (with_reducible refine Ext.drew ?_) | (with_reducible refine Ext.setCell ?_ ?_ _; rotate_left; (simp only []; omega)) | (with_reducible refine Ext.trans ?_ (by assumption)))))
  clear cBP fBP zBP
  replace BP := BP.ext (show Ext _ w2 from (by repeat (first | (with_reducible exact Ext.refl _) | (with_reducible assumption) | (with_reducible refine Ext.alloc ?_ _) | (with_reducible refine Ext.drewN ?_ _) | (with_reducible refine Ext.drew ?_) | (with_reducible refine Ext.setCell ?_ ?_ _; rotate_left; (simp only []; omega)) | (with_reducible refine Ext.trans ?_ (by assumption)))))
  clear cBQ fBQ zBQ
  replace BQ := BQ.ext (show Ext _ w2 from (by repeat (first | (with_reducible exact Ext.refl _) | (with_reducible assumption) | (with_reducible refine Ext.alloc ?_ _) | (with_reducible refine Ext.drewN ?_ _) | (with_reducible refine Ext.drew ?_) | (with_reducible refine Ext.setCell ?_ ?_ _; rotate_left; (simp only []; omega)) | (with_reducible refine Ext.trans ?_ (by assumption)))))
  clear cBR fBR zBR
  replace BR := BR.ext (show Ext _ w2 from (by repeat (first | (with_reducible exact Ext.refl _) | (with_reducible assumption) | (with_reducible refine Ext.alloc ?_ _) | (with_reducible refine Ext.drewN ?_ _) | (with_reducible refine Ext.drew ?_) | (with_reducible refine Ext.setCell ?_ ?_ _; rotate_left; (simp only []; omega)) | (with_reducible refine Ext.trans ?_ (by assumption)))))
  have cBG := BG.cells
  have fBG := BG.frozens
  have zBG := BG.lt
  have cBP := BP.cells
  have fBP := BP.frozens
  have zBP := BP.lt
  have cBQ := BQ.cells
  have fBQ := BQ.frozens
  have zBQ := BQ.lt
  have cBR := BR.cells
  have fBR := BR.frozens
  have zBR := BR.lt
  have X2 : Ext w w2 := X1.trans (show Ext w1 w2 from (by repeat (first | (with_reducible exact Ext.refl _) | (with_reducible assumption) | (with_reducible refine Ext.alloc ?_ _) | (with_reducible refine Ext.drewN ?_ _) | (with_reducible refine Ext.drew ?_) | (with_reducible refine Ext.setCell ?_ ?_ _; rotate_left; (simp only []; omega)) | (with_reducible refine Ext.trans ?_ (by assumption)))))
  clear hx2
  go_wp2
  refine' bodyPost_ret (v := _) ?_ rfl ?_
  rotate_left
  · (simp only [results, Try.results148]
     go_simp
     rfl)
  refine ⟨rfl, ?_⟩
  refine (fun (h : Two (w.heap.size + 1 + 1) (w.heap.size + 1 + 1 + 1) w2 _) => h.ext X2 e2 e3) ?_
  clear e2 e3 cBG fBG cBP fBP cBQ fBQ cBR fBR
  generalize w.heap.size + 1 + 1 + 1 = b2
  generalize w.heap.size + 1 + 1 = b1
  repeat (first | (with_reducible exact Two.refl _ _ _) | (with_reducible refine Two.drew ?_) | (with_reducible refine Two.alloc ?_ _) | (with_reducible refine Two.set1 ?_ _ _) | (with_reducible refine Two.set2 ?_ _ _))
end Go.Proofs.Ytafmomocmodbhaa
/- What a step of a gate returns, in one form whether it succeeds or not: plain words. No condition. -/
namespace Go.Proofs.Ytafmomocmodbhaa
set_option linter.unusedVariables false
set_option linter.unusedSimpArgs false
open Go.RowKit

/-- The zero values. -/
def pkN : PktD := ⟨0, ⟨0, 0⟩, ⟨0, 0⟩, []⟩
def gtN : GateD := ⟨⟨0, 0⟩, 0, [], [], 0, 0, 0⟩
def rpN : RepD := ⟨0, 0, 0, ⟨0, ⟨0, 0⟩, ⟨0, 0⟩, []⟩⟩
def rP (r : Option (PktD × GateD)) : PktD := match r with
  | some x => x.1
  | none => pkN
def rG (r : Option (PktD × GateD)) : GateD := match r with
  | some x => x.2
  | none => gtN
def rT (r : Option GateD) : GateD := match r with
  | some x => x
  | none => gtN
def rR (r : Option RepD) : RepD := match r with
  | some x => x
  | none => rpN
theorem table_len {l : List MapD} (h : validTable l = true) : l.length ≤ 8 := (validTable_iff.1 h).2.2
theorem cons_len {l : List ConD} (h : validContacts l = true) : l.length ≤ 10 := (validContacts_iff.1 h).2.2
theorem validPkt_port {p : PktD} (h : validPkt p = true) : 0 ≤ p.fr.port ∧ p.fr.port ≤ 65535 := by
  have := (validPkt_iff.1 h).2.1
  simp only [validEnd, Bool.and_eq_true, word_iff] at this
  omega
theorem sendOut_facts {g : GateD} {p : PktD} {r : PktD × GateD} (e : sendOut g p = some r) : VGate r.2 ∧ r.2.now = g.now := by
  obtain ⟨q, h⟩ := r
  obtain ⟨a, b, c, _, _, s⟩ := sendOut_some e
  have S := send_ok a b c s
  exact ⟨S.valid, by rw [S.same]⟩
theorem tickGate_facts {g h : GateD} {now : Int} (e : tickGate g now = some h) : VGate h ∧ 0 ≤ h.now ∧ h.now ≤ 10000 := by
  unfold tickGate at e
  split at e
  case isTrue hc =>
    rw [Bool.and_eq_true, validGate_iff, inR_iff] at hc
    injection e with e
    subst e
    have h := tick_valid hc.1 hc.2.1 hc.2.2
    exact ⟨h, h.now0, h.now1⟩
  case isFalse => cases e
/-- The second package's SendOut. -/
theorem spec_SendOut (g : GateD) (p : PktD) (ta : Option Addr) (tn tc : Nat) (ka : Option Addr) (kn kc : Nat) (a : Option Addr) (n c : Nat) (w : World) (ht : Sl encM 4 w ta tn tc g.table) (hk : Sl encC 3 w ka kn kc g.cons) (hs : Sl encI 1 w a n c p.data) :
    Calls Try.prog 148 #[.agg #[.int .i64 g.net.base, .int .i64 g.net.bits, .int .i64 g.out, .slice ta tn tc, .slice ka kn kc, .int .i64 g.filter, .int .i64 g.hold, .int .i64 g.now], .agg #[.int .i64 p.kind, .int .i64 p.fr.addr, .int .i64 p.fr.port, .int .i64 p.to_.addr, .int .i64 p.to_.port, .slice a n c]] w fun e w' => ∃ A n C sa sn sc qa qn qc, e = .returned (.tuple #[.agg #[.int .i64 (rP (sendOut g p)).kind, .int .i64 (rP (sendOut g p)).fr.addr, .int .i64 (rP (sendOut g p)).fr.port, .int .i64 (rP (sendOut g p)).to_.addr, .int .i64 (rP (sendOut g p)).to_.port, .slice A n C], .agg #[.int .i64 (rG (sendOut g p)).net.base, .int .i64 (rG (sendOut g p)).net.bits, .int .i64 (rG (sendOut g p)).out, .slice sa sn sc, .slice qa qn qc, .int .i64 (rG (sendOut g p)).filter, .int .i64 (rG (sendOut g p)).hold, .int .i64 (rG (sendOut g p)).now], .bool (sendOut g p).isSome]) ∧
          Ow 3 encI 1 w.heap.size w' A n C (rP (sendOut g p)).data ∧ Ow 102 encM 4 w.heap.size w' sa sn sc (rG (sendOut g p)).table ∧ Ow 115 encC 3 w.heap.size w' qa qn qc (rG (sendOut g p)).cons ∧ Ext w w' := by
  cases hg : goesOut g p with
  | false =>
    have e : sendOut g p = none := by unfold sendOut; rw [hg]; rfl
    rw [e]
    exact (spec_SendOut_not g p ta tn tc ka kn kc a n c w ht hk hs hg).mono fun _ _ ⟨h1, h2⟩ => ⟨none, 0, 0, none, 0, 0, none, 0, 0, h1, Ow.nils _, Ow.nils _, Ow.nils _, h2⟩
  | true =>
    have e : sendOut g p = send g p := by unfold sendOut; rw [hg]; rfl
    have hv : VGate g ∧ validPkt p = true := by
      simp only [goesOut, fromIn, Bool.and_eq_true, validGate_iff] at hg
      exact hg.1.1.1
    have hp := validPkt_port hv.2
    have htn : tn ≤ 8 := by have := table_len hv.1.tab; have := ht.len; omega
    have hkn : kn ≤ 10 := by have := cons_len hv.1.con; have := hk.len; omega
    have hn : n ≤ 12 := by have := (validPkt_iff.1 hv.2).2.2.2.1; have := hs.len; omega
    cases hm : mapEnd g.table p.fr g.now with
    | none =>
      have e2 : send g p = none := by unfold send; rw [hm]
      rw [e, e2]
      exact (spec_SendOut_none g p ta tn tc ka kn kc a n c w ht hk hs hg htn hp.1 hp.2 hm).mono fun _ _ ⟨h1, h2⟩ => ⟨none, 0, 0, none, 0, 0, none, 0, 0, h1, Ow.nils _, Ow.nils _, Ow.nils _, h2⟩
    | some r =>
      obtain ⟨T, port⟩ := r
      have e2 : send g p = some ({ p with fr := ⟨g.out, port⟩ }, { g with table := T, cons := note g.cons ⟨port, p.to_⟩ }) := by unfold send; rw [hm]
      rw [e, e2]
      exact (spec_SendOut_some g p ta tn tc ka kn kc a n c w ht hk hs hg htn hkn hn hp.1 hp.2 T port hm).mono fun _ _ ⟨A, C, sa, sn, sc, qa, qn, qc, h1, h2, h3, h4, h5⟩ => ⟨A, n, C, sa, sn, sc, qa, qn, qc, h1, h2, h3, h4, h5⟩
/-- The second package's TickGate. -/
theorem spec_TickGate (g : GateD) (now : Int) (ta : Option Addr) (tn tc : Nat) (ka : Option Addr) (kn kc : Nat) (w : World) (ht : Sl encM 4 w ta tn tc g.table) (hk : Sl encC 3 w ka kn kc g.cons) :
    Calls Try.prog 22 #[.agg #[.int .i64 g.net.base, .int .i64 g.net.bits, .int .i64 g.out, .slice ta tn tc, .slice ka kn kc, .int .i64 g.filter, .int .i64 g.hold, .int .i64 g.now], .int .i64 now] w fun e w' => ∃ sa sn sc qa qn qc, e = .returned (.tuple #[.agg #[.int .i64 (rT (tickGate g now)).net.base, .int .i64 (rT (tickGate g now)).net.bits, .int .i64 (rT (tickGate g now)).out, .slice sa sn sc, .slice qa qn qc, .int .i64 (rT (tickGate g now)).filter, .int .i64 (rT (tickGate g now)).hold, .int .i64 (rT (tickGate g now)).now], .bool (tickGate g now).isSome]) ∧ Ow 102 encM 4 w.heap.size w' sa sn sc (rT (tickGate g now)).table ∧ Ow 115 encC 3 w.heap.size w' qa qn qc (rT (tickGate g now)).cons ∧ Ext w w' := by
  cases hv : (validGate g && inR now g.now 10000) with
  | false =>
    have e : tickGate g now = none := by unfold tickGate; rw [hv]; rfl
    rw [e]
    exact (spec_TickGate_no g now ta tn tc ka kn kc w ht hk hv).mono fun _ _ ⟨h1, h2⟩ => ⟨none, 0, 0, none, 0, 0, h1, Ow.nils _, Ow.nils _, h2⟩
  | true =>
    have e : tickGate g now = some (tick g now) := by unfold tickGate; rw [hv]; rfl
    rw [e]
    exact (spec_TickGate_ok g now ta tn tc ka kn kc w ht hk hv).mono fun _ _ ⟨sa, sn, sc, qa, qn, qc, h1, h2, h3, h4⟩ => ⟨sa, sn, sc, qa, qn, qc, h1, h2, h3, h4⟩
end Go.Proofs.Ytafmomocmodbhaa
/- The eager law where the region makes boxes at any moment (unordered 'alloc's), and writes at its end. No condition. -/
namespace Go.Proofs.Ytafmomocmodbhaa
set_option linter.unusedVariables false
set_option linter.unusedSimpArgs false
open Go.RowKit

/-- The type of a box that is made without a guard. -/
def allocOf (o : Oper) : Option TypeId :=
  match o.guard, o.op with
  | none, .alloc e => some e
  | _, _ => none
theorem lookup_mem {e : TypeId} {cs : Array Value} : ∀ {Ts : List (TypeId × Array Value)}, Ts.lookup e = some cs → (e, cs) ∈ Ts
  | [], h => by cases h
  | x :: r, h => by
    rw [List.lookup_cons] at h
    split at h
    · rename_i he
      injection h with h
      subst h
      have : e = x.1 := by simpa using he
      subst this
      simp
    · simp [lookup_mem h]
def zeroOf (Ts : List (TypeId × Array Value)) (e : TypeId) : Array Value := (Ts.lookup e).getD #[]
def pureOp : Op → Bool
  | .move _ | .assign _ | .extract _ _ | .build _ _ | .field _ _ _ => true
  | _ => false
def storeOp : Op → Bool
  | .store _ _ _ => true
  | _ => false
theorem pure_quiet {o : Op} (h : pureOp o = true) : quietOp o = true := by cases o <;> first | rfl | cases h
theorem store_loud {o : Op} (h : storeOp o = true) : quietOp o = false := by cases o <;> first | rfl | cases h
theorem store_solid {o : Oper} (h : storeOp o.op = true) : allocOf o = none := by
  unfold allocOf
  split
  · rename_i h1 h2; rw [h2] at h; cases h
  · rfl
section
variable {P : Program} {ops : Array Oper} {Q : Exit → Act → World → Prop} {R : World → World → Prop} {base : Nat} {Ts : List (TypeId × Array Value)}
/-- An operation that only computes: one value in every world, or not wanted. -/
def Pt (P : Program) (ops : Array Oper) (o : Oper) (v : Value) (a : Act) : Prop :=
  (Region.wanted o (yielded ops a.tmps) = true ∧ ∀ w', (execOp a.eval o).run P w' = .ok (.value v) w') ∨ (Region.wanted o (yielded ops a.tmps) = false ∧ v = undef)
theorem Pt.same {o : Oper} {v : Value} {a a' : Act} (h : Pt P ops o v a) (he : execOp a'.eval o = execOp a.eval o)
    (hw : Region.wanted o (yielded ops a'.tmps) = Region.wanted o (yielded ops a.tmps)) : Pt P ops o v a' := by
  unfold Pt at *
  rw [he, hw]
  exact h
theorem Pt.qt {o : Oper} {v : Value} {a : Act} (h : Pt P ops o v a) (w : World) : Qt P ops R o v a w := by
  rcases h with ⟨h1, h2⟩ | h
  · exact .inl ⟨h1, fun w' _ => h2 w'⟩
  · exact .inr h
/-- The walk in a given order; a box is made somewhere at or behind 'base', in some later world. -/
def ChF (P : Program) (ops : Array Oper) (Q : Exit → Act → World → Prop) (R : World → World → Prop) (base : Nat) (Ts : List (TypeId × Array Value)) : List Nat → Act → World → Prop
  | [], a, w => Q .normal a w
  | i :: r, a, w => ∃ o, ops[i]? = some o ∧
      ((pureOp o.op = true ∧ ∃ v, Pt P ops o v a ∧ ChF P ops Q R base Ts r (a.put o.dst v) w) ∨
       (pureOp o.op = false ∧ quietOp o.op = true ∧ ∃ v, Qt P ops R o v a w ∧ ChF P ops Q R base Ts r (a.put o.dst v) w) ∨
       (quietOp o.op = false ∧ ∃ e, allocOf o = some e ∧ ∀ w1 b, Ext w w1 → base ≤ b → Blk w1 b e (zeroOf Ts e) → ChF P ops Q R base Ts r (a.put o.dst (.pointer (some ⟨b, 0, none⟩))) w1) ∨
       (storeOp o.op = true ∧ ((Region.wanted o (yielded ops a.tmps) = false ∧ ChF P ops Q R base Ts r (a.put o.dst undef) w) ∨
          (Region.wanted o (yielded ops a.tmps) = true ∧ OpStep P o a.eval w fun v w' => w.heap.size ≤ w'.heap.size ∧ ChF P ops Q R base Ts r (a.put o.dst v) w'))) ∨
       (quietOp o.op = false ∧ allocOf o = none ∧ storeOp o.op = false ∧ ((Region.wanted o (yielded ops a.tmps) = false ∧ ChF P ops Q R base Ts r (a.put o.dst undef) w) ∨
          (Region.wanted o (yielded ops a.tmps) = true ∧ ∀ w1, Ext w w1 → OpStep P o a.eval w1 fun v w' => R w1 w' ∧ ChF P ops Q R base Ts r (a.put o.dst v) w'))))

def allocAt (ops : Array Oper) (i : Nat) : Bool := ((ops[i]?).map fun o => (allocOf o).isSome).getD false
def pureAt (ops : Array Oper) (i : Nat) : Bool := ((ops[i]?).map fun o => pureOp o.op).getD false
def storeAt (ops : Array Oper) (i : Nat) : Bool := ((ops[i]?).map fun o => storeOp o.op).getD false
def knownAt (ops : Array Oper) (Ts : List (TypeId × Array Value)) (i : Nat) : Bool := ((ops[i]?).map fun o => match allocOf o with | none => true | some e => (Ts.lookup e).isSome).getD false
def pairF (ops : Array Oper) (i j : Nat) : Bool := i != j && !edgeTo ops i j &&
  (edgeTo ops j i || reachN ops ops.size j i || (apartAt ops i j && ((storeAt ops j && pureAt ops i) || (!storeAt ops j && allocAt ops j && !storeAt ops i) || (!storeAt ops j && !allocAt ops j && quietAt ops i))))
def pairsB (f : Nat → Nat → Bool) : List Nat → Bool
  | [] => true
  | i :: r => r.all (f i) && pairsB f r
theorem pairsB_iff {f : Nat → Nat → Bool} {ord : List Nat} : pairsB f ord = true → ord.Pairwise fun i j => f i j = true := by
  induction ord with
  | nil => intro _; exact List.Pairwise.nil
  | cons i r ih =>
    intro h
    rw [pairsB, Bool.and_eq_true, List.all_eq_true] at h
    exact List.pairwise_cons.2 ⟨h.1, ih h.2⟩
def floatOk (ops : Array Oper) (Ts : List (TypeId × Array Value)) (ord : List Nat) : Bool :=
  Region.noSelect ops && permOk ops.size ord && pairsB (pairF ops) ord && (ord.all (knownAt ops Ts)) &&
    ord.all fun i => ((ops[i]?).map fun y => y.after.all fun e => !Region.binds .any e || (e.on != i && decide (e.on < ops.size))).getD false

theorem ChF.takeQ (hsel : ∀ (j : Nat) (o : Oper) cs b, ops[j]? = some o → o.op ≠ .select cs b) {j : Nat} {oj : Oper} (hj : ops[j]? = some oj) (hqj : quietOp oj.op = true) {l2 : List Nat} :
    ∀ (l1 : List Nat) (a : Act) (w : World), (∀ i ∈ l1, ∀ x, ops[i]? = some x → quietOp x.op = true ∧ x.apart ops oj = true) → ChF P ops Q R base Ts (l1 ++ j :: l2) a w →
      ∃ v, Qt P ops R oj v a w ∧ ChF P ops Q R base Ts (l1 ++ l2) (a.put oj.dst v) w
  | [], a, w, _, h => by
    obtain ⟨o, ho, h⟩ := h
    rw [hj] at ho
    injection ho with ho
    subst ho
    rcases h with ⟨_, v, h1, h2⟩ | ⟨_, _, v, h1, h2⟩ | ⟨h0, _⟩ | ⟨h0, _⟩ | ⟨h0, _⟩
    · exact ⟨v, h1.qt w, h2⟩
    · exact ⟨v, h1, h2⟩
    · rw [hqj] at h0; cases h0
    · rw [store_loud h0] at hqj; cases hqj
    · rw [hqj] at h0; cases h0
  | i :: l1, a, w, hap, h => by
    obtain ⟨o, ho, h⟩ := h
    obtain ⟨q0, q1⟩ := hap i (by simp) o ho
    obtain ⟨h1, h2, h3⟩ := Oper.apart_spec q1
    rcases h with ⟨p0, v, hs, hc⟩ | ⟨p0, _, v, hs, hc⟩ | ⟨h0, _⟩ | ⟨h0, _⟩ | ⟨h0, _⟩
    · obtain ⟨u, hu, hd⟩ := ChF.takeQ hsel hj hqj l1 (a.put o.dst v) w (fun x hx => hap x (by simp [hx])) hc
      refine ⟨u, hu.same (execOp_put oj (fun cs b => hsel j oj cs b hj) a o.dst v h1).symm (wanted_put oj a o.dst v h1).symm, o, ho, .inl ⟨p0, v,
        hs.same (execOp_put o (fun cs b => hsel i o cs b ho) a oj.dst u h3) (wanted_put o a oj.dst u h3), ?_⟩⟩
      rw [← Act.put_comm a v u h2]
      exact hd
    · obtain ⟨u, hu, hd⟩ := ChF.takeQ hsel hj hqj l1 (a.put o.dst v) w (fun x hx => hap x (by simp [hx])) hc
      refine ⟨u, hu.same (execOp_put oj (fun cs b => hsel j oj cs b hj) a o.dst v h1).symm (wanted_put oj a o.dst v h1).symm, o, ho, .inr (.inl ⟨p0, q0, v,
        hs.same (execOp_put o (fun cs b => hsel i o cs b ho) a oj.dst u h3) (wanted_put o a oj.dst u h3), ?_⟩)⟩
      rw [← Act.put_comm a v u h2]
      exact hd
    · rw [q0] at h0; cases h0
    · rw [store_loud h0] at q0; cases q0
    · rw [q0] at h0; cases h0

theorem ChF.takeN (ht : ∀ x y z, R x y → R y z → R x z) (hre : ∀ x y, Ext x y → R x y) (hsel : ∀ (j : Nat) (o : Oper) cs b, ops[j]? = some o → o.op ≠ .select cs b) {j : Nat} {oj : Oper} (hj : ops[j]? = some oj) (hqj : quietOp oj.op = false) (haj : allocOf oj = none) (hsj : storeOp oj.op = false) {l2 : List Nat} :
    ∀ (l1 : List Nat) (a : Act) (w : World), (∀ i ∈ l1, ∀ x, ops[i]? = some x → quietOp x.op = true ∧ x.apart ops oj = true) → ChF P ops Q R base Ts (l1 ++ j :: l2) a w →
      (Region.wanted oj (yielded ops a.tmps) = false ∧ ChF P ops Q R base Ts (l1 ++ l2) (a.put oj.dst undef) w) ∨
      (Region.wanted oj (yielded ops a.tmps) = true ∧ ∀ w1, Ext w w1 → OpStep P oj a.eval w1 fun v w' => R w1 w' ∧ ChF P ops Q R base Ts (l1 ++ l2) (a.put oj.dst v) w')
  | [], a, w, _, h => by
    obtain ⟨o, ho, h⟩ := h
    rw [hj] at ho
    injection ho with ho
    subst ho
    rcases h with ⟨h0, _⟩ | ⟨_, h0, _⟩ | ⟨_, e, h0, _⟩ | ⟨h0, _⟩ | ⟨_, _, _, h⟩
    · rw [pure_quiet h0] at hqj; cases hqj
    · rw [hqj] at h0; cases h0
    · rw [haj] at h0; cases h0
    · rw [hsj] at h0; cases h0
    · exact h
  | i :: l1, a, w, hap, h => by
    obtain ⟨o, ho, h⟩ := h
    obtain ⟨q0, q1⟩ := hap i (by simp) o ho
    obtain ⟨h1, h2, h3⟩ := Oper.apart_spec q1
    rcases h with ⟨p0, v, hs, hc⟩ | ⟨p0, _, v, hs, hc⟩ | ⟨h0, _⟩ | ⟨h0, _⟩ | ⟨h0, _⟩
    · have hw := wanted_put (ops := ops) oj a o.dst v h1
      have he := execOp_put (ops := ops) oj (fun cs b => hsel j oj cs b hj) a o.dst v h1
      rcases ChF.takeN ht hre hsel hj hqj haj hsj l1 (a.put o.dst v) w (fun x hx => hap x (by simp [hx])) hc with ⟨g1, g2⟩ | ⟨g1, g2⟩
      · refine .inl ⟨hw ▸ g1, o, ho, .inl ⟨p0, v, hs.same (execOp_put o (fun cs b => hsel i o cs b ho) a oj.dst undef h3) (wanted_put o a oj.dst undef h3), ?_⟩⟩
        rw [← Act.put_comm a v undef h2]
        exact g2
      · refine .inr ⟨hw ▸ g1, fun w1 hx => ?_⟩
        replace g2 := g2 w1 hx
        unfold OpStep at g2 ⊢
        rw [he] at g2
        refine OpStep.mono (o := oj) (ρ := a.eval) g2 fun u w' ⟨r1, r2⟩ => ⟨r1, o, ho, .inl ⟨p0, v, hs.same (execOp_put o (fun cs b => hsel i o cs b ho) a oj.dst u h3) (wanted_put o a oj.dst u h3), ?_⟩⟩
        rw [← Act.put_comm a v u h2]
        exact r2
    · have hw := wanted_put (ops := ops) oj a o.dst v h1
      have he := execOp_put (ops := ops) oj (fun cs b => hsel j oj cs b hj) a o.dst v h1
      rcases ChF.takeN ht hre hsel hj hqj haj hsj l1 (a.put o.dst v) w (fun x hx => hap x (by simp [hx])) hc with ⟨g1, g2⟩ | ⟨g1, g2⟩
      · refine .inl ⟨hw ▸ g1, o, ho, .inr (.inl ⟨p0, q0, v, hs.same (execOp_put o (fun cs b => hsel i o cs b ho) a oj.dst undef h3) (wanted_put o a oj.dst undef h3), ?_⟩)⟩
        rw [← Act.put_comm a v undef h2]
        exact g2
      · refine .inr ⟨hw ▸ g1, fun w1 hx => ?_⟩
        replace g2 := g2 w1 hx
        unfold OpStep at g2 ⊢
        rw [he] at g2
        refine OpStep.mono (o := oj) (ρ := a.eval) g2 fun u w' ⟨r1, r2⟩ => ⟨r1, o, ho, .inr (.inl ⟨p0, q0, v, (hs.later ht (ht _ _ _ (hre _ _ hx) r1)).same (execOp_put o (fun cs b => hsel i o cs b ho) a oj.dst u h3) (wanted_put o a oj.dst u h3), ?_⟩)⟩
        rw [← Act.put_comm a v u h2]
        exact r2
    · rw [q0] at h0; cases h0
    · rw [store_loud h0] at q0; cases q0
    · rw [q0] at h0; cases h0

theorem ChF.takeS (hsel : ∀ (j : Nat) (o : Oper) cs b, ops[j]? = some o → o.op ≠ .select cs b) {j : Nat} {oj : Oper} (hj : ops[j]? = some oj) (hsj : storeOp oj.op = true) {l2 : List Nat} :
    ∀ (l1 : List Nat) (a : Act) (w : World), (∀ i ∈ l1, ∀ x, ops[i]? = some x → pureOp x.op = true ∧ x.apart ops oj = true) → ChF P ops Q R base Ts (l1 ++ j :: l2) a w →
      (Region.wanted oj (yielded ops a.tmps) = false ∧ ChF P ops Q R base Ts (l1 ++ l2) (a.put oj.dst undef) w) ∨
      (Region.wanted oj (yielded ops a.tmps) = true ∧ OpStep P oj a.eval w fun v w' => w.heap.size ≤ w'.heap.size ∧ ChF P ops Q R base Ts (l1 ++ l2) (a.put oj.dst v) w')
  | [], a, w, _, h => by
    obtain ⟨o, ho, h⟩ := h
    rw [hj] at ho
    injection ho with ho
    subst ho
    rcases h with ⟨h0, _⟩ | ⟨_, h0, _⟩ | ⟨_, e, h0, _⟩ | ⟨_, h⟩ | ⟨_, _, h0, _⟩
    · have h1 := pure_quiet h0; rw [store_loud hsj] at h1; cases h1
    · rw [store_loud hsj] at h0; cases h0
    · rw [store_solid hsj] at h0; cases h0
    · exact h
    · rw [hsj] at h0; cases h0
  | i :: l1, a, w, hap, h => by
    obtain ⟨o, ho, h⟩ := h
    obtain ⟨p0, q1⟩ := hap i (by simp) o ho
    have q0 := pure_quiet p0
    obtain ⟨h1, h2, h3⟩ := Oper.apart_spec q1
    rcases h with ⟨_, v, hs, hc⟩ | ⟨h0, _⟩ | ⟨h0, _⟩ | ⟨h0, _⟩ | ⟨h0, _⟩
    · have hw := wanted_put (ops := ops) oj a o.dst v h1
      have he := execOp_put (ops := ops) oj (fun cs b => hsel j oj cs b hj) a o.dst v h1
      rcases ChF.takeS hsel hj hsj l1 (a.put o.dst v) w (fun x hx => hap x (by simp [hx])) hc with ⟨g1, g2⟩ | ⟨g1, g2⟩
      · refine .inl ⟨hw ▸ g1, o, ho, .inl ⟨p0, v, hs.same (execOp_put o (fun cs b => hsel i o cs b ho) a oj.dst undef h3) (wanted_put o a oj.dst undef h3), ?_⟩⟩
        rw [← Act.put_comm a v undef h2]
        exact g2
      · refine .inr ⟨hw ▸ g1, ?_⟩
        unfold OpStep at g2 ⊢
        rw [he] at g2
        refine OpStep.mono (o := oj) (ρ := a.eval) g2 fun u w' ⟨r1, r2⟩ => ⟨r1, o, ho, .inl ⟨p0, v, hs.same (execOp_put o (fun cs b => hsel i o cs b ho) a oj.dst u h3) (wanted_put o a oj.dst u h3), ?_⟩⟩
        rw [← Act.put_comm a v u h2]
        exact r2
    · rw [p0] at h0; cases h0
    · rw [q0] at h0; cases h0
    · rw [store_loud h0] at q0; cases q0
    · rw [q0] at h0; cases h0

theorem ChF.takeF (ht : ∀ x y z, R x y → R y z → R x z) (hre : ∀ x y, Ext x y → R x y) (hst : ∀ (w w' : World) b e cs, base ≤ b → Blk w b e cs → R w w' → Blk w' b e cs)
    (hsel : ∀ (j : Nat) (o : Oper) cs b, ops[j]? = some o → o.op ≠ .select cs b) {j : Nat} {oj : Oper} (hj : ops[j]? = some oj) (hqj : quietOp oj.op = false) {e : TypeId} (haj : allocOf oj = some e) {l2 : List Nat} :
    ∀ (l1 : List Nat) (a : Act) (w : World), (∀ i ∈ l1, ∀ x, ops[i]? = some x → storeOp x.op = false ∧ x.apart ops oj = true) → ChF P ops Q R base Ts (l1 ++ j :: l2) a w →
      ∀ w1 b, Ext w w1 → base ≤ b → Blk w1 b e (zeroOf Ts e) → ChF P ops Q R base Ts (l1 ++ l2) (a.put oj.dst (.pointer (some ⟨b, 0, none⟩))) w1
  | [], a, w, _, h => by
    intro w1 b hx hb hB
    obtain ⟨o, ho, h⟩ := h
    rw [hj] at ho
    injection ho with ho
    subst ho
    rcases h with ⟨h0, _⟩ | ⟨_, h0, _⟩ | ⟨_, e', h0, h⟩ | ⟨h0, _⟩ | ⟨_, h0, _⟩
    · rw [pure_quiet h0] at hqj; cases hqj
    · rw [hqj] at h0; cases h0
    · rw [haj] at h0
      injection h0 with h0
      subst h0
      exact h w1 b hx hb hB
    · rw [store_solid h0] at haj; cases haj
    · rw [haj] at h0; cases h0
  | i :: l1, a, w, hap, h => by
    intro w1 b hx hb hB
    obtain ⟨o, ho, h⟩ := h
    obtain ⟨s0, q1⟩ := hap i (by simp) o ho
    obtain ⟨h1, h2, h3⟩ := Oper.apart_spec q1
    have rcu := fun (a' : Act) (w' : World) (h' : ChF P ops Q R base Ts (l1 ++ j :: l2) a' w') => ChF.takeF ht hre hst hsel hj hqj haj (l2 := l2) l1 a' w' (fun x hx => hap x (by simp [hx])) h'
    have hw := wanted_put (ops := ops) o a oj.dst (.pointer (some ⟨b, 0, none⟩)) h3
    have he := execOp_put (ops := ops) o (fun cs b => hsel i o cs b ho) a oj.dst (.pointer (some ⟨b, 0, none⟩)) h3
    rcases h with ⟨p0, v, hs, hc⟩ | ⟨p0, q0, v, hs, hc⟩ | ⟨q0, e', h0, hc⟩ | ⟨h0, _⟩ | ⟨q0, h0, _, hc⟩
    · refine ⟨o, ho, .inl ⟨p0, v, hs.same he hw, ?_⟩⟩
      rw [← Act.put_comm a v _ h2]
      exact rcu _ _ hc w1 b hx hb hB
    · refine ⟨o, ho, .inr (.inl ⟨p0, q0, v, (hs.later ht (hre _ _ hx)).same he hw, ?_⟩)⟩
      rw [← Act.put_comm a v _ h2]
      exact rcu _ _ hc w1 b hx hb hB
    · refine ⟨o, ho, .inr (.inr (.inl ⟨q0, e', h0, fun w2 b' hR hb' hB' => ?_⟩))⟩
      rw [← Act.put_comm a _ _ h2]
      exact rcu _ _ (hc w2 b' (hx.trans hR) hb' hB') w2 b (Ext.refl _) hb (hB.ext hR)
    · rw [s0] at h0; cases h0
    · refine ⟨o, ho, .inr (.inr (.inr (.inr ⟨q0, h0, s0, ?_⟩)))⟩
      rcases hc with ⟨g1, g2⟩ | ⟨g1, g2⟩
      · refine .inl ⟨hw.trans g1, ?_⟩
        rw [← Act.put_comm a _ _ h2]
        exact rcu _ _ g2 w1 b hx hb hB
      · refine .inr ⟨hw.trans g1, fun w2 hx2 => ?_⟩
        have g3 := g2 w2 (hx.trans hx2)
        unfold OpStep at g3 ⊢
        rw [he]
        refine OpStep.mono (o := o) (ρ := a.eval) g3 fun u w' ⟨r1, r2⟩ => ⟨r1, ?_⟩
        rw [← Act.put_comm a _ _ h2]
        exact rcu _ _ r2 w' b (Ext.refl _) hb (hst _ _ _ _ _ hb (hst _ _ _ _ _ hb hB (hre _ _ hx2)) r1)

theorem ChF.any (hr : ∀ x, R x x) (ht : ∀ x y z, R x y → R y z → R x z) (hre : ∀ x y, Ext x y → R x y) (hsize : ∀ x y : World, R x y → x.heap.size ≤ y.heap.size)
    (hst : ∀ (w w' : World) b e cs, base ≤ b → Blk w b e cs → R w w' → Blk w' b e cs)
    (hTs : ∀ x ∈ Ts, ∀ w, (Instr.alloc x.1 true (.tuple #[])).run P w = .ok (.pointer (some ⟨w.heap.size, 0, none⟩)) (w.alloc (.cells x.2 x.1)))
    {front : List Nat} (hok : floatOk ops Ts front = true) : ∀ (fuel : Nat) (listed : Array Bool) (a : Act) (l : List Nat), l.length ≤ fuel → l.Sublist front →
    (∀ i, i ∈ l ↔ (i < ops.size ∧ listed.getD i true = false)) → (∀ i, i < ops.size → listed.getD i true = listed.getD i false) → (∀ j, listed.getD j false = true → Fed ops listed j) →
    ∀ w, base ≤ w.heap.size → ChF P ops Q R base Ts l a w → wpAny P .any ops Q fuel listed a w := by
  simp only [floatOk, Bool.and_eq_true, List.all_eq_true] at hok
  obtain ⟨⟨⟨⟨hns, hperm⟩, hpairs⟩, hknown⟩, hback⟩ := hok
  have hP := pairsB_iff hpairs
  have hmem : ∀ (listed : Array Bool) (l : List Nat), (∀ i, i ∈ l ↔ (i < ops.size ∧ listed.getD i true = false)) → ∀ j, j ∈ Region.ready .any ops listed → j ∈ l := by
    intro listed l hl j hj
    obtain ⟨h0, o, ho, _⟩ := mem_ready.1 hj
    exact (hl j).2 ⟨(Array.getElem?_eq_some_iff.1 ho).1, h0⟩
  intro fuel
  induction fuel with
  | zero =>
    intro listed a l hlen hsub hl hsz hcl w hw hc
    have hnil : l = [] := List.eq_nil_of_length_eq_zero (by omega)
    subst hnil
    refine ⟨?_, hc⟩
    cases hr : Region.ready .any ops listed with
    | nil => rfl
    | cons x xs => exact absurd (hmem listed [] hl x (by rw [hr]; simp)) (by simp)
  | succ fuel ih =>
    intro listed a l hlen hsub hl hsz hcl w hwb hc
    have hlP := hP.sublist hsub
    cases l with
    | nil => exact ⟨fun _ => hc, fun j hj => absurd (hmem listed [] hl j hj) (by simp)⟩
    | cons i0 r0 =>
    generalize hL : i0 :: r0 = l at *
    refine ⟨fun hrd => ?_, fun j hj => ?_⟩
    · exfalso
      subst hL
      obtain ⟨hi, hun⟩ := (hl i0).1 (by simp)
      have hfirst := (List.pairwise_cons.1 hlP).1
      have : i0 ∈ Region.ready .any ops listed := by
        rw [mem_ready]
        refine ⟨hun, ops[i0], Array.getElem?_eq_getElem hi, fun e he hb => ?_⟩
        have hif : i0 ∈ front := hsub.subset (by simp)
        have hb1 := hback i0 hif
        rw [Array.getElem?_eq_getElem hi] at hb1
        simp only [Option.map_some, Option.getD_some] at hb1
        have hb2 := Array.all_eq_true_iff_forall_mem.1 hb1 e he
        simp only [hb, Bool.not_true, Bool.false_or, Bool.and_eq_true, bne_iff_ne, decide_eq_true_eq] at hb2
        apply Classical.byContradiction
        intro hnl
        have hm : e.on ∈ i0 :: r0 := (hl e.on).2 ⟨hb2.2, by rw [hsz _ hb2.2]; simpa using hnl⟩
        have hedge : edgeTo ops i0 e.on = true := by
          unfold edgeTo
          rw [Array.getElem?_eq_getElem hi]
          simp only [Option.map_some, Option.getD_some]
          exact Array.any_eq_true'.2 ⟨e, he, by simp [hb]⟩
        rcases List.mem_cons.1 hm with hm | hm
        · exact hb2.1 hm
        · have hp := hfirst _ hm
          simp [pairF, hedge] at hp
      rw [hrd] at this
      cases this
    · have hjl := hmem listed _ hl j hj
      obtain ⟨hjun, oj, hoj, hall⟩ := mem_ready.1 hj
      have hjlt : j < ops.size := (Array.getElem?_eq_some_iff.1 hoj).1
      have hfed : Fed ops listed j := fun y hy e he hb => by
        rw [hoj] at hy; injection hy with hy; subst hy; exact hall e he hb
      have unl : ∀ i, i ∈ l → listed.getD i false = false := fun i hi => by
        have hiun := (hl i).1 (by simp [hi])
        rw [← hsz i hiun.1]; exact hiun.2
      have hjf : j ∈ front := hsub.subset hjl
      clear hL
      obtain ⟨l1, l2, rfl⟩ := List.append_of_mem hjl
      have hap : ∀ i ∈ l1, ∀ x, ops[i]? = some x → (storeOp oj.op = true → pureOp x.op = true) ∧ (storeOp oj.op = false → allocOf oj = none → quietOp x.op = true) ∧ ((allocOf oj).isSome = true → storeOp x.op = false) ∧ x.apart ops oj = true := by
        intro i hi x hx
        have hp : pairF ops i j = true := (List.pairwise_append.1 hlP).2.2 i hi j (by simp)
        have hif := unl i (by simp [hi])
        have hne : edgeTo ops j i = false := by
          cases h : edgeTo ops j i with
          | false => rfl
          | true =>
            obtain ⟨e, he, hb, rfl⟩ := edgeTo_iff hoj h
            rw [hfed oj hoj e he hb] at hif
            cases hif
        have hnr : reachN ops ops.size j i = false := by
          cases h : reachN ops ops.size j i with
          | false => rfl
          | true => rw [reach_listed hcl _ _ _ hfed h] at hif; cases hif
        simp only [pairF, hne, hnr, Bool.or_false, Bool.false_or, Bool.and_eq_true] at hp
        obtain ⟨_, h2, h3⟩ := hp
        simp only [storeAt, pureAt, allocAt, quietAt, hx, hoj, Option.map_some, Option.getD_some] at h3
        refine ⟨fun hs => ?_, fun hs ha => ?_, fun ha => ?_, ?_⟩
        · simpa [hs] using h3
        · simpa [hs, ha] using h3
        · cases hs : storeOp oj.op with
          | true => rw [store_solid hs] at ha; cases ha
          | false => simpa [hs, ha] using h3
        · simpa [apartAt, hx, hoj] using h2
      have hnd : j ∉ l1 ++ l2 := by
        intro hm
        have hpa := List.pairwise_append.1 hlP
        rcases List.mem_append.1 hm with hm | hm
        · have := hpa.2.2 j hm j (by simp)
          simp [pairF] at this
        · have := (List.pairwise_cons.1 hpa.2.1).1 j hm
          simp [pairF] at this
      have hmono : ∀ x, listed.getD x false = true → (listed.setIfInBounds j true).getD x false = true := by
        intro x hx
        by_cases hij : j = x
        · subst hij
          rw [Array.getD_eq_getD_getElem?, Array.getElem?_setIfInBounds]
          rw [Array.getD_eq_getD_getElem?] at hx
          cases hz : listed[j]? with
          | none => rw [hz] at hx; simp at hx
          | some b => simp [(Array.getElem?_eq_some_iff.1 hz).1]
        · rw [getD_set_ne false hij]; exact hx
      have next : ∀ (a' : Act) (w' : World), base ≤ w'.heap.size → ChF P ops Q R base Ts (l1 ++ l2) a' w' → wpAny P .any ops Q fuel (listed.setIfInBounds j true) a' w' := by
        intro a' w' hb' hrest
        refine ih (listed.setIfInBounds j true) _ (l1 ++ l2) ?_ ?_ ?_ ?_ ?_ w' hb' hrest
        · simp only [List.length_append, List.length_cons] at hlen ⊢; omega
        · exact ((List.Sublist.refl l1).append (List.sublist_cons_self j l2)).trans hsub
        · intro i
          by_cases hij : j = i
          · subst hij
            constructor
            · intro h; exact absurd h hnd
            · rintro ⟨hlt, h⟩
              rw [Array.getD_eq_getD_getElem?, Array.getElem?_setIfInBounds] at h
              rcases Nat.lt_or_ge j listed.size with hz | hz
              · simp [hz] at h
              · simp [Array.getElem?_eq_none hz] at hjun
          · rw [getD_set_ne true hij, ← hl i]
            simp only [List.mem_append, List.mem_cons]
            constructor
            · rintro (h | h)
              · exact .inl h
              · exact .inr (.inr h)
            · rintro (h | h | h)
              · exact .inl h
              · exact absurd h.symm hij
              · exact .inr h
        · intro i hi
          by_cases hij : j = i
          · subst hij
            rw [Array.getD_eq_getD_getElem?, Array.getD_eq_getD_getElem?, Array.getElem?_setIfInBounds]
            rcases Nat.lt_or_ge j listed.size with hz | hz
            · simp [hz]
            · simp [Array.getElem?_eq_none hz] at hjun
          · rw [getD_set_ne true hij, getD_set_ne false hij]
            exact hsz i hi
        · intro k hk y hy e he hb
          by_cases hij : j = k
          · subst hij
            exact hmono _ (hfed y hy e he hb)
          · rw [getD_set_ne false hij] at hk
            exact hmono _ (hcl k hk y hy e he hb)
      have hsel := Region.noSelect_spec hns
      cases hs : storeOp oj.op with
      | true =>
        have hap' : ∀ i ∈ l1, ∀ x, ops[i]? = some x → pureOp x.op = true ∧ x.apart ops oj = true := fun i hi x hx => ⟨(hap i hi x hx).1 hs, (hap i hi x hx).2.2.2⟩
        rcases ChF.takeS hsel hoj hs l1 a w hap' hc with ⟨hw, hrest⟩ | ⟨hw, hrest⟩
        · unfold Go.wpOp
          simp only [hoj, hw, Bool.false_eq_true, if_false]
          exact next _ _ hwb hrest
        · exact OpStep.wp hoj hw (hrest.mono fun v w' h => next _ _ (Nat.le_trans hwb h.1) h.2)
      | false =>
      cases ha : allocOf oj with
      | none =>
        have hap' : ∀ i ∈ l1, ∀ x, ops[i]? = some x → quietOp x.op = true ∧ x.apart ops oj = true := fun i hi x hx => ⟨(hap i hi x hx).2.1 hs ha, (hap i hi x hx).2.2.2⟩
        cases hq : quietOp oj.op with
        | true =>
          obtain ⟨v, hv, hrest⟩ := ChF.takeQ hsel hoj hq l1 a w hap' hc
          rcases hv with ⟨hw, hv⟩ | ⟨hw, rfl⟩
          · exact OpStep.wp hoj hw (OpStep.val (hv w (hr w)) (next _ _ hwb hrest))
          · unfold Go.wpOp
            simp only [hoj, hw, Bool.false_eq_true, if_false]
            exact next _ _ hwb hrest
        | false =>
          rcases ChF.takeN ht hre hsel hoj hq ha hs l1 a w hap' hc with ⟨hw, hrest⟩ | ⟨hw, hrest⟩
          · unfold Go.wpOp
            simp only [hoj, hw, Bool.false_eq_true, if_false]
            exact next _ _ hwb hrest
          · exact OpStep.wp hoj hw ((hrest w (Ext.refl w)).mono fun v w' h => next _ _ (Nat.le_trans hwb (hsize _ _ h.1)) h.2)
      | some e =>
        have hg : oj.guard = none ∧ oj.op = .alloc e := by
          unfold allocOf at ha
          split at ha
          · rename_i h1 h2; injection ha with ha; subst ha; exact ⟨h1, h2⟩
          · cases ha
        have hq : quietOp oj.op = false := by rw [hg.2]; rfl
        have hrest := ChF.takeF ht hre hst hsel hoj hq ha l1 a w (fun i hi x hx => ⟨(hap i hi x hx).2.2.1 (by rw [ha]; rfl), (hap i hi x hx).2.2.2⟩) hc
        have hk := hknown j hjf
        simp only [knownAt, hoj, Option.map_some, Option.getD_some, ha] at hk
        obtain ⟨cs, hcs⟩ := Option.isSome_iff_exists.1 hk
        have hm : (e, cs) ∈ Ts := lookup_mem hcs
        have hrun := hTs _ hm w
        have hz : zeroOf Ts e = cs := by unfold zeroOf; rw [hcs]; rfl
        have hx : Ext w (w.alloc (.cells cs e)) := (Ext.refl w).alloc _
        refine OpStep.wp hoj (by simp [Region.wanted, hg.1]) (OpStep.val (w' := w.alloc (.cells cs e)) (v := .pointer (some ⟨w.heap.size, 0, none⟩)) ?_ (next _ _ (Nat.le_trans hwb hx.size) ?_))
        · unfold execOp
          simp only [hg.2, Sem.run_bind, hrun, Result.andThen_ok, Sem.run_pure]
        · exact hrest _ _ hx hwb (by rw [hz]; exact Blk.new w e cs)
end
section
variable {P : Program} {Q : Exit → Act → World → Prop} {R : World → World → Prop} {base : Nat} {Ts : List (TypeId × Array Value)} {l : List Oper}
/-- THE LAW. -/
theorem wp_region_float {id : Nat} {a : Act} {w : World} (ord : List Nat) (hm : P.follows .mixedOrders = true) (hok : floatOk l.toArray Ts ord = true) (hr : ∀ x, R x x) (ht : ∀ x y z, R x y → R y z → R x z)
    (hre : ∀ x y, Ext x y → R x y) (hsize : ∀ x y : World, R x y → x.heap.size ≤ y.heap.size)
    (hst : ∀ (w w' : World) b e cs, base ≤ b → Blk w b e cs → R w w' → Blk w' b e cs)
    (hTs : ∀ x ∈ Ts, ∀ w, (Instr.alloc x.1 true (.tuple #[])).run P w = .ok (.pointer (some ⟨w.heap.size, 0, none⟩)) (w.alloc (.cells x.2 x.1))) (hb : base ≤ w.heap.size)
    (h : ChF P l.toArray Q R base Ts ord a w.drew) : (Code.region id l.toArray true).wp P Q a w := by
  have hok' := hok
  simp only [floatOk, Bool.and_eq_true, permOk, List.all_eq_true, List.contains_iff_mem, List.mem_range] at hok'
  obtain ⟨⟨⟨⟨hns, hperm⟩, hpairs⟩, _⟩, hback⟩ := hok'
  have hord : ∀ x ∈ ord, x < l.toArray.size := by
    intro x hx
    have := hback x hx
    cases hy : (l.toArray)[x]? with
    | none => rw [hy] at this; simp at this
    | some y => exact (Array.getElem?_eq_some_iff.1 hy).1
  have hnd : ord.Pairwise (· ≠ ·) := (pairsB_iff hpairs).imp fun {i j} hp e => by
    subst e; simp [pairF] at hp
  refine wp_region_any hm (ChF.any (ops := l.toArray) hr ht hre hsize hst hTs hok _ _ a ord ?_ (List.Sublist.refl _) ?_ ?_ ?_ _ hb h)
  · have h1 := pigeonN _ l.toArray.size hnd hord
    simpa using h1
  · intro i
    simp only [Array.getD_eq_getD_getElem?, Array.getElem?_replicate]
    constructor
    · intro h
      have h' := hord i h
      exact ⟨h', by simp at h'; simp [h']⟩
    · intro h
      exact hperm i h.1
  · intro i hi
    have h' : i < l.length := by simpa using hi
    simp [h']
  · intro j hj
    exfalso
    rw [Array.getD_eq_getD_getElem?, Array.getElem?_replicate] at hj
    split at hj <;> simp at hj
theorem ChF.nil {a : Act} {w : World} (h : Q .normal a w) : ChF P l.toArray Q R base Ts [] a w := h
theorem ChF.skip {i : Nat} {r : List Nat} {o : Oper} {a : Act} {w : World} (ho : l[i]? = some o) (hg : allocOf o = none) (hw : Region.wanted o (yielded l.toArray a.tmps) = false) (h : ChF P l.toArray Q R base Ts r (a.put o.dst undef) w) : ChF P l.toArray Q R base Ts (i :: r) a w := by
  refine ⟨o, arr_at ho, ?_⟩
  cases hp : pureOp o.op with
  | true => exact .inl ⟨rfl, undef, .inr ⟨hw, rfl⟩, h⟩
  | false =>
    cases hq : quietOp o.op with
    | true => exact .inr (.inl ⟨rfl, rfl, undef, .inr ⟨hw, rfl⟩, h⟩)
    | false =>
      cases hs : storeOp o.op with
      | true => exact .inr (.inr (.inr (.inl ⟨rfl, .inl ⟨hw, h⟩⟩)))
      | false => exact .inr (.inr (.inr (.inr ⟨rfl, hg, rfl, .inl ⟨hw, h⟩⟩)))
/-- An operation that only computes. -/
theorem ChF.pure {i : Nat} {r : List Nat} {o : Oper} {a : Act} {w : World} {v : Value} (ho : l[i]? = some o) (hq : pureOp o.op = true) (hw : Region.wanted o (yielded l.toArray a.tmps) = true)
    (hv : ∀ w', (execOp a.eval o).run P w' = .ok (.value v) w') (h : ChF P l.toArray Q R base Ts r (a.put o.dst v) w) : ChF P l.toArray Q R base Ts (i :: r) a w :=
  ⟨o, arr_at ho, .inl ⟨hq, v, .inl ⟨hw, hv⟩, h⟩⟩
/-- An operation that only reads. -/
theorem ChF.quiet {i : Nat} {r : List Nat} {o : Oper} {a : Act} {w : World} {v : Value} (ho : l[i]? = some o) (hp : pureOp o.op = false) (hq : quietOp o.op = true) (hw : Region.wanted o (yielded l.toArray a.tmps) = true)
    (hv : ∀ w', R w w' → (execOp a.eval o).run P w' = .ok (.value v) w') (h : ChF P l.toArray Q R base Ts r (a.put o.dst v) w) : ChF P l.toArray Q R base Ts (i :: r) a w :=
  ⟨o, arr_at ho, .inr (.inl ⟨hp, hq, v, .inl ⟨hw, hv⟩, h⟩)⟩
/-- A box. -/
theorem ChF.box {i : Nat} {r : List Nat} {o : Oper} {a : Act} {w : World} {e : TypeId} (ho : l[i]? = some o) (hq : quietOp o.op = false) (he : allocOf o = some e)
    (h : ∀ w1 b, Ext w w1 → base ≤ b → Blk w1 b e (zeroOf Ts e) → ChF P l.toArray Q R base Ts r (a.put o.dst (.pointer (some ⟨b, 0, none⟩))) w1) : ChF P l.toArray Q R base Ts (i :: r) a w :=
  ⟨o, arr_at ho, .inr (.inr (.inl ⟨hq, e, he, h⟩))⟩
/-- A write, when all else is done. -/
theorem ChF.store {i : Nat} {r : List Nat} {o : Oper} {a : Act} {w w' : World} (ho : l[i]? = some o) (hs : storeOp o.op = true) (hw : Region.wanted o (yielded l.toArray a.tmps) = true)
    (he : (execOp a.eval o).run P w = .ok .skip w') (hz : w.heap.size ≤ w'.heap.size) (h : ChF P l.toArray Q R base Ts r (a.put o.dst undef) w') : ChF P l.toArray Q R base Ts (i :: r) a w :=
  ⟨o, arr_at ho, .inr (.inr (.inr (.inl ⟨hs, .inr ⟨hw, .skip he ⟨hz, h⟩⟩⟩)))⟩
theorem ChF.storeP {i : Nat} {r : List Nat} {o : Oper} {a : Act} {w : World} (Good : World → Prop) (ho : l[i]? = some o) (hs : storeOp o.op = true) (hw : Region.wanted o (yielded l.toArray a.tmps) = true)
    (he : ∃ w', (execOp a.eval o).run P w = .ok .skip w' ∧ w.heap.size ≤ w'.heap.size ∧ Good w') (h : ∀ w', w.heap.size ≤ w'.heap.size → Good w' → ChF P l.toArray Q R base Ts r (a.put o.dst undef) w') : ChF P l.toArray Q R base Ts (i :: r) a w := by
  obtain ⟨w', h1, h2, h3⟩ := he
  exact ChF.store ho hs hw h1 h2 (h w' h2 h3)
/-- A call, in a world that may be later. -/
theorem ChF.call {i : Nat} {r : List Nat} {o : Oper} {a : Act} {w : World} {f : FuncId} {args : Array Value} (ho : l[i]? = some o) (hq : quietOp o.op = false) (hg : allocOf o = none) (hs : storeOp o.op = false) (hw : Region.wanted o (yielded l.toArray a.tmps) = true)
    (he : ∀ w1, (execOp a.eval o).run P w1 = .ok (.enter f args) w1) (hc : ∀ w1, Ext w w1 → Calls P f args w1 fun e w'' => ∃ v, e = .returned v ∧ R w1 w'' ∧ ChF P l.toArray Q R base Ts r (a.put o.dst v) w'') : ChF P l.toArray Q R base Ts (i :: r) a w :=
  ⟨o, arr_at ho, .inr (.inr (.inr (.inr ⟨hq, hg, hs, .inr ⟨hw, fun w1 hx => .call (he w1) (hc w1 hx)⟩⟩)))⟩
end
/-- w' is w with new blocks behind it; of what was there, only blocks with p may have turned. -/
structure RX (p : Nat → Prop) (w w' : World) : Prop where
  os : w'.os = w.os
  tape : w'.tape = w.tape
  output : w'.output = w.output
  size : w.heap.size ≤ w'.heap.size
  block : ∀ i, i < w.heap.size → ¬ p i → w'.heap[i]? = w.heap[i]?
theorem RX.refl (p : Nat → Prop) (w : World) : RX p w w := ⟨rfl, rfl, rfl, Nat.le_refl _, fun _ _ _ => rfl⟩
theorem RX.trans {p : Nat → Prop} {a b c : World} (h : RX p a b) (k : RX p b c) : RX p a c :=
  ⟨k.os.trans h.os, k.tape.trans h.tape, k.output.trans h.output, Nat.le_trans h.size k.size, fun i hi hp => (k.block i (Nat.lt_of_lt_of_le hi h.size) hp).trans (h.block i hi hp)⟩
theorem RX.of_ext {p : Nat → Prop} {a b : World} (h : Ext a b) : RX p a b := ⟨World.grownBy.os h, World.grownBy.tape h, World.grownBy.output h, h.size, fun i hi _ => h.block i hi⟩
theorem RX.of_rext {p : Nat → Prop} {B : Nat} {a b : World} (h : RExt B a b) (hB : p B) : RX p a b :=
  ⟨World.grownBy.os h, World.grownBy.tape h, World.grownBy.output h, h.size, fun i hi hp => h.block i hi (fun e => hp (e ▸ hB))⟩
theorem RX.new {p : Nat → Prop} {a b c : World} (h : Ext a b) (k : RX p b c) (hp : ∀ i, p i → a.heap.size ≤ i) : Ext a c :=
  ⟨k.os.trans (World.grownBy.os h), k.tape.trans (World.grownBy.tape h), k.output.trans (World.grownBy.output h), Nat.le_trans h.size k.size,
    fun i hi _ => (k.block i (Nat.lt_of_lt_of_le hi h.size) (fun h' => by have := hp i h'; omega)).trans (h.block i hi)⟩
theorem Blk.rx {p : Nat → Prop} {w w' : World} {b : Nat} {T : TypeId} {cs : Array Value} (h : Blk w b T cs) (hx : RX p w w') (hb : ¬ p b) : Blk w' b T cs := (hx.block b h.lt hb).trans h
theorem Sl.rx {α : Type} {enc : α → List Value} {k : Nat} {p : Nat → Prop} {w w' : World} {a : Option Addr} {n c : Nat} {L : List α} (h : Sl enc k w a n c L) (hx : RX p w w') (hne : 0 < n → ∀ x, a = some x → ¬ p x.block) : Sl enc k w' a n c L :=
  h.keep hx.size fun b _ hn e hb => hx.block b hb (hne hn _ e)
theorem ChX.storeP {P : Program} {Q : Exit → Act → World → Prop} {R : World → World → Prop} {l : List Oper} {i : Nat} {r : List Nat} {o : Oper} {a : Act} {w : World} (Good : World → Prop) (ho : l[i]? = some o) (hq : quietOp o.op = false) (hw : Region.wanted o (yielded l.toArray a.tmps) = true)
    (he : ∃ w', (execOp a.eval o).run P w = .ok .skip w' ∧ R w w' ∧ Good w') (h : ∀ w', R w w' → Good w' → ChX P l.toArray Q R r (a.put o.dst undef) w') : ChX P l.toArray Q R (i :: r) a w := by
  obtain ⟨w', h1, h2, h3⟩ := he
  exact ChX.effs ho hq hw h1 h2 (h w' h2 h3)
/-- The world, as far as it matters. -/
theorem wp_gen {P : Program} {c : Go.Code} {Q : Exit → Act → World → Prop} {a : Act} {w : World} (Good : World → Prop) (hg : Good w) (h : ∀ W, Good W → Code.wp P c Q a W) : Code.wp P c Q a w := h w hg
theorem Blk.put3 {w : World} {b : Nat} {T : TypeId} {a0 a1 a2 : Value} (h : Blk w b T #[a0, a1, a2]) (u0 u1 u2 : Value) :
    Blk (((w.setCell ⟨b, 0, none⟩ u0).setCell ⟨b, 1, none⟩ u1).setCell ⟨b, 2, none⟩ u2) b T #[u0, u1, u2] := by
  simpa using ((h.set 0 u0).set 1 u1).set 2 u2
theorem Blk.put6 {w : World} {b : Nat} {T : TypeId} {a0 a1 a2 a3 a4 a5 : Value} (h : Blk w b T #[a0, a1, a2, a3, a4, a5]) (u0 u1 u2 u3 u4 u5 : Value) :
    Blk ((((((w.setCell ⟨b, 0, none⟩ u0).setCell ⟨b, 1, none⟩ u1).setCell ⟨b, 2, none⟩ u2).setCell ⟨b, 3, none⟩ u3).setCell ⟨b, 4, none⟩ u4).setCell ⟨b, 5, none⟩ u5) b T #[u0, u1, u2, u3, u4, u5] := by
  simpa using (((((h.set 0 u0).set 1 u1).set 2 u2).set 3 u3).set 4 u4).set 5 u5
theorem Blk.put8 {w : World} {b : Nat} {T : TypeId} {a0 a1 a2 a3 a4 a5 a6 a7 : Value} (h : Blk w b T #[a0, a1, a2, a3, a4, a5, a6, a7]) (u0 u1 u2 u3 u4 u5 u6 u7 : Value) :
    Blk ((((((((w.setCell ⟨b, 0, none⟩ u0).setCell ⟨b, 1, none⟩ u1).setCell ⟨b, 2, none⟩ u2).setCell ⟨b, 3, none⟩ u3).setCell ⟨b, 4, none⟩ u4).setCell ⟨b, 5, none⟩ u5).setCell ⟨b, 6, none⟩ u6).setCell ⟨b, 7, none⟩ u7) b T #[u0, u1, u2, u3, u4, u5, u6, u7] := by
  simpa using (((((((h.set 0 u0).set 1 u1).set 2 u2).set 3 u3).set 4 u4).set 5 u5).set 6 u6).set 7 u7
theorem Blk.put9 {w : World} {b : Nat} {T : TypeId} {a0 a1 a2 a3 a4 a5 a6 a7 a8 : Value} (h : Blk w b T #[a0, a1, a2, a3, a4, a5, a6, a7, a8]) (u0 u1 u2 u3 u4 u5 u6 u7 u8 : Value) :
    Blk (((((((((w.setCell ⟨b, 0, none⟩ u0).setCell ⟨b, 1, none⟩ u1).setCell ⟨b, 2, none⟩ u2).setCell ⟨b, 3, none⟩ u3).setCell ⟨b, 4, none⟩ u4).setCell ⟨b, 5, none⟩ u5).setCell ⟨b, 6, none⟩ u6).setCell ⟨b, 7, none⟩ u7).setCell ⟨b, 8, none⟩ u8) b T #[u0, u1, u2, u3, u4, u5, u6, u7, u8] := by
  simpa using ((((((((h.set 0 u0).set 1 u1).set 2 u2).set 3 u3).set 4 u4).set 5 u5).set 6 u6).set 7 u7).set 8 u8
theorem RExt.putc {B : Nat} {a b : World} (h : RExt B a b) (o : Nat) (u : Value) : RExt B a (b.setCell ⟨B, o, none⟩ u) := h.setCell (.inl rfl) u
theorem Blk.apart {w : World} {b b' : Nat} {T T' : TypeId} {cs cs' : Array Value} (h : Blk w b T cs) (h' : Blk w b' T' cs') (hne : T ≠ T') : b ≠ b' := by
  intro e
  subst e
  unfold Blk at h h'
  rw [h] at h'
  injection h' with h'
  injection h' with _ ht
  exact hne ht
theorem Ow.apartB {α : Type} {E : TypeId} {enc : α → List Value} {k base : Nat} {w : World} {a : Option Addr} {n c : Nat} {L : List α} {b : Nat} {T : TypeId} {cs : Array Value}
    (h : Ow E enc k base w a n c L) (h' : Blk w b T cs) (hne : E ≠ T) : ∀ x, a = some x → x.block ≠ b := by
  intro x hx he
  obtain ⟨_, ⟨rfl, _⟩ | ⟨g, cur, rfl, _, hg, _⟩⟩ := h
  · cases hx
  injection hx with hx
  subst hx
  simp only at he
  subst he
  unfold Blk at h'
  rw [hg] at h'
  injection h' with h'
  injection h' with _ ht
  exact hne ht
end Go.Proofs.Ytafmomocmodbhaa
/- Contracts of the generators of gates. -/
namespace Go.Proofs.Ytafmomocmodbhaa
set_option linter.unusedVariables false
set_option linter.unusedSimpArgs false
open Go.RowKit

theorem RExt.rextNew {B C : Nat} {a b c : World} (h : RExt B a b) (k : RExt C b c) (hC : a.heap.size ≤ C) : RExt B a c :=
  ⟨(World.grownBy.os k).trans (World.grownBy.os h), (World.grownBy.tape k).trans (World.grownBy.tape h), (World.grownBy.output k).trans (World.grownBy.output h), Nat.le_trans h.size k.size,
    fun i hi hne => (World.grownBy.block k i (Nat.lt_of_lt_of_le hi h.size) (by intro e; injection e with e; omega)).trans (World.grownBy.block h i hi hne)⟩
theorem Rd.rextNew {n0 : Nat} {w w' : World} {B C : Nat} {m : Int} (h : Rd n0 w B m) (k : RExt C w w') (hC : n0 ≤ C) : Rd n0 w' B m :=
  h.keep k.size fun i hi => k.block i (by have := h.le; omega) (by omega)
set_option maxHeartbeats 4000000 in
theorem someGate_any (n0 B : Nat) (m : Int) (w : World) (hr : Rd n0 w B m) (hm : m + 64 ≤ 1000000) :
    Calls Try.prog 116 #[.pointer (some ⟨B, 0, none⟩)] w fun e w' => ∃ (g : GateD) (ta : Option Addr) (tn tc : Nat) (ka : Option Addr) (kn kc : Nat), e = .returned (.agg #[.int .i64 g.net.base, .int .i64 g.net.bits, .int .i64 g.out, .slice ta tn tc, .slice ka kn kc, .int .i64 g.filter, .int .i64 g.hold, .int .i64 g.now]) ∧ Sl encM 4 w' ta tn tc g.table ∧ Sl encC 3 w' ka kn kc g.cons ∧
      tn ≤ 8 ∧ kn ≤ 10 ∧ 0 ≤ g.now ∧ g.now ≤ 10000 ∧ (∀ x, ta = some x → w.heap.size ≤ x.block) ∧ (∀ x, ka = some x → w.heap.size ≤ x.block) ∧ Rd n0 w' B (m + 64) ∧ RExt B w w' := by
  have hnw : n0 ≤ w.heap.size := hr.le
  have hBw : B < w.heap.size := (by have := hr.lt; omega)
  go_enter Try.func116, Try.ntmps116
  go_wp2_with fail
  refine (one_lit n0 B _ _ _ _ _ _ (by exact hr.to (by repeat (first | (with_reducible exact Since.refl hr.le) | (with_reducible refine Since.alloc ?_ _) | (with_reducible refine Since.drew ?_) | (with_reducible refine Since.drewN ?_ _) | (with_reducible refine Since.setCell ?_ ?_ _; rotate_left; (simp only []; omega)) | (with_reducible refine Since.ext ?_ (by assumption))))) (by omega) (by simp) (by rfl) (by omega) (by omega) (by simp [intOf])).mono ?_
  rintro e w1 ⟨bits, rfl, _, hr1, hx1⟩
  have hz1 := hx1.size
  (try simp at hz1)
  have hBR1 : Blk w1 w.heap.size 40 #[.int .i64 0, .int .i64 0, .int .i64 0, .slice none 0 0, .slice none 0 0, .int .i64 0, .int .i64 0, .int .i64 0] := by refine Blk.rext ?_ hx1 (by omega); exact (by repeat (first | (with_reducible assumption) | (with_reducible exact Blk.new _ _ _) | exact Blk.newAt _ _ _ (by simp) | (with_reducible refine Blk.alloc ?_ _) | (with_reducible refine Blk.drew ?_) | (with_reducible refine Blk.drewN ?_ _) | refine Blk.far ?_ (by simp only []; omega) _ | refine Blk.rext ?_ (by assumption) (by omega) | refine Blk.ext ?_ (by assumption)))
  go_wp2_with fail
  refine (pick_any n0 B _ 3 _ (by exact hr1.to (by repeat (first | (with_reducible exact Since.refl hr1.le) | (with_reducible refine Since.alloc ?_ _) | (with_reducible refine Since.drew ?_) | (with_reducible refine Since.drewN ?_ _) | (with_reducible refine Since.setCell ?_ ?_ _; rotate_left; (simp only []; omega)) | (with_reducible refine Since.ext ?_ (by assumption))))) (by omega) (by omega) (by omega)).mono ?_
  rintro e w2 ⟨fl, rfl, _, _, hr2, hx2⟩
  have hz2 := hx2.size
  (try simp at hz2)
  have hBR2 : Blk w2 w.heap.size 40 #[.int .i64 0, .int .i64 0, .int .i64 0, .slice none 0 0, .slice none 0 0, .int .i64 0, .int .i64 0, .int .i64 0] := by refine Blk.rext ?_ hx2 (by omega); exact (by repeat (first | (with_reducible assumption) | (with_reducible exact Blk.new _ _ _) | exact Blk.newAt _ _ _ (by simp) | (with_reducible refine Blk.alloc ?_ _) | (with_reducible refine Blk.drew ?_) | (with_reducible refine Blk.drewN ?_ _) | refine Blk.far ?_ (by simp only []; omega) _ | refine Blk.rext ?_ (by assumption) (by omega) | refine Blk.ext ?_ (by assumption)))
  go_wp2_with fail
  refine (one_lit n0 B _ _ _ _ _ _ (by exact hr2.to (by repeat (first | (with_reducible exact Since.refl hr2.le) | (with_reducible refine Since.alloc ?_ _) | (with_reducible refine Since.drew ?_) | (with_reducible refine Since.drewN ?_ _) | (with_reducible refine Since.setCell ?_ ?_ _; rotate_left; (simp only []; omega)) | (with_reducible refine Since.ext ?_ (by assumption))))) (by omega) (by simp) (by rfl) (by omega) (by omega) (by simp [intOf])).mono ?_
  rintro e w3 ⟨hd, rfl, _, hr3, hx3⟩
  have hz3 := hx3.size
  (try simp at hz3)
  have hBR3 : Blk w3 w.heap.size 40 #[.int .i64 0, .int .i64 0, .int .i64 0, .slice none 0 0, .slice none 0 0, .int .i64 0, .int .i64 0, .int .i64 0] := by refine Blk.rext ?_ hx3 (by omega); exact (by repeat (first | (with_reducible assumption) | (with_reducible exact Blk.new _ _ _) | exact Blk.newAt _ _ _ (by simp) | (with_reducible refine Blk.alloc ?_ _) | (with_reducible refine Blk.drew ?_) | (with_reducible refine Blk.drewN ?_ _) | refine Blk.far ?_ (by simp only []; omega) _ | refine Blk.rext ?_ (by assumption) (by omega) | refine Blk.ext ?_ (by assumption)))
  go_wp2_with fail
  refine (one_lit n0 B _ _ _ _ _ _ (by exact hr3.to (by repeat (first | (with_reducible exact Since.refl hr3.le) | (with_reducible refine Since.alloc ?_ _) | (with_reducible refine Since.drew ?_) | (with_reducible refine Since.drewN ?_ _) | (with_reducible refine Since.setCell ?_ ?_ _; rotate_left; (simp only []; omega)) | (with_reducible refine Since.ext ?_ (by assumption))))) (by omega) (by simp) (by rfl) (by omega) (by omega) (by simp [intOf])).mono ?_
  rintro e w4 ⟨n, rfl, hm4, hr4, hx4⟩
  simp [intOf] at hm4
  have hz4 := hx4.size
  (try simp at hz4)
  have hn0 : 0 ≤ n := by omega
  have hn1 : n ≤ 12 := by omega
  clear hm4
  have hBR : Blk w4 w.heap.size 40 #[.int .i64 0, .int .i64 0, .int .i64 0, .slice none 0 0, .slice none 0 0, .int .i64 0, .int .i64 0, .int .i64 0] := by refine Blk.rext ?_ hx4 (by omega); exact (by repeat (first | (with_reducible assumption) | (with_reducible exact Blk.new _ _ _) | exact Blk.newAt _ _ _ (by simp) | (with_reducible refine Blk.alloc ?_ _) | (with_reducible refine Blk.drew ?_) | (with_reducible refine Blk.drewN ?_ _) | refine Blk.far ?_ (by simp only []; omega) _ | refine Blk.rext ?_ (by assumption) (by omega) | refine Blk.ext ?_ (by assumption)))
  obtain ⟨G, hG⟩ : ∃ G, G = w3.heap.size := ⟨_, rfl⟩
  have hBG : Blk w4 G 40 (#[.int .i64 (⟨⟨2560, bits⟩, 51457, [], [], fl, hd, 0⟩ : GateD).net.base, .int .i64 (⟨⟨2560, bits⟩, 51457, [], [], fl, hd, 0⟩ : GateD).net.bits, .int .i64 (⟨⟨2560, bits⟩, 51457, [], [], fl, hd, 0⟩ : GateD).out, .slice (some ⟨w1.heap.size, 0, none⟩) 0 0, .slice (some ⟨w1.heap.size + 1, 0, none⟩) 0 0, .int .i64 (⟨⟨2560, bits⟩, 51457, [], [], fl, hd, 0⟩ : GateD).filter, .int .i64 (⟨⟨2560, bits⟩, 51457, [], [], fl, hd, 0⟩ : GateD).hold, .int .i64 (⟨⟨2560, bits⟩, 51457, [], [], fl, hd, 0⟩ : GateD).now]) := by
    rw [hG]
    exact Blk.rext (Blk.newAt _ _ _ (by simp)) hx4 (by omega)
  have hX4 : RExt B w w4 := (by repeat (first | (with_reducible exact RExt.refl _ _) | (with_reducible assumption) | (with_reducible refine RExt.alloc ?_ _) | (with_reducible refine RExt.drewN ?_ _) | (with_reducible refine RExt.drew ?_) | (with_reducible refine RExt.setCell ?_ (.inr ?_) _; rotate_left; (simp only []; omega)) | (with_reducible refine RExt.trans ?_ (by assumption)) | (with_reducible refine RExt.ext ?_ (by assumption))))
  have hr5 := hr4.mono (show m + 1 + 1 + 1 + 1 ≤ m + 4 by omega)
  have hGn : w.heap.size < G := by omega
  have hG2 : w1.heap.size + 1 < G := by omega
  go_wp2
  rw [← hG]
  have hw1 : w.heap.size < w1.heap.size := by omega
  clear hx1 hx2 hx3 hx4 hr1 hr2 hr3 hr4 hz1 hz2 hz3 hz4 hG hBR1 hBR2 hBR3
  go_loopw [4] (fun i wr => ∃ (k : Nat) (g : GateD) (ta : Option Addr) (tn tc : Nat) (ka : Option Addr) (kn kc : Nat), k ≤ 12 ∧ i = .int .i64 k ∧ Blk wr w.heap.size 40 #[.int .i64 0, .int .i64 0, .int .i64 0, .slice none 0 0, .slice none 0 0, .int .i64 0, .int .i64 0, .int .i64 0] ∧ Blk wr G 40 (#[.int .i64 g.net.base, .int .i64 g.net.bits, .int .i64 g.out, .slice ta tn tc, .slice ka kn kc, .int .i64 g.filter, .int .i64 g.hold, .int .i64 g.now]) ∧
    Sl encM 4 wr ta tn tc g.table ∧ Sl encC 3 wr ka kn kc g.cons ∧ g.table.length ≤ 8 ∧ g.cons.length ≤ 10 ∧ 0 ≤ g.now ∧ g.now ≤ 10000 ∧ (∀ x, ta = some x → w.heap.size < x.block ∧ x.block ≠ G) ∧ (∀ x, ka = some x → w.heap.size < x.block ∧ x.block ≠ G) ∧
    Rd n0 wr B (m + 4 + 5 * (12 - k)) ∧ RExt B w wr) (fun i _ => (intOf i).toNat)
  case atStart =>
    obtain ⟨q, rfl⟩ := Int.eq_ofNat_of_zero_le hn0
    exact ⟨q, ⟨⟨2560, bits⟩, 51457, [], [], fl, hd, 0⟩, _, 0, 0, _, 0, 0, by omega, rfl, hBR, hBG, ⟨rfl, Nat.le_refl _, by omega, (fun e => by cases e), (fun h => by omega)⟩, ⟨rfl, Nat.le_refl _, by omega, (fun e => by cases e), (fun h => by omega)⟩, by simp, by simp, by simp, by simp, (fun x hx => by injection hx with hx; subst hx; simp only []; omega), (fun x hx => by injection hx with hx; subst hx; simp only []; omega), hr5.mono (by omega), hX4⟩
  case round =>
    obtain ⟨k, g, ta, tn, tc, ka, kn, kc, hk, rfl, BR, BG, T0, K0, lT, lK, now0, now1, fT, fK, r0, X0⟩ := hrel
    have hsz := X0.size
    have hGl := BG.lt
    clear hBR hBG hr5 hX4
    have lT0 := fun (h : 0 < tn) => T0.lt h
    have lK0 := fun (h : 0 < kn) => K0.lt h
    by_cases hk0 : k = 0
    · subst hk0
      have cR := BR.cells
      have fR := BR.frozens
      have cG := BG.cells
      go_wp2
      refine' bodyPost_ret (v := _) ?_ rfl ?_
      rotate_left
      · (simp only [results, Try.results116]
         go_simp
         rfl)
      refine ⟨g, ta, tn, tc, ka, kn, kc, rfl, ?_, ?_, ?_, ?_, now0, now1, (fun x e => by have := fT x e; omega), (fun x e => by have := fK x e; omega), ?_, ?_⟩
      · repeat (refine Sl.setCell ?_ (fun y hy => by have := fT y hy; simp only []; omega) _)
        exact T0
      · repeat (refine Sl.setCell ?_ (fun y hy => by have := fK y hy; simp only []; omega) _)
        exact K0
      · have := T0.len; omega
      · have := K0.len; omega
      · exact (by exact (r0.mono (show m + 4 + 5 * (12 - (0 : Nat)) ≤ m + 64 by omega)).to (by repeat (first | (with_reducible exact Since.refl (r0.mono (show m + 4 + 5 * (12 - (0 : Nat)) ≤ m + 64 by omega)).le) | (with_reducible refine Since.alloc ?_ _) | (with_reducible refine Since.drew ?_) | (with_reducible refine Since.drewN ?_ _) | (with_reducible refine Since.setCell ?_ ?_ _; rotate_left; (simp only []; omega)) | (with_reducible refine Since.ext ?_ (by assumption)))))
      · exact (by repeat (first | (with_reducible exact RExt.refl _ _) | (with_reducible assumption) | (with_reducible refine RExt.alloc ?_ _) | (with_reducible refine RExt.drewN ?_ _) | (with_reducible refine RExt.drew ?_) | (with_reducible refine RExt.setCell ?_ (.inr ?_) _; rotate_left; (simp only []; omega)) | (with_reducible refine RExt.trans ?_ (by assumption)) | (with_reducible refine RExt.ext ?_ (by assumption))))
    · have hkp : (0 : Int) < (k : Int) := by omega
      go_wp2_with fail
      replace BG := BG.drew
      replace BR := BR.drew
      replace T0 := T0.drew
      replace K0 := K0.drew
      replace r0 := r0.drew
      replace X0 := X0.drew
      have hdrS : ∀ W : World, W.drew.heap.size = W.heap.size := fun _ => rfl
      refine wp_region_float (R := RExt B) (base := (wr).heap.size) (Ts := [(44, #[.int .i64 0, .int .i64 0, .int .i64 0, .int .i64 0, .int .i64 0, .slice none 0 0]), (40, #[.int .i64 0, .int .i64 0, .int .i64 0, .slice none 0 0, .slice none 0 0, .int .i64 0, .int .i64 0, .int .i64 0])]) [0, 1, 3, 2, 4, 5, 6, 7, 8, 9, 10, 11, 12, 13, 14, 15] (by kernel_rfl) (by kernel_rfl) (RExt.refl B) (fun _ _ _ => RExt.trans) (fun _ _ h => RExt.of_ext h B) (fun _ _ h => h.size) (fun _ _ b _ _ hb hB hR => hB.rext hR (by omega)) (by intro x hx; simp only [List.mem_cons, List.not_mem_nil, or_false] at hx; rcases hx with rfl | rfl; all_goals (intro wS; kernel_rfl)) (by omega) ?_
      have hdrW := hdrS (wr)
      repeat' (first
        | (refine' ChF.pure (v := _) (by rfl) (by rfl) (by rfl) ?_ ?_
           rotate_left
           · (intro wS
              go_simp
              with_reducible rfl)
           (try simp only [Act.put, List.setIfInBounds_toArray, List.set_cons_zero, List.set_cons_succ]))
        | (refine' ChF.quiet (v := _) (by rfl) (by rfl) (by rfl) (by rfl) ?_ ?_
           rotate_left
           · (intro wS hS
              have cS := (BG.rext hS (by omega)).cells
              go_simp
              with_reducible rfl)
           (try simp only [Act.put, List.setIfInBounds_toArray, List.set_cons_zero, List.set_cons_succ]))
        | fail)
      refine ChF.call (by rfl) (by rfl) (by rfl) (by rfl) (by rfl) (by intro wS; go_simp; (constructor <;> rfl)) ?_
      intro u1 e1
      replace BG := BG.ext e1
      replace BR := BR.ext e1
      replace T0 := T0.ext e1
      replace K0 := K0.ext e1
      replace r0 := r0.ext e1
      replace X0 := X0.ext e1
      have := (e1).size
      refine (insideEnd_any n0 B _ u1 r0 (by omega)).mono ?_
      rintro e v1 ⟨x1, y1, rfl, x10, x11, y10, y11, q1, hx1⟩
      refine ⟨_, rfl, hx1, ?_⟩
      (try simp only [Act.put, List.setIfInBounds_toArray, List.set_cons_zero, List.set_cons_succ])
      replace BG := BG.rext hx1 (by omega)
      replace BR := BR.rext hx1 (by omega)
      replace T0 := T0.rext hx1 (fun x e => by have := fT x e; omega)
      replace K0 := K0.rext hx1 (fun x e => by have := fK x e; omega)
      replace X0 := X0.trans hx1
      replace r0 := q1
      have := (hx1).size
      repeat' (first
        | (refine' ChF.pure (v := _) (by rfl) (by rfl) (by rfl) ?_ ?_
           rotate_left
           · (intro wS
              go_simp
              with_reducible rfl)
           (try simp only [Act.put, List.setIfInBounds_toArray, List.set_cons_zero, List.set_cons_succ]))
        | (refine' ChF.quiet (v := _) (by rfl) (by rfl) (by rfl) (by rfl) ?_ ?_
           rotate_left
           · (intro wS hS
              have cS := (BG.rext hS (by omega)).cells
              go_simp
              with_reducible rfl)
           (try simp only [Act.put, List.setIfInBounds_toArray, List.set_cons_zero, List.set_cons_succ]))
        | fail)
      refine ChF.call (by rfl) (by rfl) (by rfl) (by rfl) (by rfl) (by intro wS; go_simp; (constructor <;> rfl)) ?_
      intro u2 e2
      replace BG := BG.ext e2
      replace BR := BR.ext e2
      replace T0 := T0.ext e2
      replace K0 := K0.ext e2
      replace r0 := r0.ext e2
      replace X0 := X0.ext e2
      have := (e2).size
      refine (farEnd_any n0 B _ u2 r0 (by omega)).mono ?_
      rintro e v2 ⟨x2, y2, rfl, x20, x21, y20, y21, q2, hx2⟩
      refine ⟨_, rfl, hx2, ?_⟩
      (try simp only [Act.put, List.setIfInBounds_toArray, List.set_cons_zero, List.set_cons_succ])
      replace BG := BG.rext hx2 (by omega)
      replace BR := BR.rext hx2 (by omega)
      replace T0 := T0.rext hx2 (fun x e => by have := fT x e; omega)
      replace K0 := K0.rext hx2 (fun x e => by have := fK x e; omega)
      replace X0 := X0.trans hx2
      replace r0 := q2
      have := (hx2).size
      repeat' (first
        | (refine' ChF.pure (v := _) (by rfl) (by rfl) (by rfl) ?_ ?_
           rotate_left
           · (intro wS
              go_simp
              with_reducible rfl)
           (try simp only [Act.put, List.setIfInBounds_toArray, List.set_cons_zero, List.set_cons_succ]))
        | (refine' ChF.quiet (v := _) (by rfl) (by rfl) (by rfl) (by rfl) ?_ ?_
           rotate_left
           · (intro wS hS
              have cS := (BG.rext hS (by omega)).cells
              go_simp
              with_reducible rfl)
           (try simp only [Act.put, List.setIfInBounds_toArray, List.set_cons_zero, List.set_cons_succ]))
        | fail)
      refine ChF.call (by rfl) (by rfl) (by rfl) (by rfl) (by rfl) (by intro wS; go_simp; (constructor <;> rfl)) ?_
      intro u3 e3
      replace BG := BG.ext e3
      replace BR := BR.ext e3
      replace T0 := T0.ext e3
      replace K0 := K0.ext e3
      replace r0 := r0.ext e3
      replace X0 := X0.ext e3
      have := (e3).size
      refine (spec_SendOut g ⟨0, ⟨x1, y1⟩, ⟨x2, y2⟩, []⟩ ta tn tc ka kn kc none 0 0 u3 T0 K0 (Sl.nils _)).mono ?_
      rintro e v3 ⟨A, qn, C, sa, sn, sc, qa, kn', qc, rfl, OP, OM, OC, hx3⟩
      refine ⟨_, rfl, RExt.of_ext hx3 B, ?_⟩
      (try simp only [Act.put, List.setIfInBounds_toArray, List.set_cons_zero, List.set_cons_succ])
      replace BG := BG.ext hx3
      replace BR := BR.ext hx3
      replace T0 := T0.ext hx3
      replace K0 := K0.ext hx3
      replace r0 := r0.ext hx3
      replace X0 := X0.ext hx3
      have := (hx3).size
      repeat' (first
        | (refine' ChF.pure (v := _) (by rfl) (by rfl) (by rfl) ?_ ?_
           rotate_left
           · (intro wS
              go_simp
              with_reducible rfl)
           (try simp only [Act.put, List.setIfInBounds_toArray, List.set_cons_zero, List.set_cons_succ]))
        | (refine' ChF.quiet (v := _) (by rfl) (by rfl) (by rfl) (by rfl) ?_ ?_
           rotate_left
           · (intro wS hS
              have cS := (BG.rext hS (by omega)).cells
              go_simp
              with_reducible rfl)
           (try simp only [Act.put, List.setIfInBounds_toArray, List.set_cons_zero, List.set_cons_succ]))
        | fail)
      refine ChF.box (by rfl) (by rfl) (by rfl) ?_
      intro v4 b5 hx4 hb5 B5
      replace B5 : Blk v4 b5 44 #[.int .i64 0, .int .i64 0, .int .i64 0, .int .i64 0, .int .i64 0, .slice none 0 0] := B5
      (try simp only [Act.put, List.setIfInBounds_toArray, List.set_cons_zero, List.set_cons_succ])
      refine ChF.box (by rfl) (by rfl) (by rfl) ?_
      intro v5 b6 hx5 hb6 B6
      replace B6 : Blk v5 b6 40 #[.int .i64 0, .int .i64 0, .int .i64 0, .slice none 0 0, .slice none 0 0, .int .i64 0, .int .i64 0, .int .i64 0] := B6
      (try simp only [Act.put, List.setIfInBounds_toArray, List.set_cons_zero, List.set_cons_succ])
      have lM := OM.lt
      have lC := OC.lt
      have hx45 : Ext v3 v5 := hx4.trans hx5
      have h45 := hx45.size
      replace B5 := B5.ext hx5
      replace BG := BG.ext hx45
      replace BR := BR.ext hx45
      replace T0 := T0.ext hx45
      replace K0 := K0.ext hx45
      replace OM := OM.ext hx45
      replace OC := OC.ext hx45
      replace r0 := r0.ext hx45
      replace X0 := X0.ext hx45
      have n56 : b5 ≠ b6 := B5.apart B6 (by decide)
      have nM5 := OM.apartB B5 (by decide)
      have nM6 := OM.apartB B6 (by decide)
      have nC5 := OC.apartB B5 (by decide)
      have nC6 := OC.apartB B6 (by decide)
      generalize hso : sendOut g ⟨0, ⟨x1, y1⟩, ⟨x2, y2⟩, []⟩ = so at *
      obtain ⟨Q, hQ⟩ : ∃ Q, Q = rP so := ⟨_, rfl⟩
      obtain ⟨H, hH⟩ : ∃ H, H = rG so := ⟨_, rfl⟩
      obtain ⟨ok, hok⟩ : ∃ ok, ok = so.isSome := ⟨_, rfl⟩
      rw [← hQ, ← hH, ← hok]
      rw [← hH] at OM OC
      replace hQ := Lib.hid hQ
      replace hH := Lib.hid hH
      replace hok := Lib.hid hok
      replace hso := Lib.hid hso
      have c5 := B5.cells
      have f5 := B5.frozens
      refine ChF.storeP (fun W => RExt b5 v5 W ∧ Blk W b5 44 (#[.int .i64 Q.kind, .int .i64 Q.fr.addr, .int .i64 Q.fr.port, .int .i64 Q.to_.addr, .int .i64 Q.to_.port, .slice A qn C])) (by rfl) (by rfl) (by rfl) ⟨_, (by go_simp; rfl), (by simp [World.setCell]), (by repeat (first | (with_reducible exact RExt.refl _ _) | (with_reducible refine RExt.putc ?_ _ _))), (by exact B5.put6 _ _ _ _ _ _)⟩ ?_
      (try simp only [Act.put, List.setIfInBounds_toArray, List.set_cons_zero, List.set_cons_succ])
      rintro v6 s6 ⟨x6, B5'⟩
      clear c5 f5 B5 B5'
      have lw5 : w.heap.size < b5 := by omega
      have lw6 : w.heap.size < b6 := by omega
      replace B6 := B6.rext x6 (by omega)
      replace BG := BG.rext x6 (by omega)
      replace BR := BR.rext x6 (by omega)
      replace T0 := T0.rextFar x6 (fun hn x e => by have := lT0 hn x e; omega)
      replace K0 := K0.rextFar x6 (fun hn x e => by have := lK0 hn x e; omega)
      replace OM := OM.rext x6 nM5
      replace OC := OC.rext x6 nC5
      replace r0 := r0.rextNew x6 (by omega)
      replace X0 := X0.rextNew x6 (by omega)
      have c6 := B6.cells
      have f6 := B6.frozens
      refine ChF.storeP (fun W => RExt b6 v6 W ∧ Blk W b6 40 (#[.int .i64 H.net.base, .int .i64 H.net.bits, .int .i64 H.out, .slice sa sn sc, .slice qa kn' qc, .int .i64 H.filter, .int .i64 H.hold, .int .i64 H.now])) (by rfl) (by rfl) (by rfl) ⟨_, (by go_simp; rfl), (by simp [World.setCell]), (by repeat (first | (with_reducible exact RExt.refl _ _) | (with_reducible refine RExt.putc ?_ _ _))), (by exact B6.put8 _ _ _ _ _ _ _ _)⟩ ?_
      (try simp only [Act.put, List.setIfInBounds_toArray, List.set_cons_zero, List.set_cons_succ])
      rintro v7 s7 ⟨x7, B6'⟩
      clear c6 f6 B6
      replace BG := BG.rext x7 (by omega)
      replace BR := BR.rext x7 (by omega)
      replace T0 := T0.rextFar x7 (fun hn x e => by have := lT0 hn x e; omega)
      replace K0 := K0.rextFar x7 (fun hn x e => by have := lK0 hn x e; omega)
      replace OM := OM.rext x7 nM6
      replace OC := OC.rext x7 nC6
      replace r0 := r0.rextNew x7 (by omega)
      replace X0 := X0.rextNew x7 (by omega)
      have hB7 : B < v7.heap.size := by omega
      have hG7 : G < v7.heap.size := by omega
      clear x6 x7 hx4 hx5 hx45 hx1 hx2 hx3 e1 e2 e3
      have c6 := B6'.cells
      have z6 := B6'.lt
      have cG := BG.cells
      have fG := BG.frozens
      repeat' (first
        | (refine' ChF.pure (v := _) (by rfl) (by rfl) (by rfl) ?_ ?_
           rotate_left
           · (intro wS
              go_simp
              with_reducible rfl)
           (try simp only [Act.put, List.setIfInBounds_toArray, List.set_cons_zero, List.set_cons_succ]))
        | (refine' ChF.quiet (v := _) (by rfl) (by rfl) (by rfl) (by rfl) ?_ ?_
           rotate_left
           · (intro wS hS
              skip
              go_simp
              with_reducible rfl)
           (try simp only [Act.put, List.setIfInBounds_toArray, List.set_cons_zero, List.set_cons_succ]))
        | fail)
      refine ChF.nil ?_
      cases ok with
      | false =>
        go_wp2_with fail
        clear OM OC
        have lT8 := fun (h : 0 < tn) => T0.lt h
        have lK8 := fun (h : 0 < kn) => K0.lt h
        clear cG fG c6 B6'
        refine wp_gen (fun W => RExt G v7 W ∧ Blk W G 40 (#[.int .i64 g.net.base, .int .i64 g.net.bits, .int .i64 g.out, .slice ta tn tc, .slice ka kn kc, .int .i64 g.filter, .int .i64 g.hold, .int .i64 g.now])) ⟨RExt.refl _ _, BG⟩ ?_
        rintro u8 ⟨x8, BG⟩
        have s8 := x8.size
        replace BR := BR.rext x8 (by omega)
        replace T0 := T0.rext x8 (fun x e => (fT x e).2)
        replace K0 := K0.rext x8 (fun x e => (fK x e).2)
        replace r0 := r0.rextNew x8 (by omega)
        replace X0 := X0.rextNew x8 (by omega)
        have hB8 : B < u8.heap.size := by omega
        clear x8
        replace BG := BG.drew
        replace BR := BR.drew
        replace T0 := T0.drew
        replace K0 := K0.drew
        replace r0 := r0.drew
        replace X0 := X0.drew
        have hdrS : ∀ W : World, W.drew.heap.size = W.heap.size := fun _ => rfl
        refine wp_region_float (R := RExt B) (base := (u8).heap.size) (Ts := [(40, #[.int .i64 0, .int .i64 0, .int .i64 0, .slice none 0 0, .slice none 0 0, .int .i64 0, .int .i64 0, .int .i64 0])]) [0, 1, 2, 3, 4, 5, 6, 7, 8, 9, 10, 11, 12] (by kernel_rfl) (by kernel_rfl) (RExt.refl B) (fun _ _ _ => RExt.trans) (fun _ _ h => RExt.of_ext h B) (fun _ _ h => h.size) (fun _ _ b _ _ hb hB hR => hB.rext hR (by omega)) (by intro x hx; simp only [List.mem_cons, List.not_mem_nil, or_false] at hx; subst hx; all_goals (intro wS; kernel_rfl)) (by omega) ?_
        have hdrW := hdrS (u8)
        repeat' (first
          | (refine' ChF.pure (v := _) (by rfl) (by rfl) (by rfl) ?_ ?_
             rotate_left
             · (intro wS
                go_simp
                with_reducible rfl)
             (try simp only [Act.put, List.setIfInBounds_toArray, List.set_cons_zero, List.set_cons_succ]))
          | (refine' ChF.quiet (v := _) (by rfl) (by rfl) (by rfl) (by rfl) ?_ ?_
             rotate_left
             · (intro wS hS
                have cS := (BG.rext hS (by omega)).cells
                go_simp
                with_reducible rfl)
             (try simp only [Act.put, List.setIfInBounds_toArray, List.set_cons_zero, List.set_cons_succ]))
          | fail)
        refine ChF.call (by rfl) (by rfl) (by rfl) (by rfl) (by rfl) (by intro wS; go_simp; (constructor <;> rfl)) ?_
        intro u9 e9
        replace BG := BG.ext e9
        replace BR := BR.ext e9
        replace T0 := T0.ext e9
        replace K0 := K0.ext e9
        replace r0 := r0.ext e9
        replace X0 := X0.ext e9
        have z9 := e9.size
        refine (pick_any n0 B _ 15 u9 r0 (by omega) (by omega) (by omega)).mono ?_
        rintro e v9 ⟨px, rfl, px0, px1, q9, h9⟩
        refine ⟨_, rfl, h9, ?_⟩
        (try simp only [Act.put, List.setIfInBounds_toArray, List.set_cons_zero, List.set_cons_succ])
        have z9' := h9.size
        replace BG := BG.rext h9 (by omega)
        replace BR := BR.rext h9 (by omega)
        replace T0 := T0.rext h9 (fun x e => by have := fT x e; omega)
        replace K0 := K0.rext h9 (fun x e => by have := fK x e; omega)
        replace X0 := X0.trans h9
        replace r0 := q9
        clear q9 e9 h9
        have hwr : IntKind.i64.wrap ((g).now + px) = (g).now + px := IntWalk.i64_in _ (by omega)
        repeat' (first
          | (refine' ChF.pure (v := _) (by rfl) (by rfl) (by rfl) ?_ ?_
             rotate_left
             · (intro wS
                go_simp
                with_reducible rfl)
             (try simp only [Act.put, List.setIfInBounds_toArray, List.set_cons_zero, List.set_cons_succ]))
          | (refine' ChF.quiet (v := _) (by rfl) (by rfl) (by rfl) (by rfl) ?_ ?_
             rotate_left
             · (intro wS hS
                have cS := (BG.rext hS (by omega)).cells
                go_simp
                with_reducible rfl)
             (try simp only [Act.put, List.setIfInBounds_toArray, List.set_cons_zero, List.set_cons_succ]))
          | fail)
        refine ChF.call (by rfl) (by rfl) (by rfl) (by rfl) (by rfl) (by intro wS; go_simp; (constructor <;> rfl)) ?_
        intro u10 e10
        replace BG := BG.ext e10
        replace BR := BR.ext e10
        replace T0 := T0.ext e10
        replace K0 := K0.ext e10
        replace r0 := r0.ext e10
        replace X0 := X0.ext e10
        have z10 := e10.size
        clear hwr e10
        refine (spec_TickGate (g) ((g).now + px) ta tn tc ka kn kc u10 T0 K0).mono ?_
        rintro e v10 ⟨pa, pn, pc, ra, rn, rc, rfl, PM, PC, h10⟩
        refine ⟨_, rfl, RExt.of_ext h10 B, ?_⟩
        (try simp only [Act.put, List.setIfInBounds_toArray, List.set_cons_zero, List.set_cons_succ])
        have z10' := h10.size
        replace BG := BG.ext h10
        replace BR := BR.ext h10
        replace T0 := T0.ext h10
        replace K0 := K0.ext h10
        replace r0 := r0.ext h10
        replace X0 := X0.ext h10
        clear h10
        repeat' (first
          | (refine' ChF.pure (v := _) (by rfl) (by rfl) (by rfl) ?_ ?_
             rotate_left
             · (intro wS
                go_simp
                with_reducible rfl)
             (try simp only [Act.put, List.setIfInBounds_toArray, List.set_cons_zero, List.set_cons_succ]))
          | (refine' ChF.quiet (v := _) (by rfl) (by rfl) (by rfl) (by rfl) ?_ ?_
             rotate_left
             · (intro wS hS
                have cS := (BG.rext hS (by omega)).cells
                go_simp
                with_reducible rfl)
             (try simp only [Act.put, List.setIfInBounds_toArray, List.set_cons_zero, List.set_cons_succ]))
          | fail)
        refine ChF.box (by rfl) (by rfl) (by rfl) ?_
        intro v11 b8 h11 hb8 B8
        replace B8 : Blk v11 b8 40 #[.int .i64 0, .int .i64 0, .int .i64 0, .slice none 0 0, .slice none 0 0, .int .i64 0, .int .i64 0, .int .i64 0] := B8
        (try simp only [Act.put, List.setIfInBounds_toArray, List.set_cons_zero, List.set_cons_succ])
        have z11 := h11.size
        have lPM := PM.lt
        have lPC := PC.lt
        replace BG := BG.ext h11
        replace BR := BR.ext h11
        replace T0 := T0.ext h11
        replace K0 := K0.ext h11
        replace PM := PM.ext h11
        replace PC := PC.ext h11
        replace r0 := r0.ext h11
        replace X0 := X0.ext h11
        have nPM := PM.apartB B8 (by decide)
        have nPC := PC.apartB B8 (by decide)
        generalize hto : tickGate (g) ((g).now + px) = to at *
        obtain ⟨H2, hH2⟩ : ∃ H, H = rT to := ⟨_, rfl⟩
        obtain ⟨ok2, hok2⟩ : ∃ ok, ok = to.isSome := ⟨_, rfl⟩
        rw [← hH2, ← hok2]
        rw [← hH2] at PM PC
        replace hH2 := Lib.hid hH2
        replace hok2 := Lib.hid hok2
        replace hto := Lib.hid hto
        have c8 := B8.cells
        have f8 := B8.frozens
        refine ChF.storeP (fun W => RExt b8 v11 W ∧ Blk W b8 40 (#[.int .i64 H2.net.base, .int .i64 H2.net.bits, .int .i64 H2.out, .slice pa pn pc, .slice ra rn rc, .int .i64 H2.filter, .int .i64 H2.hold, .int .i64 H2.now])) (by rfl) (by rfl) (by rfl) ⟨_, (by go_simp; rfl), (by simp [World.setCell]), (by repeat (first | (with_reducible exact RExt.refl _ _) | (with_reducible refine RExt.putc ?_ _ _))), (by exact B8.put8 _ _ _ _ _ _ _ _)⟩ ?_
        (try simp only [Act.put, List.setIfInBounds_toArray, List.set_cons_zero, List.set_cons_succ])
        rintro v12 s12 ⟨x12, B8'⟩
        clear c8 f8 B8
        replace BG := BG.rext x12 (by omega)
        replace BR := BR.rext x12 (by omega)
        replace T0 := T0.rextFar x12 (fun hn x e => by have := lT8 hn x e; omega)
        replace K0 := K0.rextFar x12 (fun hn x e => by have := lK8 hn x e; omega)
        replace PM := PM.rext x12 nPM
        replace PC := PC.rext x12 nPC
        replace r0 := r0.rextNew x12 (by omega)
        replace X0 := X0.rextNew x12 (by omega)
        clear x12
        have c8 := B8'.cells
        have cG := BG.cells
        have fG := BG.frozens
        have z8 := B8'.lt
        have zG := BG.lt
        repeat' (first
          | (refine' ChF.pure (v := _) (by rfl) (by rfl) (by rfl) ?_ ?_
             rotate_left
             · (intro wS
                go_simp
                with_reducible rfl)
             (try simp only [Act.put, List.setIfInBounds_toArray, List.set_cons_zero, List.set_cons_succ]))
          | (refine' ChF.quiet (v := _) (by rfl) (by rfl) (by rfl) (by rfl) ?_ ?_
             rotate_left
             · (intro wS hS
                skip
                go_simp
                with_reducible rfl)
             (try simp only [Act.put, List.setIfInBounds_toArray, List.set_cons_zero, List.set_cons_succ]))
          | fail)
        refine ChF.nil ?_
        cases ok2 with
        | false =>
          go_wp2_with fail
          go_roundw
          case rel => exact ⟨k - 1, g, _, _, _, _, _, _, by omega, (by rw [show ((k : Int) - 1) = ((k - 1 : Nat) : Int) by omega]), BR, BG, T0, K0, lT, lK, now0, now1, fT, fK, r0.mono (by omega), X0⟩
          case measure => simp [intOf]; omega
        | true =>
          have hf : VGate H2 ∧ 0 ≤ H2.now ∧ H2.now ≤ 10000 := by
            have h1 := hok2.out
            have h2 := hH2.out
            have h3 := hto.out
            cases to with
            | none => cases h1
            | some y =>
              subst h2
              exact tickGate_facts h3
          go_wp2_with fail
          go_roundw
          case rel =>
            refine ⟨k - 1, H2, pa, pn, pc, ra, rn, rc, by omega, (by rw [show ((k : Int) - 1) = ((k - 1 : Nat) : Int) by omega]), ?_, ?_, ?_, ?_, table_len hf.1.tab, cons_len hf.1.con, hf.2.1, hf.2.2, (fun x e => by have := lPM x e; omega), (fun x e => by have := lPC x e; omega), ?_, ?_⟩
            · repeat (refine Blk.far ?_ (by simp only []; omega) _)
              exact BR
            · exact BG.put8 _ _ _ _ _ _ _ _
            · repeat (refine Sl.setCell ?_ (fun y hy => by have := lPM y hy; simp only []; omega) _)
              exact PM.sl encM_len
            · repeat (refine Sl.setCell ?_ (fun y hy => by have := lPC y hy; simp only []; omega) _)
              exact PC.sl encC_len
            · exact (by exact (r0.mono (show m + 4 + 5 * (12 - k) + 2 + 2 + 1 ≤ m + 4 + 5 * (12 - (k - 1 : Nat)) by omega)).to (by repeat (first | (with_reducible exact Since.refl (r0.mono (show m + 4 + 5 * (12 - k) + 2 + 2 + 1 ≤ m + 4 + 5 * (12 - (k - 1 : Nat)) by omega)).le) | (with_reducible refine Since.alloc ?_ _) | (with_reducible refine Since.drew ?_) | (with_reducible refine Since.drewN ?_ _) | (with_reducible refine Since.setCell ?_ ?_ _; rotate_left; (simp only []; omega)) | (with_reducible refine Since.ext ?_ (by assumption)))))
            · exact (by repeat (first | (with_reducible exact RExt.refl _ _) | (with_reducible assumption) | (with_reducible refine RExt.alloc ?_ _) | (with_reducible refine RExt.drewN ?_ _) | (with_reducible refine RExt.drew ?_) | (with_reducible refine RExt.setCell ?_ (.inr ?_) _; rotate_left; (simp only []; omega)) | (with_reducible refine RExt.trans ?_ (by assumption)) | (with_reducible refine RExt.ext ?_ (by assumption))))
          case measure => simp [intOf]; omega
      | true =>
        have hf : VGate H ∧ H.now = g.now := by
          have h1 := hok.out
          have h2 := hH.out
          have h3 := hso.out
          cases so with
          | none => cases h1
          | some y =>
            subst h2
            exact sendOut_facts h3
        replace hf := Lib.hid hf
        go_wp2_with fail
        replace hf := hf.out
        clear T0 K0 lT lK fT fK cG fG
        have T0 := OM.sl encM_len
        have K0 := OC.sl encC_len
        have lT := table_len hf.1.tab
        have lK := cons_len hf.1.con
        have now2 := hf.2
        replace now0 : 0 ≤ H.now := by omega
        replace now1 : H.now ≤ 10000 := by omega
        clear now2 hf
        have fT : ∀ x, sa = some x → w.heap.size < x.block ∧ x.block ≠ G := fun x e => by have := lM x e; omega
        have fK : ∀ x, qa = some x → w.heap.size < x.block ∧ x.block ≠ G := fun x e => by have := lC x e; omega
        clear OM OC lM lC
        have lT8 := fun (h : 0 < sn) => T0.lt h
        have lK8 := fun (h : 0 < kn') => K0.lt h
        clear c6 B6'
        refine wp_gen (fun W => RExt G v7 W ∧ Blk W G 40 (#[.int .i64 H.net.base, .int .i64 H.net.bits, .int .i64 H.out, .slice sa sn sc, .slice qa kn' qc, .int .i64 H.filter, .int .i64 H.hold, .int .i64 H.now])) ⟨(by repeat (first | (with_reducible exact RExt.refl _ _) | (with_reducible refine RExt.putc ?_ _ _))), by exact BG.put8 _ _ _ _ _ _ _ _⟩ ?_
        rintro u8 ⟨x8, BG⟩
        have s8 := x8.size
        replace BR := BR.rext x8 (by omega)
        replace T0 := T0.rext x8 (fun x e => (fT x e).2)
        replace K0 := K0.rext x8 (fun x e => (fK x e).2)
        replace r0 := r0.rextNew x8 (by omega)
        replace X0 := X0.rextNew x8 (by omega)
        have hB8 : B < u8.heap.size := by omega
        clear x8
        replace BG := BG.drew
        replace BR := BR.drew
        replace T0 := T0.drew
        replace K0 := K0.drew
        replace r0 := r0.drew
        replace X0 := X0.drew
        have hdrS : ∀ W : World, W.drew.heap.size = W.heap.size := fun _ => rfl
        refine wp_region_float (R := RExt B) (base := (u8).heap.size) (Ts := [(40, #[.int .i64 0, .int .i64 0, .int .i64 0, .slice none 0 0, .slice none 0 0, .int .i64 0, .int .i64 0, .int .i64 0])]) [0, 1, 2, 3, 4, 5, 6, 7, 8, 9, 10, 11, 12] (by kernel_rfl) (by kernel_rfl) (RExt.refl B) (fun _ _ _ => RExt.trans) (fun _ _ h => RExt.of_ext h B) (fun _ _ h => h.size) (fun _ _ b _ _ hb hB hR => hB.rext hR (by omega)) (by intro x hx; simp only [List.mem_cons, List.not_mem_nil, or_false] at hx; subst hx; all_goals (intro wS; kernel_rfl)) (by omega) ?_
        have hdrW := hdrS (u8)
        repeat' (first
          | (refine' ChF.pure (v := _) (by rfl) (by rfl) (by rfl) ?_ ?_
             rotate_left
             · (intro wS
                go_simp
                with_reducible rfl)
             (try simp only [Act.put, List.setIfInBounds_toArray, List.set_cons_zero, List.set_cons_succ]))
          | (refine' ChF.quiet (v := _) (by rfl) (by rfl) (by rfl) (by rfl) ?_ ?_
             rotate_left
             · (intro wS hS
                have cS := (BG.rext hS (by omega)).cells
                go_simp
                with_reducible rfl)
             (try simp only [Act.put, List.setIfInBounds_toArray, List.set_cons_zero, List.set_cons_succ]))
          | fail)
        refine ChF.call (by rfl) (by rfl) (by rfl) (by rfl) (by rfl) (by intro wS; go_simp; (constructor <;> rfl)) ?_
        intro u9 e9
        replace BG := BG.ext e9
        replace BR := BR.ext e9
        replace T0 := T0.ext e9
        replace K0 := K0.ext e9
        replace r0 := r0.ext e9
        replace X0 := X0.ext e9
        have z9 := e9.size
        refine (pick_any n0 B _ 15 u9 r0 (by omega) (by omega) (by omega)).mono ?_
        rintro e v9 ⟨px, rfl, px0, px1, q9, h9⟩
        refine ⟨_, rfl, h9, ?_⟩
        (try simp only [Act.put, List.setIfInBounds_toArray, List.set_cons_zero, List.set_cons_succ])
        have z9' := h9.size
        replace BG := BG.rext h9 (by omega)
        replace BR := BR.rext h9 (by omega)
        replace T0 := T0.rext h9 (fun x e => by have := fT x e; omega)
        replace K0 := K0.rext h9 (fun x e => by have := fK x e; omega)
        replace X0 := X0.trans h9
        replace r0 := q9
        clear q9 e9 h9
        have hwr : IntKind.i64.wrap ((H).now + px) = (H).now + px := IntWalk.i64_in _ (by omega)
        repeat' (first
          | (refine' ChF.pure (v := _) (by rfl) (by rfl) (by rfl) ?_ ?_
             rotate_left
             · (intro wS
                go_simp
                with_reducible rfl)
             (try simp only [Act.put, List.setIfInBounds_toArray, List.set_cons_zero, List.set_cons_succ]))
          | (refine' ChF.quiet (v := _) (by rfl) (by rfl) (by rfl) (by rfl) ?_ ?_
             rotate_left
             · (intro wS hS
                have cS := (BG.rext hS (by omega)).cells
                go_simp
                with_reducible rfl)
             (try simp only [Act.put, List.setIfInBounds_toArray, List.set_cons_zero, List.set_cons_succ]))
          | fail)
        refine ChF.call (by rfl) (by rfl) (by rfl) (by rfl) (by rfl) (by intro wS; go_simp; (constructor <;> rfl)) ?_
        intro u10 e10
        replace BG := BG.ext e10
        replace BR := BR.ext e10
        replace T0 := T0.ext e10
        replace K0 := K0.ext e10
        replace r0 := r0.ext e10
        replace X0 := X0.ext e10
        have z10 := e10.size
        clear hwr e10
        refine (spec_TickGate (H) ((H).now + px) sa sn sc qa kn' qc u10 T0 K0).mono ?_
        rintro e v10 ⟨pa, pn, pc, ra, rn, rc, rfl, PM, PC, h10⟩
        refine ⟨_, rfl, RExt.of_ext h10 B, ?_⟩
        (try simp only [Act.put, List.setIfInBounds_toArray, List.set_cons_zero, List.set_cons_succ])
        have z10' := h10.size
        replace BG := BG.ext h10
        replace BR := BR.ext h10
        replace T0 := T0.ext h10
        replace K0 := K0.ext h10
        replace r0 := r0.ext h10
        replace X0 := X0.ext h10
        clear h10
        repeat' (first
          | (refine' ChF.pure (v := _) (by rfl) (by rfl) (by rfl) ?_ ?_
             rotate_left
             · (intro wS
                go_simp
                with_reducible rfl)
             (try simp only [Act.put, List.setIfInBounds_toArray, List.set_cons_zero, List.set_cons_succ]))
          | (refine' ChF.quiet (v := _) (by rfl) (by rfl) (by rfl) (by rfl) ?_ ?_
             rotate_left
             · (intro wS hS
                have cS := (BG.rext hS (by omega)).cells
                go_simp
                with_reducible rfl)
             (try simp only [Act.put, List.setIfInBounds_toArray, List.set_cons_zero, List.set_cons_succ]))
          | fail)
        refine ChF.box (by rfl) (by rfl) (by rfl) ?_
        intro v11 b8 h11 hb8 B8
        replace B8 : Blk v11 b8 40 #[.int .i64 0, .int .i64 0, .int .i64 0, .slice none 0 0, .slice none 0 0, .int .i64 0, .int .i64 0, .int .i64 0] := B8
        (try simp only [Act.put, List.setIfInBounds_toArray, List.set_cons_zero, List.set_cons_succ])
        have z11 := h11.size
        have lPM := PM.lt
        have lPC := PC.lt
        replace BG := BG.ext h11
        replace BR := BR.ext h11
        replace T0 := T0.ext h11
        replace K0 := K0.ext h11
        replace PM := PM.ext h11
        replace PC := PC.ext h11
        replace r0 := r0.ext h11
        replace X0 := X0.ext h11
        have nPM := PM.apartB B8 (by decide)
        have nPC := PC.apartB B8 (by decide)
        generalize hto : tickGate (H) ((H).now + px) = to at *
        obtain ⟨H2, hH2⟩ : ∃ H, H = rT to := ⟨_, rfl⟩
        obtain ⟨ok2, hok2⟩ : ∃ ok, ok = to.isSome := ⟨_, rfl⟩
        rw [← hH2, ← hok2]
        rw [← hH2] at PM PC
        replace hH2 := Lib.hid hH2
        replace hok2 := Lib.hid hok2
        replace hto := Lib.hid hto
        have c8 := B8.cells
        have f8 := B8.frozens
        refine ChF.storeP (fun W => RExt b8 v11 W ∧ Blk W b8 40 (#[.int .i64 H2.net.base, .int .i64 H2.net.bits, .int .i64 H2.out, .slice pa pn pc, .slice ra rn rc, .int .i64 H2.filter, .int .i64 H2.hold, .int .i64 H2.now])) (by rfl) (by rfl) (by rfl) ⟨_, (by go_simp; rfl), (by simp [World.setCell]), (by repeat (first | (with_reducible exact RExt.refl _ _) | (with_reducible refine RExt.putc ?_ _ _))), (by exact B8.put8 _ _ _ _ _ _ _ _)⟩ ?_
        (try simp only [Act.put, List.setIfInBounds_toArray, List.set_cons_zero, List.set_cons_succ])
        rintro v12 s12 ⟨x12, B8'⟩
        clear c8 f8 B8
        replace BG := BG.rext x12 (by omega)
        replace BR := BR.rext x12 (by omega)
        replace T0 := T0.rextFar x12 (fun hn x e => by have := lT8 hn x e; omega)
        replace K0 := K0.rextFar x12 (fun hn x e => by have := lK8 hn x e; omega)
        replace PM := PM.rext x12 nPM
        replace PC := PC.rext x12 nPC
        replace r0 := r0.rextNew x12 (by omega)
        replace X0 := X0.rextNew x12 (by omega)
        clear x12
        have c8 := B8'.cells
        have cG := BG.cells
        have fG := BG.frozens
        have z8 := B8'.lt
        have zG := BG.lt
        repeat' (first
          | (refine' ChF.pure (v := _) (by rfl) (by rfl) (by rfl) ?_ ?_
             rotate_left
             · (intro wS
                go_simp
                with_reducible rfl)
             (try simp only [Act.put, List.setIfInBounds_toArray, List.set_cons_zero, List.set_cons_succ]))
          | (refine' ChF.quiet (v := _) (by rfl) (by rfl) (by rfl) (by rfl) ?_ ?_
             rotate_left
             · (intro wS hS
                skip
                go_simp
                with_reducible rfl)
             (try simp only [Act.put, List.setIfInBounds_toArray, List.set_cons_zero, List.set_cons_succ]))
          | fail)
        refine ChF.nil ?_
        cases ok2 with
        | false =>
          go_wp2_with fail
          go_roundw
          case rel => exact ⟨k - 1, H, _, _, _, _, _, _, by omega, (by rw [show ((k : Int) - 1) = ((k - 1 : Nat) : Int) by omega]), BR, BG, T0, K0, lT, lK, now0, now1, fT, fK, r0.mono (by omega), X0⟩
          case measure => simp [intOf]; omega
        | true =>
          have hf : VGate H2 ∧ 0 ≤ H2.now ∧ H2.now ≤ 10000 := by
            have h1 := hok2.out
            have h2 := hH2.out
            have h3 := hto.out
            cases to with
            | none => cases h1
            | some y =>
              subst h2
              exact tickGate_facts h3
          go_wp2_with fail
          go_roundw
          case rel =>
            refine ⟨k - 1, H2, pa, pn, pc, ra, rn, rc, by omega, (by rw [show ((k : Int) - 1) = ((k - 1 : Nat) : Int) by omega]), ?_, ?_, ?_, ?_, table_len hf.1.tab, cons_len hf.1.con, hf.2.1, hf.2.2, (fun x e => by have := lPM x e; omega), (fun x e => by have := lPC x e; omega), ?_, ?_⟩
            · repeat (refine Blk.far ?_ (by simp only []; omega) _)
              exact BR
            · exact BG.put8 _ _ _ _ _ _ _ _
            · repeat (refine Sl.setCell ?_ (fun y hy => by have := lPM y hy; simp only []; omega) _)
              exact PM.sl encM_len
            · repeat (refine Sl.setCell ?_ (fun y hy => by have := lPC y hy; simp only []; omega) _)
              exact PC.sl encC_len
            · exact (by exact (r0.mono (show m + 4 + 5 * (12 - k) + 2 + 2 + 1 ≤ m + 4 + 5 * (12 - (k - 1 : Nat)) by omega)).to (by repeat (first | (with_reducible exact Since.refl (r0.mono (show m + 4 + 5 * (12 - k) + 2 + 2 + 1 ≤ m + 4 + 5 * (12 - (k - 1 : Nat)) by omega)).le) | (with_reducible refine Since.alloc ?_ _) | (with_reducible refine Since.drew ?_) | (with_reducible refine Since.drewN ?_ _) | (with_reducible refine Since.setCell ?_ ?_ _; rotate_left; (simp only []; omega)) | (with_reducible refine Since.ext ?_ (by assumption)))))
            · exact (by repeat (first | (with_reducible exact RExt.refl _ _) | (with_reducible assumption) | (with_reducible refine RExt.alloc ?_ _) | (with_reducible refine RExt.drewN ?_ _) | (with_reducible refine RExt.drew ?_) | (with_reducible refine RExt.setCell ?_ (.inr ?_) _; rotate_left; (simp only []; omega)) | (with_reducible refine RExt.trans ?_ (by assumption)) | (with_reducible refine RExt.ext ?_ (by assumption))))
          case measure => simp [intOf]; omega
end Go.Proofs.Ytafmomocmodbhaa
