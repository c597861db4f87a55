/- Contracts of the generators of packets. -/
import Derived.Test.YtdjbjldmlfhigaaGen
namespace Go.Proofs.Ytdjbjldmlfhigaa
open Go.RowKit

set_option maxHeartbeats 1000000 in
theorem somePacket_any (n0 B : Nat) (m : Int) (w : World) (hr : Rd n0 w B m) (hm : m + 98 ≤ 1000000) :
    Calls Try.prog 89 #[.pointer (some ⟨B, 0, none⟩)] w fun e w' => ∃ k fa fp ta tp a n c L, e = .returned (.agg #[.int .i64 k, .int .i64 fa, .int .i64 fp, .int .i64 ta, .int .i64 tp, .slice a n c]) ∧
      Sl encI 1 w' a n c L ∧ validPkt ⟨k, ⟨fa, fp⟩, ⟨ta, tp⟩, L⟩ = true ∧ (∀ x, a = some x → w.heap.size ≤ x.block) ∧ Rd n0 w' B (m + 98) ∧ RExt B w w' := by
  have hnw : n0 ≤ w.heap.size := hr.le
  have hBw : B < w.heap.size := (by have := hr.lt; omega)
  go_enter Try.func89, Try.ntmps89
  go_wp2_with fail
  refine (pick_any n0 B _ 3 _ (by exact hr.to (by repeat (first | (with_reducible exact Since.refl hr.le) | (with_reducible refine Since.alloc ?_ _) | (with_reducible refine Since.drew ?_) | (with_reducible refine Since.drewN ?_ _) | (with_reducible refine Since.setCell ?_ ?_ _; rotate_left; (simp only []; omega)) | (with_reducible refine Since.ext ?_ (by assumption))))) (by omega) (by omega) (by omega)).mono ?_
  rintro e w1 ⟨kd, rfl, kd0, kd1, hr1, hx1⟩
  have hz1 := hx1.size
  simp at hz1
  go_wp2_with fail
  refine (someEnd_any n0 B _ _ (by exact hr1.to (by repeat (first | (with_reducible exact Since.refl hr1.le) | (with_reducible refine Since.alloc ?_ _) | (with_reducible refine Since.drew ?_) | (with_reducible refine Since.drewN ?_ _) | (with_reducible refine Since.setCell ?_ ?_ _; rotate_left; (simp only []; omega)) | (with_reducible refine Since.ext ?_ (by assumption))))) (by omega)).mono ?_
  rintro e w2 ⟨fa, fp, rfl, fa0, fa1, fp0, fp1, hr2, hx2⟩
  have hz2 := hx2.size
  go_wp2_with fail
  refine (someEnd_any n0 B _ _ (by exact hr2.to (by repeat (first | (with_reducible exact Since.refl hr2.le) | (with_reducible refine Since.alloc ?_ _) | (with_reducible refine Since.drew ?_) | (with_reducible refine Since.drewN ?_ _) | (with_reducible refine Since.setCell ?_ ?_ _; rotate_left; (simp only []; omega)) | (with_reducible refine Since.ext ?_ (by assumption))))) (by omega)).mono ?_
  rintro e w3 ⟨ta, tp, rfl, ta0, ta1, tp0, tp1, hr3, hx3⟩
  have hz3 := hx3.size
  go_wp2_with fail
  refine (one_lit n0 B _ _ _ _ _ _ (by exact hr3.to (by repeat (first | (with_reducible exact Since.refl hr3.le) | (with_reducible refine Since.alloc ?_ _) | (with_reducible refine Since.drew ?_) | (with_reducible refine Since.drewN ?_ _) | (with_reducible refine Since.setCell ?_ ?_ _; rotate_left; (simp only []; omega)) | (with_reducible refine Since.ext ?_ (by assumption))))) (by omega) (by simp) (by rfl) (by omega) (by omega) (by simp [intOf])).mono ?_
  rintro e w4 ⟨n, rfl, hm4, hr4, hx4⟩
  simp [intOf] at hm4
  have hz4 := hx4.size
  simp at hz4
  have hn0 : 0 ≤ n := by omega
  have hn1 : n ≤ 12 := by omega
  clear hm4
  have hBR : Blk w4 w.heap.size 48 _ := Blk.rext (Blk.alloc (Blk.alloc (Blk.rext (Blk.rext (Blk.rext (Blk.new w _ _) hx1 (by omega)) hx2 (by omega)) hx3 (by omega)) _) _) hx4 (by omega)
  have hBP : Blk w4 (w3.heap.size + 1) 48 _ := Blk.rext (Blk.newAt _ _ _ (by simp)) hx4 (by omega)
  obtain ⟨P, hP⟩ : ∃ P, P = w3.heap.size + 1 := ⟨_, rfl⟩
  have hPn : w.heap.size < P := by omega
  rw [← hP] at hBP
  have hX4 : RExt B w w4 := (by repeat (first | (with_reducible exact RExt.refl _ _) | (with_reducible assumption) | (with_reducible refine RExt.alloc ?_ _) | (with_reducible refine RExt.drewN ?_ _) | (with_reducible refine RExt.drew ?_) | (with_reducible refine RExt.setCell ?_ (.inr ?_) _; rotate_left; (simp only []; omega)) | (with_reducible refine RExt.trans ?_ (by assumption)) | (with_reducible refine RExt.ext ?_ (by assumption))))
  have hr5 := hr4.mono (show m + 1 + 12 + 12 + 1 ≤ m + 26 by omega)
  go_wp2
  rw [← hP]
  have hw3 : w.heap.size < w3.heap.size := by omega
  clear hx1 hx2 hx3 hx4 hr1 hr2 hr3 hr4 hz1 hz2 hz3 hz4 hP
  go_loopw [4] (fun i wr => ∃ (k : Nat) (a : Option Addr) (l c : Nat) (L : List Int), k ≤ 12 ∧ i = .int .i64 k ∧
      Blk wr w.heap.size 48 #[.int .i64 0, .int .i64 0, .int .i64 0, .int .i64 0, .int .i64 0, .slice none 0 0] ∧
      Blk wr P 48 #[.int .i64 kd, .int .i64 fa, .int .i64 fp, .int .i64 ta, .int .i64 tp, .slice a l c] ∧
      Sl encI 1 wr a l c L ∧ l + k ≤ 12 ∧ L.all word = true ∧ (∀ x, a = some x → w.heap.size < x.block) ∧ Rd n0 wr B (m + 26 + 6 * (12 - k)) ∧ RExt B w wr) (fun i _ => (intOf i).toNat)
  case atStart =>
    obtain ⟨q, rfl⟩ := Int.eq_ofNat_of_zero_le hn0
    exact ⟨q, _, 0, 0, [], by omega, rfl, hBR, hBP, ⟨rfl, Nat.le_refl _, by omega, (fun e => by cases e), (fun h => by omega)⟩, by omega, rfl, (fun x hx => by injection hx with hx; subst hx; simp only []; omega), hr5.mono (by omega), hX4⟩
  case round =>
    obtain ⟨k, a, l, c, L, hk, rfl, hBR, hBP, hs, hlk, hw, hfr, hr, hX⟩ := hrel
    have hsz := hX.size
    have hPl := hBP.lt
    have hBl := hBw
    have hle := hs.le
    have hmax := hs.max
    by_cases hk0 : k = 0
    · subst hk0
      have hcR := hBR.cells
      have hfR := hBR.frozens
      have hcP := hBP.cells
      go_wp2
      refine' bodyPost_ret (v := _) ?_ rfl ?_
      rotate_left
      · (simp only [results, Try.results89]
         go_simp
         rfl)
      refine ⟨kd, fa, fp, ta, tp, a, l, c, L, rfl, ?_, ?_, (fun x hx => by have := hfr x hx; omega), ?_, ?_⟩
      · repeat (refine Sl.setCell ?_ (fun y hy => by have := hfr y hy; simp only []; omega) _)
        exact hs
      · have hlen := hs.len
        simp only [validPkt, validEnd, word_iff, inR_iff, Bool.and_eq_true, decide_eq_true_eq]
        refine ⟨⟨⟨⟨?_, ?_⟩, ?_⟩, ?_⟩, hw⟩ <;> omega
      · exact (Rd.mono hr (by omega)).to (by repeat (first | (with_reducible exact Since.refl hr.le) | (with_reducible refine Since.alloc ?_ _) | (with_reducible refine Since.drew ?_) | (with_reducible refine Since.drewN ?_ _) | (with_reducible refine Since.setCell ?_ ?_ _; rotate_left; (simp only []; omega)) | (with_reducible refine Since.ext ?_ (by assumption))))
      · exact (by repeat (first | (with_reducible exact RExt.refl _ _) | (with_reducible assumption) | (with_reducible refine RExt.alloc ?_ _) | (with_reducible refine RExt.drewN ?_ _) | (with_reducible refine RExt.drew ?_) | (with_reducible refine RExt.setCell ?_ (.inr ?_) _; rotate_left; (simp only []; omega)) | (with_reducible refine RExt.trans ?_ (by assumption)) | (with_reducible refine RExt.ext ?_ (by assumption))))
    · have hkp : (0 : Int) < (k : Int) := by omega
      have hcP := hBP.cells
      go_wp2_with fail
      refine (spec_copyInts a l c L _ hs (by omega)).mono ?_
      rintro e v1 ⟨a1, c1, rfl, hown1, hy1⟩
      have hs1 := hy1.size
      clear hcP
      go_wp2_with fail
      refine (someWord_any n0 B _ _ (hr.ext hy1) (by omega)).mono ?_
      rintro e v2 ⟨x, rfl, x0, x1, hr2, hy2⟩
      have hs2 := hy2.size
      have hlt1 := hown1.lt
      have hown2 := World.ownsRow.kept hown1 hy2 (by
        cases ha : (Value.slice a1 l c1).ownBlock with
        | none => exact .inl rfl
        | some g => right; intro e; injection e with e; have := (hlt1 g ha).1; omega)
      go_wp2_with (at_builtin; refine wpList_append_sl _ rfl _ _ rfl eiI encI_len encI_one wr.heap.size (.slice a1 l c1) l (L.flatMap encI) rfl (hown2.alloc _) _ 1 1 [x] rfl (by exact Sl.lit _ _ [x] rfl) (by simp only [maxLen]; omega) (by omega) (by simp; omega) ?_; intro a3 c3 v3 hown3 hg3 hat3; have hBP3 := Blk.grown (((hBP.ext hy1).rext hy2 (by omega)).alloc _) hg3 (by intro e; have := (hlt1 P e.symm).1; omega); have hcP := hBP3.cells; have hfP := hBP3.frozens)
      have how3 : Ow 3 encI 1 wr.heap.size v3 a3 (l + 1) c3 (L ++ [x]) := Ow.of_row (by simpa using hown3) encI_len (by omega)
      have hlt3 := how3.lt
      have hX3 : RExt B w v3 := by
        have h1 : RExt B w (v2.alloc (Obj.cells #[Value.int IntKind.i64 x] 3)) := ((hX.ext hy1).trans hy2).alloc _
        refine ⟨(World.grownBy.os hg3).trans (World.grownBy.os h1), (World.grownBy.tape hg3).trans (World.grownBy.tape h1), (World.grownBy.output hg3).trans (World.grownBy.output h1), Nat.le_trans h1.size hg3.size, fun i hi hne => ?_⟩
        have hsz1 := h1.size
        exact (hg3.block i (by omega) (by intro e; have := (hlt1 i e.symm).1; omega)).trans (World.grownBy.block h1 i hi hne)
      have hr3 : Rd n0 v3 B (m + 26 + 6 * (12 - k) + 5) := by
        refine (hr2.alloc (Obj.cells #[Value.int IntKind.i64 x] 3)).keep hg3.size fun i hi => ?_
        have := hr2.le
        exact hg3.block i (by simp; omega) (by intro e; have := (hlt1 i e.symm).1; omega)
      go_roundw
      case rel =>
        refine ⟨k - 1, a3, l + 1, c3, L ++ [x], by omega, ?_, ?_, ?_, ?_, by omega, ?_, ?_, ?_, ?_⟩
        · rw [show ((k : Int) - 1) = ((k - 1 : Nat) : Int) by omega]
        · exact Blk.far (Blk.grown (((hBR.ext hy1).rext hy2 (by omega)).alloc _) hg3 (by intro e; have := (hlt1 w.heap.size e.symm).1; omega)) (by simp only []; omega) _
        · exact hBP3.set 5 _
        · exact (how3.sl encI_len).setCell (fun y hy => by have := (hlt3 y hy).1; simp only []; omega) _
        · rw [List.all_append, hw]; simp [word, inR, x0, x1]
        · intro y hy
          have := (hlt3 y hy).1
          omega
        · exact (hr3.mono (by omega)).setCell (by simp only []; omega) _
        · exact hX3.setCell (.inr (by simp only []; omega)) _
      case measure => simp [intOf]; omega
end Go.Proofs.Ytdjbjldmlfhigaa
