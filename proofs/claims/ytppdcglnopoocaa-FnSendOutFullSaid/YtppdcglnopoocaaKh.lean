/- The words, laws and contracts that the claims of this seat share: group h. No condition. -/
import Derived.Test.YtppdcglnopoocaaKe
import Derived.Test.YtppdcglnopoocaaKf
import Derived.Test.YtppdcglnopoocaaKd
/- Contracts of the generators of gates. -/
namespace Go.Proofs.Ytppdcglnopoocaa
set_option linter.unusedVariables false
set_option linter.unusedSimpArgs false
open Go.RowKit

theorem RExt.rextNew {B C : Nat} {a b c : World} (h : RExt B a b) (k : RExt C b c) (hC : a.heap.size ≤ C) : RExt B a c :=
  ⟨(World.grownBy.os k).trans (World.grownBy.os h), (World.grownBy.tape k).trans (World.grownBy.tape h), (World.grownBy.output k).trans (World.grownBy.output h), Nat.le_trans h.size k.size,
    fun i hi hne => (World.grownBy.block k i (Nat.lt_of_lt_of_le hi h.size) (by intro e; injection e with e; omega)).trans (World.grownBy.block h i hi hne)⟩
theorem Rd.rextNew {n0 : Nat} {w w' : World} {B C : Nat} {m : Int} (h : Rd n0 w B m) (k : RExt C w w') (hC : n0 ≤ C) : Rd n0 w' B m :=
  h.keep k.size fun i hi => k.block i (by have := h.le; omega) (by omega)
set_option maxHeartbeats 4000000 in
theorem someGate_any (n0 B : Nat) (m : Int) (w : World) (hr : Rd n0 w B m) (hm : m + 64 ≤ 1000000) :
    Calls Try.prog 115 #[.pointer (some ⟨B, 0, none⟩)] w fun e w' => ∃ (g : GateD) (ta : Option Addr) (tn tc : Nat) (ka : Option Addr) (kn kc : Nat), e = .returned (.agg #[.int .i64 g.net.base, .int .i64 g.net.bits, .int .i64 g.out, .slice ta tn tc, .slice ka kn kc, .int .i64 g.filter, .int .i64 g.hold, .int .i64 g.now]) ∧ Sl encM 4 w' ta tn tc g.table ∧ Sl encC 3 w' ka kn kc g.cons ∧
      tn ≤ 8 ∧ kn ≤ 10 ∧ 0 ≤ g.now ∧ g.now ≤ 10000 ∧ (∀ x, ta = some x → w.heap.size ≤ x.block) ∧ (∀ x, ka = some x → w.heap.size ≤ x.block) ∧ Rd n0 w' B (m + 64) ∧ RExt B w w' := by
  have hnw : n0 ≤ w.heap.size := hr.le
  have hBw : B < w.heap.size := (by have := hr.lt; omega)
  go_enter Try.func115, Try.ntmps115
  go_wp2_with fail
  refine (one_lit n0 B _ _ _ _ _ _ (by exact hr.to (by repeat (first | (with_reducible exact Since.refl hr.le) | (with_reducible refine Since.alloc ?_ _) | (with_reducible refine Since.drew ?_) | (with_reducible refine Since.drewN ?_ _) | (with_reducible refine Since.setCell ?_ ?_ _; rotate_left; (simp only []; omega)) | (with_reducible refine Since.ext ?_ (by assumption))))) (by omega) (by simp) (by rfl) (by omega) (by omega) (by simp [intOf])).mono ?_
  rintro e w1 ⟨bits, rfl, _, hr1, hx1⟩
  have hz1 := hx1.size
  (try simp at hz1)
  have hBR1 : Blk w1 w.heap.size 28 #[.int .i64 0, .int .i64 0, .int .i64 0, .slice none 0 0, .slice none 0 0, .int .i64 0, .int .i64 0, .int .i64 0] := by refine Blk.rext ?_ hx1 (by omega); exact (by repeat (first | (with_reducible assumption) | (with_reducible exact Blk.new _ _ _) | exact Blk.newAt _ _ _ (by simp) | (with_reducible refine Blk.alloc ?_ _) | (with_reducible refine Blk.drew ?_) | (with_reducible refine Blk.drewN ?_ _) | refine Blk.far ?_ (by simp only []; omega) _ | refine Blk.rext ?_ (by assumption) (by omega) | refine Blk.ext ?_ (by assumption)))
  go_wp2_with fail
  refine (pick_any n0 B _ 3 _ (by exact hr1.to (by repeat (first | (with_reducible exact Since.refl hr1.le) | (with_reducible refine Since.alloc ?_ _) | (with_reducible refine Since.drew ?_) | (with_reducible refine Since.drewN ?_ _) | (with_reducible refine Since.setCell ?_ ?_ _; rotate_left; (simp only []; omega)) | (with_reducible refine Since.ext ?_ (by assumption))))) (by omega) (by omega) (by omega)).mono ?_
  rintro e w2 ⟨fl, rfl, _, _, hr2, hx2⟩
  have hz2 := hx2.size
  (try simp at hz2)
  have hBR2 : Blk w2 w.heap.size 28 #[.int .i64 0, .int .i64 0, .int .i64 0, .slice none 0 0, .slice none 0 0, .int .i64 0, .int .i64 0, .int .i64 0] := by refine Blk.rext ?_ hx2 (by omega); exact (by repeat (first | (with_reducible assumption) | (with_reducible exact Blk.new _ _ _) | exact Blk.newAt _ _ _ (by simp) | (with_reducible refine Blk.alloc ?_ _) | (with_reducible refine Blk.drew ?_) | (with_reducible refine Blk.drewN ?_ _) | refine Blk.far ?_ (by simp only []; omega) _ | refine Blk.rext ?_ (by assumption) (by omega) | refine Blk.ext ?_ (by assumption)))
  go_wp2_with fail
  refine (one_lit n0 B _ _ _ _ _ _ (by exact hr2.to (by repeat (first | (with_reducible exact Since.refl hr2.le) | (with_reducible refine Since.alloc ?_ _) | (with_reducible refine Since.drew ?_) | (with_reducible refine Since.drewN ?_ _) | (with_reducible refine Since.setCell ?_ ?_ _; rotate_left; (simp only []; omega)) | (with_reducible refine Since.ext ?_ (by assumption))))) (by omega) (by simp) (by rfl) (by omega) (by omega) (by simp [intOf])).mono ?_
  rintro e w3 ⟨hd, rfl, _, hr3, hx3⟩
  have hz3 := hx3.size
  (try simp at hz3)
  have hBR3 : Blk w3 w.heap.size 28 #[.int .i64 0, .int .i64 0, .int .i64 0, .slice none 0 0, .slice none 0 0, .int .i64 0, .int .i64 0, .int .i64 0] := by refine Blk.rext ?_ hx3 (by omega); exact (by repeat (first | (with_reducible assumption) | (with_reducible exact Blk.new _ _ _) | exact Blk.newAt _ _ _ (by simp) | (with_reducible refine Blk.alloc ?_ _) | (with_reducible refine Blk.drew ?_) | (with_reducible refine Blk.drewN ?_ _) | refine Blk.far ?_ (by simp only []; omega) _ | refine Blk.rext ?_ (by assumption) (by omega) | refine Blk.ext ?_ (by assumption)))
  go_wp2_with fail
  refine (one_lit n0 B _ _ _ _ _ _ (by exact hr3.to (by repeat (first | (with_reducible exact Since.refl hr3.le) | (with_reducible refine Since.alloc ?_ _) | (with_reducible refine Since.drew ?_) | (with_reducible refine Since.drewN ?_ _) | (with_reducible refine Since.setCell ?_ ?_ _; rotate_left; (simp only []; omega)) | (with_reducible refine Since.ext ?_ (by assumption))))) (by omega) (by simp) (by rfl) (by omega) (by omega) (by simp [intOf])).mono ?_
  rintro e w4 ⟨n, rfl, hm4, hr4, hx4⟩
  simp [intOf] at hm4
  have hz4 := hx4.size
  (try simp at hz4)
  have hn0 : 0 ≤ n := by omega
  have hn1 : n ≤ 12 := by omega
  clear hm4
  have hBR : Blk w4 w.heap.size 28 #[.int .i64 0, .int .i64 0, .int .i64 0, .slice none 0 0, .slice none 0 0, .int .i64 0, .int .i64 0, .int .i64 0] := by refine Blk.rext ?_ hx4 (by omega); exact (by repeat (first | (with_reducible assumption) | (with_reducible exact Blk.new _ _ _) | exact Blk.newAt _ _ _ (by simp) | (with_reducible refine Blk.alloc ?_ _) | (with_reducible refine Blk.drew ?_) | (with_reducible refine Blk.drewN ?_ _) | refine Blk.far ?_ (by simp only []; omega) _ | refine Blk.rext ?_ (by assumption) (by omega) | refine Blk.ext ?_ (by assumption)))
  obtain ⟨G, hG⟩ : ∃ G, G = w3.heap.size := ⟨_, rfl⟩
  have hBG : Blk w4 G 28 (#[.int .i64 (⟨⟨2560, bits⟩, 51457, [], [], fl, hd, 0⟩ : GateD).net.base, .int .i64 (⟨⟨2560, bits⟩, 51457, [], [], fl, hd, 0⟩ : GateD).net.bits, .int .i64 (⟨⟨2560, bits⟩, 51457, [], [], fl, hd, 0⟩ : GateD).out, .slice (some ⟨w1.heap.size, 0, none⟩) 0 0, .slice (some ⟨w1.heap.size + 1, 0, none⟩) 0 0, .int .i64 (⟨⟨2560, bits⟩, 51457, [], [], fl, hd, 0⟩ : GateD).filter, .int .i64 (⟨⟨2560, bits⟩, 51457, [], [], fl, hd, 0⟩ : GateD).hold, .int .i64 (⟨⟨2560, bits⟩, 51457, [], [], fl, hd, 0⟩ : GateD).now]) := by
    rw [hG]
    exact Blk.rext (Blk.newAt _ _ _ (by simp)) hx4 (by omega)
  have hX4 : RExt B w w4 := (by repeat (first | (with_reducible exact RExt.refl _ _) | (with_reducible assumption) | (with_reducible refine RExt.alloc ?_ _) | (with_reducible refine RExt.drewN ?_ _) | (with_reducible refine RExt.drew ?_) | (with_reducible refine RExt.setCell ?_ (.inr ?_) _; rotate_left; (simp only []; omega)) | (with_reducible refine RExt.trans ?_ (by assumption)) | (with_reducible refine RExt.ext ?_ (by assumption))))
  have hr5 := hr4.mono (show m + 1 + 1 + 1 + 1 ≤ m + 4 by omega)
  have hGn : w.heap.size < G := by omega
  have hG2 : w1.heap.size + 1 < G := by omega
  go_wp2
  rw [← hG]
  have hw1 : w.heap.size < w1.heap.size := by omega
  clear hx1 hx2 hx3 hx4 hr1 hr2 hr3 hr4 hz1 hz2 hz3 hz4 hG hBR1 hBR2 hBR3
  go_loopw [4] (fun i wr => ∃ (k : Nat) (g : GateD) (ta : Option Addr) (tn tc : Nat) (ka : Option Addr) (kn kc : Nat), k ≤ 12 ∧ i = .int .i64 k ∧ Blk wr w.heap.size 28 #[.int .i64 0, .int .i64 0, .int .i64 0, .slice none 0 0, .slice none 0 0, .int .i64 0, .int .i64 0, .int .i64 0] ∧ Blk wr G 28 (#[.int .i64 g.net.base, .int .i64 g.net.bits, .int .i64 g.out, .slice ta tn tc, .slice ka kn kc, .int .i64 g.filter, .int .i64 g.hold, .int .i64 g.now]) ∧
    Sl encM 4 wr ta tn tc g.table ∧ Sl encC 3 wr ka kn kc g.cons ∧ g.table.length ≤ 8 ∧ g.cons.length ≤ 10 ∧ 0 ≤ g.now ∧ g.now ≤ 10000 ∧ (∀ x, ta = some x → w.heap.size < x.block ∧ x.block ≠ G) ∧ (∀ x, ka = some x → w.heap.size < x.block ∧ x.block ≠ G) ∧
    Rd n0 wr B (m + 4 + 5 * (12 - k)) ∧ RExt B w wr) (fun i _ => (intOf i).toNat)
  case atStart =>
    obtain ⟨q, rfl⟩ := Int.eq_ofNat_of_zero_le hn0
    exact ⟨q, ⟨⟨2560, bits⟩, 51457, [], [], fl, hd, 0⟩, _, 0, 0, _, 0, 0, by omega, rfl, hBR, hBG, ⟨rfl, Nat.le_refl _, by omega, (fun e => by cases e), (fun h => by omega)⟩, ⟨rfl, Nat.le_refl _, by omega, (fun e => by cases e), (fun h => by omega)⟩, by simp, by simp, by simp, by simp, (fun x hx => by injection hx with hx; subst hx; simp only []; omega), (fun x hx => by injection hx with hx; subst hx; simp only []; omega), hr5.mono (by omega), hX4⟩
  case round =>
    obtain ⟨k, g, ta, tn, tc, ka, kn, kc, hk, rfl, BR, BG, T0, K0, lT, lK, now0, now1, fT, fK, r0, X0⟩ := hrel
    have hsz := X0.size
    have hGl := BG.lt
    clear hBR hBG hr5 hX4
    have lT0 := fun (h : 0 < tn) => T0.lt h
    have lK0 := fun (h : 0 < kn) => K0.lt h
    by_cases hk0 : k = 0
    · subst hk0
      have cR := BR.cells
      have fR := BR.frozens
      have cG := BG.cells
      go_wp2
      refine' bodyPost_ret (v := _) ?_ rfl ?_
      rotate_left
      · (simp only [results, Try.results115]
         go_simp
         rfl)
      refine ⟨g, ta, tn, tc, ka, kn, kc, rfl, ?_, ?_, ?_, ?_, now0, now1, (fun x e => by have := fT x e; omega), (fun x e => by have := fK x e; omega), ?_, ?_⟩
      · repeat (refine Sl.setCell ?_ (fun y hy => by have := fT y hy; simp only []; omega) _)
        exact T0
      · repeat (refine Sl.setCell ?_ (fun y hy => by have := fK y hy; simp only []; omega) _)
        exact K0
      · have := T0.len; omega
      · have := K0.len; omega
      · exact (by exact (r0.mono (show m + 4 + 5 * (12 - (0 : Nat)) ≤ m + 64 by omega)).to (by repeat (first | (with_reducible exact Since.refl (r0.mono (show m + 4 + 5 * (12 - (0 : Nat)) ≤ m + 64 by omega)).le) | (with_reducible refine Since.alloc ?_ _) | (with_reducible refine Since.drew ?_) | (with_reducible refine Since.drewN ?_ _) | (with_reducible refine Since.setCell ?_ ?_ _; rotate_left; (simp only []; omega)) | (with_reducible refine Since.ext ?_ (by assumption)))))
      · exact (by repeat (first | (with_reducible exact RExt.refl _ _) | (with_reducible assumption) | (with_reducible refine RExt.alloc ?_ _) | (with_reducible refine RExt.drewN ?_ _) | (with_reducible refine RExt.drew ?_) | (with_reducible refine RExt.setCell ?_ (.inr ?_) _; rotate_left; (simp only []; omega)) | (with_reducible refine RExt.trans ?_ (by assumption)) | (with_reducible refine RExt.ext ?_ (by assumption))))
    · have hkp : (0 : Int) < (k : Int) := by omega
      go_wp2_with fail
      replace BG := BG.drew
      replace BR := BR.drew
      replace T0 := T0.drew
      replace K0 := K0.drew
      replace r0 := r0.drew
      replace X0 := X0.drew
      have hdrS : ∀ W : World, W.drew.heap.size = W.heap.size := fun _ => rfl
      refine wp_region_float (R := RExt B) (base := (wr).heap.size) (Ts := [(33, #[.int .i64 0, .int .i64 0, .int .i64 0, .int .i64 0, .int .i64 0, .slice none 0 0]), (28, #[.int .i64 0, .int .i64 0, .int .i64 0, .slice none 0 0, .slice none 0 0, .int .i64 0, .int .i64 0, .int .i64 0])]) [0, 1, 3, 2, 4, 5, 6, 7, 8, 9, 10, 11, 12, 13, 14, 15] (by kernel_rfl) (by kernel_rfl) (RExt.refl B) (fun _ _ _ => RExt.trans) (fun _ _ h => RExt.of_ext h B) (fun _ _ h => h.size) (fun _ _ b _ _ hb hB hR => hB.rext hR (by omega)) (by intro x hx; simp only [List.mem_cons, List.not_mem_nil, or_false] at hx; rcases hx with rfl | rfl; all_goals (intro wS; kernel_rfl)) (by omega) ?_
      have hdrW := hdrS (wr)
      repeat' (first
        | (refine' ChF.pure (v := _) (by rfl) (by rfl) (by rfl) ?_ ?_
           rotate_left
           · (intro wS
              go_simp
              with_reducible rfl)
           (try simp only [Act.put, List.setIfInBounds_toArray, List.set_cons_zero, List.set_cons_succ]))
        | (refine' ChF.quiet (v := _) (by rfl) (by rfl) (by rfl) (by rfl) ?_ ?_
           rotate_left
           · (intro wS hS
              have cS := (BG.rext hS (by omega)).cells
              go_simp
              with_reducible rfl)
           (try simp only [Act.put, List.setIfInBounds_toArray, List.set_cons_zero, List.set_cons_succ]))
        | fail)
      refine ChF.call (by rfl) (by rfl) (by rfl) (by rfl) (by rfl) (by intro wS; go_simp; (constructor <;> rfl)) ?_
      intro u1 e1
      replace BG := BG.ext e1
      replace BR := BR.ext e1
      replace T0 := T0.ext e1
      replace K0 := K0.ext e1
      replace r0 := r0.ext e1
      replace X0 := X0.ext e1
      have := (e1).size
      refine (insideEnd_any n0 B _ u1 r0 (by omega)).mono ?_
      rintro e v1 ⟨x1, y1, rfl, x10, x11, y10, y11, q1, hx1⟩
      refine ⟨_, rfl, hx1, ?_⟩
      (try simp only [Act.put, List.setIfInBounds_toArray, List.set_cons_zero, List.set_cons_succ])
      replace BG := BG.rext hx1 (by omega)
      replace BR := BR.rext hx1 (by omega)
      replace T0 := T0.rext hx1 (fun x e => by have := fT x e; omega)
      replace K0 := K0.rext hx1 (fun x e => by have := fK x e; omega)
      replace X0 := X0.trans hx1
      replace r0 := q1
      have := (hx1).size
      repeat' (first
        | (refine' ChF.pure (v := _) (by rfl) (by rfl) (by rfl) ?_ ?_
           rotate_left
           · (intro wS
              go_simp
              with_reducible rfl)
           (try simp only [Act.put, List.setIfInBounds_toArray, List.set_cons_zero, List.set_cons_succ]))
        | (refine' ChF.quiet (v := _) (by rfl) (by rfl) (by rfl) (by rfl) ?_ ?_
           rotate_left
           · (intro wS hS
              have cS := (BG.rext hS (by omega)).cells
              go_simp
              with_reducible rfl)
           (try simp only [Act.put, List.setIfInBounds_toArray, List.set_cons_zero, List.set_cons_succ]))
        | fail)
      refine ChF.call (by rfl) (by rfl) (by rfl) (by rfl) (by rfl) (by intro wS; go_simp; (constructor <;> rfl)) ?_
      intro u2 e2
      replace BG := BG.ext e2
      replace BR := BR.ext e2
      replace T0 := T0.ext e2
      replace K0 := K0.ext e2
      replace r0 := r0.ext e2
      replace X0 := X0.ext e2
      have := (e2).size
      refine (farEnd_any n0 B _ u2 r0 (by omega)).mono ?_
      rintro e v2 ⟨x2, y2, rfl, x20, x21, y20, y21, q2, hx2⟩
      refine ⟨_, rfl, hx2, ?_⟩
      (try simp only [Act.put, List.setIfInBounds_toArray, List.set_cons_zero, List.set_cons_succ])
      replace BG := BG.rext hx2 (by omega)
      replace BR := BR.rext hx2 (by omega)
      replace T0 := T0.rext hx2 (fun x e => by have := fT x e; omega)
      replace K0 := K0.rext hx2 (fun x e => by have := fK x e; omega)
      replace X0 := X0.trans hx2
      replace r0 := q2
      have := (hx2).size
      repeat' (first
        | (refine' ChF.pure (v := _) (by rfl) (by rfl) (by rfl) ?_ ?_
           rotate_left
           · (intro wS
              go_simp
              with_reducible rfl)
           (try simp only [Act.put, List.setIfInBounds_toArray, List.set_cons_zero, List.set_cons_succ]))
        | (refine' ChF.quiet (v := _) (by rfl) (by rfl) (by rfl) (by rfl) ?_ ?_
           rotate_left
           · (intro wS hS
              have cS := (BG.rext hS (by omega)).cells
              go_simp
              with_reducible rfl)
           (try simp only [Act.put, List.setIfInBounds_toArray, List.set_cons_zero, List.set_cons_succ]))
        | fail)
      refine ChF.call (by rfl) (by rfl) (by rfl) (by rfl) (by rfl) (by intro wS; go_simp; (constructor <;> rfl)) ?_
      intro u3 e3
      replace BG := BG.ext e3
      replace BR := BR.ext e3
      replace T0 := T0.ext e3
      replace K0 := K0.ext e3
      replace r0 := r0.ext e3
      replace X0 := X0.ext e3
      have := (e3).size
      refine (spec_SendOut g ⟨0, ⟨x1, y1⟩, ⟨x2, y2⟩, []⟩ ta tn tc ka kn kc none 0 0 u3 T0 K0 (Sl.nils _)).mono ?_
      rintro e v3 ⟨A, qn, C, sa, sn, sc, qa, kn', qc, rfl, OP, OM, OC, hx3⟩
      refine ⟨_, rfl, RExt.of_ext hx3 B, ?_⟩
      (try simp only [Act.put, List.setIfInBounds_toArray, List.set_cons_zero, List.set_cons_succ])
      replace BG := BG.ext hx3
      replace BR := BR.ext hx3
      replace T0 := T0.ext hx3
      replace K0 := K0.ext hx3
      replace r0 := r0.ext hx3
      replace X0 := X0.ext hx3
      have := (hx3).size
      repeat' (first
        | (refine' ChF.pure (v := _) (by rfl) (by rfl) (by rfl) ?_ ?_
           rotate_left
           · (intro wS
              go_simp
              with_reducible rfl)
           (try simp only [Act.put, List.setIfInBounds_toArray, List.set_cons_zero, List.set_cons_succ]))
        | (refine' ChF.quiet (v := _) (by rfl) (by rfl) (by rfl) (by rfl) ?_ ?_
           rotate_left
           · (intro wS hS
              have cS := (BG.rext hS (by omega)).cells
              go_simp
              with_reducible rfl)
           (try simp only [Act.put, List.setIfInBounds_toArray, List.set_cons_zero, List.set_cons_succ]))
        | fail)
      refine ChF.box (by rfl) (by rfl) (by rfl) ?_
      intro v4 b5 hx4 hb5 B5
      replace B5 : Blk v4 b5 33 #[.int .i64 0, .int .i64 0, .int .i64 0, .int .i64 0, .int .i64 0, .slice none 0 0] := B5
      (try simp only [Act.put, List.setIfInBounds_toArray, List.set_cons_zero, List.set_cons_succ])
      refine ChF.box (by rfl) (by rfl) (by rfl) ?_
      intro v5 b6 hx5 hb6 B6
      replace B6 : Blk v5 b6 28 #[.int .i64 0, .int .i64 0, .int .i64 0, .slice none 0 0, .slice none 0 0, .int .i64 0, .int .i64 0, .int .i64 0] := B6
      (try simp only [Act.put, List.setIfInBounds_toArray, List.set_cons_zero, List.set_cons_succ])
      have lM := OM.lt
      have lC := OC.lt
      have hx45 : Ext v3 v5 := hx4.trans hx5
      have h45 := hx45.size
      replace B5 := B5.ext hx5
      replace BG := BG.ext hx45
      replace BR := BR.ext hx45
      replace T0 := T0.ext hx45
      replace K0 := K0.ext hx45
      replace OM := OM.ext hx45
      replace OC := OC.ext hx45
      replace r0 := r0.ext hx45
      replace X0 := X0.ext hx45
      have n56 : b5 ≠ b6 := B5.apart B6 (by decide)
      have nM5 := OM.apartB B5 (by decide)
      have nM6 := OM.apartB B6 (by decide)
      have nC5 := OC.apartB B5 (by decide)
      have nC6 := OC.apartB B6 (by decide)
      generalize hso : sendOut g ⟨0, ⟨x1, y1⟩, ⟨x2, y2⟩, []⟩ = so at *
      obtain ⟨Q, hQ⟩ : ∃ Q, Q = rP so := ⟨_, rfl⟩
      obtain ⟨H, hH⟩ : ∃ H, H = rG so := ⟨_, rfl⟩
      obtain ⟨ok, hok⟩ : ∃ ok, ok = so.isSome := ⟨_, rfl⟩
      rw [← hQ, ← hH, ← hok]
      rw [← hH] at OM OC
      replace hQ := Lib.hid hQ
      replace hH := Lib.hid hH
      replace hok := Lib.hid hok
      replace hso := Lib.hid hso
      have c5 := B5.cells
      have f5 := B5.frozens
      refine ChF.storeP (fun W => RExt b5 v5 W ∧ Blk W b5 33 (#[.int .i64 Q.kind, .int .i64 Q.fr.addr, .int .i64 Q.fr.port, .int .i64 Q.to_.addr, .int .i64 Q.to_.port, .slice A qn C])) (by rfl) (by rfl) (by rfl) ⟨_, (by go_simp; rfl), (by simp [World.setCell]), (by repeat (first | (with_reducible exact RExt.refl _ _) | (with_reducible refine RExt.putc ?_ _ _))), (by exact B5.put6 _ _ _ _ _ _)⟩ ?_
      (try simp only [Act.put, List.setIfInBounds_toArray, List.set_cons_zero, List.set_cons_succ])
      rintro v6 s6 ⟨x6, B5'⟩
      clear c5 f5 B5 B5'
      have lw5 : w.heap.size < b5 := by omega
      have lw6 : w.heap.size < b6 := by omega
      replace B6 := B6.rext x6 (by omega)
      replace BG := BG.rext x6 (by omega)
      replace BR := BR.rext x6 (by omega)
      replace T0 := T0.rextFar x6 (fun hn x e => by have := lT0 hn x e; omega)
      replace K0 := K0.rextFar x6 (fun hn x e => by have := lK0 hn x e; omega)
      replace OM := OM.rext x6 nM5
      replace OC := OC.rext x6 nC5
      replace r0 := r0.rextNew x6 (by omega)
      replace X0 := X0.rextNew x6 (by omega)
      have c6 := B6.cells
      have f6 := B6.frozens
      refine ChF.storeP (fun W => RExt b6 v6 W ∧ Blk W b6 28 (#[.int .i64 H.net.base, .int .i64 H.net.bits, .int .i64 H.out, .slice sa sn sc, .slice qa kn' qc, .int .i64 H.filter, .int .i64 H.hold, .int .i64 H.now])) (by rfl) (by rfl) (by rfl) ⟨_, (by go_simp; rfl), (by simp [World.setCell]), (by repeat (first | (with_reducible exact RExt.refl _ _) | (with_reducible refine RExt.putc ?_ _ _))), (by exact B6.put8 _ _ _ _ _ _ _ _)⟩ ?_
      (try simp only [Act.put, List.setIfInBounds_toArray, List.set_cons_zero, List.set_cons_succ])
      rintro v7 s7 ⟨x7, B6'⟩
      clear c6 f6 B6
      replace BG := BG.rext x7 (by omega)
      replace BR := BR.rext x7 (by omega)
      replace T0 := T0.rextFar x7 (fun hn x e => by have := lT0 hn x e; omega)
      replace K0 := K0.rextFar x7 (fun hn x e => by have := lK0 hn x e; omega)
      replace OM := OM.rext x7 nM6
      replace OC := OC.rext x7 nC6
      replace r0 := r0.rextNew x7 (by omega)
      replace X0 := X0.rextNew x7 (by omega)
      have hB7 : B < v7.heap.size := by omega
      have hG7 : G < v7.heap.size := by omega
      clear x6 x7 hx4 hx5 hx45 hx1 hx2 hx3 e1 e2 e3
      have c6 := B6'.cells
      have z6 := B6'.lt
      have cG := BG.cells
      have fG := BG.frozens
      repeat' (first
        | (refine' ChF.pure (v := _) (by rfl) (by rfl) (by rfl) ?_ ?_
           rotate_left
           · (intro wS
              go_simp
              with_reducible rfl)
           (try simp only [Act.put, List.setIfInBounds_toArray, List.set_cons_zero, List.set_cons_succ]))
        | (refine' ChF.quiet (v := _) (by rfl) (by rfl) (by rfl) (by rfl) ?_ ?_
           rotate_left
           · (intro wS hS
              skip
              go_simp
              with_reducible rfl)
           (try simp only [Act.put, List.setIfInBounds_toArray, List.set_cons_zero, List.set_cons_succ]))
        | fail)
      refine ChF.nil ?_
      cases ok with
      | false =>
        go_wp2_with fail
        clear OM OC
        have lT8 := fun (h : 0 < tn) => T0.lt h
        have lK8 := fun (h : 0 < kn) => K0.lt h
        clear cG fG c6 B6'
        refine wp_gen (fun W => RExt G v7 W ∧ Blk W G 28 (#[.int .i64 g.net.base, .int .i64 g.net.bits, .int .i64 g.out, .slice ta tn tc, .slice ka kn kc, .int .i64 g.filter, .int .i64 g.hold, .int .i64 g.now])) ⟨RExt.refl _ _, BG⟩ ?_
        rintro u8 ⟨x8, BG⟩
        have s8 := x8.size
        replace BR := BR.rext x8 (by omega)
        replace T0 := T0.rext x8 (fun x e => (fT x e).2)
        replace K0 := K0.rext x8 (fun x e => (fK x e).2)
        replace r0 := r0.rextNew x8 (by omega)
        replace X0 := X0.rextNew x8 (by omega)
        have hB8 : B < u8.heap.size := by omega
        clear x8
        replace BG := BG.drew
        replace BR := BR.drew
        replace T0 := T0.drew
        replace K0 := K0.drew
        replace r0 := r0.drew
        replace X0 := X0.drew
        have hdrS : ∀ W : World, W.drew.heap.size = W.heap.size := fun _ => rfl
        refine wp_region_float (R := RExt B) (base := (u8).heap.size) (Ts := [(28, #[.int .i64 0, .int .i64 0, .int .i64 0, .slice none 0 0, .slice none 0 0, .int .i64 0, .int .i64 0, .int .i64 0])]) [0, 1, 2, 3, 4, 5, 6, 7, 8, 9, 10, 11, 12] (by kernel_rfl) (by kernel_rfl) (RExt.refl B) (fun _ _ _ => RExt.trans) (fun _ _ h => RExt.of_ext h B) (fun _ _ h => h.size) (fun _ _ b _ _ hb hB hR => hB.rext hR (by omega)) (by intro x hx; simp only [List.mem_cons, List.not_mem_nil, or_false] at hx; subst hx; all_goals (intro wS; kernel_rfl)) (by omega) ?_
        have hdrW := hdrS (u8)
        repeat' (first
          | (refine' ChF.pure (v := _) (by rfl) (by rfl) (by rfl) ?_ ?_
             rotate_left
             · (intro wS
                go_simp
                with_reducible rfl)
             (try simp only [Act.put, List.setIfInBounds_toArray, List.set_cons_zero, List.set_cons_succ]))
          | (refine' ChF.quiet (v := _) (by rfl) (by rfl) (by rfl) (by rfl) ?_ ?_
             rotate_left
             · (intro wS hS
                have cS := (BG.rext hS (by omega)).cells
                go_simp
                with_reducible rfl)
             (try simp only [Act.put, List.setIfInBounds_toArray, List.set_cons_zero, List.set_cons_succ]))
          | fail)
        refine ChF.call (by rfl) (by rfl) (by rfl) (by rfl) (by rfl) (by intro wS; go_simp; (constructor <;> rfl)) ?_
        intro u9 e9
        replace BG := BG.ext e9
        replace BR := BR.ext e9
        replace T0 := T0.ext e9
        replace K0 := K0.ext e9
        replace r0 := r0.ext e9
        replace X0 := X0.ext e9
        have z9 := e9.size
        refine (pick_any n0 B _ 15 u9 r0 (by omega) (by omega) (by omega)).mono ?_
        rintro e v9 ⟨px, rfl, px0, px1, q9, h9⟩
        refine ⟨_, rfl, h9, ?_⟩
        (try simp only [Act.put, List.setIfInBounds_toArray, List.set_cons_zero, List.set_cons_succ])
        have z9' := h9.size
        replace BG := BG.rext h9 (by omega)
        replace BR := BR.rext h9 (by omega)
        replace T0 := T0.rext h9 (fun x e => by have := fT x e; omega)
        replace K0 := K0.rext h9 (fun x e => by have := fK x e; omega)
        replace X0 := X0.trans h9
        replace r0 := q9
        clear q9 e9 h9
        have hwr : IntKind.i64.wrap ((g).now + px) = (g).now + px := IntWalk.i64_in _ (by omega)
        repeat' (first
          | (refine' ChF.pure (v := _) (by rfl) (by rfl) (by rfl) ?_ ?_
             rotate_left
             · (intro wS
                go_simp
                with_reducible rfl)
             (try simp only [Act.put, List.setIfInBounds_toArray, List.set_cons_zero, List.set_cons_succ]))
          | (refine' ChF.quiet (v := _) (by rfl) (by rfl) (by rfl) (by rfl) ?_ ?_
             rotate_left
             · (intro wS hS
                have cS := (BG.rext hS (by omega)).cells
                go_simp
                with_reducible rfl)
             (try simp only [Act.put, List.setIfInBounds_toArray, List.set_cons_zero, List.set_cons_succ]))
          | fail)
        refine ChF.call (by rfl) (by rfl) (by rfl) (by rfl) (by rfl) (by intro wS; go_simp; (constructor <;> rfl)) ?_
        intro u10 e10
        replace BG := BG.ext e10
        replace BR := BR.ext e10
        replace T0 := T0.ext e10
        replace K0 := K0.ext e10
        replace r0 := r0.ext e10
        replace X0 := X0.ext e10
        have z10 := e10.size
        clear hwr e10
        refine (spec_TickGate (g) ((g).now + px) ta tn tc ka kn kc u10 T0 K0).mono ?_
        rintro e v10 ⟨pa, pn, pc, ra, rn, rc, rfl, PM, PC, h10⟩
        refine ⟨_, rfl, RExt.of_ext h10 B, ?_⟩
        (try simp only [Act.put, List.setIfInBounds_toArray, List.set_cons_zero, List.set_cons_succ])
        have z10' := h10.size
        replace BG := BG.ext h10
        replace BR := BR.ext h10
        replace T0 := T0.ext h10
        replace K0 := K0.ext h10
        replace r0 := r0.ext h10
        replace X0 := X0.ext h10
        clear h10
        repeat' (first
          | (refine' ChF.pure (v := _) (by rfl) (by rfl) (by rfl) ?_ ?_
             rotate_left
             · (intro wS
                go_simp
                with_reducible rfl)
             (try simp only [Act.put, List.setIfInBounds_toArray, List.set_cons_zero, List.set_cons_succ]))
          | (refine' ChF.quiet (v := _) (by rfl) (by rfl) (by rfl) (by rfl) ?_ ?_
             rotate_left
             · (intro wS hS
                have cS := (BG.rext hS (by omega)).cells
                go_simp
                with_reducible rfl)
             (try simp only [Act.put, List.setIfInBounds_toArray, List.set_cons_zero, List.set_cons_succ]))
          | fail)
        refine ChF.box (by rfl) (by rfl) (by rfl) ?_
        intro v11 b8 h11 hb8 B8
        replace B8 : Blk v11 b8 28 #[.int .i64 0, .int .i64 0, .int .i64 0, .slice none 0 0, .slice none 0 0, .int .i64 0, .int .i64 0, .int .i64 0] := B8
        (try simp only [Act.put, List.setIfInBounds_toArray, List.set_cons_zero, List.set_cons_succ])
        have z11 := h11.size
        have lPM := PM.lt
        have lPC := PC.lt
        replace BG := BG.ext h11
        replace BR := BR.ext h11
        replace T0 := T0.ext h11
        replace K0 := K0.ext h11
        replace PM := PM.ext h11
        replace PC := PC.ext h11
        replace r0 := r0.ext h11
        replace X0 := X0.ext h11
        have nPM := PM.apartB B8 (by decide)
        have nPC := PC.apartB B8 (by decide)
        generalize hto : tickGate (g) ((g).now + px) = to at *
        obtain ⟨H2, hH2⟩ : ∃ H, H = rT to := ⟨_, rfl⟩
        obtain ⟨ok2, hok2⟩ : ∃ ok, ok = to.isSome := ⟨_, rfl⟩
        rw [← hH2, ← hok2]
        rw [← hH2] at PM PC
        replace hH2 := Lib.hid hH2
        replace hok2 := Lib.hid hok2
        replace hto := Lib.hid hto
        have c8 := B8.cells
        have f8 := B8.frozens
        refine ChF.storeP (fun W => RExt b8 v11 W ∧ Blk W b8 28 (#[.int .i64 H2.net.base, .int .i64 H2.net.bits, .int .i64 H2.out, .slice pa pn pc, .slice ra rn rc, .int .i64 H2.filter, .int .i64 H2.hold, .int .i64 H2.now])) (by rfl) (by rfl) (by rfl) ⟨_, (by go_simp; rfl), (by simp [World.setCell]), (by repeat (first | (with_reducible exact RExt.refl _ _) | (with_reducible refine RExt.putc ?_ _ _))), (by exact B8.put8 _ _ _ _ _ _ _ _)⟩ ?_
        (try simp only [Act.put, List.setIfInBounds_toArray, List.set_cons_zero, List.set_cons_succ])
        rintro v12 s12 ⟨x12, B8'⟩
        clear c8 f8 B8
        replace BG := BG.rext x12 (by omega)
        replace BR := BR.rext x12 (by omega)
        replace T0 := T0.rextFar x12 (fun hn x e => by have := lT8 hn x e; omega)
        replace K0 := K0.rextFar x12 (fun hn x e => by have := lK8 hn x e; omega)
        replace PM := PM.rext x12 nPM
        replace PC := PC.rext x12 nPC
        replace r0 := r0.rextNew x12 (by omega)
        replace X0 := X0.rextNew x12 (by omega)
        clear x12
        have c8 := B8'.cells
        have cG := BG.cells
        have fG := BG.frozens
        have z8 := B8'.lt
        have zG := BG.lt
        repeat' (first
          | (refine' ChF.pure (v := _) (by rfl) (by rfl) (by rfl) ?_ ?_
             rotate_left
             · (intro wS
                go_simp
                with_reducible rfl)
             (try simp only [Act.put, List.setIfInBounds_toArray, List.set_cons_zero, List.set_cons_succ]))
          | (refine' ChF.quiet (v := _) (by rfl) (by rfl) (by rfl) (by rfl) ?_ ?_
             rotate_left
             · (intro wS hS
                skip
                go_simp
                with_reducible rfl)
             (try simp only [Act.put, List.setIfInBounds_toArray, List.set_cons_zero, List.set_cons_succ]))
          | fail)
        refine ChF.nil ?_
        cases ok2 with
        | false =>
          go_wp2_with fail
          go_roundw
          case rel => exact ⟨k - 1, g, _, _, _, _, _, _, by omega, (by rw [show ((k : Int) - 1) = ((k - 1 : Nat) : Int) by omega]), BR, BG, T0, K0, lT, lK, now0, now1, fT, fK, r0.mono (by omega), X0⟩
          case measure => simp [intOf]; omega
        | true =>
          have hf : VGate H2 ∧ 0 ≤ H2.now ∧ H2.now ≤ 10000 := by
            have h1 := hok2.out
            have h2 := hH2.out
            have h3 := hto.out
            cases to with
            | none => cases h1
            | some y =>
              subst h2
              exact tickGate_facts h3
          go_wp2_with fail
          go_roundw
          case rel =>
            refine ⟨k - 1, H2, pa, pn, pc, ra, rn, rc, by omega, (by rw [show ((k : Int) - 1) = ((k - 1 : Nat) : Int) by omega]), ?_, ?_, ?_, ?_, table_len hf.1.tab, cons_len hf.1.con, hf.2.1, hf.2.2, (fun x e => by have := lPM x e; omega), (fun x e => by have := lPC x e; omega), ?_, ?_⟩
            · repeat (refine Blk.far ?_ (by simp only []; omega) _)
              exact BR
            · exact BG.put8 _ _ _ _ _ _ _ _
            · repeat (refine Sl.setCell ?_ (fun y hy => by have := lPM y hy; simp only []; omega) _)
              exact PM.sl encM_len
            · repeat (refine Sl.setCell ?_ (fun y hy => by have := lPC y hy; simp only []; omega) _)
              exact PC.sl encC_len
            · exact (by exact (r0.mono (show m + 4 + 5 * (12 - k) + 2 + 2 + 1 ≤ m + 4 + 5 * (12 - (k - 1 : Nat)) by omega)).to (by repeat (first | (with_reducible exact Since.refl (r0.mono (show m + 4 + 5 * (12 - k) + 2 + 2 + 1 ≤ m + 4 + 5 * (12 - (k - 1 : Nat)) by omega)).le) | (with_reducible refine Since.alloc ?_ _) | (with_reducible refine Since.drew ?_) | (with_reducible refine Since.drewN ?_ _) | (with_reducible refine Since.setCell ?_ ?_ _; rotate_left; (simp only []; omega)) | (with_reducible refine Since.ext ?_ (by assumption)))))
            · exact (by repeat (first | (with_reducible exact RExt.refl _ _) | (with_reducible assumption) | (with_reducible refine RExt.alloc ?_ _) | (with_reducible refine RExt.drewN ?_ _) | (with_reducible refine RExt.drew ?_) | (with_reducible refine RExt.setCell ?_ (.inr ?_) _; rotate_left; (simp only []; omega)) | (with_reducible refine RExt.trans ?_ (by assumption)) | (with_reducible refine RExt.ext ?_ (by assumption))))
          case measure => simp [intOf]; omega
      | true =>
        have hf : VGate H ∧ H.now = g.now := by
          have h1 := hok.out
          have h2 := hH.out
          have h3 := hso.out
          cases so with
          | none => cases h1
          | some y =>
            subst h2
            exact sendOut_facts h3
        replace hf := Lib.hid hf
        go_wp2_with fail
        replace hf := hf.out
        clear T0 K0 lT lK fT fK cG fG
        have T0 := OM.sl encM_len
        have K0 := OC.sl encC_len
        have lT := table_len hf.1.tab
        have lK := cons_len hf.1.con
        have now2 := hf.2
        replace now0 : 0 ≤ H.now := by omega
        replace now1 : H.now ≤ 10000 := by omega
        clear now2 hf
        have fT : ∀ x, sa = some x → w.heap.size < x.block ∧ x.block ≠ G := fun x e => by have := lM x e; omega
        have fK : ∀ x, qa = some x → w.heap.size < x.block ∧ x.block ≠ G := fun x e => by have := lC x e; omega
        clear OM OC lM lC
        have lT8 := fun (h : 0 < sn) => T0.lt h
        have lK8 := fun (h : 0 < kn') => K0.lt h
        clear c6 B6'
        refine wp_gen (fun W => RExt G v7 W ∧ Blk W G 28 (#[.int .i64 H.net.base, .int .i64 H.net.bits, .int .i64 H.out, .slice sa sn sc, .slice qa kn' qc, .int .i64 H.filter, .int .i64 H.hold, .int .i64 H.now])) ⟨(by repeat (first | (with_reducible exact RExt.refl _ _) | (with_reducible refine RExt.putc ?_ _ _))), by exact BG.put8 _ _ _ _ _ _ _ _⟩ ?_
        rintro u8 ⟨x8, BG⟩
        have s8 := x8.size
        replace BR := BR.rext x8 (by omega)
        replace T0 := T0.rext x8 (fun x e => (fT x e).2)
        replace K0 := K0.rext x8 (fun x e => (fK x e).2)
        replace r0 := r0.rextNew x8 (by omega)
        replace X0 := X0.rextNew x8 (by omega)
        have hB8 : B < u8.heap.size := by omega
        clear x8
        replace BG := BG.drew
        replace BR := BR.drew
        replace T0 := T0.drew
        replace K0 := K0.drew
        replace r0 := r0.drew
        replace X0 := X0.drew
        have hdrS : ∀ W : World, W.drew.heap.size = W.heap.size := fun _ => rfl
        refine wp_region_float (R := RExt B) (base := (u8).heap.size) (Ts := [(28, #[.int .i64 0, .int .i64 0, .int .i64 0, .slice none 0 0, .slice none 0 0, .int .i64 0, .int .i64 0, .int .i64 0])]) [0, 1, 2, 3, 4, 5, 6, 7, 8, 9, 10, 11, 12] (by kernel_rfl) (by kernel_rfl) (RExt.refl B) (fun _ _ _ => RExt.trans) (fun _ _ h => RExt.of_ext h B) (fun _ _ h => h.size) (fun _ _ b _ _ hb hB hR => hB.rext hR (by omega)) (by intro x hx; simp only [List.mem_cons, List.not_mem_nil, or_false] at hx; subst hx; all_goals (intro wS; kernel_rfl)) (by omega) ?_
        have hdrW := hdrS (u8)
        repeat' (first
          | (refine' ChF.pure (v := _) (by rfl) (by rfl) (by rfl) ?_ ?_
             rotate_left
             · (intro wS
                go_simp
                with_reducible rfl)
             (try simp only [Act.put, List.setIfInBounds_toArray, List.set_cons_zero, List.set_cons_succ]))
          | (refine' ChF.quiet (v := _) (by rfl) (by rfl) (by rfl) (by rfl) ?_ ?_
             rotate_left
             · (intro wS hS
                have cS := (BG.rext hS (by omega)).cells
                go_simp
                with_reducible rfl)
             (try simp only [Act.put, List.setIfInBounds_toArray, List.set_cons_zero, List.set_cons_succ]))
          | fail)
        refine ChF.call (by rfl) (by rfl) (by rfl) (by rfl) (by rfl) (by intro wS; go_simp; (constructor <;> rfl)) ?_
        intro u9 e9
        replace BG := BG.ext e9
        replace BR := BR.ext e9
        replace T0 := T0.ext e9
        replace K0 := K0.ext e9
        replace r0 := r0.ext e9
        replace X0 := X0.ext e9
        have z9 := e9.size
        refine (pick_any n0 B _ 15 u9 r0 (by omega) (by omega) (by omega)).mono ?_
        rintro e v9 ⟨px, rfl, px0, px1, q9, h9⟩
        refine ⟨_, rfl, h9, ?_⟩
        (try simp only [Act.put, List.setIfInBounds_toArray, List.set_cons_zero, List.set_cons_succ])
        have z9' := h9.size
        replace BG := BG.rext h9 (by omega)
        replace BR := BR.rext h9 (by omega)
        replace T0 := T0.rext h9 (fun x e => by have := fT x e; omega)
        replace K0 := K0.rext h9 (fun x e => by have := fK x e; omega)
        replace X0 := X0.trans h9
        replace r0 := q9
        clear q9 e9 h9
        have hwr : IntKind.i64.wrap ((H).now + px) = (H).now + px := IntWalk.i64_in _ (by omega)
        repeat' (first
          | (refine' ChF.pure (v := _) (by rfl) (by rfl) (by rfl) ?_ ?_
             rotate_left
             · (intro wS
                go_simp
                with_reducible rfl)
             (try simp only [Act.put, List.setIfInBounds_toArray, List.set_cons_zero, List.set_cons_succ]))
          | (refine' ChF.quiet (v := _) (by rfl) (by rfl) (by rfl) (by rfl) ?_ ?_
             rotate_left
             · (intro wS hS
                have cS := (BG.rext hS (by omega)).cells
                go_simp
                with_reducible rfl)
             (try simp only [Act.put, List.setIfInBounds_toArray, List.set_cons_zero, List.set_cons_succ]))
          | fail)
        refine ChF.call (by rfl) (by rfl) (by rfl) (by rfl) (by rfl) (by intro wS; go_simp; (constructor <;> rfl)) ?_
        intro u10 e10
        replace BG := BG.ext e10
        replace BR := BR.ext e10
        replace T0 := T0.ext e10
        replace K0 := K0.ext e10
        replace r0 := r0.ext e10
        replace X0 := X0.ext e10
        have z10 := e10.size
        clear hwr e10
        refine (spec_TickGate (H) ((H).now + px) sa sn sc qa kn' qc u10 T0 K0).mono ?_
        rintro e v10 ⟨pa, pn, pc, ra, rn, rc, rfl, PM, PC, h10⟩
        refine ⟨_, rfl, RExt.of_ext h10 B, ?_⟩
        (try simp only [Act.put, List.setIfInBounds_toArray, List.set_cons_zero, List.set_cons_succ])
        have z10' := h10.size
        replace BG := BG.ext h10
        replace BR := BR.ext h10
        replace T0 := T0.ext h10
        replace K0 := K0.ext h10
        replace r0 := r0.ext h10
        replace X0 := X0.ext h10
        clear h10
        repeat' (first
          | (refine' ChF.pure (v := _) (by rfl) (by rfl) (by rfl) ?_ ?_
             rotate_left
             · (intro wS
                go_simp
                with_reducible rfl)
             (try simp only [Act.put, List.setIfInBounds_toArray, List.set_cons_zero, List.set_cons_succ]))
          | (refine' ChF.quiet (v := _) (by rfl) (by rfl) (by rfl) (by rfl) ?_ ?_
             rotate_left
             · (intro wS hS
                have cS := (BG.rext hS (by omega)).cells
                go_simp
                with_reducible rfl)
             (try simp only [Act.put, List.setIfInBounds_toArray, List.set_cons_zero, List.set_cons_succ]))
          | fail)
        refine ChF.box (by rfl) (by rfl) (by rfl) ?_
        intro v11 b8 h11 hb8 B8
        replace B8 : Blk v11 b8 28 #[.int .i64 0, .int .i64 0, .int .i64 0, .slice none 0 0, .slice none 0 0, .int .i64 0, .int .i64 0, .int .i64 0] := B8
        (try simp only [Act.put, List.setIfInBounds_toArray, List.set_cons_zero, List.set_cons_succ])
        have z11 := h11.size
        have lPM := PM.lt
        have lPC := PC.lt
        replace BG := BG.ext h11
        replace BR := BR.ext h11
        replace T0 := T0.ext h11
        replace K0 := K0.ext h11
        replace PM := PM.ext h11
        replace PC := PC.ext h11
        replace r0 := r0.ext h11
        replace X0 := X0.ext h11
        have nPM := PM.apartB B8 (by decide)
        have nPC := PC.apartB B8 (by decide)
        generalize hto : tickGate (H) ((H).now + px) = to at *
        obtain ⟨H2, hH2⟩ : ∃ H, H = rT to := ⟨_, rfl⟩
        obtain ⟨ok2, hok2⟩ : ∃ ok, ok = to.isSome := ⟨_, rfl⟩
        rw [← hH2, ← hok2]
        rw [← hH2] at PM PC
        replace hH2 := Lib.hid hH2
        replace hok2 := Lib.hid hok2
        replace hto := Lib.hid hto
        have c8 := B8.cells
        have f8 := B8.frozens
        refine ChF.storeP (fun W => RExt b8 v11 W ∧ Blk W b8 28 (#[.int .i64 H2.net.base, .int .i64 H2.net.bits, .int .i64 H2.out, .slice pa pn pc, .slice ra rn rc, .int .i64 H2.filter, .int .i64 H2.hold, .int .i64 H2.now])) (by rfl) (by rfl) (by rfl) ⟨_, (by go_simp; rfl), (by simp [World.setCell]), (by repeat (first | (with_reducible exact RExt.refl _ _) | (with_reducible refine RExt.putc ?_ _ _))), (by exact B8.put8 _ _ _ _ _ _ _ _)⟩ ?_
        (try simp only [Act.put, List.setIfInBounds_toArray, List.set_cons_zero, List.set_cons_succ])
        rintro v12 s12 ⟨x12, B8'⟩
        clear c8 f8 B8
        replace BG := BG.rext x12 (by omega)
        replace BR := BR.rext x12 (by omega)
        replace T0 := T0.rextFar x12 (fun hn x e => by have := lT8 hn x e; omega)
        replace K0 := K0.rextFar x12 (fun hn x e => by have := lK8 hn x e; omega)
        replace PM := PM.rext x12 nPM
        replace PC := PC.rext x12 nPC
        replace r0 := r0.rextNew x12 (by omega)
        replace X0 := X0.rextNew x12 (by omega)
        clear x12
        have c8 := B8'.cells
        have cG := BG.cells
        have fG := BG.frozens
        have z8 := B8'.lt
        have zG := BG.lt
        repeat' (first
          | (refine' ChF.pure (v := _) (by rfl) (by rfl) (by rfl) ?_ ?_
             rotate_left
             · (intro wS
                go_simp
                with_reducible rfl)
             (try simp only [Act.put, List.setIfInBounds_toArray, List.set_cons_zero, List.set_cons_succ]))
          | (refine' ChF.quiet (v := _) (by rfl) (by rfl) (by rfl) (by rfl) ?_ ?_
             rotate_left
             · (intro wS hS
                skip
                go_simp
                with_reducible rfl)
             (try simp only [Act.put, List.setIfInBounds_toArray, List.set_cons_zero, List.set_cons_succ]))
          | fail)
        refine ChF.nil ?_
        cases ok2 with
        | false =>
          go_wp2_with fail
          go_roundw
          case rel => exact ⟨k - 1, H, _, _, _, _, _, _, by omega, (by rw [show ((k : Int) - 1) = ((k - 1 : Nat) : Int) by omega]), BR, BG, T0, K0, lT, lK, now0, now1, fT, fK, r0.mono (by omega), X0⟩
          case measure => simp [intOf]; omega
        | true =>
          have hf : VGate H2 ∧ 0 ≤ H2.now ∧ H2.now ≤ 10000 := by
            have h1 := hok2.out
            have h2 := hH2.out
            have h3 := hto.out
            cases to with
            | none => cases h1
            | some y =>
              subst h2
              exact tickGate_facts h3
          go_wp2_with fail
          go_roundw
          case rel =>
            refine ⟨k - 1, H2, pa, pn, pc, ra, rn, rc, by omega, (by rw [show ((k : Int) - 1) = ((k - 1 : Nat) : Int) by omega]), ?_, ?_, ?_, ?_, table_len hf.1.tab, cons_len hf.1.con, hf.2.1, hf.2.2, (fun x e => by have := lPM x e; omega), (fun x e => by have := lPC x e; omega), ?_, ?_⟩
            · repeat (refine Blk.far ?_ (by simp only []; omega) _)
              exact BR
            · exact BG.put8 _ _ _ _ _ _ _ _
            · repeat (refine Sl.setCell ?_ (fun y hy => by have := lPM y hy; simp only []; omega) _)
              exact PM.sl encM_len
            · repeat (refine Sl.setCell ?_ (fun y hy => by have := lPC y hy; simp only []; omega) _)
              exact PC.sl encC_len
            · exact (by exact (r0.mono (show m + 4 + 5 * (12 - k) + 2 + 2 + 1 ≤ m + 4 + 5 * (12 - (k - 1 : Nat)) by omega)).to (by repeat (first | (with_reducible exact Since.refl (r0.mono (show m + 4 + 5 * (12 - k) + 2 + 2 + 1 ≤ m + 4 + 5 * (12 - (k - 1 : Nat)) by omega)).le) | (with_reducible refine Since.alloc ?_ _) | (with_reducible refine Since.drew ?_) | (with_reducible refine Since.drewN ?_ _) | (with_reducible refine Since.setCell ?_ ?_ _; rotate_left; (simp only []; omega)) | (with_reducible refine Since.ext ?_ (by assumption)))))
            · exact (by repeat (first | (with_reducible exact RExt.refl _ _) | (with_reducible assumption) | (with_reducible refine RExt.alloc ?_ _) | (with_reducible refine RExt.drewN ?_ _) | (with_reducible refine RExt.drew ?_) | (with_reducible refine RExt.setCell ?_ (.inr ?_) _; rotate_left; (simp only []; omega)) | (with_reducible refine RExt.trans ?_ (by assumption)) | (with_reducible refine RExt.ext ?_ (by assumption))))
          case measure => simp [intOf]; omega
end Go.Proofs.Ytppdcglnopoocaa
/- Contracts of the generators of gates that may be invalid. -/
namespace Go.Proofs.Ytppdcglnopoocaa
set_option linter.unusedVariables false
set_option linter.unusedSimpArgs false
open Go.RowKit

set_option maxHeartbeats 4000000 in
theorem anyGate_any (n0 B : Nat) (m : Int) (w : World) (hr : Rd n0 w B m) (hm : m + 66 ≤ 1000000) :
    Calls Try.prog 55 #[.pointer (some ⟨B, 0, none⟩)] w fun e w' => ∃ (g : GateD) (ta : Option Addr) (tn tc : Nat) (ka : Option Addr) (kn kc : Nat), e = .returned (.agg #[.int .i64 g.net.base, .int .i64 g.net.bits, .int .i64 g.out, .slice ta tn tc, .slice ka kn kc, .int .i64 g.filter, .int .i64 g.hold, .int .i64 g.now]) ∧ Sl encM 4 w' ta tn tc g.table ∧ Sl encC 3 w' ka kn kc g.cons ∧
      tn ≤ 8 ∧ kn ≤ 11 ∧ 0 ≤ g.now ∧ g.now ≤ 10001 ∧ (∀ x, ta = some x → w.heap.size ≤ x.block) ∧ (∀ x, ka = some x → w.heap.size ≤ x.block) ∧ Rd n0 w' B (m + 66) ∧ RExt B w w' := by
  have hnw : n0 ≤ w.heap.size := hr.le
  have hBw : B < w.heap.size := (by have := hr.lt; omega)
  go_enter Try.func55, Try.ntmps55
  go_wp2_with fail
  refine (someGate_any n0 B m _ (by exact hr.to (by repeat (first | (with_reducible exact Since.refl hr.le) | (with_reducible refine Since.alloc ?_ _) | (with_reducible refine Since.drew ?_) | (with_reducible refine Since.drewN ?_ _) | (with_reducible refine Since.setCell ?_ ?_ _; rotate_left; (simp only []; omega)) | (with_reducible refine Since.ext ?_ (by assumption))))) (by omega)).mono ?_
  rintro e w1 ⟨g, ta, tn, tc, ka, kn, kc, rfl, T0, K0, htn, hkn, now0, now1, fT, fK, q1, hx1⟩
  have hy1 := hx1.size
  (try simp at hy1)
  have BR : Blk w1 w.heap.size 28 (#[.int .i64 0, .int .i64 0, .int .i64 0, .slice none 0 0, .slice none 0 0, .int .i64 0, .int .i64 0, .int .i64 0]) := by refine Blk.rext ?_ hx1 (by omega); repeat (first | (with_reducible exact BR) | (with_reducible exact Blk.new _ _ _) | exact Blk.newAt _ _ _ (by simp) | (with_reducible refine Blk.alloc ?_ _) | (with_reducible refine Blk.drew ?_) | (with_reducible refine Blk.drewN ?_ _) | refine Blk.far ?_ (by simp only []; omega) _)
  have cBR := BR.cells
  have fBR := BR.frozens
  have zBR := BR.lt
  have hfT : ∀ x, ta = some x → w.heap.size < x.block := fun x e => by have h := fT x e; simp at h; omega
  have hfK : ∀ x, ka = some x → w.heap.size < x.block := fun x e => by have h := fK x e; simp at h; omega
  clear fT fK
  have fT := hfT
  have fK := hfK
  have lT0 : 0 < tn → ∀ x, ta = some x → w.heap.size < x.block ∧ x.block < w1.heap.size := fun h x e => ⟨fT x e, T0.lt h x e⟩
  have lK0 : 0 < kn → ∀ x, ka = some x → w.heap.size < x.block ∧ x.block < w1.heap.size := fun h x e => ⟨fK x e, K0.lt h x e⟩
  clear hfT hfK
  go_wp2_with fail
  refine (pick_any n0 B _ 40 _ (by exact q1.to (by repeat (first | (with_reducible exact Since.refl q1.le) | (with_reducible refine Since.alloc ?_ _) | (with_reducible refine Since.drew ?_) | (with_reducible refine Since.drewN ?_ _) | (with_reducible refine Since.setCell ?_ ?_ _; rotate_left; (simp only []; omega)) | (with_reducible refine Since.ext ?_ (by assumption))))) (by omega) (by omega) (by omega)).mono ?_
  rintro e w2 ⟨d, rfl, d0, d1, q2, hx2⟩
  have hy2 := hx2.size
  (try simp at hy2)
  clear cBR fBR zBR
  replace BR : Blk w2 w.heap.size 28 (#[.int .i64 0, .int .i64 0, .int .i64 0, .slice none 0 0, .slice none 0 0, .int .i64 0, .int .i64 0, .int .i64 0]) := by refine Blk.rext ?_ hx2 (by omega); repeat (first | (with_reducible exact BR) | (with_reducible exact Blk.new _ _ _) | exact Blk.newAt _ _ _ (by simp) | (with_reducible refine Blk.alloc ?_ _) | (with_reducible refine Blk.drew ?_) | (with_reducible refine Blk.drewN ?_ _) | refine Blk.far ?_ (by simp only []; omega) _)
  have BG : Blk w2 w1.heap.size 28 (#[.int .i64 g.net.base, .int .i64 g.net.bits, .int .i64 g.out, .slice ta tn tc, .slice ka kn kc, .int .i64 g.filter, .int .i64 g.hold, .int .i64 g.now]) := by refine Blk.rext ?_ hx2 (by omega); repeat (first | (with_reducible exact BG) | (with_reducible exact Blk.new _ _ _) | exact Blk.newAt _ _ _ (by simp) | (with_reducible refine Blk.alloc ?_ _) | (with_reducible refine Blk.drew ?_) | (with_reducible refine Blk.drewN ?_ _) | refine Blk.far ?_ (by simp only []; omega) _)
  replace T0 : Sl encM 4 w2 ta tn tc g.table := by refine Sl.rextFar ?_ hx2 (fun hn x e => by have := lT0 hn x e; omega); repeat (first | (with_reducible exact T0) | (with_reducible refine Sl.alloc ?_ _) | (with_reducible refine Sl.drew ?_) | (with_reducible refine Sl.drewN ?_ _) | refine Sl.setFar ?_ (fun hn x e => by have := lT0 hn x e; simp only []; omega) _)
  replace K0 : Sl encC 3 w2 ka kn kc g.cons := by refine Sl.rextFar ?_ hx2 (fun hn x e => by have := lK0 hn x e; omega); repeat (first | (with_reducible exact K0) | (with_reducible refine Sl.alloc ?_ _) | (with_reducible refine Sl.drew ?_) | (with_reducible refine Sl.drewN ?_ _) | refine Sl.setFar ?_ (fun hn x e => by have := lK0 hn x e; simp only []; omega) _)
  have cBR := BR.cells
  have fBR := BR.frozens
  have zBR := BR.lt
  have cBG := BG.cells
  have fBG := BG.frozens
  have zBG := BG.lt
  have X2 : RExt B w w2 := (by repeat (first | (with_reducible exact RExt.refl _ _) | (with_reducible assumption) | (with_reducible refine RExt.alloc ?_ _) | (with_reducible refine RExt.drewN ?_ _) | (with_reducible refine RExt.drew ?_) | (with_reducible refine RExt.setCell ?_ (.inr ?_) _; rotate_left; (simp only []; omega)) | (with_reducible refine RExt.trans ?_ (by assumption)) | (with_reducible refine RExt.ext ?_ (by assumption))))
  clear hx1 hx2
  by_cases e4 : d = 4
  · subst e4
    have XU := Ext.refl w2
    go_wp2_with (first
      | (at_builtin; refine wpList_append_ow _ rfl _ _ rfl (by with_reducible exact eiC) encC_len encC_one (by omega) w2.heap.size (some ⟨w2.heap.size, 0, none⟩) 0 0 [] rfl (by exact OwR.empty _ _ (by simp) (by simp)) ka kn kc g.cons rfl (by exact K0.ext (by repeat (first | (with_reducible exact Ext.refl _) | (with_reducible assumption) | (with_reducible refine Ext.alloc ?_ _) | (with_reducible refine Ext.drewN ?_ _) | (with_reducible refine Ext.drew ?_) | (with_reducible refine Ext.setCell ?_ ?_ _; rotate_left; (simp only []; omega)) | (with_reducible refine Ext.trans ?_ (by assumption))))) (by omega) (by simp) ?_; intro a3 c3 w3 hO3 hX3 hg3; replace hX3 := hX3 w2 (by repeat (first | (with_reducible exact Ext.refl _) | (with_reducible assumption) | (with_reducible refine Ext.alloc ?_ _) | (with_reducible refine Ext.drewN ?_ _) | (with_reducible refine Ext.drew ?_) | (with_reducible refine Ext.setCell ?_ ?_ _; rotate_left; (simp only []; omega)) | (with_reducible refine Ext.trans ?_ (by assumption)))) (by omega); simp only [Nat.zero_add, List.nil_append] at hO3)
      | (at_builtin; refine wpList_append_ow _ rfl _ _ rfl (by with_reducible exact eiC) encC_len encC_one (by omega) w2.heap.size a3 kn c3 g.cons (by first | rfl | simp) (by exact hO3.ext (by repeat (first | (with_reducible exact Ext.refl _) | (with_reducible assumption) | (with_reducible refine Ext.alloc ?_ _) | (with_reducible refine Ext.drewN ?_ _) | (with_reducible refine Ext.drew ?_) | (with_reducible refine Ext.setCell ?_ ?_ _; rotate_left; (simp only []; omega)) | (with_reducible refine Ext.trans ?_ (by assumption))))) _ 1 1 [⟨1006, ⟨0, 0⟩⟩] rfl (by first | exact Sl.lit1 _ _ (⟨1006, ⟨0, 0⟩⟩ : ConD) _ rfl rfl | (refine Sl.ext ?_ ((Ext.refl _).drew); exact Sl.lit1 _ _ (⟨1006, ⟨0, 0⟩⟩ : ConD) _ rfl rfl)) (by omega) (by have := hX3.size; (try simp); omega) ?_; intro a4 c4 w4 hO4 hX4 hg4; replace hX4 := hX4 w2 (hX3.trans (by repeat (first | (with_reducible exact Ext.refl _) | (with_reducible assumption) | (with_reducible refine Ext.alloc ?_ _) | (with_reducible refine Ext.drewN ?_ _) | (with_reducible refine Ext.drew ?_) | (with_reducible refine Ext.setCell ?_ ?_ _; rotate_left; (simp only []; omega)) | (with_reducible refine Ext.trans ?_ (by assumption))))) (by omega); have BG4 := BG.ext hX4; have BR4 := BR.ext hX4; clear cBG fBG zBG cBR fBR zBR; have cBG := BG4.cells; have fBG := BG4.frozens; have zBG := BG4.lt; have cBR := BR4.cells; have fBR := BR4.frozens; have zBR := BR4.lt))
    replace T0 := T0.ext hX4
    replace K0 := (hO4.ow encC_len (by omega)).sl encC_len
    have fK4 := hO4.lt
    have z4 := hX4.size
    replace q2 := Rd.mono (q2.ext hX4) (show m + 64 + 1 ≤ m + 66 by omega)
    have X4 := X2.ext hX4
    clear X2 hX4 lK0
    have lK0 : 0 < kn + 1 → ∀ x, a4 = some x → w2.heap.size ≤ x.block := fun _ x e => (fK4 x e).1
    refine' bodyPost_ret (v := _) ?_ rfl ?_
    rotate_left
    · (simp only [results, Try.results55]
       go_simp
       rfl)
    refine ⟨{ g with cons := g.cons ++ [⟨1006, ⟨0, 0⟩⟩] }, ta, tn, tc, a4, kn + 1, c4, rfl, ?_, ?_, by omega, by omega, (by first | omega | (simp only []; omega)), (by first | omega | (simp only []; omega)), (fun x e => by have := fT x e; omega), (fun x e => by have := fK4 x e; omega), ?_, ?_⟩
    · repeat (refine Sl.setFar ?_ (fun hn y hy => by have := lT0 hn y hy; simp only []; omega) _)
      exact T0
    · repeat (refine Sl.setFar ?_ (fun hn y hy => by have := lK0 hn y hy; simp only []; omega) _)
      exact K0
    · exact (by exact q2.to (by repeat (first | (with_reducible exact Since.refl q2.le) | (with_reducible refine Since.alloc ?_ _) | (with_reducible refine Since.drew ?_) | (with_reducible refine Since.drewN ?_ _) | (with_reducible refine Since.setCell ?_ ?_ _; rotate_left; (simp only []; omega)) | (with_reducible refine Since.ext ?_ (by assumption)))))
    · exact (by repeat (first | (with_reducible exact RExt.refl _ _) | (with_reducible assumption) | (with_reducible refine RExt.alloc ?_ _) | (with_reducible refine RExt.drewN ?_ _) | (with_reducible refine RExt.drew ?_) | (with_reducible refine RExt.setCell ?_ (.inr ?_) _; rotate_left; (simp only []; omega)) | (with_reducible refine RExt.trans ?_ (by assumption)) | (with_reducible refine RExt.ext ?_ (by assumption))))
  · have cdone : True := trivial
    by_cases e0 : d = 0
    · subst e0
      go_wp2_with fail
      refine (one_lit n0 B _ _ _ _ _ _ (by exact q2.to (by repeat (first | (with_reducible exact Since.refl q2.le) | (with_reducible refine Since.alloc ?_ _) | (with_reducible refine Since.drew ?_) | (with_reducible refine Since.drewN ?_ _) | (with_reducible refine Since.setCell ?_ ?_ _; rotate_left; (simp only []; omega)) | (with_reducible refine Since.ext ?_ (by assumption))))) (by omega) (by simp) (by rfl) (by omega) (by omega) (by simp [intOf])).mono ?_
      rintro e w3 ⟨z, rfl, hm3, q3, hx3⟩
      have hy3 := hx3.size
      (try simp at hy3)
      clear cBR fBR zBR
      clear cBG fBG zBG
      replace BR : Blk w3 w.heap.size 28 (#[.int .i64 0, .int .i64 0, .int .i64 0, .slice none 0 0, .slice none 0 0, .int .i64 0, .int .i64 0, .int .i64 0]) := by refine Blk.rext ?_ hx3 (by omega); repeat (first | (with_reducible exact BR) | (with_reducible exact Blk.new _ _ _) | exact Blk.newAt _ _ _ (by simp) | (with_reducible refine Blk.alloc ?_ _) | (with_reducible refine Blk.drew ?_) | (with_reducible refine Blk.drewN ?_ _) | refine Blk.far ?_ (by simp only []; omega) _)
      replace BG : Blk w3 w1.heap.size 28 (#[.int .i64 g.net.base, .int .i64 g.net.bits, .int .i64 g.out, .slice ta tn tc, .slice ka kn kc, .int .i64 g.filter, .int .i64 g.hold, .int .i64 g.now]) := by refine Blk.rext ?_ hx3 (by omega); repeat (first | (with_reducible exact BG) | (with_reducible exact Blk.new _ _ _) | exact Blk.newAt _ _ _ (by simp) | (with_reducible refine Blk.alloc ?_ _) | (with_reducible refine Blk.drew ?_) | (with_reducible refine Blk.drewN ?_ _) | refine Blk.far ?_ (by simp only []; omega) _)
      replace T0 : Sl encM 4 w3 ta tn tc g.table := by refine Sl.rextFar ?_ hx3 (fun hn x e => by have := lT0 hn x e; omega); repeat (first | (with_reducible exact T0) | (with_reducible refine Sl.alloc ?_ _) | (with_reducible refine Sl.drew ?_) | (with_reducible refine Sl.drewN ?_ _) | refine Sl.setFar ?_ (fun hn x e => by have := lT0 hn x e; simp only []; omega) _)
      replace K0 : Sl encC 3 w3 ka kn kc g.cons := by refine Sl.rextFar ?_ hx3 (fun hn x e => by have := lK0 hn x e; omega); repeat (first | (with_reducible exact K0) | (with_reducible refine Sl.alloc ?_ _) | (with_reducible refine Sl.drew ?_) | (with_reducible refine Sl.drewN ?_ _) | refine Sl.setFar ?_ (fun hn x e => by have := lK0 hn x e; simp only []; omega) _)
      have cBR := BR.cells
      have fBR := BR.frozens
      have zBR := BR.lt
      have cBG := BG.cells
      have fBG := BG.frozens
      have zBG := BG.lt
      simp [intOf] at hm3
      have X3 : RExt B w w3 := (by repeat (first | (with_reducible exact RExt.refl _ _) | (with_reducible assumption) | (with_reducible refine RExt.alloc ?_ _) | (with_reducible refine RExt.drewN ?_ _) | (with_reducible refine RExt.drew ?_) | (with_reducible refine RExt.setCell ?_ (.inr ?_) _; rotate_left; (simp only []; omega)) | (with_reducible refine RExt.trans ?_ (by assumption)) | (with_reducible refine RExt.ext ?_ (by assumption))))
      clear X2 hx3
      go_wp2
      refine' bodyPost_ret (v := _) ?_ rfl ?_
      rotate_left
      · (simp only [results, Try.results55]
         go_simp
         rfl)
      refine ⟨{ g with out := z }, ta, tn, tc, ka, kn, kc, rfl, ?_, ?_, by omega, by omega, (by first | omega | (simp only []; omega)), (by first | omega | (simp only []; omega)), (fun x e => by have := fT x e; omega), (fun x e => by have := fK x e; omega), ?_, ?_⟩
      · repeat (refine Sl.setFar ?_ (fun hn y hy => by have := lT0 hn y hy; simp only []; omega) _)
        exact T0
      · repeat (refine Sl.setFar ?_ (fun hn y hy => by have := lK0 hn y hy; simp only []; omega) _)
        exact K0
      · exact (by exact (Rd.mono q3 (show m + 64 + 1 + 1 ≤ m + 66 by omega)).to (by repeat (first | (with_reducible exact Since.refl (Rd.mono q3 (show m + 64 + 1 + 1 ≤ m + 66 by omega)).le) | (with_reducible refine Since.alloc ?_ _) | (with_reducible refine Since.drew ?_) | (with_reducible refine Since.drewN ?_ _) | (with_reducible refine Since.setCell ?_ ?_ _; rotate_left; (simp only []; omega)) | (with_reducible refine Since.ext ?_ (by assumption)))))
      · exact (by repeat (first | (with_reducible exact RExt.refl _ _) | (with_reducible assumption) | (with_reducible refine RExt.alloc ?_ _) | (with_reducible refine RExt.drewN ?_ _) | (with_reducible refine RExt.drew ?_) | (with_reducible refine RExt.setCell ?_ (.inr ?_) _; rotate_left; (simp only []; omega)) | (with_reducible refine RExt.trans ?_ (by assumption)) | (with_reducible refine RExt.ext ?_ (by assumption))))
    by_cases e1 : d = 1
    · subst e1
      go_wp2
      refine' bodyPost_ret (v := _) ?_ rfl ?_
      rotate_left
      · (simp only [results, Try.results55]
         go_simp
         rfl)
      refine ⟨{ g with filter := 3 }, ta, tn, tc, ka, kn, kc, rfl, ?_, ?_, by omega, by omega, (by first | omega | (simp only []; omega)), (by first | omega | (simp only []; omega)), (fun x e => by have := fT x e; omega), (fun x e => by have := fK x e; omega), ?_, ?_⟩
      · repeat (refine Sl.setFar ?_ (fun hn y hy => by have := lT0 hn y hy; simp only []; omega) _)
        exact T0
      · repeat (refine Sl.setFar ?_ (fun hn y hy => by have := lK0 hn y hy; simp only []; omega) _)
        exact K0
      · exact (by exact (Rd.mono q2 (show m + 64 + 1 ≤ m + 66 by omega)).to (by repeat (first | (with_reducible exact Since.refl (Rd.mono q2 (show m + 64 + 1 ≤ m + 66 by omega)).le) | (with_reducible refine Since.alloc ?_ _) | (with_reducible refine Since.drew ?_) | (with_reducible refine Since.drewN ?_ _) | (with_reducible refine Since.setCell ?_ ?_ _; rotate_left; (simp only []; omega)) | (with_reducible refine Since.ext ?_ (by assumption)))))
      · exact (by repeat (first | (with_reducible exact RExt.refl _ _) | (with_reducible assumption) | (with_reducible refine RExt.alloc ?_ _) | (with_reducible refine RExt.drewN ?_ _) | (with_reducible refine RExt.drew ?_) | (with_reducible refine RExt.setCell ?_ (.inr ?_) _; rotate_left; (simp only []; omega)) | (with_reducible refine RExt.trans ?_ (by assumption)) | (with_reducible refine RExt.ext ?_ (by assumption))))
    by_cases e2 : d = 2
    · subst e2
      go_wp2_with fail
      refine (one_lit n0 B _ _ _ _ _ _ (by exact q2.to (by repeat (first | (with_reducible exact Since.refl q2.le) | (with_reducible refine Since.alloc ?_ _) | (with_reducible refine Since.drew ?_) | (with_reducible refine Since.drewN ?_ _) | (with_reducible refine Since.setCell ?_ ?_ _; rotate_left; (simp only []; omega)) | (with_reducible refine Since.ext ?_ (by assumption))))) (by omega) (by simp) (by rfl) (by omega) (by omega) (by simp [intOf])).mono ?_
      rintro e w3 ⟨z, rfl, hm3, q3, hx3⟩
      have hy3 := hx3.size
      (try simp at hy3)
      clear cBR fBR zBR
      clear cBG fBG zBG
      replace BR : Blk w3 w.heap.size 28 (#[.int .i64 0, .int .i64 0, .int .i64 0, .slice none 0 0, .slice none 0 0, .int .i64 0, .int .i64 0, .int .i64 0]) := by refine Blk.rext ?_ hx3 (by omega); repeat (first | (with_reducible exact BR) | (with_reducible exact Blk.new _ _ _) | exact Blk.newAt _ _ _ (by simp) | (with_reducible refine Blk.alloc ?_ _) | (with_reducible refine Blk.drew ?_) | (with_reducible refine Blk.drewN ?_ _) | refine Blk.far ?_ (by simp only []; omega) _)
      replace BG : Blk w3 w1.heap.size 28 (#[.int .i64 g.net.base, .int .i64 g.net.bits, .int .i64 g.out, .slice ta tn tc, .slice ka kn kc, .int .i64 g.filter, .int .i64 g.hold, .int .i64 g.now]) := by refine Blk.rext ?_ hx3 (by omega); repeat (first | (with_reducible exact BG) | (with_reducible exact Blk.new _ _ _) | exact Blk.newAt _ _ _ (by simp) | (with_reducible refine Blk.alloc ?_ _) | (with_reducible refine Blk.drew ?_) | (with_reducible refine Blk.drewN ?_ _) | refine Blk.far ?_ (by simp only []; omega) _)
      replace T0 : Sl encM 4 w3 ta tn tc g.table := by refine Sl.rextFar ?_ hx3 (fun hn x e => by have := lT0 hn x e; omega); repeat (first | (with_reducible exact T0) | (with_reducible refine Sl.alloc ?_ _) | (with_reducible refine Sl.drew ?_) | (with_reducible refine Sl.drewN ?_ _) | refine Sl.setFar ?_ (fun hn x e => by have := lT0 hn x e; simp only []; omega) _)
      replace K0 : Sl encC 3 w3 ka kn kc g.cons := by refine Sl.rextFar ?_ hx3 (fun hn x e => by have := lK0 hn x e; omega); repeat (first | (with_reducible exact K0) | (with_reducible refine Sl.alloc ?_ _) | (with_reducible refine Sl.drew ?_) | (with_reducible refine Sl.drewN ?_ _) | refine Sl.setFar ?_ (fun hn x e => by have := lK0 hn x e; simp only []; omega) _)
      have cBR := BR.cells
      have fBR := BR.frozens
      have zBR := BR.lt
      have cBG := BG.cells
      have fBG := BG.frozens
      have zBG := BG.lt
      simp [intOf] at hm3
      have X3 : RExt B w w3 := (by repeat (first | (with_reducible exact RExt.refl _ _) | (with_reducible assumption) | (with_reducible refine RExt.alloc ?_ _) | (with_reducible refine RExt.drewN ?_ _) | (with_reducible refine RExt.drew ?_) | (with_reducible refine RExt.setCell ?_ (.inr ?_) _; rotate_left; (simp only []; omega)) | (with_reducible refine RExt.trans ?_ (by assumption)) | (with_reducible refine RExt.ext ?_ (by assumption))))
      clear X2 hx3
      go_wp2
      refine' bodyPost_ret (v := _) ?_ rfl ?_
      rotate_left
      · (simp only [results, Try.results55]
         go_simp
         rfl)
      refine ⟨{ g with hold := z }, ta, tn, tc, ka, kn, kc, rfl, ?_, ?_, by omega, by omega, (by first | omega | (simp only []; omega)), (by first | omega | (simp only []; omega)), (fun x e => by have := fT x e; omega), (fun x e => by have := fK x e; omega), ?_, ?_⟩
      · repeat (refine Sl.setFar ?_ (fun hn y hy => by have := lT0 hn y hy; simp only []; omega) _)
        exact T0
      · repeat (refine Sl.setFar ?_ (fun hn y hy => by have := lK0 hn y hy; simp only []; omega) _)
        exact K0
      · exact (by exact (Rd.mono q3 (show m + 64 + 1 + 1 ≤ m + 66 by omega)).to (by repeat (first | (with_reducible exact Since.refl (Rd.mono q3 (show m + 64 + 1 + 1 ≤ m + 66 by omega)).le) | (with_reducible refine Since.alloc ?_ _) | (with_reducible refine Since.drew ?_) | (with_reducible refine Since.drewN ?_ _) | (with_reducible refine Since.setCell ?_ ?_ _; rotate_left; (simp only []; omega)) | (with_reducible refine Since.ext ?_ (by assumption)))))
      · exact (by repeat (first | (with_reducible exact RExt.refl _ _) | (with_reducible assumption) | (with_reducible refine RExt.alloc ?_ _) | (with_reducible refine RExt.drewN ?_ _) | (with_reducible refine RExt.drew ?_) | (with_reducible refine RExt.setCell ?_ (.inr ?_) _; rotate_left; (simp only []; omega)) | (with_reducible refine RExt.trans ?_ (by assumption)) | (with_reducible refine RExt.ext ?_ (by assumption))))
    by_cases e3 : d = 3
    · subst e3
      go_wp2_with fail
      refine (one_lit n0 B _ _ _ _ _ _ (by exact q2.to (by repeat (first | (with_reducible exact Since.refl q2.le) | (with_reducible refine Since.alloc ?_ _) | (with_reducible refine Since.drew ?_) | (with_reducible refine Since.drewN ?_ _) | (with_reducible refine Since.setCell ?_ ?_ _; rotate_left; (simp only []; omega)) | (with_reducible refine Since.ext ?_ (by assumption))))) (by omega) (by simp) (by rfl) (by omega) (by omega) (by simp [intOf])).mono ?_
      rintro e w3 ⟨z, rfl, hm3, q3, hx3⟩
      have hy3 := hx3.size
      (try simp at hy3)
      clear cBR fBR zBR
      clear cBG fBG zBG
      replace BR : Blk w3 w.heap.size 28 (#[.int .i64 0, .int .i64 0, .int .i64 0, .slice none 0 0, .slice none 0 0, .int .i64 0, .int .i64 0, .int .i64 0]) := by refine Blk.rext ?_ hx3 (by omega); repeat (first | (with_reducible exact BR) | (with_reducible exact Blk.new _ _ _) | exact Blk.newAt _ _ _ (by simp) | (with_reducible refine Blk.alloc ?_ _) | (with_reducible refine Blk.drew ?_) | (with_reducible refine Blk.drewN ?_ _) | refine Blk.far ?_ (by simp only []; omega) _)
      replace BG : Blk w3 w1.heap.size 28 (#[.int .i64 g.net.base, .int .i64 g.net.bits, .int .i64 g.out, .slice ta tn tc, .slice ka kn kc, .int .i64 g.filter, .int .i64 g.hold, .int .i64 g.now]) := by refine Blk.rext ?_ hx3 (by omega); repeat (first | (with_reducible exact BG) | (with_reducible exact Blk.new _ _ _) | exact Blk.newAt _ _ _ (by simp) | (with_reducible refine Blk.alloc ?_ _) | (with_reducible refine Blk.drew ?_) | (with_reducible refine Blk.drewN ?_ _) | refine Blk.far ?_ (by simp only []; omega) _)
      replace T0 : Sl encM 4 w3 ta tn tc g.table := by refine Sl.rextFar ?_ hx3 (fun hn x e => by have := lT0 hn x e; omega); repeat (first | (with_reducible exact T0) | (with_reducible refine Sl.alloc ?_ _) | (with_reducible refine Sl.drew ?_) | (with_reducible refine Sl.drewN ?_ _) | refine Sl.setFar ?_ (fun hn x e => by have := lT0 hn x e; simp only []; omega) _)
      replace K0 : Sl encC 3 w3 ka kn kc g.cons := by refine Sl.rextFar ?_ hx3 (fun hn x e => by have := lK0 hn x e; omega); repeat (first | (with_reducible exact K0) | (with_reducible refine Sl.alloc ?_ _) | (with_reducible refine Sl.drew ?_) | (with_reducible refine Sl.drewN ?_ _) | refine Sl.setFar ?_ (fun hn x e => by have := lK0 hn x e; simp only []; omega) _)
      have cBR := BR.cells
      have fBR := BR.frozens
      have zBR := BR.lt
      have cBG := BG.cells
      have fBG := BG.frozens
      have zBG := BG.lt
      simp [intOf] at hm3
      have X3 : RExt B w w3 := (by repeat (first | (with_reducible exact RExt.refl _ _) | (with_reducible assumption) | (with_reducible refine RExt.alloc ?_ _) | (with_reducible refine RExt.drewN ?_ _) | (with_reducible refine RExt.drew ?_) | (with_reducible refine RExt.setCell ?_ (.inr ?_) _; rotate_left; (simp only []; omega)) | (with_reducible refine RExt.trans ?_ (by assumption)) | (with_reducible refine RExt.ext ?_ (by assumption))))
      clear X2 hx3
      go_wp2
      refine' bodyPost_ret (v := _) ?_ rfl ?_
      rotate_left
      · (simp only [results, Try.results55]
         go_simp
         rfl)
      refine ⟨{ g with now := z }, ta, tn, tc, ka, kn, kc, rfl, ?_, ?_, by omega, by omega, (by first | omega | (simp only []; omega)), (by first | omega | (simp only []; omega)), (fun x e => by have := fT x e; omega), (fun x e => by have := fK x e; omega), ?_, ?_⟩
      · repeat (refine Sl.setFar ?_ (fun hn y hy => by have := lT0 hn y hy; simp only []; omega) _)
        exact T0
      · repeat (refine Sl.setFar ?_ (fun hn y hy => by have := lK0 hn y hy; simp only []; omega) _)
        exact K0
      · exact (by exact (Rd.mono q3 (show m + 64 + 1 + 1 ≤ m + 66 by omega)).to (by repeat (first | (with_reducible exact Since.refl (Rd.mono q3 (show m + 64 + 1 + 1 ≤ m + 66 by omega)).le) | (with_reducible refine Since.alloc ?_ _) | (with_reducible refine Since.drew ?_) | (with_reducible refine Since.drewN ?_ _) | (with_reducible refine Since.setCell ?_ ?_ _; rotate_left; (simp only []; omega)) | (with_reducible refine Since.ext ?_ (by assumption)))))
      · exact (by repeat (first | (with_reducible exact RExt.refl _ _) | (with_reducible assumption) | (with_reducible refine RExt.alloc ?_ _) | (with_reducible refine RExt.drewN ?_ _) | (with_reducible refine RExt.drew ?_) | (with_reducible refine RExt.setCell ?_ (.inr ?_) _; rotate_left; (simp only []; omega)) | (with_reducible refine RExt.trans ?_ (by assumption)) | (with_reducible refine RExt.ext ?_ (by assumption))))
    go_wp2
    refine' bodyPost_ret (v := _) ?_ rfl ?_
    rotate_left
    · (simp only [results, Try.results55]
       go_simp
       rfl)
    refine ⟨g, ta, tn, tc, ka, kn, kc, rfl, ?_, ?_, by omega, by omega, (by first | omega | (simp only []; omega)), (by first | omega | (simp only []; omega)), (fun x e => by have := fT x e; omega), (fun x e => by have := fK x e; omega), ?_, ?_⟩
    · repeat (refine Sl.setFar ?_ (fun hn y hy => by have := lT0 hn y hy; simp only []; omega) _)
      exact T0
    · repeat (refine Sl.setFar ?_ (fun hn y hy => by have := lK0 hn y hy; simp only []; omega) _)
      exact K0
    · exact (by exact (Rd.mono q2 (show m + 64 + 1 ≤ m + 66 by omega)).to (by repeat (first | (with_reducible exact Since.refl (Rd.mono q2 (show m + 64 + 1 ≤ m + 66 by omega)).le) | (with_reducible refine Since.alloc ?_ _) | (with_reducible refine Since.drew ?_) | (with_reducible refine Since.drewN ?_ _) | (with_reducible refine Since.setCell ?_ ?_ _; rotate_left; (simp only []; omega)) | (with_reducible refine Since.ext ?_ (by assumption)))))
    · exact (by repeat (first | (with_reducible exact RExt.refl _ _) | (with_reducible assumption) | (with_reducible refine RExt.alloc ?_ _) | (with_reducible refine RExt.drewN ?_ _) | (with_reducible refine RExt.drew ?_) | (with_reducible refine RExt.setCell ?_ (.inr ?_) _; rotate_left; (simp only []; omega)) | (with_reducible refine RExt.trans ?_ (by assumption)) | (with_reducible refine RExt.ext ?_ (by assumption))))
end Go.Proofs.Ytppdcglnopoocaa
/- Contracts of the generators of packets that come in. -/
namespace Go.Proofs.Ytppdcglnopoocaa
set_option linter.unusedVariables false
set_option linter.unusedSimpArgs false
open Go.RowKit

set_option maxHeartbeats 4000000 in
theorem inPacket_any (n0 B : Nat) (m : Int) (g : GateD) (ta : Option Addr) (tn tc : Nat) (ka : Option Addr) (kn kc : Nat) (w : World) (hr : Rd n0 w B m) (hm : m + 210 ≤ 1000000) (K0 : Sl encC 3 w ka kn kc g.cons) (hkn : kn ≤ 1000) (hKB : ∀ x, ka = some x → x.block ≠ B) :
    Calls Try.prog 56 #[.pointer (some ⟨B, 0, none⟩), .agg #[.int .i64 g.net.base, .int .i64 g.net.bits, .int .i64 g.out, .slice ta tn tc, .slice ka kn kc, .int .i64 g.filter, .int .i64 g.hold, .int .i64 g.now]] w fun e w' => ∃ (p : PktD) (a : Option Addr) (n c : Nat), e = .returned (.agg #[.int .i64 p.kind, .int .i64 p.fr.addr, .int .i64 p.fr.port, .int .i64 p.to_.addr, .int .i64 p.to_.port, .slice a n c]) ∧ Sl encI 1 w' a n c p.data ∧ n ≤ 13 ∧ (∀ x, a = some x → w.heap.size ≤ x.block) ∧ Rd n0 w' B (m + 210) ∧ RExt B w w' := by
  have hnw : n0 ≤ w.heap.size := hr.le
  have hBw : B < w.heap.size := (by have := hr.lt; omega)
  have lK0 : 0 < kn → ∀ x, ka = some x → x.block < w.heap.size ∧ x.block ≠ B := fun h x e => ⟨K0.lt h x e, hKB x e⟩
  go_enter Try.func56, Try.ntmps56
  go_wp2_with fail
  refine (somePacket_any n0 B m _ (by exact hr.to (by repeat (first | (with_reducible exact Since.refl hr.le) | (with_reducible refine Since.alloc ?_ _) | (with_reducible refine Since.drew ?_) | (with_reducible refine Since.drewN ?_ _) | (with_reducible refine Since.setCell ?_ ?_ _; rotate_left; (simp only []; omega)) | (with_reducible refine Since.ext ?_ (by assumption))))) (by omega)).mono ?_
  rintro e w1 ⟨k, fa, fp, ga, gp, a, n, c, L, rfl, S0, hv, fS, q1, hx1⟩
  have hy1 := hx1.size
  (try simp at hy1)
  have BG : Blk w1 w.heap.size 28 (#[.int .i64 g.net.base, .int .i64 g.net.bits, .int .i64 g.out, .slice ta tn tc, .slice ka kn kc, .int .i64 g.filter, .int .i64 g.hold, .int .i64 g.now]) := by refine Blk.rext ?_ hx1 (by omega); repeat (first | (with_reducible exact BG) | (with_reducible exact Blk.new _ _ _) | exact Blk.newAt _ _ _ (by simp) | (with_reducible refine Blk.alloc ?_ _) | (with_reducible refine Blk.drew ?_) | (with_reducible refine Blk.drewN ?_ _) | refine Blk.far ?_ (by simp only []; omega) _)
  have BR : Blk w1 (w.heap.size+1) 33 (#[.int .i64 0, .int .i64 0, .int .i64 0, .int .i64 0, .int .i64 0, .slice none 0 0]) := by refine Blk.rext ?_ hx1 (by omega); repeat (first | (with_reducible exact BR) | (with_reducible exact Blk.new _ _ _) | exact Blk.newAt _ _ _ (by simp) | (with_reducible refine Blk.alloc ?_ _) | (with_reducible refine Blk.drew ?_) | (with_reducible refine Blk.drewN ?_ _) | refine Blk.far ?_ (by simp only []; omega) _)
  replace K0 : Sl encC 3 w1 ka kn kc g.cons := by refine Sl.rextFar ?_ hx1 (fun hn x e => by have := lK0 hn x e; omega); repeat (first | (with_reducible exact K0) | (with_reducible refine Sl.alloc ?_ _) | (with_reducible refine Sl.drew ?_) | (with_reducible refine Sl.drewN ?_ _) | refine Sl.setFar ?_ (fun hn x e => by have := lK0 hn x e; simp only []; omega) _)
  have cBG := BG.cells
  have fBG := BG.frozens
  have zBG := BG.lt
  have cBR := BR.cells
  have fBR := BR.frozens
  have zBR := BR.lt
  have hn12 : n ≤ 12 := by
    have h1 := S0.len
    simp only [validPkt, Bool.and_eq_true, decide_eq_true_eq] at hv
    omega
  have hfS : ∀ x, a = some x → w.heap.size + 1 < x.block := fun x e => by have h := fS x e; simp at h; omega
  clear fS hv
  have fS := hfS
  have lS0 : 0 < n → ∀ x, a = some x → w.heap.size + 1 < x.block ∧ x.block < w1.heap.size := fun h x e => ⟨fS x e, S0.lt h x e⟩
  clear hfS
  go_wp2_with fail
  refine (farEnd_any n0 B _ _ (by exact q1.to (by repeat (first | (with_reducible exact Since.refl q1.le) | (with_reducible refine Since.alloc ?_ _) | (with_reducible refine Since.drew ?_) | (with_reducible refine Since.drewN ?_ _) | (with_reducible refine Since.setCell ?_ ?_ _; rotate_left; (simp only []; omega)) | (with_reducible refine Since.ext ?_ (by assumption))))) (by omega)).mono ?_
  rintro e w2 ⟨x1, y1, rfl, x10, x11, y10, y11, q2, hx2⟩
  have hy2 := hx2.size
  (try simp at hy2)
  clear cBG fBG zBG
  clear cBR fBR zBR
  replace BG : Blk w2 w.heap.size 28 (#[.int .i64 g.net.base, .int .i64 g.net.bits, .int .i64 g.out, .slice ta tn tc, .slice ka kn kc, .int .i64 g.filter, .int .i64 g.hold, .int .i64 g.now]) := by refine Blk.rext ?_ hx2 (by omega); repeat (first | (with_reducible exact BG) | (with_reducible exact Blk.new _ _ _) | exact Blk.newAt _ _ _ (by simp) | (with_reducible refine Blk.alloc ?_ _) | (with_reducible refine Blk.drew ?_) | (with_reducible refine Blk.drewN ?_ _) | refine Blk.far ?_ (by simp only []; omega) _)
  replace BR : Blk w2 (w.heap.size+1) 33 (#[.int .i64 0, .int .i64 0, .int .i64 0, .int .i64 0, .int .i64 0, .slice none 0 0]) := by refine Blk.rext ?_ hx2 (by omega); repeat (first | (with_reducible exact BR) | (with_reducible exact Blk.new _ _ _) | exact Blk.newAt _ _ _ (by simp) | (with_reducible refine Blk.alloc ?_ _) | (with_reducible refine Blk.drew ?_) | (with_reducible refine Blk.drewN ?_ _) | refine Blk.far ?_ (by simp only []; omega) _)
  have BP : Blk w2 w1.heap.size 33 (#[.int .i64 k, .int .i64 fa, .int .i64 fp, .int .i64 ga, .int .i64 gp, .slice a n c]) := by refine Blk.rext ?_ hx2 (by omega); repeat (first | (with_reducible exact BP) | (with_reducible exact Blk.new _ _ _) | exact Blk.newAt _ _ _ (by simp) | (with_reducible refine Blk.alloc ?_ _) | (with_reducible refine Blk.drew ?_) | (with_reducible refine Blk.drewN ?_ _) | refine Blk.far ?_ (by simp only []; omega) _)
  replace K0 : Sl encC 3 w2 ka kn kc g.cons := by refine Sl.rextFar ?_ hx2 (fun hn x e => by have := lK0 hn x e; omega); repeat (first | (with_reducible exact K0) | (with_reducible refine Sl.alloc ?_ _) | (with_reducible refine Sl.drew ?_) | (with_reducible refine Sl.drewN ?_ _) | refine Sl.setFar ?_ (fun hn x e => by have := lK0 hn x e; simp only []; omega) _)
  replace S0 : Sl encI 1 w2 a n c L := by refine Sl.rextFar ?_ hx2 (fun hn x e => by have := lS0 hn x e; omega); repeat (first | (with_reducible exact S0) | (with_reducible refine Sl.alloc ?_ _) | (with_reducible refine Sl.drew ?_) | (with_reducible refine Sl.drewN ?_ _) | refine Sl.setFar ?_ (fun hn x e => by have := lS0 hn x e; simp only []; omega) _)
  have cBG := BG.cells
  have fBG := BG.frozens
  have zBG := BG.lt
  have cBR := BR.cells
  have fBR := BR.frozens
  have zBR := BR.lt
  have cBP := BP.cells
  have fBP := BP.frozens
  have zBP := BP.lt
  have X2 : RExt B w w2 := (by repeat (first | (with_reducible exact RExt.refl _ _) | (with_reducible assumption) | (with_reducible refine RExt.alloc ?_ _) | (with_reducible refine RExt.drewN ?_ _) | (with_reducible refine RExt.drew ?_) | (with_reducible refine RExt.setCell ?_ (.inr ?_) _; rotate_left; (simp only []; omega)) | (with_reducible refine RExt.trans ?_ (by assumption)) | (with_reducible refine RExt.ext ?_ (by assumption))))
  have hwP : w.heap.size + 1 < w1.heap.size := by omega
  have hPw : w1.heap.size < w2.heap.size := by omega
  clear hx1 hx2 q1 hy1 hy2
  generalize w1.heap.size = P at *
  go_wp2_with fail
  refine wp_gen (fun W => RExt P w2 W ∧ Blk W P 33 #[.int .i64 k, .int .i64 x1, .int .i64 y1, .int .i64 ga, .int .i64 gp, .slice a n c]) ⟨(by repeat (first | (with_reducible exact RExt.refl _ _) | (with_reducible refine RExt.putc ?_ _ _))), by simpa using (BP.set 1 (.int .i64 x1)).set 2 (.int .i64 y1)⟩ ?_
  rintro w3 ⟨x3, BP3⟩
  clear BP cBP fBP zBP cBG fBG zBG cBR fBR zBR
  have BP := BP3
  have r0 := q2
  have X0 := X2
  clear BP3 q2 X2
  replace BG := BG.rext x3 (by omega)
  replace BR := BR.rext x3 (by omega)
  replace K0 := K0.rextFar x3 (fun hn x e => by have := lK0 hn x e; omega)
  replace S0 := S0.rextFar x3 (fun hn x e => by have := lS0 hn x e; omega)
  replace r0 := r0.rextNew x3 (by omega)
  replace X0 := X0.rextNew x3 (by omega)
  have := (x3).size
  clear x3
  replace BG := BG.drew
  replace BR := BR.drew
  replace BP := BP.drew
  replace K0 := K0.drew
  replace S0 := S0.drew
  replace r0 := r0.drew
  replace X0 := X0.drew
  have hB3 : B < w3.heap.size := by omega
  have hdrS : ∀ W : World, W.drew.heap.size = W.heap.size := fun _ => rfl
  refine wp_region_float (R := RExt B) (base := (w3).heap.size) (Ts := []) [0, 1, 2, 3, 4, 5, 6, 7] (by kernel_rfl) (by kernel_rfl) (RExt.refl B) (fun _ _ _ => RExt.trans) (fun _ _ h => RExt.of_ext h B) (fun _ _ h => h.size) (fun _ _ b _ _ hb hB hR => hB.rext hR (by omega)) (by intro x hx; simp only [List.mem_cons, List.not_mem_nil, or_false] at hx; skip; all_goals (intro wS; kernel_rfl)) (by omega) ?_
  have hdrW := hdrS (w3)
  repeat' (first
    | (refine' ChF.pure (v := _) (by rfl) (by rfl) (by rfl) ?_ ?_
       rotate_left
       · (intro wS
          go_simp
          with_reducible rfl)
       (try simp only [Act.put, List.setIfInBounds_toArray, List.set_cons_zero, List.set_cons_succ]))
    | (refine' ChF.quiet (v := _) (by rfl) (by rfl) (by rfl) (by rfl) ?_ ?_
       rotate_left
       · (intro wS hS
          have cS := (BG.rext hS (by omega)).cells
          go_simp
          with_reducible rfl)
       (try simp only [Act.put, List.setIfInBounds_toArray, List.set_cons_zero, List.set_cons_succ]))
    | fail)
  refine ChF.call (by rfl) (by rfl) (by rfl) (by rfl) (by rfl) (by intro wS; go_simp; (constructor <;> rfl)) ?_
  intro u4 eu4
  replace BG := BG.ext eu4
  replace BR := BR.ext eu4
  replace BP := BP.ext eu4
  replace K0 := K0.ext eu4
  replace S0 := S0.ext eu4
  replace r0 := r0.ext eu4
  replace X0 := X0.ext eu4
  have := (eu4).size
  clear eu4
  refine (pick_any n0 B _ 8 u4 r0 (by omega) (by omega) (by omega)).mono ?_
  rintro e w4 ⟨px, rfl, px0, px1, q4, h4⟩
  refine ⟨_, rfl, h4, ?_⟩
  (try simp only [Act.put, List.setIfInBounds_toArray, List.set_cons_zero, List.set_cons_succ])
  replace BG := BG.rext h4 (by omega)
  replace BR := BR.rext h4 (by omega)
  replace BP := BP.rext h4 (by omega)
  replace K0 := K0.rextFar h4 (fun hn x e => by have := lK0 hn x e; omega)
  replace S0 := S0.rextFar h4 (fun hn x e => by have := lS0 hn x e; omega)
  replace X0 := X0.trans h4
  have := (h4).size
  clear h4
  replace r0 := q4
  clear q4
  have hwr : IntKind.i64.wrap (1000 + px) = 1000 + px := IntWalk.i64_in _ (by omega)
  have cBP := BP.cells
  have fBP := BP.frozens
  repeat' (first
    | (refine' ChF.pure (v := _) (by rfl) (by rfl) (by rfl) ?_ ?_
       rotate_left
       · (intro wS
          go_simp
          with_reducible rfl)
       (try simp only [Act.put, List.setIfInBounds_toArray, List.set_cons_zero, List.set_cons_succ]))
    | (refine' ChF.quiet (v := _) (by rfl) (by rfl) (by rfl) (by rfl) ?_ ?_
       rotate_left
       · (intro wS hS
          skip
          go_simp
          with_reducible rfl)
       (try simp only [Act.put, List.setIfInBounds_toArray, List.set_cons_zero, List.set_cons_succ]))
    | fail)
  refine ChF.storeP (fun W => RExt P w4 W ∧ Blk W P 33 #[.int .i64 k, .int .i64 x1, .int .i64 y1, .int .i64 g.out, .int .i64 (1000 + px), .slice a n c]) (by rfl) (by rfl) (by rfl) ⟨_, (by go_simp; rfl), (by simp [World.setCell]), (by repeat (first | (with_reducible exact RExt.refl _ _) | (with_reducible refine RExt.putc ?_ _ _))), (by simpa using (BP.set 3 (.int .i64 g.out)).set 4 (.int .i64 (1000 + px)))⟩ ?_
  (try simp only [Act.put, List.setIfInBounds_toArray, List.set_cons_zero, List.set_cons_succ])
  clear hwr cBP fBP
  rintro w5 s5 ⟨x5, BP5⟩
  replace BP := BP5
  clear BP5
  replace BG := BG.rext x5 (by omega)
  replace BR := BR.rext x5 (by omega)
  replace K0 := K0.rextFar x5 (fun hn x e => by have := lK0 hn x e; omega)
  replace S0 := S0.rextFar x5 (fun hn x e => by have := lS0 hn x e; omega)
  replace r0 := r0.rextNew x5 (by omega)
  replace X0 := X0.rextNew x5 (by omega)
  have := (x5).size
  clear x5
  refine ChF.nil ?_
  have hwp5 : P < w5.heap.size := BP.lt
  by_cases hk0 : kn = 0
  · subst hk0
    have cBP := BP.cells
    have fBP := BP.frozens
    have zBP := BP.lt
    have cBG := BG.cells
    have zBG := BG.lt
    have cBR := BR.cells
    have fBR := BR.frozens
    have zBR := BR.lt
    go_wp2_with fail
    refine (pick_any n0 B _ 12 _ (by exact r0.to (by repeat (first | (with_reducible exact Since.refl r0.le) | (with_reducible refine Since.alloc ?_ _) | (with_reducible refine Since.drew ?_) | (with_reducible refine Since.drewN ?_ _) | (with_reducible refine Since.setCell ?_ ?_ _; rotate_left; (simp only []; omega)) | (with_reducible refine Since.ext ?_ (by assumption))))) (by omega) (by omega) (by omega)).mono ?_
    rintro e t1 ⟨d, rfl, d0, d1, qt, ht⟩
    replace r0 := qt
    clear qt
    replace BG := BG.rext ht (by omega)
    replace BR := BR.rext ht (by omega)
    replace BP := BP.rext ht (by omega)
    replace K0 := K0.rextFar ht (fun hn x e => by have := lK0 hn x e; omega)
    replace S0 := S0.rextFar ht (fun hn x e => by have := lS0 hn x e; omega)
    replace X0 := X0.trans ht
    have := (ht).size
    clear ht
    have cBP := BP.cells
    have fBP := BP.frozens
    have zBP := BP.lt
    have cBG := BG.cells
    have zBG := BG.lt
    have cBR := BR.cells
    have fBR := BR.frozens
    have zBR := BR.lt
    by_cases e0 : d = 0
    · subst e0
      go_wp2_with fail
      refine (anyPacket_any n0 B _ _ r0 (by omega)).mono ?_
      rintro e t2 ⟨k', fa', fp', ga', gp', a', n', c', L', rfl, S1, hn13, fS1, qt, ht⟩
      clear cBP fBP zBP cBG zBG cBR fBR zBR
      replace r0 := qt
      clear qt
      replace BG := BG.rext ht (by omega)
      replace BR := BR.rext ht (by omega)
      replace BP := BP.rext ht (by omega)
      replace K0 := K0.rextFar ht (fun hn x e => by have := lK0 hn x e; omega)
      replace S0 := S0.rextFar ht (fun hn x e => by have := lS0 hn x e; omega)
      replace X0 := X0.trans ht
      have := (ht).size
      clear ht
      have cBP := BP.cells
      have fBP := BP.frozens
      have zBP := BP.lt
      have cBG := BG.cells
      have zBG := BG.lt
      have cBR := BR.cells
      have fBR := BR.frozens
      have zBR := BR.lt
      go_wp2
      refine' bodyPost_ret (v := _) ?_ rfl ?_
      rotate_left
      · (simp only [results, Try.results56]
         go_simp
         rfl)
      refine ⟨⟨k', ⟨fa', fp'⟩, ⟨ga', gp'⟩, L'⟩, a', n', c', rfl, ?_, hn13, (fun x e => by have := fS1 x e; omega), ?_, ?_⟩
      · repeat (refine Sl.setFar ?_ (fun hn y hy => by have := fS1 y hy; simp only []; omega) _)
        exact S1
      · exact (by exact (r0.mono (show _ ≤ m + 210 by omega)).to (by repeat (first | (with_reducible exact Since.refl (r0.mono (show _ ≤ m + 210 by omega)).le) | (with_reducible refine Since.alloc ?_ _) | (with_reducible refine Since.drew ?_) | (with_reducible refine Since.drewN ?_ _) | (with_reducible refine Since.setCell ?_ ?_ _; rotate_left; (simp only []; omega)) | (with_reducible refine Since.ext ?_ (by assumption)))))
      · exact (by repeat (first | (with_reducible exact RExt.refl _ _) | (with_reducible assumption) | (with_reducible refine RExt.alloc ?_ _) | (with_reducible refine RExt.drewN ?_ _) | (with_reducible refine RExt.drew ?_) | (with_reducible refine RExt.setCell ?_ (.inr ?_) _; rotate_left; (simp only []; omega)) | (with_reducible refine RExt.trans ?_ (by assumption)) | (with_reducible refine RExt.ext ?_ (by assumption))))
    · go_wp2
      refine' bodyPost_ret (v := _) ?_ rfl ?_
      rotate_left
      · (simp only [results, Try.results56]
         go_simp
         rfl)
      refine ⟨((⟨k, ⟨x1, y1⟩, ⟨g.out, 1000 + px⟩, L⟩ : PktD)), a, n, c, rfl, ?_, by omega, (fun x e => by have := fS x e; omega), ?_, ?_⟩
      · repeat (refine Sl.setFar ?_ (fun hn y hy => by have := lS0 hn y hy; simp only []; omega) _)
        exact S0
      · exact (by exact (r0.mono (show _ ≤ m + 210 by omega)).to (by repeat (first | (with_reducible exact Since.refl (r0.mono (show _ ≤ m + 210 by omega)).le) | (with_reducible refine Since.alloc ?_ _) | (with_reducible refine Since.drew ?_) | (with_reducible refine Since.drewN ?_ _) | (with_reducible refine Since.setCell ?_ ?_ _; rotate_left; (simp only []; omega)) | (with_reducible refine Since.ext ?_ (by assumption)))))
      · exact (by repeat (first | (with_reducible exact RExt.refl _ _) | (with_reducible assumption) | (with_reducible refine RExt.alloc ?_ _) | (with_reducible refine RExt.drewN ?_ _) | (with_reducible refine RExt.drew ?_) | (with_reducible refine RExt.setCell ?_ (.inr ?_) _; rotate_left; (simp only []; omega)) | (with_reducible refine RExt.trans ?_ (by assumption)) | (with_reducible refine RExt.ext ?_ (by assumption))))
  · obtain ⟨_, b, off, rfl, hb, _⟩ := (K0.cons).resolve_left (by omega)
    have hbB : b ≠ B := hKB _ rfl
    have hkp : (0 : Int) < (kn : Int) := by omega
    have cBP := BP.cells
    have fBP := BP.frozens
    have zBP := BP.lt
    have cBG := BG.cells
    have zBG := BG.lt
    have cBR := BR.cells
    have fBR := BR.frozens
    have zBR := BR.lt
    go_wp2_with fail
    refine (pick_any n0 B _ 3 _ (by exact r0.to (by repeat (first | (with_reducible exact Since.refl r0.le) | (with_reducible refine Since.alloc ?_ _) | (with_reducible refine Since.drew ?_) | (with_reducible refine Since.drewN ?_ _) | (with_reducible refine Since.setCell ?_ ?_ _; rotate_left; (simp only []; omega)) | (with_reducible refine Since.ext ?_ (by assumption))))) (by omega) (by omega) (by omega)).mono ?_
    rintro e w6 ⟨d3, rfl, d30, d31, q6, h6⟩
    clear cBP fBP zBP cBG zBG cBR fBR zBR
    replace r0 := q6
    clear q6
    replace BG := BG.rext h6 (by omega)
    replace BR := BR.rext h6 (by omega)
    replace BP := BP.rext h6 (by omega)
    replace K0 := K0.rextFar h6 (fun hn x e => by have := lK0 hn x e; omega)
    replace S0 := S0.rextFar h6 (fun hn x e => by have := lS0 hn x e; omega)
    replace X0 := X0.trans h6
    have := (h6).size
    clear h6
    have cBP := BP.cells
    have fBP := BP.frozens
    have zBP := BP.lt
    have cBG := BG.cells
    have zBG := BG.lt
    have cBR := BR.cells
    have fBR := BR.frozens
    have zBR := BR.lt
    by_cases e3 : 0 < d3
    · go_wp2_with fail
      clear cBP fBP zBP cBG zBG cBR fBR zBR
      replace BG := BG.drew
      replace BR := BR.drew
      replace BP := BP.drew
      replace K0 := K0.drew
      replace S0 := S0.drew
      replace r0 := r0.drew
      replace X0 := X0.drew
      have hB6 : B < w6.heap.size := by omega
      have hP6 : P < w6.heap.size := by omega
      have hdrS : ∀ W : World, W.drew.heap.size = W.heap.size := fun _ => rfl
      refine wp_region_float (R := RExt B) (base := (w6).heap.size) (Ts := [(47, #[.int .i64 0, .int .i64 0, .int .i64 0])]) [0, 1, 2, 3, 4, 5, 6, 7, 8, 9, 10] (by kernel_rfl) (by kernel_rfl) (RExt.refl B) (fun _ _ _ => RExt.trans) (fun _ _ h => RExt.of_ext h B) (fun _ _ h => h.size) (fun _ _ b _ _ hb hB hR => hB.rext hR (by omega)) (by intro x hx; simp only [List.mem_cons, List.not_mem_nil, or_false] at hx; subst hx; all_goals (intro wS; kernel_rfl)) (by omega) ?_
      have hdrW := hdrS (w6)
      repeat' (first
        | (refine' ChF.pure (v := _) (by rfl) (by rfl) (by rfl) ?_ ?_
           rotate_left
           · (intro wS
              go_simp
              with_reducible rfl)
           (try simp only [Act.put, List.setIfInBounds_toArray, List.set_cons_zero, List.set_cons_succ]))
        | (refine' ChF.quiet (v := _) (by rfl) (by rfl) (by rfl) (by rfl) ?_ ?_
           rotate_left
           · (intro wS hS
              have cS := (BG.rext hS (by omega)).cells
              go_simp
              with_reducible rfl)
           (try simp only [Act.put, List.setIfInBounds_toArray, List.set_cons_zero, List.set_cons_succ]))
        | fail)
      refine ChF.call (by rfl) (by rfl) (by rfl) (by rfl) (by rfl) (by intro wS; go_simp; (constructor <;> rfl)) ?_
      intro u7 eu7
      replace BG := BG.ext eu7
      replace BR := BR.ext eu7
      replace BP := BP.ext eu7
      replace K0 := K0.ext eu7
      replace S0 := S0.ext eu7
      replace r0 := r0.ext eu7
      replace X0 := X0.ext eu7
      have := (eu7).size
      clear eu7
      refine (pick_any n0 B _ kn u7 r0 (by omega) (by omega) (by omega)).mono ?_
      rintro e w7 ⟨pi, rfl, pi0, pi1, q7, h7⟩
      obtain ⟨i, rfl⟩ := Int.eq_ofNat_of_zero_le pi0
      refine ⟨_, rfl, h7, ?_⟩
      (try simp only [Act.put, List.setIfInBounds_toArray, List.set_cons_zero, List.set_cons_succ])
      replace BG := BG.rext h7 (by omega)
      replace BR := BR.rext h7 (by omega)
      replace BP := BP.rext h7 (by omega)
      replace K0 := K0.rextFar h7 (fun hn x e => by have := lK0 hn x e; omega)
      replace S0 := S0.rextFar h7 (fun hn x e => by have := lS0 hn x e; omega)
      replace X0 := X0.trans h7
      have := (h7).size
      clear h7
      replace r0 := q7
      clear q7
      obtain ⟨_, b', off', eb, hb7, hc7⟩ := (K0.cons).resolve_left (by omega)
      injection eb with eb
      injection eb with eb1 eb2
      subst eb1; subst eb2
      have hi : i < kn := by omega
      obtain ⟨c0, c1, c2⟩ := hc7 i hi
      clear hc7
      generalize nth g.cons i = cn at *
      repeat' (first
        | (refine' ChF.pure (v := _) (by rfl) (by rfl) (by rfl) ?_ ?_
           rotate_left
           · (intro wS
              go_simp
              with_reducible rfl)
           (try simp only [Act.put, List.setIfInBounds_toArray, List.set_cons_zero, List.set_cons_succ]))
        | (refine' ChF.quiet (v := _) (by rfl) (by rfl) (by rfl) (by rfl) ?_ ?_
           rotate_left
           · (intro wS hS
              have s0 := (hS.cells b (off + i * 3) hb7 hbB).trans c0; have s1 := (hS.cells b (off + i * 3 + 1) hb7 hbB).trans c1; have s2 := (hS.cells b (off + i * 3 + 2) hb7 hbB).trans c2
              go_simp
              with_reducible rfl)
           (try simp only [Act.put, List.setIfInBounds_toArray, List.set_cons_zero, List.set_cons_succ]))
        | fail)
      clear c0 c1 c2
      refine ChF.box (by rfl) (by rfl) (by rfl) ?_
      intro w8 b8 h8 hb8 B8
      replace B8 : Blk w8 b8 47 #[.int .i64 0, .int .i64 0, .int .i64 0] := B8
      (try simp only [Act.put, List.setIfInBounds_toArray, List.set_cons_zero, List.set_cons_succ])
      replace BG := BG.ext h8
      replace BR := BR.ext h8
      replace BP := BP.ext h8
      replace K0 := K0.ext h8
      replace S0 := S0.ext h8
      replace r0 := r0.ext h8
      replace X0 := X0.ext h8
      have := (h8).size
      clear h8
      have c8 := B8.cells
      have f8 := B8.frozens
      refine ChF.storeP (fun W => RExt b8 w8 W ∧ Blk W b8 47 (#[.int .i64 cn.port, .int .i64 cn.to_.addr, .int .i64 cn.to_.port])) (by rfl) (by rfl) (by rfl) ⟨_, (by go_simp; rfl), (by simp [World.setCell]), (by repeat (first | (with_reducible exact RExt.refl _ _) | (with_reducible refine RExt.putc ?_ _ _))), (by exact B8.put3 _ _ _)⟩ ?_
      (try simp only [Act.put, List.setIfInBounds_toArray, List.set_cons_zero, List.set_cons_succ])
      rintro w9 s9 ⟨x9, B9⟩
      clear c8 f8 B8
      replace BP := BP.rext x9 (by omega)
      replace BG := BG.rext x9 (by omega)
      replace BR := BR.rext x9 (by omega)
      replace K0 := K0.rextFar x9 (fun hn x e => by have := lK0 hn x e; omega)
      replace S0 := S0.rextFar x9 (fun hn x e => by have := lS0 hn x e; omega)
      replace r0 := r0.rextNew x9 (by omega)
      replace X0 := X0.rextNew x9 (by omega)
      have := (x9).size
      clear x9
      refine ChF.nil ?_
      have c9 := B9.cells
      have f9 := B9.frozens
      have z9 := B9.lt
      have hb8P : b8 ≠ P := by omega
      have cBP := BP.cells
      have fBP := BP.frozens
      have zBP := BP.lt
      have cBG := BG.cells
      have zBG := BG.lt
      have cBR := BR.cells
      have fBR := BR.frozens
      have zBR := BR.lt
      clear s9 hb8
      have hw9 : w.heap.size ≤ w9.heap.size := X0.size
      go_wp2_with fail
      refine (pick_any n0 B _ 4 _ (by exact r0.to (by repeat (first | (with_reducible exact Since.refl r0.le) | (with_reducible refine Since.alloc ?_ _) | (with_reducible refine Since.drew ?_) | (with_reducible refine Since.drewN ?_ _) | (with_reducible refine Since.setCell ?_ ?_ _; rotate_left; (simp only []; omega)) | (with_reducible refine Since.ext ?_ (by assumption))))) (by omega) (by omega) (by omega)).mono ?_
      rintro e w10 ⟨d4, rfl, d40, d41, q10, hx10⟩
      have hy10 := hx10.size
      (try simp at hy10)
      have BG : Blk w10 w.heap.size 28 (#[.int .i64 g.net.base, .int .i64 g.net.bits, .int .i64 g.out, .slice ta tn tc, .slice (some ⟨b, off, none⟩) kn kc, .int .i64 g.filter, .int .i64 g.hold, .int .i64 g.now]) := by refine Blk.rext ?_ hx10 (by omega); repeat (first | (with_reducible exact BG) | (with_reducible exact Blk.new _ _ _) | exact Blk.newAt _ _ _ (by simp) | (with_reducible refine Blk.alloc ?_ _) | (with_reducible refine Blk.drew ?_) | (with_reducible refine Blk.drewN ?_ _) | refine Blk.far ?_ (by simp only []; omega) _)
      have BR : Blk w10 (w.heap.size+1) 33 (#[.int .i64 0, .int .i64 0, .int .i64 0, .int .i64 0, .int .i64 0, .slice none 0 0]) := by refine Blk.rext ?_ hx10 (by omega); repeat (first | (with_reducible exact BR) | (with_reducible exact Blk.new _ _ _) | exact Blk.newAt _ _ _ (by simp) | (with_reducible refine Blk.alloc ?_ _) | (with_reducible refine Blk.drew ?_) | (with_reducible refine Blk.drewN ?_ _) | refine Blk.far ?_ (by simp only []; omega) _)
      have BP : Blk w10 P 33 (#[.int .i64 k, .int .i64 cn.to_.addr, .int .i64 cn.to_.port, .int .i64 g.out, .int .i64 cn.port, .slice a n c]) := by refine Blk.rext ?_ hx10 (by omega); repeat (first | (exact (show Blk _ P 33 (#[.int .i64 k, .int .i64 cn.to_.addr, .int .i64 cn.to_.port, .int .i64 g.out, .int .i64 cn.port, .slice a n c]) from by simpa using ((BP.set 1 (.int .i64 cn.to_.addr)).set 2 (.int .i64 cn.to_.port)).set 4 (.int .i64 cn.port))) | (with_reducible exact Blk.new _ _ _) | exact Blk.newAt _ _ _ (by simp) | (with_reducible refine Blk.alloc ?_ _) | (with_reducible refine Blk.drew ?_) | (with_reducible refine Blk.drewN ?_ _) | refine Blk.far ?_ (by simp only []; omega) _)
      replace K0 : Sl encC 3 w10 (some ⟨b, off, none⟩) kn kc g.cons := by refine Sl.rextFar ?_ hx10 (fun hn x e => by have := lK0 hn x e; omega); repeat (first | (with_reducible exact K0) | (with_reducible refine Sl.alloc ?_ _) | (with_reducible refine Sl.drew ?_) | (with_reducible refine Sl.drewN ?_ _) | refine Sl.setFar ?_ (fun hn x e => by have := lK0 hn x e; simp only []; omega) _)
      replace S0 : Sl encI 1 w10 a n c L := by refine Sl.rextFar ?_ hx10 (fun hn x e => by have := lS0 hn x e; omega); repeat (first | (with_reducible exact S0) | (with_reducible refine Sl.alloc ?_ _) | (with_reducible refine Sl.drew ?_) | (with_reducible refine Sl.drewN ?_ _) | refine Sl.setFar ?_ (fun hn x e => by have := lS0 hn x e; simp only []; omega) _)
      have cBG := BG.cells
      have fBG := BG.frozens
      have zBG := BG.lt
      have cBR := BR.cells
      have fBR := BR.frozens
      have zBR := BR.lt
      have cBP := BP.cells
      have fBP := BP.frozens
      have zBP := BP.lt
      clear c9 f9 z9
      replace r0 := q10
      replace X0 : RExt B w w10 := (by repeat (first | (with_reducible exact RExt.refl _ _) | (with_reducible assumption) | (with_reducible refine RExt.alloc ?_ _) | (with_reducible refine RExt.drewN ?_ _) | (with_reducible refine RExt.drew ?_) | (with_reducible refine RExt.setCell ?_ (.inr ?_) _; rotate_left; (simp only []; omega)) | (with_reducible refine RExt.trans ?_ (by assumption)) | (with_reducible refine RExt.ext ?_ (by assumption))))
      clear q10 hx10
      by_cases e4 : d4 = 0
      · subst e4
        go_wp2_with fail
        refine (pick_any n0 B _ 12 _ (by exact r0.to (by repeat (first | (with_reducible exact Since.refl r0.le) | (with_reducible refine Since.alloc ?_ _) | (with_reducible refine Since.drew ?_) | (with_reducible refine Since.drewN ?_ _) | (with_reducible refine Since.setCell ?_ ?_ _; rotate_left; (simp only []; omega)) | (with_reducible refine Since.ext ?_ (by assumption))))) (by omega) (by omega) (by omega)).mono ?_
        rintro e w11 ⟨d, rfl, d0, d1, q11, hx11⟩
        have hy11 := hx11.size
        (try simp at hy11)
        clear cBG fBG zBG
        clear cBR fBR zBR
        clear cBP fBP zBP
        replace BG : Blk w11 w.heap.size 28 (#[.int .i64 g.net.base, .int .i64 g.net.bits, .int .i64 g.out, .slice ta tn tc, .slice (some ⟨b, off, none⟩) kn kc, .int .i64 g.filter, .int .i64 g.hold, .int .i64 g.now]) := by refine Blk.rext ?_ hx11 (by omega); repeat (first | (with_reducible exact BG) | (with_reducible exact Blk.new _ _ _) | exact Blk.newAt _ _ _ (by simp) | (with_reducible refine Blk.alloc ?_ _) | (with_reducible refine Blk.drew ?_) | (with_reducible refine Blk.drewN ?_ _) | refine Blk.far ?_ (by simp only []; omega) _)
        replace BR : Blk w11 (w.heap.size+1) 33 (#[.int .i64 0, .int .i64 0, .int .i64 0, .int .i64 0, .int .i64 0, .slice none 0 0]) := by refine Blk.rext ?_ hx11 (by omega); repeat (first | (with_reducible exact BR) | (with_reducible exact Blk.new _ _ _) | exact Blk.newAt _ _ _ (by simp) | (with_reducible refine Blk.alloc ?_ _) | (with_reducible refine Blk.drew ?_) | (with_reducible refine Blk.drewN ?_ _) | refine Blk.far ?_ (by simp only []; omega) _)
        replace BP : Blk w11 P 33 (#[.int .i64 k, .int .i64 cn.to_.addr, .int .i64 99, .int .i64 g.out, .int .i64 cn.port, .slice a n c]) := by refine Blk.rext ?_ hx11 (by omega); repeat (first | (exact (show Blk _ P 33 (#[.int .i64 k, .int .i64 cn.to_.addr, .int .i64 99, .int .i64 g.out, .int .i64 cn.port, .slice a n c]) from by simpa using (BP.set 2 (.int .i64 99)))) | (with_reducible exact Blk.new _ _ _) | exact Blk.newAt _ _ _ (by simp) | (with_reducible refine Blk.alloc ?_ _) | (with_reducible refine Blk.drew ?_) | (with_reducible refine Blk.drewN ?_ _) | refine Blk.far ?_ (by simp only []; omega) _)
        replace K0 : Sl encC 3 w11 (some ⟨b, off, none⟩) kn kc g.cons := by refine Sl.rextFar ?_ hx11 (fun hn x e => by have := lK0 hn x e; omega); repeat (first | (with_reducible exact K0) | (with_reducible refine Sl.alloc ?_ _) | (with_reducible refine Sl.drew ?_) | (with_reducible refine Sl.drewN ?_ _) | refine Sl.setFar ?_ (fun hn x e => by have := lK0 hn x e; simp only []; omega) _)
        replace S0 : Sl encI 1 w11 a n c L := by refine Sl.rextFar ?_ hx11 (fun hn x e => by have := lS0 hn x e; omega); repeat (first | (with_reducible exact S0) | (with_reducible refine Sl.alloc ?_ _) | (with_reducible refine Sl.drew ?_) | (with_reducible refine Sl.drewN ?_ _) | refine Sl.setFar ?_ (fun hn x e => by have := lS0 hn x e; simp only []; omega) _)
        have cBG := BG.cells
        have fBG := BG.frozens
        have zBG := BG.lt
        have cBR := BR.cells
        have fBR := BR.frozens
        have zBR := BR.lt
        have cBP := BP.cells
        have fBP := BP.frozens
        have zBP := BP.lt
        replace r0 := q11
        replace X0 : RExt B w w11 := (by repeat (first | (with_reducible exact RExt.refl _ _) | (with_reducible assumption) | (with_reducible refine RExt.alloc ?_ _) | (with_reducible refine RExt.drewN ?_ _) | (with_reducible refine RExt.drew ?_) | (with_reducible refine RExt.setCell ?_ (.inr ?_) _; rotate_left; (simp only []; omega)) | (with_reducible refine RExt.trans ?_ (by assumption)) | (with_reducible refine RExt.ext ?_ (by assumption))))
        clear q11 hx11
        by_cases e0 : d = 0
        · subst e0
          go_wp2_with fail
          refine (anyPacket_any n0 B _ _ r0 (by omega)).mono ?_
          rintro e t2 ⟨k', fa', fp', ga', gp', a', n', c', L', rfl, S1, hn13, fS1, qt, ht⟩
          clear cBP fBP zBP cBG zBG cBR fBR zBR
          replace r0 := qt
          clear qt
          replace BG := BG.rext ht (by omega)
          replace BR := BR.rext ht (by omega)
          replace BP := BP.rext ht (by omega)
          replace K0 := K0.rextFar ht (fun hn x e => by have := lK0 hn x e; omega)
          replace S0 := S0.rextFar ht (fun hn x e => by have := lS0 hn x e; omega)
          replace X0 := X0.trans ht
          have := (ht).size
          clear ht
          have cBP := BP.cells
          have fBP := BP.frozens
          have zBP := BP.lt
          have cBG := BG.cells
          have zBG := BG.lt
          have cBR := BR.cells
          have fBR := BR.frozens
          have zBR := BR.lt
          go_wp2
          refine' bodyPost_ret (v := _) ?_ rfl ?_
          rotate_left
          · (simp only [results, Try.results56]
             go_simp
             rfl)
          refine ⟨⟨k', ⟨fa', fp'⟩, ⟨ga', gp'⟩, L'⟩, a', n', c', rfl, ?_, hn13, (fun x e => by have := fS1 x e; omega), ?_, ?_⟩
          · repeat (refine Sl.setFar ?_ (fun hn y hy => by have := fS1 y hy; simp only []; omega) _)
            exact S1
          · exact (by exact (r0.mono (show _ ≤ m + 210 by omega)).to (by repeat (first | (with_reducible exact Since.refl (r0.mono (show _ ≤ m + 210 by omega)).le) | (with_reducible refine Since.alloc ?_ _) | (with_reducible refine Since.drew ?_) | (with_reducible refine Since.drewN ?_ _) | (with_reducible refine Since.setCell ?_ ?_ _; rotate_left; (simp only []; omega)) | (with_reducible refine Since.ext ?_ (by assumption)))))
          · exact (by repeat (first | (with_reducible exact RExt.refl _ _) | (with_reducible assumption) | (with_reducible refine RExt.alloc ?_ _) | (with_reducible refine RExt.drewN ?_ _) | (with_reducible refine RExt.drew ?_) | (with_reducible refine RExt.setCell ?_ (.inr ?_) _; rotate_left; (simp only []; omega)) | (with_reducible refine RExt.trans ?_ (by assumption)) | (with_reducible refine RExt.ext ?_ (by assumption))))
        · go_wp2
          refine' bodyPost_ret (v := _) ?_ rfl ?_
          rotate_left
          · (simp only [results, Try.results56]
             go_simp
             rfl)
          refine ⟨((⟨k, ⟨cn.to_.addr, 99⟩, ⟨g.out, cn.port⟩, L⟩ : PktD)), a, n, c, rfl, ?_, by omega, (fun x e => by have := fS x e; omega), ?_, ?_⟩
          · repeat (refine Sl.setFar ?_ (fun hn y hy => by have := lS0 hn y hy; simp only []; omega) _)
            exact S0
          · exact (by exact (r0.mono (show _ ≤ m + 210 by omega)).to (by repeat (first | (with_reducible exact Since.refl (r0.mono (show _ ≤ m + 210 by omega)).le) | (with_reducible refine Since.alloc ?_ _) | (with_reducible refine Since.drew ?_) | (with_reducible refine Since.drewN ?_ _) | (with_reducible refine Since.setCell ?_ ?_ _; rotate_left; (simp only []; omega)) | (with_reducible refine Since.ext ?_ (by assumption)))))
          · exact (by repeat (first | (with_reducible exact RExt.refl _ _) | (with_reducible assumption) | (with_reducible refine RExt.alloc ?_ _) | (with_reducible refine RExt.drewN ?_ _) | (with_reducible refine RExt.drew ?_) | (with_reducible refine RExt.setCell ?_ (.inr ?_) _; rotate_left; (simp only []; omega)) | (with_reducible refine RExt.trans ?_ (by assumption)) | (with_reducible refine RExt.ext ?_ (by assumption))))
      · go_wp2_with fail
        refine (pick_any n0 B _ 12 _ (by exact r0.to (by repeat (first | (with_reducible exact Since.refl r0.le) | (with_reducible refine Since.alloc ?_ _) | (with_reducible refine Since.drew ?_) | (with_reducible refine Since.drewN ?_ _) | (with_reducible refine Since.setCell ?_ ?_ _; rotate_left; (simp only []; omega)) | (with_reducible refine Since.ext ?_ (by assumption))))) (by omega) (by omega) (by omega)).mono ?_
        rintro e t1 ⟨d, rfl, d0, d1, qt, ht⟩
        replace r0 := qt
        clear qt
        replace BG := BG.rext ht (by omega)
        replace BR := BR.rext ht (by omega)
        replace BP := BP.rext ht (by omega)
        replace K0 := K0.rextFar ht (fun hn x e => by have := lK0 hn x e; omega)
        replace S0 := S0.rextFar ht (fun hn x e => by have := lS0 hn x e; omega)
        replace X0 := X0.trans ht
        have := (ht).size
        clear ht
        have cBP := BP.cells
        have fBP := BP.frozens
        have zBP := BP.lt
        have cBG := BG.cells
        have zBG := BG.lt
        have cBR := BR.cells
        have fBR := BR.frozens
        have zBR := BR.lt
        by_cases e0 : d = 0
        · subst e0
          go_wp2_with fail
          refine (anyPacket_any n0 B _ _ r0 (by omega)).mono ?_
          rintro e t2 ⟨k', fa', fp', ga', gp', a', n', c', L', rfl, S1, hn13, fS1, qt, ht⟩
          clear cBP fBP zBP cBG zBG cBR fBR zBR
          replace r0 := qt
          clear qt
          replace BG := BG.rext ht (by omega)
          replace BR := BR.rext ht (by omega)
          replace BP := BP.rext ht (by omega)
          replace K0 := K0.rextFar ht (fun hn x e => by have := lK0 hn x e; omega)
          replace S0 := S0.rextFar ht (fun hn x e => by have := lS0 hn x e; omega)
          replace X0 := X0.trans ht
          have := (ht).size
          clear ht
          have cBP := BP.cells
          have fBP := BP.frozens
          have zBP := BP.lt
          have cBG := BG.cells
          have zBG := BG.lt
          have cBR := BR.cells
          have fBR := BR.frozens
          have zBR := BR.lt
          go_wp2
          refine' bodyPost_ret (v := _) ?_ rfl ?_
          rotate_left
          · (simp only [results, Try.results56]
             go_simp
             rfl)
          refine ⟨⟨k', ⟨fa', fp'⟩, ⟨ga', gp'⟩, L'⟩, a', n', c', rfl, ?_, hn13, (fun x e => by have := fS1 x e; omega), ?_, ?_⟩
          · repeat (refine Sl.setFar ?_ (fun hn y hy => by have := fS1 y hy; simp only []; omega) _)
            exact S1
          · exact (by exact (r0.mono (show _ ≤ m + 210 by omega)).to (by repeat (first | (with_reducible exact Since.refl (r0.mono (show _ ≤ m + 210 by omega)).le) | (with_reducible refine Since.alloc ?_ _) | (with_reducible refine Since.drew ?_) | (with_reducible refine Since.drewN ?_ _) | (with_reducible refine Since.setCell ?_ ?_ _; rotate_left; (simp only []; omega)) | (with_reducible refine Since.ext ?_ (by assumption)))))
          · exact (by repeat (first | (with_reducible exact RExt.refl _ _) | (with_reducible assumption) | (with_reducible refine RExt.alloc ?_ _) | (with_reducible refine RExt.drewN ?_ _) | (with_reducible refine RExt.drew ?_) | (with_reducible refine RExt.setCell ?_ (.inr ?_) _; rotate_left; (simp only []; omega)) | (with_reducible refine RExt.trans ?_ (by assumption)) | (with_reducible refine RExt.ext ?_ (by assumption))))
        · go_wp2
          refine' bodyPost_ret (v := _) ?_ rfl ?_
          rotate_left
          · (simp only [results, Try.results56]
             go_simp
             rfl)
          refine ⟨((⟨k, cn.to_, ⟨g.out, cn.port⟩, L⟩ : PktD)), a, n, c, rfl, ?_, by omega, (fun x e => by have := fS x e; omega), ?_, ?_⟩
          · repeat (refine Sl.setFar ?_ (fun hn y hy => by have := lS0 hn y hy; simp only []; omega) _)
            exact S0
          · exact (by exact (r0.mono (show _ ≤ m + 210 by omega)).to (by repeat (first | (with_reducible exact Since.refl (r0.mono (show _ ≤ m + 210 by omega)).le) | (with_reducible refine Since.alloc ?_ _) | (with_reducible refine Since.drew ?_) | (with_reducible refine Since.drewN ?_ _) | (with_reducible refine Since.setCell ?_ ?_ _; rotate_left; (simp only []; omega)) | (with_reducible refine Since.ext ?_ (by assumption)))))
          · exact (by repeat (first | (with_reducible exact RExt.refl _ _) | (with_reducible assumption) | (with_reducible refine RExt.alloc ?_ _) | (with_reducible refine RExt.drewN ?_ _) | (with_reducible refine RExt.drew ?_) | (with_reducible refine RExt.setCell ?_ (.inr ?_) _; rotate_left; (simp only []; omega)) | (with_reducible refine RExt.trans ?_ (by assumption)) | (with_reducible refine RExt.ext ?_ (by assumption))))
    · go_wp2_with fail
      refine (pick_any n0 B _ 12 _ (by exact r0.to (by repeat (first | (with_reducible exact Since.refl r0.le) | (with_reducible refine Since.alloc ?_ _) | (with_reducible refine Since.drew ?_) | (with_reducible refine Since.drewN ?_ _) | (with_reducible refine Since.setCell ?_ ?_ _; rotate_left; (simp only []; omega)) | (with_reducible refine Since.ext ?_ (by assumption))))) (by omega) (by omega) (by omega)).mono ?_
      rintro e t1 ⟨d, rfl, d0, d1, qt, ht⟩
      replace r0 := qt
      clear qt
      replace BG := BG.rext ht (by omega)
      replace BR := BR.rext ht (by omega)
      replace BP := BP.rext ht (by omega)
      replace K0 := K0.rextFar ht (fun hn x e => by have := lK0 hn x e; omega)
      replace S0 := S0.rextFar ht (fun hn x e => by have := lS0 hn x e; omega)
      replace X0 := X0.trans ht
      have := (ht).size
      clear ht
      have cBP := BP.cells
      have fBP := BP.frozens
      have zBP := BP.lt
      have cBG := BG.cells
      have zBG := BG.lt
      have cBR := BR.cells
      have fBR := BR.frozens
      have zBR := BR.lt
      by_cases e0 : d = 0
      · subst e0
        go_wp2_with fail
        refine (anyPacket_any n0 B _ _ r0 (by omega)).mono ?_
        rintro e t2 ⟨k', fa', fp', ga', gp', a', n', c', L', rfl, S1, hn13, fS1, qt, ht⟩
        clear cBP fBP zBP cBG zBG cBR fBR zBR
        replace r0 := qt
        clear qt
        replace BG := BG.rext ht (by omega)
        replace BR := BR.rext ht (by omega)
        replace BP := BP.rext ht (by omega)
        replace K0 := K0.rextFar ht (fun hn x e => by have := lK0 hn x e; omega)
        replace S0 := S0.rextFar ht (fun hn x e => by have := lS0 hn x e; omega)
        replace X0 := X0.trans ht
        have := (ht).size
        clear ht
        have cBP := BP.cells
        have fBP := BP.frozens
        have zBP := BP.lt
        have cBG := BG.cells
        have zBG := BG.lt
        have cBR := BR.cells
        have fBR := BR.frozens
        have zBR := BR.lt
        go_wp2
        refine' bodyPost_ret (v := _) ?_ rfl ?_
        rotate_left
        · (simp only [results, Try.results56]
           go_simp
           rfl)
        refine ⟨⟨k', ⟨fa', fp'⟩, ⟨ga', gp'⟩, L'⟩, a', n', c', rfl, ?_, hn13, (fun x e => by have := fS1 x e; omega), ?_, ?_⟩
        · repeat (refine Sl.setFar ?_ (fun hn y hy => by have := fS1 y hy; simp only []; omega) _)
          exact S1
        · exact (by exact (r0.mono (show _ ≤ m + 210 by omega)).to (by repeat (first | (with_reducible exact Since.refl (r0.mono (show _ ≤ m + 210 by omega)).le) | (with_reducible refine Since.alloc ?_ _) | (with_reducible refine Since.drew ?_) | (with_reducible refine Since.drewN ?_ _) | (with_reducible refine Since.setCell ?_ ?_ _; rotate_left; (simp only []; omega)) | (with_reducible refine Since.ext ?_ (by assumption)))))
        · exact (by repeat (first | (with_reducible exact RExt.refl _ _) | (with_reducible assumption) | (with_reducible refine RExt.alloc ?_ _) | (with_reducible refine RExt.drewN ?_ _) | (with_reducible refine RExt.drew ?_) | (with_reducible refine RExt.setCell ?_ (.inr ?_) _; rotate_left; (simp only []; omega)) | (with_reducible refine RExt.trans ?_ (by assumption)) | (with_reducible refine RExt.ext ?_ (by assumption))))
      · go_wp2
        refine' bodyPost_ret (v := _) ?_ rfl ?_
        rotate_left
        · (simp only [results, Try.results56]
           go_simp
           rfl)
        refine ⟨((⟨k, ⟨x1, y1⟩, ⟨g.out, 1000 + px⟩, L⟩ : PktD)), a, n, c, rfl, ?_, by omega, (fun x e => by have := fS x e; omega), ?_, ?_⟩
        · repeat (refine Sl.setFar ?_ (fun hn y hy => by have := lS0 hn y hy; simp only []; omega) _)
          exact S0
        · exact (by exact (r0.mono (show _ ≤ m + 210 by omega)).to (by repeat (first | (with_reducible exact Since.refl (r0.mono (show _ ≤ m + 210 by omega)).le) | (with_reducible refine Since.alloc ?_ _) | (with_reducible refine Since.drew ?_) | (with_reducible refine Since.drewN ?_ _) | (with_reducible refine Since.setCell ?_ ?_ _; rotate_left; (simp only []; omega)) | (with_reducible refine Since.ext ?_ (by assumption)))))
        · exact (by repeat (first | (with_reducible exact RExt.refl _ _) | (with_reducible assumption) | (with_reducible refine RExt.alloc ?_ _) | (with_reducible refine RExt.drewN ?_ _) | (with_reducible refine RExt.drew ?_) | (with_reducible refine RExt.setCell ?_ (.inr ?_) _; rotate_left; (simp only []; omega)) | (with_reducible refine RExt.trans ?_ (by assumption)) | (with_reducible refine RExt.ext ?_ (by assumption))))
end Go.Proofs.Ytppdcglnopoocaa
