/- The exact law on valid reports, walked. -/
import Derived.Test.YtdjbjldmlfhigaaExact
import Derived.Test.YtdjbjldmlfhigaaEager
import Derived.Test.YtdjbjldmlfhigaaRep
namespace Go.Proofs.Ytdjbjldmlfhigaa
open Go.RowKit

set_option maxHeartbeats 2000000 in
theorem law_FnExactValidReport (o s t k fa fp ta tp : Int) (a : Option Addr) (n c : Nat) (L : List Int) (w : World) (hs : Sl encI 1 w a n c L) :
    Calls Try.prog 15 #[.agg #[.int .i64 o, .int .i64 s, .int .i64 t, .int .i64 k, .int .i64 fa, .int .i64 fp, .int .i64 ta, .int .i64 tp, .slice a n c]] w fun e w' => e = .returned (.bool true) ∧ Ext w w' := by
  have hle := hs.le
  have hmax := hs.max
  by_cases hn : n ≤ 1048576
  · have hnI : (n : Int) ≤ 1048576 := by omega
    have c1 := fun w => szReport_any o s t k fa fp ta tp a n c 1048576 w (by omega) (by omega) (by omega)
    rw [if_pos hnI] at c1
    replace c1 := Lib.hid c1
    go_enter Try.func15, Try.ntmps15
    go_wp2_with fail
    refine (c1.out _).mono ?_
    rintro e w1 ⟨rfl, hx1⟩
    have hc1 := hx1.cells
    have hf1 := hx1.frozens
    have hy1 := hx1.size
    (try simp at hy1)
    have hz1 : w.heap.size < w1.heap.size := (by omega)
    go_wp2_with fail
    refine (toReport_any _ _ _ _ _ _ _ _ a n c L _ (by exact hs.ext (by repeat (first | (with_reducible exact Ext.refl _) | (with_reducible assumption) | (with_reducible refine Ext.alloc ?_ _) | (with_reducible refine Ext.drewN ?_ _) | (with_reducible refine Ext.drew ?_) | (with_reducible refine Ext.setCell ?_ ?_ _; rotate_left; (simp only []; omega)) | (with_reducible refine Ext.trans ?_ (by assumption))))) hn).mono ?_
    rintro e w2 ⟨a1, rfl, how1, hx2⟩
    have hc2 := hx2.cells
    have hy2 := hx2.size
    have hz2 : w.heap.size < w2.heap.size := by omega
    have H1 := Lib.hid (how1.sl encI_len)
    clear how1
    go_wp2_with fail
    refine (spec_ValidReport _ _ _ _ _ _ _ _ _ _ _ L _ (by exact H1.out.ext (by repeat (first | (with_reducible exact Ext.refl _) | (with_reducible assumption) | (with_reducible refine Ext.alloc ?_ _) | (with_reducible refine Ext.drewN ?_ _) | (with_reducible refine Ext.drew ?_) | (with_reducible refine Ext.setCell ?_ ?_ _; rotate_left; (simp only []; omega)) | (with_reducible refine Ext.trans ?_ (by assumption)))))).mono ?_
    rintro e w3 ⟨rfl, hx3⟩
    have hc3 := hx3.cells
    have hf3 := hx3.frozens
    have hy3 := hx3.size
    (try simp at hy3)
    have hz3 : w.heap.size < w3.heap.size := (by omega)
    go_wp2_with fail
    refine (toReport_any _ _ _ _ _ _ _ _ a n c L _ (by exact hs.ext (by repeat (first | (with_reducible exact Ext.refl _) | (with_reducible assumption) | (with_reducible refine Ext.alloc ?_ _) | (with_reducible refine Ext.drewN ?_ _) | (with_reducible refine Ext.drew ?_) | (with_reducible refine Ext.setCell ?_ ?_ _; rotate_left; (simp only []; omega)) | (with_reducible refine Ext.trans ?_ (by assumption))))) hn).mono ?_
    rintro e w4 ⟨a2, rfl, how2, hx4⟩
    have hc4 := hx4.cells
    have hy4 := hx4.size
    have hz4 : w.heap.size < w4.heap.size := by omega
    have H2 := Lib.hid (how2.sl encI_len)
    clear how2
    go_wp2_with fail
    refine (impl_ValidReport _ _ _ _ _ _ _ _ _ _ _ L _ (by exact H2.out.ext (by repeat (first | (with_reducible exact Ext.refl _) | (with_reducible assumption) | (with_reducible refine Ext.alloc ?_ _) | (with_reducible refine Ext.drewN ?_ _) | (with_reducible refine Ext.drew ?_) | (with_reducible refine Ext.setCell ?_ ?_ _; rotate_left; (simp only []; omega)) | (with_reducible refine Ext.trans ?_ (by assumption)))))).mono ?_
    rintro e w5 ⟨rfl, hx5⟩
    have hc5 := hx5.cells
    have hf5 := hx5.frozens
    have hy5 := hx5.size
    (try simp at hy5)
    have hz5 : w.heap.size < w5.heap.size ∧ w4.heap.size < w5.heap.size := (by omega)
    go_wp2_with fail
    have hdrS : ∀ W : World, W.drew.heap.size = W.heap.size := fun _ => rfl
    refine wp_region_eager (R := Ext) [0, 1, 2, 3, 4] (by kernel_rfl) (by kernel_rfl) Ext.refl (fun _ _ _ => Ext.trans) ?_
    repeat' (first
      | (refine ChX.skip (by rfl) (by rfl) ?_
         (try simp only [Act.put, List.setIfInBounds_toArray, List.set_cons_zero, List.set_cons_succ]))
      | (refine' ChX.quiet (v := _) (by rfl) (by rfl) (by rfl) ?_ ?_
         rotate_left
         · (intro wS hS
            have hcS := Ext.cells hS
            go_simp
            with_reducible rfl)
         (try simp only [Act.put, List.setIfInBounds_toArray, List.set_cons_zero, List.set_cons_succ]))
      | (refine ChX.nil ?_)
      | (refine' ChX.guard (x := _) (by rfl) ?_ ?_ ?_
         rotate_left
         · (go_simp
            rfl)
         all_goals
           intro hg
           simp only [hg]))
    refine ChX.call (by rfl) (by rfl) (by rfl) (by go_simp; (constructor <;> rfl)) ?_
    refine (toReport_any _ _ _ _ _ _ _ _ a n c L _ (by exact hs.ext (by repeat (first | (with_reducible exact Ext.refl _) | (with_reducible assumption) | (with_reducible refine Ext.alloc ?_ _) | (with_reducible refine Ext.drewN ?_ _) | (with_reducible refine Ext.drew ?_) | (with_reducible refine Ext.setCell ?_ ?_ _; rotate_left; (simp only []; omega)) | (with_reducible refine Ext.trans ?_ (by assumption))))) hn).mono ?_
    rintro e w6 ⟨a3, rfl, how3, hx6⟩
    refine ⟨_, rfl, hx6, ?_⟩
    (try simp only [Act.put, List.setIfInBounds_toArray, List.set_cons_zero, List.set_cons_succ])
    have hc6 := hx6.cells
    have hf6 := hx6.frozens
    have hy6 := hx6.size
    (try simp at hy6)
    have H3 := Lib.hid (how3.sl encI_len)
    clear how3
    repeat' (first
      | (refine ChX.skip (by rfl) (by rfl) ?_
         (try simp only [Act.put, List.setIfInBounds_toArray, List.set_cons_zero, List.set_cons_succ]))
      | (refine' ChX.quiet (v := _) (by rfl) (by rfl) (by rfl) ?_ ?_
         rotate_left
         · (intro wS hS
            have hcS := Ext.cells hS
            go_simp
            with_reducible rfl)
         (try simp only [Act.put, List.setIfInBounds_toArray, List.set_cons_zero, List.set_cons_succ]))
      | (refine ChX.nil ?_)
      | (refine' ChX.guard (x := _) (by rfl) ?_ ?_ ?_
         rotate_left
         · (go_simp
            rfl)
         all_goals
           intro hg
           simp only [hg]))
    refine ChX.call (by rfl) (by rfl) (by rfl) (by go_simp; (constructor <;> rfl)) ?_
    refine (eqReport_same _ _ _ _ _ _ _ _ a2 a3 n n n L _ (by exact H2.out.ext (by repeat (first | (with_reducible exact Ext.refl _) | (with_reducible assumption) | (with_reducible refine Ext.alloc ?_ _) | (with_reducible refine Ext.drewN ?_ _) | (with_reducible refine Ext.drew ?_) | (with_reducible refine Ext.setCell ?_ ?_ _; rotate_left; (simp only []; omega)) | (with_reducible refine Ext.trans ?_ (by assumption))))) (by exact H3.out.ext (by repeat (first | (with_reducible exact Ext.refl _) | (with_reducible assumption) | (with_reducible refine Ext.alloc ?_ _) | (with_reducible refine Ext.drewN ?_ _) | (with_reducible refine Ext.drew ?_) | (with_reducible refine Ext.setCell ?_ ?_ _; rotate_left; (simp only []; omega)) | (with_reducible refine Ext.trans ?_ (by assumption)))))).mono ?_
    rintro e w7 ⟨rfl, hx7⟩
    refine ⟨_, rfl, hx7, ?_⟩
    (try simp only [Act.put, List.setIfInBounds_toArray, List.set_cons_zero, List.set_cons_succ])
    have hc7 := hx7.cells
    have hf7 := hx7.frozens
    have hy7 := hx7.size
    (try simp at hy7)
    repeat' (first
      | (refine ChX.skip (by rfl) (by rfl) ?_
         (try simp only [Act.put, List.setIfInBounds_toArray, List.set_cons_zero, List.set_cons_succ]))
      | (refine' ChX.quiet (v := _) (by rfl) (by rfl) (by rfl) ?_ ?_
         rotate_left
         · (intro wS hS
            have hcS := Ext.cells hS
            go_simp
            with_reducible rfl)
         (try simp only [Act.put, List.setIfInBounds_toArray, List.set_cons_zero, List.set_cons_succ]))
      | (refine ChX.nil ?_)
      | (refine' ChX.guard (x := _) (by rfl) ?_ ?_ ?_
         rotate_left
         · (go_simp
            rfl)
         all_goals
           intro hg
           simp only [hg]))
    go_wp2
    go_ret
    exact ⟨rfl, (by repeat (first | (with_reducible exact Ext.refl _) | (with_reducible assumption) | (with_reducible refine Ext.alloc ?_ _) | (with_reducible refine Ext.drewN ?_ _) | (with_reducible refine Ext.drew ?_) | (with_reducible refine Ext.setCell ?_ ?_ _; rotate_left; (simp only []; omega)) | (with_reducible refine Ext.trans ?_ (by assumption))))⟩
  · have hnI : ¬ (n : Int) ≤ 1048576 := by omega
    have c1 := fun w => szReport_any o s t k fa fp ta tp a n c 1048576 w (by omega) (by omega) (by omega)
    rw [if_neg hnI] at c1
    replace c1 := Lib.hid c1
    go_enter Try.func15, Try.ntmps15
    go_wp2_with fail
    refine (c1.out _).mono ?_
    rintro e w1 ⟨rfl, hx1⟩
    have hc1 := hx1.cells
    have hf1 := hx1.frozens
    have hy1 := hx1.size
    (try simp at hy1)
    have hz1 : w.heap.size < w1.heap.size := (by omega)
    go_wp2
    go_ret
    exact ⟨rfl, (by repeat (first | (with_reducible exact Ext.refl _) | (with_reducible assumption) | (with_reducible refine Ext.alloc ?_ _) | (with_reducible refine Ext.drewN ?_ _) | (with_reducible refine Ext.drew ?_) | (with_reducible refine Ext.setCell ?_ ?_ _; rotate_left; (simp only []; omega)) | (with_reducible refine Ext.trans ?_ (by assumption))))⟩
end Go.Proofs.Ytdjbjldmlfhigaa
