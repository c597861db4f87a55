/- Contracts: plans of blocks. -/
import Derived.Test.YtdjbjldmlfhigaaWords
namespace Go.Proofs.Ytdjbjldmlfhigaa
open Go.RowKit

theorem plan_mul {bits size : Int} (h0 : 0 ≤ bits) (s0 : 1 ≤ size) (s1 : size ≤ 16) : 0 ≤ netSize bits * size ∧ netSize bits * size ≤ 1048576 := by
  have h1 := netSize_pos bits
  have h2 := netSize_le h0
  have h3 : netSize bits * size ≤ 65536 * size := Int.mul_le_mul_of_nonneg_right h2 (by omega)
  have h4 : 0 * size ≤ netSize bits * size := Int.mul_le_mul_of_nonneg_right (by omega) (by omega)
  omega
theorem plan_wrap1 {base bits first size : Int} (hv : validNet ⟨base, bits⟩ = true) (hf : inR first 1 65535 = true) (hs : inR size 1 16 = true) :
    IntKind.i64.wrap (netSize bits * size) = netSize bits * size ∧ IntKind.i64.wrap (first + netSize bits * size) = first + netSize bits * size ∧ IntKind.i64.wrap (first + netSize bits * size - 1) = first + netSize bits * size - 1 := by
  obtain ⟨h1, h2⟩ := inR_iff.1 hf
  obtain ⟨h3, h4⟩ := inR_iff.1 hs
  obtain ⟨h5, h6⟩ := plan_mul (bits := bits) (validNet_bd hv).1 h3 h4
  exact ⟨IntWalk.i64_in _ (by omega), IntWalk.i64_in _ (by omega), IntWalk.i64_in _ (by omega)⟩
theorem plan_last {base bits first size : Int} (hv : validNet ⟨base, bits⟩ = true) (hb : decide (8 ≤ bits) = true) (hf : inR first 1 65535 = true) (hs : inR size 1 16 = true) :
    decide (IntKind.i64.wrap (IntKind.i64.wrap (first + IntKind.i64.wrap (netSize bits * size)) - 1) ≤ 65535) = validPlan ⟨⟨base, bits⟩, first, size⟩ := by
  obtain ⟨e1, e2, e3⟩ := plan_wrap1 hv hf hs
  rw [e1, e2, e3]
  simp only [validPlan, hv, hb, hf, hs, Bool.and_true, Bool.true_and]
  rw [Int.mul_comm]
theorem plan_last' {base bits first size : Int} (hv : validNet ⟨base, bits⟩ = true) (hb : decide (8 ≤ bits) = true) (hf : inR first 1 65535 = true) (hs : inR size 1 16 = true) :
    decide (IntKind.i64.wrap (IntKind.i64.wrap (first + IntKind.i64.wrap (size * netSize bits)) - 1) ≤ 65535) = validPlan ⟨⟨base, bits⟩, first, size⟩ := by
  rw [Int.mul_comm]; exact plan_last hv hb hf hs
theorem impl_ValidPlan (base bits first size : Int) (w : World) :
    Calls Try.prog 27 #[.agg #[.int .i64 base, .int .i64 bits, .int .i64 first, .int .i64 size]] w fun e w' => e = .returned (.bool (validPlan ⟨⟨base, bits⟩, first, size⟩)) ∧ Ext w w' := by
  go_enter Try.func27, Try.ntmps27
  go_wp2_with fail
  refine wp_region_ext (by kernel_rfl) (by kernel_rfl) ?_
  repeat' (first
    | (refine ChL.skip (by rfl) ?_
       (try simp only [Act.put, List.setIfInBounds_toArray, List.set_cons_zero, List.set_cons_succ]))
    | (refine' ChL.val (v := _) (by rfl) ?_ ?_
       rotate_left
       · (intro wS hS
          have hcS := Ext.cells hS
          go_simp
          with_reducible rfl)
       (try simp only [Act.put, List.setIfInBounds_toArray, List.set_cons_zero, List.set_cons_succ]))
    | (refine' ChL.call (v := _) (f := _) (args := _) (by rfl) ?_ ?_ ?_
       rotate_left 3
       · (intro wS
          go_simp
          (constructor <;> rfl))
       · (intro wS hS
          first | (go_at_call 34; refine (impl_ValidNet _ _ _).mono ?_; rintro e w1 ⟨rfl, hx⟩; refine ⟨?_, Ext.trans hS hx⟩; rfl) | (go_at_call 60; refine (impl_size _ _ _ (validNet_bd (n := ⟨base, bits⟩) (by assumption)).1 (validNet_bd (n := ⟨base, bits⟩) (by assumption)).2.1).mono ?_; rintro e w1 ⟨rfl, hx⟩; refine ⟨?_, Ext.trans hS hx⟩; rfl) | (go_at_call 54; refine (impl_in _ _ _ _).mono ?_; rintro e w1 ⟨rfl, hx⟩; subst hx; refine ⟨?_, hS⟩; rfl))
       (try simp only [Act.put, List.setIfInBounds_toArray, List.set_cons_zero, List.set_cons_succ]))
    | (refine ChL.nil ?_)
    | (refine' ChL.guard (x := _) ?_ ?_ ?_
       rotate_left
       · (go_simp
          rfl)
       all_goals
         intro hg
         simp only [hg]))
  all_goals (intro w' hw'; go_wp2; go_ret; refine ⟨ret_bool ?_, (by repeat (first | (with_reducible exact Ext.refl _) | (with_reducible assumption) | (with_reducible refine Ext.alloc ?_ _) | (with_reducible refine Ext.drewN ?_ _) | (with_reducible refine Ext.drew ?_) | (with_reducible refine Ext.setCell ?_ ?_ _; rotate_left; (simp only []; omega)) | (with_reducible refine Ext.trans ?_ (by assumption))))⟩)
  all_goals first | exact plan_last (by assumption) (by assumption) (by assumption) (by assumption) | (simp [validPlan, *]; done)
theorem spec_validPlan (base bits first size : Int) (w : World) :
    Calls Try.prog 58 #[.agg #[.int .i64 base, .int .i64 bits, .int .i64 first, .int .i64 size]] w fun e w' => e = .returned (.bool (validPlan ⟨⟨base, bits⟩, first, size⟩)) ∧ Ext w w' := by
  go_enter Try.func58, Try.ntmps58
  go_wp2_with fail
  refine wp_region_ext (by kernel_rfl) (by kernel_rfl) ?_
  repeat' (first
    | (refine ChL.skip (by rfl) ?_
       (try simp only [Act.put, List.setIfInBounds_toArray, List.set_cons_zero, List.set_cons_succ]))
    | (refine' ChL.val (v := _) (by rfl) ?_ ?_
       rotate_left
       · (intro wS hS
          have hcS := Ext.cells hS
          go_simp
          with_reducible rfl)
       (try simp only [Act.put, List.setIfInBounds_toArray, List.set_cons_zero, List.set_cons_succ]))
    | (refine' ChL.call (v := _) (f := _) (args := _) (by rfl) ?_ ?_ ?_
       rotate_left 3
       · (intro wS
          go_simp
          (constructor <;> rfl))
       · (intro wS hS
          first | (go_at_call 86; refine (spec_validNet _ _ _).mono ?_; rintro e w1 ⟨rfl, hx⟩; refine ⟨?_, Ext.trans hS hx⟩; rfl) | (go_at_call 61; refine (spec_size _ _ _ (validNet_bd (n := ⟨base, bits⟩) (by assumption)).1 (validNet_bd (n := ⟨base, bits⟩) (by assumption)).2.1).mono ?_; rintro e w1 ⟨rfl, hx⟩; refine ⟨?_, Ext.trans hS hx⟩; rfl) | (go_at_call 53; refine (spec_inRange _ _ _ _).mono ?_; rintro e w1 ⟨rfl, hx⟩; subst hx; refine ⟨?_, hS⟩; rfl))
       (try simp only [Act.put, List.setIfInBounds_toArray, List.set_cons_zero, List.set_cons_succ]))
    | (refine ChL.nil ?_)
    | (refine' ChL.guard (x := _) ?_ ?_ ?_
       rotate_left
       · (go_simp
          rfl)
       all_goals
         intro hg
         simp only [hg]))
  all_goals (intro w' hw'; go_wp2; go_ret; refine ⟨ret_bool ?_, (by repeat (first | (with_reducible exact Ext.refl _) | (with_reducible assumption) | (with_reducible refine Ext.alloc ?_ _) | (with_reducible refine Ext.drewN ?_ _) | (with_reducible refine Ext.drew ?_) | (with_reducible refine Ext.setCell ?_ ?_ _; rotate_left; (simp only []; omega)) | (with_reducible refine Ext.trans ?_ (by assumption))))⟩)
  all_goals first | exact plan_last' (by assumption) (by assumption) (by assumption) (by assumption) | (simp [validPlan, *]; done)
theorem spec_ValidPlan (base bits first size : Int) (w : World) :
    Calls Try.prog 25 #[.agg #[.int .i64 base, .int .i64 bits, .int .i64 first, .int .i64 size]] w fun e w' => e = .returned (.bool (validPlan ⟨⟨base, bits⟩, first, size⟩)) ∧ Ext w w' := by
  go_enter Try.func25, Try.ntmps25
  go_wp2_with (go_at_call 58; refine (spec_validPlan _ _ _ _ _).mono ?_; rintro e w1 ⟨rfl, hx⟩)
  go_ret
  exact ⟨rfl, (by repeat (first | (with_reducible exact Ext.refl _) | (with_reducible assumption) | (with_reducible refine Ext.alloc ?_ _) | (with_reducible refine Ext.drewN ?_ _) | (with_reducible refine Ext.drew ?_) | (with_reducible refine Ext.setCell ?_ ?_ _; rotate_left; (simp only []; omega)) | (with_reducible refine Ext.trans ?_ (by assumption))))⟩
end Go.Proofs.Ytdjbjldmlfhigaa
