/- The exact laws on plans of blocks, walked. -/
import Derived.Test.YtdjbjldmlfhigaaOpen
import Derived.Test.YtdjbjldmlfhigaaPlan
namespace Go.Proofs.Ytdjbjldmlfhigaa
open Go.RowKit

def ownerOf (b : PlanD) (port : Int) : Int := if validPlan b && inR port b.first (b.first + b.size * netSize b.net.bits - 1) then b.net.base + (port - b.first) / b.size else -1
def blockOf (b : PlanD) (addr : Int) : Int := if validPlan b && has b.net addr then b.first + (addr - b.net.base) * b.size else -1
theorem plan_bd {base bits first size : Int} (h : validPlan ⟨⟨base, bits⟩, first, size⟩ = true) : validNet ⟨base, bits⟩ = true ∧ 8 ≤ bits ∧ 1 ≤ first ∧ first ≤ 65535 ∧ 1 ≤ size ∧ size ≤ 16 ∧ 0 ≤ netSize bits * size ∧ netSize bits * size ≤ 1048576 := by
  simp only [validPlan, Bool.and_eq_true, inR_iff, decide_eq_true_eq] at h
  obtain ⟨⟨⟨⟨h1, h2⟩, h3⟩, h4⟩, _⟩ := h
  have := plan_mul (bits := bits) (by omega) h4.1 h4.2
  exact ⟨h1, h2, h3.1, h3.2, h4.1, h4.2, this.1, this.2⟩
theorem block_bd {base bits addr size : Int} (hn : validNet ⟨base, bits⟩ = true) (h : has ⟨base, bits⟩ addr = true) (s0 : 1 ≤ size) (s1 : size ≤ 16) : 0 ≤ addr - base ∧ addr ≤ 131070 ∧ 0 ≤ base ∧ 0 ≤ (addr - base) * size ∧ (addr - base) * size ≤ 1048576 := by
  obtain ⟨b0, b1, b2, b3⟩ := validNet_bd hn
  simp only at b0 b1 b2 b3
  have n1 := netSize_le b0
  simp only [has, inR_iff] at h
  have e1 : 0 ≤ addr - base := by omega
  have e2 : addr - base ≤ 65536 := by omega
  have h3 : (addr - base) * size ≤ 65536 * size := Int.mul_le_mul_of_nonneg_right e2 (by omega)
  have h4 : 0 * size ≤ (addr - base) * size := Int.mul_le_mul_of_nonneg_right e1 (by omega)
  exact ⟨e1, by omega, by omega, by omega, by omega⟩
theorem toNet_any (x y : Int) (w : World) : Calls Try.prog 59 #[.agg #[.int .i64 x, .int .i64 y]] w fun e w' => e = .returned (.agg #[.int .i64 x, .int .i64 y]) ∧ Ext w w' := by
  go_enter Try.func59, Try.ntmps59
  go_wp2
  refine' bodyPost_ret (v := _) ?_ rfl ?_
  rotate_left
  · (simp only [results, Try.results59]
     go_simp
     rfl)
  exact ⟨rfl, (by repeat (first | (with_reducible exact Ext.refl _) | (with_reducible assumption) | (with_reducible refine Ext.alloc ?_ _) | (with_reducible refine Ext.drewN ?_ _) | (with_reducible refine Ext.drew ?_) | (with_reducible refine Ext.setCell ?_ ?_ _; rotate_left; (simp only []; omega)) | (with_reducible refine Ext.trans ?_ (by assumption))))⟩
theorem toPlan_any (x y f z : Int) (w : World) : Calls Try.prog 26 #[.agg #[.int .i64 x, .int .i64 y, .int .i64 f, .int .i64 z]] w fun e w' => e = .returned (.agg #[.int .i64 x, .int .i64 y, .int .i64 f, .int .i64 z]) ∧ Ext w w' := by
  go_enter Try.func26, Try.ntmps26
  go_wp2_with (go_at_call 59; refine (toNet_any _ _ _).mono ?_; rintro e w1 ⟨rfl, hx⟩; have hc := hx.cells; have hf := hx.frozens; have hy := hx.size; (try simp at hy); have hz : w.heap.size < w1.heap.size ∧ w.heap.size + 1 < w1.heap.size ∧ w.heap.size + 2 < w1.heap.size := (by omega))
  refine' bodyPost_ret (v := _) ?_ rfl ?_
  rotate_left
  · (simp only [results, Try.results26]
     go_simp
     rfl)
  exact ⟨rfl, (by repeat (first | (with_reducible exact Ext.refl _) | (with_reducible assumption) | (with_reducible refine Ext.alloc ?_ _) | (with_reducible refine Ext.drewN ?_ _) | (with_reducible refine Ext.drew ?_) | (with_reducible refine Ext.setCell ?_ ?_ _; rotate_left; (simp only []; omega)) | (with_reducible refine Ext.trans ?_ (by assumption))))⟩
theorem law_FnExactValidPlan (x y f z : Int) (w : World) : Calls Try.prog 6 #[.agg #[.int .i64 x, .int .i64 y, .int .i64 f, .int .i64 z]] w fun e w' => e = .returned (.bool true) ∧ Ext w w' := by
  go_enter Try.func6, Try.ntmps6
  go_wp2_with (first | (go_at_call 26; refine (toPlan_any _ _ _ _ _).mono ?_; rintro e w1 ⟨rfl, hx⟩; have hc := hx.cells; have hf := hx.frozens; have hy := hx.size; (try simp at hy); have hz : w.heap.size < w1.heap.size := (by omega)) | (go_at_call 25; refine (spec_ValidPlan _ _ _ _ _).mono ?_; rintro e w1 ⟨rfl, hx⟩; have hc := hx.cells; have hf := hx.frozens; have hy := hx.size; (try simp at hy); have hz : w.heap.size < w1.heap.size := (by omega)) | (go_at_call 27; refine (impl_ValidPlan _ _ _ _ _).mono ?_; rintro e w1 ⟨rfl, hx⟩; have hc := hx.cells; have hf := hx.frozens; have hy := hx.size; (try simp at hy); have hz : w.heap.size < w1.heap.size := (by omega)))
  go_ret
  exact ⟨rfl, (by repeat (first | (with_reducible exact Ext.refl _) | (with_reducible assumption) | (with_reducible refine Ext.alloc ?_ _) | (with_reducible refine Ext.drewN ?_ _) | (with_reducible refine Ext.drew ?_) | (with_reducible refine Ext.setCell ?_ ?_ _; rotate_left; (simp only []; omega)) | (with_reducible refine Ext.trans ?_ (by assumption))))⟩
theorem spec_OwnerOf (base bits first size port : Int) (w : World) :
    Calls Try.prog 28 #[.agg #[.int .i64 base, .int .i64 bits, .int .i64 first, .int .i64 size], .int .i64 port] w fun e w' => e = .returned (.int .i64 (ownerOf ⟨⟨base, bits⟩, first, size⟩ port)) ∧ Ext w w' := by
  have c := spec_validPlan base bits first size
  cases hv : validPlan ⟨⟨base, bits⟩, first, size⟩ with
  | false =>
    rw [show ownerOf ⟨⟨base, bits⟩, first, size⟩ port = -1 by simp [ownerOf, hv]]
    simp only [hv] at c
    clear hv
    replace c := Lib.hid c
    go_enter Try.func28, Try.ntmps28
    go_wp2_with fail
    refine wp_region_ext (by kernel_rfl) (by kernel_rfl) ?_
    repeat' (first
      | (refine ChL.skip (by rfl) ?_
         (try simp only [Act.put, List.setIfInBounds_toArray, List.set_cons_zero, List.set_cons_succ]))
      | (refine' ChL.val (v := _) (by rfl) ?_ ?_
         rotate_left
         · (intro wS hS
            have hcS := Ext.cells hS
            go_simp
            with_reducible rfl)
         (try simp only [Act.put, List.setIfInBounds_toArray, List.set_cons_zero, List.set_cons_succ]))
      | (refine' ChL.call (v := _) (f := _) (args := _) (by rfl) ?_ ?_ ?_
         rotate_left 3
         · (intro wS
            go_simp
            (constructor <;> rfl))
         · (intro wS hS
            first | (go_at_call 58; refine (c.out _).mono ?_; rintro e w1 ⟨rfl, hx⟩; refine ⟨?_, Ext.trans hS hx⟩; rfl))
         (try simp only [Act.put, List.setIfInBounds_toArray, List.set_cons_zero, List.set_cons_succ]))
      | (refine ChL.nil ?_)
      | (refine' ChL.guard (x := _) ?_ ?_ ?_
         rotate_left
         · (go_simp
            rfl)
         all_goals
           intro hg
           simp only [hg]))
    all_goals (intro w' hw'; go_wp2; go_ret; exact ⟨rfl, (by repeat (first | (with_reducible exact Ext.refl _) | (with_reducible assumption) | (with_reducible refine Ext.alloc ?_ _) | (with_reducible refine Ext.drewN ?_ _) | (with_reducible refine Ext.drew ?_) | (with_reducible refine Ext.setCell ?_ ?_ _; rotate_left; (simp only []; omega)) | (with_reducible refine Ext.trans ?_ (by assumption))))⟩)
  | true =>
    obtain ⟨b0, b1, b2, b3, b4, b5, b6, b7⟩ := plan_bd hv
    have n1 := validNet_bd b0
    simp only at n1
    obtain ⟨n1, n2, n3, n4⟩ := n1
    have e0 : size * netSize bits = netSize bits * size := Int.mul_comm _ _
    have c2 := spec_inRange port first (first + size * netSize bits - 1)
    cases hi : inR port first (first + size * netSize bits - 1) with
    | false =>
      rw [show ownerOf ⟨⟨base, bits⟩, first, size⟩ port = -1 by simp [ownerOf, hi]]
      simp only [hv] at c
      simp only [hi] at c2
      rw [e0] at c2
      clear hv hi b0
      obtain ⟨X, hX⟩ : ∃ X, netSize bits * size = X := ⟨_, rfl⟩
      have hX' : IntKind.i64.wrap (size * netSize bits) = X := by rw [e0, hX]; exact IntWalk.i64_in _ (by omega)
      rw [hX] at c2 b6 b7
      have e2 : IntKind.i64.wrap (first + X) = first + X := IntWalk.i64_in _ (by omega)
      have e3 : IntKind.i64.wrap (first + X - 1) = first + X - 1 := IntWalk.i64_in _ (by omega)
      replace c := Lib.hid c
      replace c2 := Lib.hid c2
      clear hX e0
      go_enter Try.func28, Try.ntmps28
      go_wp2_with fail
      refine wp_region_ext (by kernel_rfl) (by kernel_rfl) ?_
      repeat' (first
        | (refine ChL.skip (by rfl) ?_
           (try simp only [Act.put, List.setIfInBounds_toArray, List.set_cons_zero, List.set_cons_succ]))
        | (refine' ChL.val (v := _) (by rfl) ?_ ?_
           rotate_left
           · (intro wS hS
              have hcS := Ext.cells hS
              go_simp
              with_reducible rfl)
           (try simp only [Act.put, List.setIfInBounds_toArray, List.set_cons_zero, List.set_cons_succ]))
        | (refine' ChL.call (v := _) (f := _) (args := _) (by rfl) ?_ ?_ ?_
           rotate_left 3
           · (intro wS
              go_simp
              (constructor <;> rfl))
           · (intro wS hS
              first | (go_at_call 58; refine (c.out _).mono ?_; rintro e w1 ⟨rfl, hx⟩; refine ⟨?_, Ext.trans hS hx⟩; rfl) | (go_at_call 61; refine (spec_size _ _ _ n1 n2).mono ?_; rintro e w1 ⟨rfl, hx⟩; refine ⟨?_, Ext.trans hS hx⟩; rfl) | (go_at_call 53; refine (c2.out _).mono ?_; rintro e w1 ⟨rfl, hx⟩; subst hx; refine ⟨?_, hS⟩; rfl))
           (try simp only [Act.put, List.setIfInBounds_toArray, List.set_cons_zero, List.set_cons_succ]))
        | (refine ChL.nil ?_)
        | (refine' ChL.guard (x := _) ?_ ?_ ?_
           rotate_left
           · (go_simp
              rfl)
           all_goals
             intro hg
             simp only [hg]))
      all_goals (intro w' hw'; go_wp2; go_ret; exact ⟨rfl, (by repeat (first | (with_reducible exact Ext.refl _) | (with_reducible assumption) | (with_reducible refine Ext.alloc ?_ _) | (with_reducible refine Ext.drewN ?_ _) | (with_reducible refine Ext.drew ?_) | (with_reducible refine Ext.setCell ?_ ?_ _; rotate_left; (simp only []; omega)) | (with_reducible refine Ext.trans ?_ (by assumption))))⟩)
    | true =>
      rw [show ownerOf ⟨⟨base, bits⟩, first, size⟩ port = base + (port - first) / size by simp only [ownerOf, hi, hv]; rfl]
      simp only [hv] at c
      simp only [hi] at c2
      rw [inR_iff] at hi
      rw [e0] at c2 hi
      clear hv b0
      obtain ⟨X, hX⟩ : ∃ X, netSize bits * size = X := ⟨_, rfl⟩
      have hX' : IntKind.i64.wrap (size * netSize bits) = X := by rw [e0, hX]; exact IntWalk.i64_in _ (by omega)
      rw [hX] at c2 b6 b7 hi
      have e2 : IntKind.i64.wrap (first + X) = first + X := IntWalk.i64_in _ (by omega)
      have e3 : IntKind.i64.wrap (first + X - 1) = first + X - 1 := IntWalk.i64_in _ (by omega)
      obtain ⟨p0, p1⟩ := hi
      have p2 : port ≤ 1200000 := by omega
      have d0 : 0 ≤ (port - first) / size := Int.ediv_nonneg (by omega) (by omega)
      have d1 : (port - first) / size ≤ port - first := Int.ediv_le_self _ (by omega)
      have e4 : IntKind.i64.wrap (port - first) = port - first := IntWalk.i64_in _ (by omega)
      have e5 : (port - first).tdiv size = (port - first) / size := Int.tdiv_eq_ediv_of_nonneg (by omega)
      have e6 : IntKind.i64.wrap ((port - first) / size) = (port - first) / size := IntWalk.i64_in _ (by omega)
      have e7 : IntKind.i64.wrap (base + (port - first) / size) = base + (port - first) / size := IntWalk.i64_in _ (by omega)
      have e8 : ¬ size = 0 := by omega
      replace c := Lib.hid c
      replace c2 := Lib.hid c2
      clear hX e0
      go_enter Try.func28, Try.ntmps28
      go_wp2_with fail
      refine wp_region_ext (by kernel_rfl) (by kernel_rfl) ?_
      repeat' (first
        | (refine ChL.skip (by rfl) ?_
           (try simp only [Act.put, List.setIfInBounds_toArray, List.set_cons_zero, List.set_cons_succ]))
        | (refine' ChL.val (v := _) (by rfl) ?_ ?_
           rotate_left
           · (intro wS hS
              have hcS := Ext.cells hS
              go_simp
              with_reducible rfl)
           (try simp only [Act.put, List.setIfInBounds_toArray, List.set_cons_zero, List.set_cons_succ]))
        | (refine' ChL.call (v := _) (f := _) (args := _) (by rfl) ?_ ?_ ?_
           rotate_left 3
           · (intro wS
              go_simp
              (constructor <;> rfl))
           · (intro wS hS
              first | (go_at_call 58; refine (c.out _).mono ?_; rintro e w1 ⟨rfl, hx⟩; refine ⟨?_, Ext.trans hS hx⟩; rfl) | (go_at_call 61; refine (spec_size _ _ _ n1 n2).mono ?_; rintro e w1 ⟨rfl, hx⟩; refine ⟨?_, Ext.trans hS hx⟩; rfl) | (go_at_call 53; refine (c2.out _).mono ?_; rintro e w1 ⟨rfl, hx⟩; subst hx; refine ⟨?_, hS⟩; rfl))
           (try simp only [Act.put, List.setIfInBounds_toArray, List.set_cons_zero, List.set_cons_succ]))
        | (refine ChL.nil ?_)
        | (refine' ChL.guard (x := _) ?_ ?_ ?_
           rotate_left
           · (go_simp
              rfl)
           all_goals
             intro hg
             simp only [hg]))
      intro w1 hx
      have hc := hx.cells
      have hy := hx.size
      simp at hy
      have hz : w.heap.size < w1.heap.size := by omega
      go_wp2_with fail
      refine wp_region_ext (by kernel_rfl) (by kernel_rfl) ?_
      repeat' (first
        | (refine ChL.skip (by rfl) ?_
           (try simp only [Act.put, List.setIfInBounds_toArray, List.set_cons_zero, List.set_cons_succ]))
        | (refine' ChL.val (v := _) (by rfl) ?_ ?_
           rotate_left
           · (intro wS hS
              have hcS := Ext.cells hS
              go_simp
              with_reducible rfl)
           (try simp only [Act.put, List.setIfInBounds_toArray, List.set_cons_zero, List.set_cons_succ]))
        | (refine' ChL.call (v := _) (f := _) (args := _) (by rfl) ?_ ?_ ?_
           rotate_left 3
           · (intro wS
              go_simp
              (constructor <;> rfl))
           · (intro wS hS
              first | fail)
           (try simp only [Act.put, List.setIfInBounds_toArray, List.set_cons_zero, List.set_cons_succ]))
        | (refine ChL.nil ?_)
        | (refine' ChL.guard (x := _) ?_ ?_ ?_
           rotate_left
           · (go_simp
              rfl)
           all_goals
             intro hg
             simp only [hg]))
      all_goals (intro w' hw'; go_wp2; go_ret; exact ⟨rfl, (by repeat (first | (with_reducible exact Ext.refl _) | (with_reducible assumption) | (with_reducible refine Ext.alloc ?_ _) | (with_reducible refine Ext.drewN ?_ _) | (with_reducible refine Ext.drew ?_) | (with_reducible refine Ext.setCell ?_ ?_ _; rotate_left; (simp only []; omega)) | (with_reducible refine Ext.trans ?_ (by assumption))))⟩)
theorem impl_OwnerOf (base bits first size port : Int) (w : World) :
    Calls Try.prog 29 #[.agg #[.int .i64 base, .int .i64 bits, .int .i64 first, .int .i64 size], .int .i64 port] w fun e w' => e = .returned (.int .i64 (ownerOf ⟨⟨base, bits⟩, first, size⟩ port)) ∧ Ext w w' := by
  have c := impl_ValidPlan base bits first size
  cases hv : validPlan ⟨⟨base, bits⟩, first, size⟩ with
  | false =>
    rw [show ownerOf ⟨⟨base, bits⟩, first, size⟩ port = -1 by simp [ownerOf, hv]]
    simp only [hv] at c
    clear hv
    replace c := Lib.hid c
    go_enter Try.func29, Try.ntmps29
    go_wp2_with fail
    refine wp_region_ext (by kernel_rfl) (by kernel_rfl) ?_
    repeat' (first
      | (refine ChL.skip (by rfl) ?_
         (try simp only [Act.put, List.setIfInBounds_toArray, List.set_cons_zero, List.set_cons_succ]))
      | (refine' ChL.val (v := _) (by rfl) ?_ ?_
         rotate_left
         · (intro wS hS
            have hcS := Ext.cells hS
            go_simp
            with_reducible rfl)
         (try simp only [Act.put, List.setIfInBounds_toArray, List.set_cons_zero, List.set_cons_succ]))
      | (refine' ChL.call (v := _) (f := _) (args := _) (by rfl) ?_ ?_ ?_
         rotate_left 3
         · (intro wS
            go_simp
            (constructor <;> rfl))
         · (intro wS hS
            first | (go_at_call 27; refine (c.out _).mono ?_; rintro e w1 ⟨rfl, hx⟩; refine ⟨?_, Ext.trans hS hx⟩; rfl))
         (try simp only [Act.put, List.setIfInBounds_toArray, List.set_cons_zero, List.set_cons_succ]))
      | (refine ChL.nil ?_)
      | (refine' ChL.guard (x := _) ?_ ?_ ?_
         rotate_left
         · (go_simp
            rfl)
         all_goals
           intro hg
           simp only [hg]))
    all_goals (intro w' hw'; go_wp2; go_ret; exact ⟨rfl, (by repeat (first | (with_reducible exact Ext.refl _) | (with_reducible assumption) | (with_reducible refine Ext.alloc ?_ _) | (with_reducible refine Ext.drewN ?_ _) | (with_reducible refine Ext.drew ?_) | (with_reducible refine Ext.setCell ?_ ?_ _; rotate_left; (simp only []; omega)) | (with_reducible refine Ext.trans ?_ (by assumption))))⟩)
  | true =>
    obtain ⟨b0, b1, b2, b3, b4, b5, b6, b7⟩ := plan_bd hv
    have n1 := validNet_bd b0
    simp only at n1
    obtain ⟨n1, n2, n3, n4⟩ := n1
    have e0 : size * netSize bits = netSize bits * size := Int.mul_comm _ _
    have c2 := impl_in port first (first + size * netSize bits - 1)
    cases hi : inR port first (first + size * netSize bits - 1) with
    | false =>
      rw [show ownerOf ⟨⟨base, bits⟩, first, size⟩ port = -1 by simp [ownerOf, hi]]
      simp only [hv] at c
      simp only [hi] at c2
      rw [e0] at c2
      clear hv hi b0
      obtain ⟨X, hX⟩ : ∃ X, netSize bits * size = X := ⟨_, rfl⟩
      have hX' : IntKind.i64.wrap (netSize bits * size) = X := by rw [hX]; exact IntWalk.i64_in _ (by omega)
      rw [hX] at c2 b6 b7
      have e2 : IntKind.i64.wrap (first + X) = first + X := IntWalk.i64_in _ (by omega)
      have e3 : IntKind.i64.wrap (first + X - 1) = first + X - 1 := IntWalk.i64_in _ (by omega)
      replace c := Lib.hid c
      replace c2 := Lib.hid c2
      clear hX e0
      go_enter Try.func29, Try.ntmps29
      go_wp2_with fail
      refine wp_region_ext (by kernel_rfl) (by kernel_rfl) ?_
      repeat' (first
        | (refine ChL.skip (by rfl) ?_
           (try simp only [Act.put, List.setIfInBounds_toArray, List.set_cons_zero, List.set_cons_succ]))
        | (refine' ChL.val (v := _) (by rfl) ?_ ?_
           rotate_left
           · (intro wS hS
              have hcS := Ext.cells hS
              go_simp
              with_reducible rfl)
           (try simp only [Act.put, List.setIfInBounds_toArray, List.set_cons_zero, List.set_cons_succ]))
        | (refine' ChL.call (v := _) (f := _) (args := _) (by rfl) ?_ ?_ ?_
           rotate_left 3
           · (intro wS
              go_simp
              (constructor <;> rfl))
           · (intro wS hS
              first | (go_at_call 27; refine (c.out _).mono ?_; rintro e w1 ⟨rfl, hx⟩; refine ⟨?_, Ext.trans hS hx⟩; rfl) | (go_at_call 60; refine (impl_size _ _ _ n1 n2).mono ?_; rintro e w1 ⟨rfl, hx⟩; refine ⟨?_, Ext.trans hS hx⟩; rfl) | (go_at_call 54; refine (c2.out _).mono ?_; rintro e w1 ⟨rfl, hx⟩; subst hx; refine ⟨?_, hS⟩; rfl))
           (try simp only [Act.put, List.setIfInBounds_toArray, List.set_cons_zero, List.set_cons_succ]))
        | (refine ChL.nil ?_)
        | (refine' ChL.guard (x := _) ?_ ?_ ?_
           rotate_left
           · (go_simp
              rfl)
           all_goals
             intro hg
             simp only [hg]))
      all_goals (intro w' hw'; go_wp2; go_ret; exact ⟨rfl, (by repeat (first | (with_reducible exact Ext.refl _) | (with_reducible assumption) | (with_reducible refine Ext.alloc ?_ _) | (with_reducible refine Ext.drewN ?_ _) | (with_reducible refine Ext.drew ?_) | (with_reducible refine Ext.setCell ?_ ?_ _; rotate_left; (simp only []; omega)) | (with_reducible refine Ext.trans ?_ (by assumption))))⟩)
    | true =>
      rw [show ownerOf ⟨⟨base, bits⟩, first, size⟩ port = base + (port - first) / size by simp only [ownerOf, hi, hv]; rfl]
      simp only [hv] at c
      simp only [hi] at c2
      rw [inR_iff] at hi
      rw [e0] at c2 hi
      clear hv b0
      obtain ⟨X, hX⟩ : ∃ X, netSize bits * size = X := ⟨_, rfl⟩
      have hX' : IntKind.i64.wrap (netSize bits * size) = X := by rw [hX]; exact IntWalk.i64_in _ (by omega)
      rw [hX] at c2 b6 b7 hi
      have e2 : IntKind.i64.wrap (first + X) = first + X := IntWalk.i64_in _ (by omega)
      have e3 : IntKind.i64.wrap (first + X - 1) = first + X - 1 := IntWalk.i64_in _ (by omega)
      obtain ⟨p0, p1⟩ := hi
      have p2 : port ≤ 1200000 := by omega
      have d0 : 0 ≤ (port - first) / size := Int.ediv_nonneg (by omega) (by omega)
      have d1 : (port - first) / size ≤ port - first := Int.ediv_le_self _ (by omega)
      have e4 : IntKind.i64.wrap (port - first) = port - first := IntWalk.i64_in _ (by omega)
      have e5 : (port - first).tdiv size = (port - first) / size := Int.tdiv_eq_ediv_of_nonneg (by omega)
      have e6 : IntKind.i64.wrap ((port - first) / size) = (port - first) / size := IntWalk.i64_in _ (by omega)
      have e7 : IntKind.i64.wrap (base + (port - first) / size) = base + (port - first) / size := IntWalk.i64_in _ (by omega)
      have e8 : ¬ size = 0 := by omega
      replace c := Lib.hid c
      replace c2 := Lib.hid c2
      clear hX e0
      go_enter Try.func29, Try.ntmps29
      go_wp2_with fail
      refine wp_region_ext (by kernel_rfl) (by kernel_rfl) ?_
      repeat' (first
        | (refine ChL.skip (by rfl) ?_
           (try simp only [Act.put, List.setIfInBounds_toArray, List.set_cons_zero, List.set_cons_succ]))
        | (refine' ChL.val (v := _) (by rfl) ?_ ?_
           rotate_left
           · (intro wS hS
              have hcS := Ext.cells hS
              go_simp
              with_reducible rfl)
           (try simp only [Act.put, List.setIfInBounds_toArray, List.set_cons_zero, List.set_cons_succ]))
        | (refine' ChL.call (v := _) (f := _) (args := _) (by rfl) ?_ ?_ ?_
           rotate_left 3
           · (intro wS
              go_simp
              (constructor <;> rfl))
           · (intro wS hS
              first | (go_at_call 27; refine (c.out _).mono ?_; rintro e w1 ⟨rfl, hx⟩; refine ⟨?_, Ext.trans hS hx⟩; rfl) | (go_at_call 60; refine (impl_size _ _ _ n1 n2).mono ?_; rintro e w1 ⟨rfl, hx⟩; refine ⟨?_, Ext.trans hS hx⟩; rfl) | (go_at_call 54; refine (c2.out _).mono ?_; rintro e w1 ⟨rfl, hx⟩; subst hx; refine ⟨?_, hS⟩; rfl))
           (try simp only [Act.put, List.setIfInBounds_toArray, List.set_cons_zero, List.set_cons_succ]))
        | (refine ChL.nil ?_)
        | (refine' ChL.guard (x := _) ?_ ?_ ?_
           rotate_left
           · (go_simp
              rfl)
           all_goals
             intro hg
             simp only [hg]))
      intro w1 hx
      have hc := hx.cells
      have hy := hx.size
      simp at hy
      have hz : w.heap.size < w1.heap.size := by omega
      go_wp2_with fail
      refine wp_region_ext (by kernel_rfl) (by kernel_rfl) ?_
      repeat' (first
        | (refine ChL.skip (by rfl) ?_
           (try simp only [Act.put, List.setIfInBounds_toArray, List.set_cons_zero, List.set_cons_succ]))
        | (refine' ChL.val (v := _) (by rfl) ?_ ?_
           rotate_left
           · (intro wS hS
              have hcS := Ext.cells hS
              go_simp
              with_reducible rfl)
           (try simp only [Act.put, List.setIfInBounds_toArray, List.set_cons_zero, List.set_cons_succ]))
        | (refine' ChL.call (v := _) (f := _) (args := _) (by rfl) ?_ ?_ ?_
           rotate_left 3
           · (intro wS
              go_simp
              (constructor <;> rfl))
           · (intro wS hS
              first | fail)
           (try simp only [Act.put, List.setIfInBounds_toArray, List.set_cons_zero, List.set_cons_succ]))
        | (refine ChL.nil ?_)
        | (refine' ChL.guard (x := _) ?_ ?_ ?_
           rotate_left
           · (go_simp
              rfl)
           all_goals
             intro hg
             simp only [hg]))
      all_goals (intro w' hw'; go_wp2; go_ret; exact ⟨rfl, (by repeat (first | (with_reducible exact Ext.refl _) | (with_reducible assumption) | (with_reducible refine Ext.alloc ?_ _) | (with_reducible refine Ext.drewN ?_ _) | (with_reducible refine Ext.drew ?_) | (with_reducible refine Ext.setCell ?_ ?_ _; rotate_left; (simp only []; omega)) | (with_reducible refine Ext.trans ?_ (by assumption))))⟩)
theorem law_FnExactOwnerOf (x y f z n : Int) (w : World) : Calls Try.prog 8 #[.agg #[.int .i64 x, .int .i64 y, .int .i64 f, .int .i64 z], .int .i64 n] w fun e w' => e = .returned (.bool true) ∧ Ext w w' := by
  go_enter Try.func8, Try.ntmps8
  go_wp2_with (first | (go_at_call 26; refine (toPlan_any _ _ _ _ _).mono ?_; rintro e w1 ⟨rfl, hx⟩; have hc := hx.cells; have hf := hx.frozens; have hy := hx.size; (try simp at hy); have hz : w.heap.size < w1.heap.size := (by omega)) | (go_at_call 28; refine (spec_OwnerOf _ _ _ _ _ _).mono ?_; rintro e w1 ⟨rfl, hx⟩; have hc := hx.cells; have hf := hx.frozens; have hy := hx.size; (try simp at hy); have hz : w.heap.size < w1.heap.size := (by omega)) | (go_at_call 29; refine (impl_OwnerOf _ _ _ _ _ _).mono ?_; rintro e w1 ⟨rfl, hx⟩; have hc := hx.cells; have hf := hx.frozens; have hy := hx.size; (try simp at hy); have hz : w.heap.size < w1.heap.size := (by omega)))
  go_ret
  exact ⟨rfl, (by repeat (first | (with_reducible exact Ext.refl _) | (with_reducible assumption) | (with_reducible refine Ext.alloc ?_ _) | (with_reducible refine Ext.drewN ?_ _) | (with_reducible refine Ext.drew ?_) | (with_reducible refine Ext.setCell ?_ ?_ _; rotate_left; (simp only []; omega)) | (with_reducible refine Ext.trans ?_ (by assumption))))⟩
theorem spec_BlockOf (base bits first size addr : Int) (w : World) :
    Calls Try.prog 31 #[.agg #[.int .i64 base, .int .i64 bits, .int .i64 first, .int .i64 size], .int .i64 addr] w fun e w' => e = .returned (.int .i64 (blockOf ⟨⟨base, bits⟩, first, size⟩ addr)) ∧ Ext w w' := by
  have c := spec_validPlan base bits first size
  cases hv : validPlan ⟨⟨base, bits⟩, first, size⟩ with
  | false =>
    rw [show blockOf ⟨⟨base, bits⟩, first, size⟩ addr = -1 by simp [blockOf, hv]]
    simp only [hv] at c
    clear hv
    replace c := Lib.hid c
    go_enter Try.func31, Try.ntmps31
    go_wp2_with (go_at_call 58; refine (c.out _).mono ?_; rintro e w1 ⟨rfl, hx⟩; have hc := hx.cells; have hf := hx.frozens; have hy := hx.size; (try simp at hy); have hz : w.heap.size < w1.heap.size := (by omega))
    go_ret
    exact ⟨rfl, (by repeat (first | (with_reducible exact Ext.refl _) | (with_reducible assumption) | (with_reducible refine Ext.alloc ?_ _) | (with_reducible refine Ext.drewN ?_ _) | (with_reducible refine Ext.drew ?_) | (with_reducible refine Ext.setCell ?_ ?_ _; rotate_left; (simp only []; omega)) | (with_reducible refine Ext.trans ?_ (by assumption))))⟩
  | true =>
    obtain ⟨b0, b1, b2, b3, b4, b5, b6, b7⟩ := plan_bd hv
    have c2 := fun w => spec_inNet base bits addr w b0
    cases hi : has ⟨base, bits⟩ addr with
    | false =>
      rw [show blockOf ⟨⟨base, bits⟩, first, size⟩ addr = -1 by simp [blockOf, hi]]
      simp only [hv] at c
      simp only [hi] at c2
      clear hv hi b0
      replace c := Lib.hid c
      replace c2 := Lib.hid c2
      go_enter Try.func31, Try.ntmps31
      go_wp2_with (first | (go_at_call 58; refine (c.out _).mono ?_; rintro e w1 ⟨rfl, hx⟩; have hc := hx.cells; have hf := hx.frozens; have hy := hx.size; (try simp at hy); have hz : w.heap.size < w1.heap.size := (by omega)) | (go_at_call 62; refine (c2.out _).mono ?_; rintro e w1 ⟨rfl, hx⟩; have hc := hx.cells; have hf := hx.frozens; have hy := hx.size; (try simp at hy); have hz : w.heap.size < w1.heap.size := (by omega)))
      go_ret
      exact ⟨rfl, (by repeat (first | (with_reducible exact Ext.refl _) | (with_reducible assumption) | (with_reducible refine Ext.alloc ?_ _) | (with_reducible refine Ext.drewN ?_ _) | (with_reducible refine Ext.drew ?_) | (with_reducible refine Ext.setCell ?_ ?_ _; rotate_left; (simp only []; omega)) | (with_reducible refine Ext.trans ?_ (by assumption))))⟩
    | true =>
      rw [show blockOf ⟨⟨base, bits⟩, first, size⟩ addr = first + (addr - base) * size by simp only [blockOf, hi, hv]; rfl]
      obtain ⟨d0, d1, d2, d3, d4⟩ := block_bd b0 hi b4 b5
      simp only [hv] at c
      simp only [hi] at c2
      clear hv hi b0
      have e1 : IntKind.i64.wrap (addr - base) = addr - base := IntWalk.i64_in _ (by omega)
      have e2 : IntKind.i64.wrap ((addr - base) * size) = (addr - base) * size := IntWalk.i64_in _ (by omega)
      have e3 : IntKind.i64.wrap (first + (addr - base) * size) = first + (addr - base) * size := IntWalk.i64_in _ (by omega)
      have g1 : wrap64 ((addr - base) * size) = (addr - base) * size := wrap_id (by omega) (by omega)
      have g2 : wrap64 (first + (addr - base) * size) = first + (addr - base) * size := wrap_id (by omega) (by omega)
      replace c := Lib.hid c
      replace c2 := Lib.hid c2
      go_enter Try.func31, Try.ntmps31
      go_wp2_with (first | (go_at_call 58; refine (c.out _).mono ?_; rintro e w1 ⟨rfl, hx⟩; have hc := hx.cells; have hf := hx.frozens; have hy := hx.size; (try simp at hy); have hz : w.heap.size < w1.heap.size := (by omega)) | (go_at_call 62; refine (c2.out _).mono ?_; rintro e w1 ⟨rfl, hx⟩; have hc := hx.cells; have hf := hx.frozens; have hy := hx.size; (try simp at hy); have hz : w.heap.size < w1.heap.size := (by omega)))
      go_ret
      exact ⟨rfl, (by repeat (first | (with_reducible exact Ext.refl _) | (with_reducible assumption) | (with_reducible refine Ext.alloc ?_ _) | (with_reducible refine Ext.drewN ?_ _) | (with_reducible refine Ext.drew ?_) | (with_reducible refine Ext.setCell ?_ ?_ _; rotate_left; (simp only []; omega)) | (with_reducible refine Ext.trans ?_ (by assumption))))⟩
theorem impl_owns (base bits first size addr : Int) (w : World) :
    Calls Try.prog 63 #[.agg #[.int .i64 base, .int .i64 bits, .int .i64 first, .int .i64 size], .int .i64 addr] w fun e w' => e = .returned (.bool (validPlan ⟨⟨base, bits⟩, first, size⟩ && has ⟨base, bits⟩ addr)) ∧ Ext w w' := by
  have c := impl_ValidPlan base bits first size
  cases hv : validPlan ⟨⟨base, bits⟩, first, size⟩ with
  | false =>
    simp only [hv, Bool.false_and] at c ⊢
    clear hv
    replace c := Lib.hid c
    go_enter Try.func63, Try.ntmps63
    go_wp2_with (go_at_call 27; refine (c.out _).mono ?_; rintro e w1 ⟨rfl, hx⟩; have hc := hx.cells; have hf := hx.frozens; have hy := hx.size; (try simp at hy); have hz : w.heap.size < w1.heap.size := (by omega))
    go_ret
    exact ⟨rfl, (by repeat (first | (with_reducible exact Ext.refl _) | (with_reducible assumption) | (with_reducible refine Ext.alloc ?_ _) | (with_reducible refine Ext.drewN ?_ _) | (with_reducible refine Ext.drew ?_) | (with_reducible refine Ext.setCell ?_ ?_ _; rotate_left; (simp only []; omega)) | (with_reducible refine Ext.trans ?_ (by assumption))))⟩
  | true =>
    obtain ⟨b0, _⟩ := plan_bd hv
    have c2 := fun w => impl_has base bits addr w b0
    simp only [hv, Bool.true_and] at c ⊢
    clear hv b0
    replace c := Lib.hid c
    replace c2 := Lib.hid c2
    go_enter Try.func63, Try.ntmps63
    go_wp2_with (first | (go_at_call 27; refine (c.out _).mono ?_; rintro e w1 ⟨rfl, hx⟩; have hc := hx.cells; have hf := hx.frozens; have hy := hx.size; (try simp at hy); have hz : w.heap.size < w1.heap.size := (by omega)) | (go_at_call 87; refine (c2.out _).mono ?_; rintro e w1 ⟨rfl, hx⟩; have hc := hx.cells; have hf := hx.frozens; have hy := hx.size; (try simp at hy); have hz : w.heap.size < w1.heap.size := (by omega)))
    go_ret
    exact ⟨rfl, (by repeat (first | (with_reducible exact Ext.refl _) | (with_reducible assumption) | (with_reducible refine Ext.alloc ?_ _) | (with_reducible refine Ext.drewN ?_ _) | (with_reducible refine Ext.drew ?_) | (with_reducible refine Ext.setCell ?_ ?_ _; rotate_left; (simp only []; omega)) | (with_reducible refine Ext.trans ?_ (by assumption))))⟩
theorem impl_block (base bits first size addr : Int) (w : World) (d0 : 0 ≤ addr - base) (d1 : addr ≤ 131070) (d2 : 0 ≤ base) (d3 : 0 ≤ (addr - base) * size) (d4 : (addr - base) * size ≤ 1048576) (f0 : 1 ≤ first) (f1 : first ≤ 65535) :
    Calls Try.prog 64 #[.agg #[.int .i64 base, .int .i64 bits, .int .i64 first, .int .i64 size], .int .i64 addr] w fun e w' => e = .returned (.int .i64 (first + (addr - base) * size)) ∧ Ext w w' := by
  have e1 : IntKind.i64.wrap (addr - base) = addr - base := IntWalk.i64_in _ (by omega)
  have e2 : IntKind.i64.wrap ((addr - base) * size) = (addr - base) * size := IntWalk.i64_in _ (by omega)
  have e3 : IntKind.i64.wrap (first + (addr - base) * size) = first + (addr - base) * size := IntWalk.i64_in _ (by omega)
  have g1 : wrap64 ((addr - base) * size) = (addr - base) * size := wrap_id (by omega) (by omega)
  have g2 : wrap64 (first + (addr - base) * size) = first + (addr - base) * size := wrap_id (by omega) (by omega)
  go_enter Try.func64, Try.ntmps64
  go_wp2
  go_ret
  exact ⟨rfl, (by repeat (first | (with_reducible exact Ext.refl _) | (with_reducible assumption) | (with_reducible refine Ext.alloc ?_ _) | (with_reducible refine Ext.drewN ?_ _) | (with_reducible refine Ext.drew ?_) | (with_reducible refine Ext.setCell ?_ ?_ _; rotate_left; (simp only []; omega)) | (with_reducible refine Ext.trans ?_ (by assumption))))⟩
theorem impl_BlockOf (base bits first size addr : Int) (w : World) :
    Calls Try.prog 32 #[.agg #[.int .i64 base, .int .i64 bits, .int .i64 first, .int .i64 size], .int .i64 addr] w fun e w' => e = .returned (.int .i64 (blockOf ⟨⟨base, bits⟩, first, size⟩ addr)) ∧ Ext w w' := by
  have c := impl_owns base bits first size addr
  cases hv : (validPlan ⟨⟨base, bits⟩, first, size⟩ && has ⟨base, bits⟩ addr) with
  | false =>
    rw [show blockOf ⟨⟨base, bits⟩, first, size⟩ addr = -1 by simp only [blockOf, hv]; rfl]
    simp only [hv] at c
    clear hv
    replace c := Lib.hid c
    go_enter Try.func32, Try.ntmps32
    go_wp2_with (go_at_call 63; refine (c.out _).mono ?_; rintro e w1 ⟨rfl, hx⟩; have hc := hx.cells; have hf := hx.frozens; have hy := hx.size; (try simp at hy); have hz : w.heap.size < w1.heap.size := (by omega))
    go_ret
    exact ⟨rfl, (by repeat (first | (with_reducible exact Ext.refl _) | (with_reducible assumption) | (with_reducible refine Ext.alloc ?_ _) | (with_reducible refine Ext.drewN ?_ _) | (with_reducible refine Ext.drew ?_) | (with_reducible refine Ext.setCell ?_ ?_ _; rotate_left; (simp only []; omega)) | (with_reducible refine Ext.trans ?_ (by assumption))))⟩
  | true =>
    rw [show blockOf ⟨⟨base, bits⟩, first, size⟩ addr = first + (addr - base) * size by simp only [blockOf, hv]; rfl]
    simp only [hv] at c
    rw [Bool.and_eq_true] at hv
    obtain ⟨b0, b1, b2, b3, b4, b5, b6, b7⟩ := plan_bd hv.1
    obtain ⟨d0, d1, d2, d3, d4⟩ := block_bd b0 hv.2 b4 b5
    clear hv
    replace c := Lib.hid c
    go_enter Try.func32, Try.ntmps32
    go_wp2_with (first | (go_at_call 63; refine (c.out _).mono ?_; rintro e w1 ⟨rfl, hx⟩; have hc := hx.cells; have hf := hx.frozens; have hy := hx.size; (try simp at hy); have hz : w.heap.size < w1.heap.size := (by omega)) | (go_at_call 64; refine (impl_block _ _ _ _ _ _ d0 d1 d2 d3 d4 b2 b3).mono ?_; rintro e w1 ⟨rfl, hx⟩; have hc := hx.cells; have hf := hx.frozens; have hy := hx.size; (try simp at hy); have hz : w.heap.size < w1.heap.size := (by omega)))
    go_ret
    exact ⟨rfl, (by repeat (first | (with_reducible exact Ext.refl _) | (with_reducible assumption) | (with_reducible refine Ext.alloc ?_ _) | (with_reducible refine Ext.drewN ?_ _) | (with_reducible refine Ext.drew ?_) | (with_reducible refine Ext.setCell ?_ ?_ _; rotate_left; (simp only []; omega)) | (with_reducible refine Ext.trans ?_ (by assumption))))⟩
theorem law_FnExactBlockOf (x y f z n : Int) (w : World) : Calls Try.prog 12 #[.agg #[.int .i64 x, .int .i64 y, .int .i64 f, .int .i64 z], .int .i64 n] w fun e w' => e = .returned (.bool true) ∧ Ext w w' := by
  go_enter Try.func12, Try.ntmps12
  go_wp2_with (first | (go_at_call 26; refine (toPlan_any _ _ _ _ _).mono ?_; rintro e w1 ⟨rfl, hx⟩; have hc := hx.cells; have hf := hx.frozens; have hy := hx.size; (try simp at hy); have hz : w.heap.size < w1.heap.size := (by omega)) | (go_at_call 31; refine (spec_BlockOf _ _ _ _ _ _).mono ?_; rintro e w1 ⟨rfl, hx⟩; have hc := hx.cells; have hf := hx.frozens; have hy := hx.size; (try simp at hy); have hz : w.heap.size < w1.heap.size := (by omega)) | (go_at_call 32; refine (impl_BlockOf _ _ _ _ _ _).mono ?_; rintro e w1 ⟨rfl, hx⟩; have hc := hx.cells; have hf := hx.frozens; have hy := hx.size; (try simp at hy); have hz : w.heap.size < w1.heap.size := (by omega)))
  go_ret
  exact ⟨rfl, (by repeat (first | (with_reducible exact Ext.refl _) | (with_reducible assumption) | (with_reducible refine Ext.alloc ?_ _) | (with_reducible refine Ext.drewN ?_ _) | (with_reducible refine Ext.drew ?_) | (with_reducible refine Ext.setCell ?_ ?_ _; rotate_left; (simp only []; omega)) | (with_reducible refine Ext.trans ?_ (by assumption))))⟩
end Go.Proofs.Ytdjbjldmlfhigaa
