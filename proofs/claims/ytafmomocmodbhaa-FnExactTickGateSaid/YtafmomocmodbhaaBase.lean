/- Contracts of the smallest functions: ranges, words, nets. Each is proved once for all arguments that its callers hand it. -/
import Derived.Test.YtafmomocmodbhaaRows
import Derived.Test.YtafmomocmodbhaaKit
import Derived.Test.YtafmomocmodbhaaPure
import Derived.Test.YtafmomocmodbhaaChain
import Derived.StillTactics
import Derived.BigQuiet
import Derived.Deep.QuietTactic
import Derived.Deep.RegionHeld3
import Derived.Deep.RegionWith
namespace Go.Proofs.Ytafmomocmodbhaa
open Go.RowKit

theorem ret_int {a b : Int} (h : a = b) : Ending.returned (.int .i64 a) = .returned (.int .i64 b) := by rw [h]
theorem ret_bool {a b : Bool} (h : a = b) : Ending.returned (.bool a) = .returned (.bool b) := by rw [h]

/-- A slice literal of integers. -/
theorem Sl.lit (w : World) (T : TypeId) (xs : List Int) {b : Nat} (hb : b = w.heap.size) (h : xs.length ≤ 1000 := by simp) :
    Sl encI 1 (w.alloc (.cells (xs.map (Value.int .i64)).toArray T)) (some ⟨b, 0, none⟩) xs.length xs.length xs :=
  ⟨rfl, Nat.le_refl _, by omega, (fun e => by cases e), fun _ => ⟨b, 0, rfl, by simp [hb], fun i x hx j u hu => by
    have hj : j = 0 := by
      have := (List.getElem?_eq_some_iff.1 hu).1
      simp [encI] at this
      exact this
    subst hj
    simp [encI] at hu
    subst hu
    rw [World.cell?_alloc_at _ _ _ _ hb]
    simp [hx]⟩⟩
theorem spec_inRange (n lo hi : Int) (w : World) : Calls Try.prog 68 #[.int .i64 n, .int .i64 lo, .int .i64 hi] w fun e w' => e = .returned (.bool (inR n lo hi)) ∧ w = w' := by
  by_cases h1 : lo ≤ n
  · have hb : inR n lo hi = decide (n ≤ hi) := by simp [inR, h1]
    rw [hb]
    go_enter Try.func68, Try.ntmps68
    go_wp2
    all_goals go_ret
    all_goals exact ⟨by simp [*], rfl⟩
  · have hb : inR n lo hi = false := by simp [inR, h1]
    rw [hb]
    go_enter Try.func68, Try.ntmps68
    go_wp2
    all_goals go_ret
    all_goals exact ⟨by simp [*], rfl⟩
theorem impl_in (n lo hi : Int) (w : World) : Calls Try.prog 63 #[.int .i64 n, .int .i64 lo, .int .i64 hi] w fun e w' => e = .returned (.bool (inR n lo hi)) ∧ w = w' := by
  by_cases h1 : lo ≤ n
  · have hb : inR n lo hi = decide (n ≤ hi) := by simp [inR, h1]
    rw [hb]
    go_enter Try.func63, Try.ntmps63
    go_wp2
    all_goals go_ret
    all_goals exact ⟨by simp [*], rfl⟩
  · have hb : inR n lo hi = false := by simp [inR, h1]
    rw [hb]
    go_enter Try.func63, Try.ntmps63
    go_wp2
    all_goals go_ret
    all_goals exact ⟨by simp [*], rfl⟩
theorem impl_isWord (n : Int) (w : World) : Calls Try.prog 83 #[.int .i64 n] w fun e w' => e = .returned (.bool (word n)) ∧ w = w' := by
  go_enter Try.func83, Try.ntmps83
  go_wp2_with (go_at_call 63; refine (impl_in _ _ _ _).mono ?_; rintro e w' ⟨rfl, rfl⟩)
  go_ret
  exact ⟨rfl, rfl⟩
theorem spec_validAddr (n : Int) (w : World) : Calls Try.prog 97 #[.int .i64 n] w fun e w' => e = .returned (.bool (word n)) ∧ w = w' := by
  go_enter Try.func97, Try.ntmps97
  go_wp2_with (go_at_call 68; refine (spec_inRange _ _ _ _).mono ?_; rintro e w' ⟨rfl, rfl⟩)
  go_ret
  exact ⟨rfl, rfl⟩
theorem wrap_id {x : Int} (h0 : -9223372036854775808 ≤ x) (h1 : x ≤ 9223372036854775807) : wrap64 x = x := by
  exact IntWalk.wrap64_in x ⟨h0, h1⟩
theorem pow_netSize {bits : Int} (h0 : 0 ≤ bits) : wrap64 (2 ^ (16 - bits).toNat) = netSize bits := by
  have h1 := netSize_le h0
  have h2 := netSize_pos bits
  have e : (2 : Int) ^ (16 - bits).toNat = netSize bits := by simp [netSize]
  rw [e]
  exact wrap_id (by omega) (by omega)
theorem impl_size (base bits : Int) (w : World) (h0 : 0 ≤ bits) (h1 : bits ≤ 16) :
    Calls Try.prog 133 #[.agg #[.int .i64 base, .int .i64 bits]] w fun e w' => e = .returned (.int .i64 (netSize bits)) ∧ Ext w w' := by
  go_enter Try.func133, Try.ntmps133
  go_wp2
  go_ret
  exact ⟨ret_int (pow_netSize h0), (by repeat (first | (with_reducible exact Ext.refl _) | (with_reducible assumption) | (with_reducible refine Ext.alloc ?_ _) | (with_reducible refine Ext.drewN ?_ _) | (with_reducible refine Ext.drew ?_) | (with_reducible refine Ext.setCell ?_ ?_ _; rotate_left; (simp only []; omega)) | (with_reducible refine Ext.trans ?_ (by assumption))))⟩
theorem impl_has (base bits a : Int) (w : World) (h : validNet ⟨base, bits⟩ = true) :
    Calls Try.prog 75 #[.agg #[.int .i64 base, .int .i64 bits], .int .i64 a] w fun e w' => e = .returned (.bool (has ⟨base, bits⟩ a)) ∧ Ext w w' := by
  obtain ⟨b0, b1, b2, b3⟩ := validNet_bd h
  simp only at b0 b1 b2 b3
  have s0 := netSize_pos bits
  have s1 := netSize_le b0
  have e1 : IntKind.i64.wrap (base + netSize bits) = base + netSize bits := IntWalk.i64_in _ (by omega)
  have e2 : IntKind.i64.wrap (base + netSize bits - 1) = base + netSize bits - 1 := IntWalk.i64_in _ (by omega)
  clear h
  go_enter Try.func75, Try.ntmps75
  go_wp2_with fail
  refine wp_region_ext (by kernel_rfl) (by kernel_rfl) ?_
  repeat' (first
    | (refine ChL.skip (by rfl) ?_
       (try simp only [Act.put, List.setIfInBounds_toArray, List.set_cons_zero, List.set_cons_succ]))
    | (refine' ChL.val (v := _) (by rfl) ?_ ?_
       rotate_left
       · (intro wS hS
          have hcS := Ext.cells hS
          go_simp
          with_reducible rfl)
       (try simp only [Act.put, List.setIfInBounds_toArray, List.set_cons_zero, List.set_cons_succ]))
    | (refine' ChL.call (v := _) (f := _) (args := _) (by rfl) ?_ ?_ ?_
       rotate_left 3
       · (intro wS
          go_simp
          (constructor <;> rfl))
       · (intro wS hS
          first | (go_at_call 133; refine (impl_size _ _ _ b0 b1).mono ?_; rintro e w1 ⟨rfl, hx⟩; refine ⟨?_, Ext.trans hS hx⟩; rfl) | (go_at_call 63; refine (impl_in _ _ _ _).mono ?_; rintro e w1 ⟨rfl, hx⟩; subst hx; refine ⟨?_, hS⟩; rfl))
       (try simp only [Act.put, List.setIfInBounds_toArray, List.set_cons_zero, List.set_cons_succ]))
    | (refine ChL.nil ?_)
    | (refine' ChL.guard (x := _) ?_ ?_ ?_
       rotate_left
       · (go_simp
          rfl)
       all_goals
         intro hg
         simp only [hg]))
  intro w' hw'
  go_wp2
  go_ret
  exact ⟨rfl, (by repeat (first | (with_reducible exact Ext.refl _) | (with_reducible assumption) | (with_reducible refine Ext.alloc ?_ _) | (with_reducible refine Ext.drewN ?_ _) | (with_reducible refine Ext.drew ?_) | (with_reducible refine Ext.setCell ?_ ?_ _; rotate_left; (simp only []; omega)) | (with_reducible refine Ext.trans ?_ (by assumption))))⟩
theorem pow_step {k : Int} {bits : Int} (hb : bits ≤ k) : 2 * ((2 ^ (k - bits).toNat : Nat) : Int) = ((2 ^ (k + 1 - bits).toNat : Nat) : Int) := by
  have e : (k + 1 - bits).toNat = (k - bits).toNat + 1 := by omega
  rw [e, Nat.pow_succ]
  omega
theorem spec_size (base bits : Int) (w : World) (h0 : 0 ≤ bits) (h1 : bits ≤ 16) :
    Calls Try.prog 103 #[.agg #[.int .i64 base, .int .i64 bits]] w fun e w' => e = .returned (.int .i64 (netSize bits)) ∧ Ext w w' := by
  go_enter Try.func103, Try.ntmps103
  go_wp2
  go_loop [3, 4] (fun o i => ∃ k : Int, bits ≤ k ∧ k ≤ 16 ∧ i = .int .i64 k ∧ o = .int .i64 ((2 ^ (k - bits).toNat : Nat) : Int)) (fun _ i => (16 - intOf i).toNat)
  case atStart => exact ⟨bits, by omega, h1, rfl, by simp⟩
  case round =>
    obtain ⟨k, hk0, hk1, rfl, rfl⟩ := hrel
    have hp : 2 ^ (k - bits).toNat ≤ 2 ^ 16 := Nat.pow_le_pow_right (by omega) (by omega)
    generalize hq : 2 ^ (k - bits).toNat = q at hp ⊢
    have HQ := Lib.hid hq
    clear hq
    have hq0 : 0 ≤ (q : Int) := by omega
    have hq1 : (q : Int) ≤ 65536 := by omega
    by_cases hlt : k < 16
    · go_wp2
      go_round
      case rel => exact ⟨k + 1, by omega, by omega, rfl, by rw [← pow_step hk0, HQ.out]⟩
      case measure => simp [intOf]; omega
    · go_wp2
      go_ret
      exact ⟨ret_int (by rw [← HQ.out]; have e : k = 16 := by omega
                         rw [e]; rfl), (by repeat (first | (with_reducible exact Ext.refl _) | (with_reducible assumption) | (with_reducible refine Ext.alloc ?_ _) | (with_reducible refine Ext.drewN ?_ _) | (with_reducible refine Ext.drew ?_) | (with_reducible refine Ext.setCell ?_ ?_ _; rotate_left; (simp only []; omega)) | (with_reducible refine Ext.trans ?_ (by assumption))))⟩
theorem spec_inNet (base bits a : Int) (w : World) (h : validNet ⟨base, bits⟩ = true) :
    Calls Try.prog 46 #[.agg #[.int .i64 base, .int .i64 bits], .int .i64 a] w fun e w' => e = .returned (.bool (has ⟨base, bits⟩ a)) ∧ Ext w w' := by
  obtain ⟨b0, b1, b2, b3⟩ := validNet_bd h
  simp only at b0 b1 b2 b3
  have s0 := netSize_pos bits
  have s1 := netSize_le b0
  have e1 : IntKind.i64.wrap (base + netSize bits) = base + netSize bits := IntWalk.i64_in _ (by omega)
  have e2 : IntKind.i64.wrap (base + netSize bits - 1) = base + netSize bits - 1 := IntWalk.i64_in _ (by omega)
  clear h
  go_enter Try.func46, Try.ntmps46
  go_wp2_with fail
  refine wp_region_ext (by kernel_rfl) (by kernel_rfl) ?_
  repeat' (first
    | (refine ChL.skip (by rfl) ?_
       (try simp only [Act.put, List.setIfInBounds_toArray, List.set_cons_zero, List.set_cons_succ]))
    | (refine' ChL.val (v := _) (by rfl) ?_ ?_
       rotate_left
       · (intro wS hS
          have hcS := Ext.cells hS
          go_simp
          with_reducible rfl)
       (try simp only [Act.put, List.setIfInBounds_toArray, List.set_cons_zero, List.set_cons_succ]))
    | (refine' ChL.call (v := _) (f := _) (args := _) (by rfl) ?_ ?_ ?_
       rotate_left 3
       · (intro wS
          go_simp
          (constructor <;> rfl))
       · (intro wS hS
          first | (go_at_call 103; refine (spec_size _ _ _ b0 b1).mono ?_; rintro e w1 ⟨rfl, hx⟩; refine ⟨?_, Ext.trans hS hx⟩; rfl) | (go_at_call 68; refine (spec_inRange _ _ _ _).mono ?_; rintro e w1 ⟨rfl, hx⟩; subst hx; refine ⟨?_, hS⟩; rfl))
       (try simp only [Act.put, List.setIfInBounds_toArray, List.set_cons_zero, List.set_cons_succ]))
    | (refine ChL.nil ?_)
    | (refine' ChL.guard (x := _) ?_ ?_ ?_
       rotate_left
       · (go_simp
          rfl)
       all_goals
         intro hg
         simp only [hg]))
  intro w' hw'
  go_wp2
  go_ret
  exact ⟨rfl, (by repeat (first | (with_reducible exact Ext.refl _) | (with_reducible assumption) | (with_reducible refine Ext.alloc ?_ _) | (with_reducible refine Ext.drewN ?_ _) | (with_reducible refine Ext.drew ?_) | (with_reducible refine Ext.setCell ?_ ?_ _; rotate_left; (simp only []; omega)) | (with_reducible refine Ext.trans ?_ (by assumption))))⟩
theorem impl_ValidNet (base bits : Int) (w : World) :
    Calls Try.prog 82 #[.agg #[.int .i64 base, .int .i64 bits]] w fun e w' => e = .returned (.bool (validNet ⟨base, bits⟩)) ∧ Ext w w' := by
  have c1 := impl_in bits 0 16
  have c2 := impl_isWord base
  cases h1 : inR bits 0 16 with
  | false =>
      have hv : validNet ⟨base, bits⟩ = false := by simp [validNet, h1]
      simp only [hv, h1] at c1 ⊢
      clear hv c2 h1
      replace c1 := Lib.hid c1
      go_enter Try.func82, Try.ntmps82
      go_wp2_with fail
      refine wp_region_ext (by kernel_rfl) (by kernel_rfl) ?_
      repeat' (first
        | (refine ChL.skip (by rfl) ?_
           (try simp only [Act.put, List.setIfInBounds_toArray, List.set_cons_zero, List.set_cons_succ]))
        | (refine' ChL.val (v := _) (by rfl) ?_ ?_
           rotate_left
           · (intro wS hS
              have hcS := Ext.cells hS
              go_simp
              with_reducible rfl)
           (try simp only [Act.put, List.setIfInBounds_toArray, List.set_cons_zero, List.set_cons_succ]))
        | (refine' ChL.call (v := _) (f := _) (args := _) (by rfl) ?_ ?_ ?_
           rotate_left 3
           · (intro wS
              go_simp
              (constructor <;> rfl))
           · (intro wS hS
              first | (go_at_call 63; refine (c1.out _).mono ?_; rintro e w1 ⟨rfl, hx⟩; subst hx; refine ⟨?_, hS⟩; rfl))
           (try simp only [Act.put, List.setIfInBounds_toArray, List.set_cons_zero, List.set_cons_succ]))
        | (refine ChL.nil ?_)
        | (refine' ChL.guard (x := _) ?_ ?_ ?_
           rotate_left
           · (go_simp
              rfl)
           all_goals
             intro hg
             simp only [hg]))
      intro w' hw'
      go_wp2
      go_ret
      exact ⟨rfl, (by repeat (first | (with_reducible exact Ext.refl _) | (with_reducible assumption) | (with_reducible refine Ext.alloc ?_ _) | (with_reducible refine Ext.drewN ?_ _) | (with_reducible refine Ext.drew ?_) | (with_reducible refine Ext.setCell ?_ ?_ _; rotate_left; (simp only []; omega)) | (with_reducible refine Ext.trans ?_ (by assumption))))⟩
  | true =>
    obtain ⟨b0, b1⟩ := inR_iff.1 h1
    cases h2 : word base with
    | false =>
      have hv : validNet ⟨base, bits⟩ = false := by simp [validNet, h1, h2]
      simp only [hv, h1, h2] at c1 c2 ⊢
      clear hv h1 h2
      replace c1 := Lib.hid c1
      replace c2 := Lib.hid c2
      go_enter Try.func82, Try.ntmps82
      go_wp2_with fail
      refine wp_region_ext (by kernel_rfl) (by kernel_rfl) ?_
      repeat' (first
        | (refine ChL.skip (by rfl) ?_
           (try simp only [Act.put, List.setIfInBounds_toArray, List.set_cons_zero, List.set_cons_succ]))
        | (refine' ChL.val (v := _) (by rfl) ?_ ?_
           rotate_left
           · (intro wS hS
              have hcS := Ext.cells hS
              go_simp
              with_reducible rfl)
           (try simp only [Act.put, List.setIfInBounds_toArray, List.set_cons_zero, List.set_cons_succ]))
        | (refine' ChL.call (v := _) (f := _) (args := _) (by rfl) ?_ ?_ ?_
           rotate_left 3
           · (intro wS
              go_simp
              (constructor <;> rfl))
           · (intro wS hS
              first | (go_at_call 63; refine (c1.out _).mono ?_; rintro e w1 ⟨rfl, hx⟩; subst hx; refine ⟨?_, hS⟩; rfl) | (go_at_call 83; refine (c2.out _).mono ?_; rintro e w1 ⟨rfl, hx⟩; subst hx; refine ⟨?_, hS⟩; rfl))
           (try simp only [Act.put, List.setIfInBounds_toArray, List.set_cons_zero, List.set_cons_succ]))
        | (refine ChL.nil ?_)
        | (refine' ChL.guard (x := _) ?_ ?_ ?_
           rotate_left
           · (go_simp
              rfl)
           all_goals
             intro hg
             simp only [hg]))
      intro w' hw'
      go_wp2
      go_ret
      exact ⟨rfl, (by repeat (first | (with_reducible exact Ext.refl _) | (with_reducible assumption) | (with_reducible refine Ext.alloc ?_ _) | (with_reducible refine Ext.drewN ?_ _) | (with_reducible refine Ext.drew ?_) | (with_reducible refine Ext.setCell ?_ ?_ _; rotate_left; (simp only []; omega)) | (with_reducible refine Ext.trans ?_ (by assumption))))⟩
    | true =>
      obtain ⟨d0, d1⟩ := word_iff.1 h2
      have s0 := netSize_pos bits
      have hv : validNet ⟨base, bits⟩ = (base % netSize bits == 0) := by simp only [validNet, h1, h2, Bool.true_and]; rw [Bool.eq_iff_iff]; simp
      simp only [hv, h1, h2] at c1 c2 ⊢
      clear hv h1 h2
      replace c1 := Lib.hid c1
      replace c2 := Lib.hid c2
      have e1 : ¬ netSize bits = 0 := by omega
      have e2 : base.tmod (netSize bits) = base % netSize bits := Int.tmod_eq_emod_of_nonneg d0
      go_enter Try.func82, Try.ntmps82
      go_wp2_with fail
      refine wp_region_ext (by kernel_rfl) (by kernel_rfl) ?_
      repeat' (first
        | (refine ChL.skip (by rfl) ?_
           (try simp only [Act.put, List.setIfInBounds_toArray, List.set_cons_zero, List.set_cons_succ]))
        | (refine' ChL.val (v := _) (by rfl) ?_ ?_
           rotate_left
           · (intro wS hS
              have hcS := Ext.cells hS
              go_simp
              with_reducible rfl)
           (try simp only [Act.put, List.setIfInBounds_toArray, List.set_cons_zero, List.set_cons_succ]))
        | (refine' ChL.call (v := _) (f := _) (args := _) (by rfl) ?_ ?_ ?_
           rotate_left 3
           · (intro wS
              go_simp
              (constructor <;> rfl))
           · (intro wS hS
              first | (go_at_call 63; refine (c1.out _).mono ?_; rintro e w1 ⟨rfl, hx⟩; subst hx; refine ⟨?_, hS⟩; rfl) | (go_at_call 83; refine (c2.out _).mono ?_; rintro e w1 ⟨rfl, hx⟩; subst hx; refine ⟨?_, hS⟩; rfl) | (go_at_call 133; refine (impl_size _ _ _ b0 b1).mono ?_; rintro e w1 ⟨rfl, hx⟩; refine ⟨?_, Ext.trans hS hx⟩; rfl))
           (try simp only [Act.put, List.setIfInBounds_toArray, List.set_cons_zero, List.set_cons_succ]))
        | (refine ChL.nil ?_)
        | (refine' ChL.guard (x := _) ?_ ?_ ?_
           rotate_left
           · (go_simp
              rfl)
           all_goals
             intro hg
             simp only [hg]))
      intro w' hw'
      go_wp2
      go_ret
      exact ⟨rfl, (by repeat (first | (with_reducible exact Ext.refl _) | (with_reducible assumption) | (with_reducible refine Ext.alloc ?_ _) | (with_reducible refine Ext.drewN ?_ _) | (with_reducible refine Ext.drew ?_) | (with_reducible refine Ext.setCell ?_ ?_ _; rotate_left; (simp only []; omega)) | (with_reducible refine Ext.trans ?_ (by assumption))))⟩
theorem spec_validNet (base bits : Int) (w : World) :
    Calls Try.prog 96 #[.agg #[.int .i64 base, .int .i64 bits]] w fun e w' => e = .returned (.bool (validNet ⟨base, bits⟩)) ∧ Ext w w' := by
  have c1 := spec_inRange bits 0 16
  have c2 := spec_validAddr base
  cases h1 : inR bits 0 16 with
  | false =>
      have hv : validNet ⟨base, bits⟩ = false := by simp [validNet, h1]
      simp only [hv, h1] at c1 ⊢
      clear hv c2 h1
      replace c1 := Lib.hid c1
      go_enter Try.func96, Try.ntmps96
      go_wp2_with fail
      refine wp_region_ext (by kernel_rfl) (by kernel_rfl) ?_
      repeat' (first
        | (refine ChL.skip (by rfl) ?_
           (try simp only [Act.put, List.setIfInBounds_toArray, List.set_cons_zero, List.set_cons_succ]))
        | (refine' ChL.val (v := _) (by rfl) ?_ ?_
           rotate_left
           · (intro wS hS
              have hcS := Ext.cells hS
              go_simp
              with_reducible rfl)
           (try simp only [Act.put, List.setIfInBounds_toArray, List.set_cons_zero, List.set_cons_succ]))
        | (refine' ChL.call (v := _) (f := _) (args := _) (by rfl) ?_ ?_ ?_
           rotate_left 3
           · (intro wS
              go_simp
              (constructor <;> rfl))
           · (intro wS hS
              first | (go_at_call 68; refine (c1.out _).mono ?_; rintro e w1 ⟨rfl, hx⟩; subst hx; refine ⟨?_, hS⟩; rfl))
           (try simp only [Act.put, List.setIfInBounds_toArray, List.set_cons_zero, List.set_cons_succ]))
        | (refine ChL.nil ?_)
        | (refine' ChL.guard (x := _) ?_ ?_ ?_
           rotate_left
           · (go_simp
              rfl)
           all_goals
             intro hg
             simp only [hg]))
      intro w' hw'
      go_wp2
      go_ret
      exact ⟨rfl, (by repeat (first | (with_reducible exact Ext.refl _) | (with_reducible assumption) | (with_reducible refine Ext.alloc ?_ _) | (with_reducible refine Ext.drewN ?_ _) | (with_reducible refine Ext.drew ?_) | (with_reducible refine Ext.setCell ?_ ?_ _; rotate_left; (simp only []; omega)) | (with_reducible refine Ext.trans ?_ (by assumption))))⟩
  | true =>
    obtain ⟨b0, b1⟩ := inR_iff.1 h1
    cases h2 : word base with
    | false =>
      have hv : validNet ⟨base, bits⟩ = false := by simp [validNet, h1, h2]
      simp only [hv, h1, h2] at c1 c2 ⊢
      clear hv h1 h2
      replace c1 := Lib.hid c1
      replace c2 := Lib.hid c2
      go_enter Try.func96, Try.ntmps96
      go_wp2_with fail
      refine wp_region_ext (by kernel_rfl) (by kernel_rfl) ?_
      repeat' (first
        | (refine ChL.skip (by rfl) ?_
           (try simp only [Act.put, List.setIfInBounds_toArray, List.set_cons_zero, List.set_cons_succ]))
        | (refine' ChL.val (v := _) (by rfl) ?_ ?_
           rotate_left
           · (intro wS hS
              have hcS := Ext.cells hS
              go_simp
              with_reducible rfl)
           (try simp only [Act.put, List.setIfInBounds_toArray, List.set_cons_zero, List.set_cons_succ]))
        | (refine' ChL.call (v := _) (f := _) (args := _) (by rfl) ?_ ?_ ?_
           rotate_left 3
           · (intro wS
              go_simp
              (constructor <;> rfl))
           · (intro wS hS
              first | (go_at_call 68; refine (c1.out _).mono ?_; rintro e w1 ⟨rfl, hx⟩; subst hx; refine ⟨?_, hS⟩; rfl) | (go_at_call 97; refine (c2.out _).mono ?_; rintro e w1 ⟨rfl, hx⟩; subst hx; refine ⟨?_, hS⟩; rfl))
           (try simp only [Act.put, List.setIfInBounds_toArray, List.set_cons_zero, List.set_cons_succ]))
        | (refine ChL.nil ?_)
        | (refine' ChL.guard (x := _) ?_ ?_ ?_
           rotate_left
           · (go_simp
              rfl)
           all_goals
             intro hg
             simp only [hg]))
      intro w' hw'
      go_wp2
      go_ret
      exact ⟨rfl, (by repeat (first | (with_reducible exact Ext.refl _) | (with_reducible assumption) | (with_reducible refine Ext.alloc ?_ _) | (with_reducible refine Ext.drewN ?_ _) | (with_reducible refine Ext.drew ?_) | (with_reducible refine Ext.setCell ?_ ?_ _; rotate_left; (simp only []; omega)) | (with_reducible refine Ext.trans ?_ (by assumption))))⟩
    | true =>
      obtain ⟨d0, d1⟩ := word_iff.1 h2
      have s0 := netSize_pos bits
      have hv : validNet ⟨base, bits⟩ = (base % netSize bits == 0) := by simp only [validNet, h1, h2, Bool.true_and]; rw [Bool.eq_iff_iff]; simp
      simp only [hv, h1, h2] at c1 c2 ⊢
      clear hv h1 h2
      replace c1 := Lib.hid c1
      replace c2 := Lib.hid c2
      have e1 : ¬ netSize bits = 0 := by omega
      have e2 : base.tmod (netSize bits) = base % netSize bits := Int.tmod_eq_emod_of_nonneg d0
      go_enter Try.func96, Try.ntmps96
      go_wp2_with fail
      refine wp_region_ext (by kernel_rfl) (by kernel_rfl) ?_
      repeat' (first
        | (refine ChL.skip (by rfl) ?_
           (try simp only [Act.put, List.setIfInBounds_toArray, List.set_cons_zero, List.set_cons_succ]))
        | (refine' ChL.val (v := _) (by rfl) ?_ ?_
           rotate_left
           · (intro wS hS
              have hcS := Ext.cells hS
              go_simp
              with_reducible rfl)
           (try simp only [Act.put, List.setIfInBounds_toArray, List.set_cons_zero, List.set_cons_succ]))
        | (refine' ChL.call (v := _) (f := _) (args := _) (by rfl) ?_ ?_ ?_
           rotate_left 3
           · (intro wS
              go_simp
              (constructor <;> rfl))
           · (intro wS hS
              first | (go_at_call 68; refine (c1.out _).mono ?_; rintro e w1 ⟨rfl, hx⟩; subst hx; refine ⟨?_, hS⟩; rfl) | (go_at_call 97; refine (c2.out _).mono ?_; rintro e w1 ⟨rfl, hx⟩; subst hx; refine ⟨?_, hS⟩; rfl) | (go_at_call 103; refine (spec_size _ _ _ b0 b1).mono ?_; rintro e w1 ⟨rfl, hx⟩; refine ⟨?_, Ext.trans hS hx⟩; rfl))
           (try simp only [Act.put, List.setIfInBounds_toArray, List.set_cons_zero, List.set_cons_succ]))
        | (refine ChL.nil ?_)
        | (refine' ChL.guard (x := _) ?_ ?_ ?_
           rotate_left
           · (go_simp
              rfl)
           all_goals
             intro hg
             simp only [hg]))
      intro w' hw'
      go_wp2
      go_ret
      exact ⟨rfl, (by repeat (first | (with_reducible exact Ext.refl _) | (with_reducible assumption) | (with_reducible refine Ext.alloc ?_ _) | (with_reducible refine Ext.drewN ?_ _) | (with_reducible refine Ext.drew ?_) | (with_reducible refine Ext.setCell ?_ ?_ _; rotate_left; (simp only []; omega)) | (with_reducible refine Ext.trans ?_ (by assumption))))⟩
end Go.Proofs.Ytafmomocmodbhaa
