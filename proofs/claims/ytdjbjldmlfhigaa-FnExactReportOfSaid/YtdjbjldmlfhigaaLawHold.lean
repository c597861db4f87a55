/- The laws on states of flows that are held, walked: each returns true; nothing that was there turns. -/
import Derived.Test.YtdjbjldmlfhigaaHold
namespace Go.Proofs.Ytdjbjldmlfhigaa
open Go.RowKit

theorem holdFor_bd {s h : Int} (h0 : 0 ≤ h) (h1 : h ≤ 501) : -1 ≤ holdFor s h ∧ holdFor s h ≤ 501 := by
  unfold holdFor
  split
  · split
    · omega
    · split <;> omega
  · omega
/-- Bytes that came in. -/
structure Code (w : World) (a : Option Addr) (n c : Nat) : Prop where
  ex : ∃ zs, Sl encU 1 w a n c zs ∧ ∀ z ∈ zs, 0 ≤ z ∧ z ≤ 255
theorem DrawIsBusy_any (a : Option Addr) (n c : Nat) (w : World) (hc : Code w a n c) :
    Calls Try.prog 24 #[.slice a n c] w fun e w' => ∃ x, e = .returned (.int .i64 x) ∧ -1 ≤ x ∧ x ≤ 7 ∧ Ext w w' := by
  obtain ⟨zs, hs, hz⟩ := hc
  go_enter Try.func24, Try.ntmps24
  go_wp2_with fail
  refine (newReader_any a n c zs _ hs hz).mono ?_
  rintro e w1 ⟨B, rfl, hB, hr, hx⟩
  go_wp2_with fail
  refine (one_lit _ B _ _ _ _ _ _ hr (by omega) (by simp) (by rfl) (by omega) (by omega) (by simp [intOf])).mono ?_
  rintro e w2 ⟨x, rfl, hm, hr2, hx2⟩
  simp [intOf] at hm
  go_wp2
  go_ret
  exact ⟨x, rfl, by omega, by omega, RExt.new hx hx2 hB⟩
theorem DrawHoldFor_any (a : Option Addr) (n c : Nat) (w : World) (hc : Code w a n c) :
    Calls Try.prog 30 #[.slice a n c] w fun e w' => ∃ x y, e = .returned (.tuple #[.int .i64 x, .int .i64 y]) ∧ -1 ≤ x ∧ x ≤ 7 ∧ 0 ≤ y ∧ y ≤ 501 ∧ Ext w w' := by
  obtain ⟨zs, hs, hz⟩ := hc
  go_enter Try.func30, Try.ntmps30
  go_wp2_with fail
  refine (newReader_any a n c zs _ hs hz).mono ?_
  rintro e w1 ⟨B, rfl, hB, hr, hx⟩
  go_wp2_with fail
  refine (one_lit _ B _ _ _ _ _ _ hr (by omega) (by simp) (by rfl) (by omega) (by omega) (by simp [intOf])).mono ?_
  rintro e w2 ⟨x, rfl, hm, hr2, hx2⟩
  simp [intOf] at hm
  go_wp2_with fail
  refine (one_lit _ B _ _ _ _ _ _ hr2 (by omega) (by simp) (by rfl) (by omega) (by omega) (by simp [intOf])).mono ?_
  rintro e w3 ⟨y, rfl, hm3, hr3, hx3⟩
  simp [intOf] at hm3
  go_wp2
  go_ret2
  exact ⟨x, y, rfl, by omega, by omega, by omega, by omega, RExt.new hx (hx2.trans hx3) hB⟩
theorem law_FnExactIsBusy (a0 : Int) (w : World) : Calls Try.prog 3 #[.int .i64 a0] w fun e w' => e = .returned (.bool true) ∧ w = w' := by
  go_enter Try.func3, Try.ntmps3
  go_wp2_with (first | (go_at_call 20; refine (spec_IsBusy _ _).mono ?_; rintro e w' ⟨rfl, rfl⟩) | (go_at_call 21; refine (impl_IsBusy _ _).mono ?_; rintro e w' ⟨rfl, rfl⟩))
  go_ret
  exact ⟨rfl, rfl⟩
theorem law_FnExactHoldFor (a0 a1 : Int) (w : World) : Calls Try.prog 4 #[.int .i64 a0, .int .i64 a1] w fun e w' => e = .returned (.bool true) ∧ w = w' := by
  go_enter Try.func4, Try.ntmps4
  go_wp2_with (first | (go_at_call 22; refine (spec_HoldFor _ _ _).mono ?_; rintro e w' ⟨rfl, rfl⟩) | (go_at_call 23; refine (impl_HoldFor _ _ _).mono ?_; rintro e w' ⟨rfl, rfl⟩))
  go_ret
  exact ⟨rfl, rfl⟩
theorem law_FnIsBusy (a : Option Addr) (n c : Nat) (w : World) (hc : Code w a n c) : Calls Try.prog 5 #[.slice a n c] w fun e w' => e = .returned (.bool true) ∧ Ext w w' := by
  by_cases hn : n ≤ 1048576
  · go_enter Try.func5, Try.ntmps5
    go_wp2_with fail
    refine (DrawIsBusy_any a n c _ hc).mono ?_
    rintro e w1 ⟨x, rfl, x0, x1, hx⟩
    go_wp2_with (first | (go_at_call 20; refine (spec_IsBusy _ _).mono ?_; rintro e w' ⟨rfl, rfl⟩) | (go_at_call 21; refine (impl_IsBusy _ _).mono ?_; rintro e w' ⟨rfl, rfl⟩))
    all_goals (go_ret; refine ⟨ret_bool ?_, hx⟩)
    all_goals
      have h9 : x = -1 ∨ x = 0 ∨ x = 1 ∨ x = 2 ∨ x = 3 ∨ x = 4 ∨ x = 5 ∨ x = 6 ∨ x = 7 := by omega
      rcases h9 with rfl | rfl | rfl | rfl | rfl | rfl | rfl | rfl | rfl <;> first | rfl | omega
  · go_enter Try.func5, Try.ntmps5
    go_wp2
    go_ret
    exact ⟨rfl, Ext.refl _⟩
theorem law_FnIsBusyHold (a : Option Addr) (n c : Nat) (w : World) (hc : Code w a n c) : Calls Try.prog 7 #[.slice a n c] w fun e w' => e = .returned (.bool true) ∧ Ext w w' := by
  by_cases hn : n ≤ 1048576
  · go_enter Try.func7, Try.ntmps7
    go_wp2_with fail
    refine (DrawIsBusy_any a n c _ hc).mono ?_
    rintro e w1 ⟨x, rfl, x0, x1, hx⟩
    go_wp2_with (first | (go_at_call 22; refine (spec_HoldFor _ _ _).mono ?_; rintro e w' ⟨rfl, rfl⟩) | (go_at_call 23; refine (impl_HoldFor _ _ _).mono ?_; rintro e w' ⟨rfl, rfl⟩) | (go_at_call 20; refine (spec_IsBusy _ _).mono ?_; rintro e w' ⟨rfl, rfl⟩) | (go_at_call 21; refine (impl_IsBusy _ _).mono ?_; rintro e w' ⟨rfl, rfl⟩))
    all_goals (go_ret; refine ⟨ret_bool ?_, hx⟩)
    all_goals first | rfl | skip
    all_goals
      have h9 : x = -1 ∨ x = 0 ∨ x = 1 ∨ x = 2 ∨ x = 3 ∨ x = 4 ∨ x = 5 ∨ x = 6 ∨ x = 7 := by omega
      rcases h9 with rfl | rfl | rfl | rfl | rfl | rfl | rfl | rfl | rfl <;> simp_all [holdFor, busy, inR] <;> omega
  · go_enter Try.func7, Try.ntmps7
    go_wp2
    go_ret
    exact ⟨rfl, Ext.refl _⟩
theorem law_FnHoldFor (a : Option Addr) (n c : Nat) (w : World) (hc : Code w a n c) : Calls Try.prog 9 #[.slice a n c] w fun e w' => e = .returned (.bool true) ∧ Ext w w' := by
  by_cases hn : n ≤ 1048576
  · go_enter Try.func9, Try.ntmps9
    go_wp2_with fail
    refine (DrawHoldFor_any a n c _ hc).mono ?_
    rintro e w1 ⟨x, y, rfl, x0, x1, y0, y1, hx⟩
    go_wp2_with (first | (go_at_call 22; refine (spec_HoldFor _ _ _).mono ?_; rintro e w' ⟨rfl, rfl⟩) | (go_at_call 23; refine (impl_HoldFor _ _ _).mono ?_; rintro e w' ⟨rfl, rfl⟩) | (go_at_call 20; refine (spec_IsBusy _ _).mono ?_; rintro e w' ⟨rfl, rfl⟩) | (go_at_call 21; refine (impl_IsBusy _ _).mono ?_; rintro e w' ⟨rfl, rfl⟩))
    all_goals (go_ret; refine ⟨ret_bool ?_, hx⟩)
    all_goals first | rfl | skip
    all_goals
      have h9 : x = -1 ∨ x = 0 ∨ x = 1 ∨ x = 2 ∨ x = 3 ∨ x = 4 ∨ x = 5 ∨ x = 6 ∨ x = 7 := by omega
      rcases h9 with rfl | rfl | rfl | rfl | rfl | rfl | rfl | rfl | rfl <;> simp_all [holdFor, inR] <;> omega
  · go_enter Try.func9, Try.ntmps9
    go_wp2
    go_ret
    exact ⟨rfl, Ext.refl _⟩
theorem law_FnHoldForMore (a : Option Addr) (n c : Nat) (w : World) (hc : Code w a n c) : Calls Try.prog 10 #[.slice a n c] w fun e w' => e = .returned (.bool true) ∧ Ext w w' := by
  by_cases hn : n ≤ 1048576
  · go_enter Try.func10, Try.ntmps10
    go_wp2_with fail
    refine (DrawHoldFor_any a n c _ hc).mono ?_
    rintro e w1 ⟨x, y, rfl, x0, x1, y0, y1, hx⟩
    go_wp2_with (first | (go_at_call 22; refine (spec_HoldFor _ _ _).mono ?_; rintro e w' ⟨rfl, rfl⟩) | (go_at_call 23; refine (impl_HoldFor _ _ _).mono ?_; rintro e w' ⟨rfl, rfl⟩) | (go_at_call 20; refine (spec_IsBusy _ _).mono ?_; rintro e w' ⟨rfl, rfl⟩) | (go_at_call 21; refine (impl_IsBusy _ _).mono ?_; rintro e w' ⟨rfl, rfl⟩))
    all_goals (go_ret; refine ⟨ret_bool ?_, hx⟩)
    all_goals first | rfl | skip
    all_goals
      have h9 : x = -1 ∨ x = 0 ∨ x = 1 ∨ x = 2 ∨ x = 3 ∨ x = 4 ∨ x = 5 ∨ x = 6 ∨ x = 7 := by omega
      rcases h9 with rfl | rfl | rfl | rfl | rfl | rfl | rfl | rfl | rfl <;> simp_all [holdFor, inR] <;> omega
  · go_enter Try.func10, Try.ntmps10
    go_wp2
    go_ret
    exact ⟨rfl, Ext.refl _⟩
theorem law_FnHoldForBusy (a : Option Addr) (n c : Nat) (w : World) (hc : Code w a n c) : Calls Try.prog 11 #[.slice a n c] w fun e w' => e = .returned (.bool true) ∧ Ext w w' := by
  by_cases hn : n ≤ 1048576
  · go_enter Try.func11, Try.ntmps11
    go_wp2_with fail
    refine (DrawHoldFor_any a n c _ hc).mono ?_
    rintro e w1 ⟨x, y, rfl, x0, x1, y0, y1, hx⟩
    obtain ⟨q0, q1⟩ := holdFor_bd (s := x) y0 y1
    go_wp2_with (first | (go_at_call 22; refine (spec_HoldFor _ _ _).mono ?_; rintro e w' ⟨rfl, rfl⟩) | (go_at_call 23; refine (impl_HoldFor _ _ _).mono ?_; rintro e w' ⟨rfl, rfl⟩) | (go_at_call 20; refine (spec_IsBusy _ _).mono ?_; rintro e w' ⟨rfl, rfl⟩) | (go_at_call 21; refine (impl_IsBusy _ _).mono ?_; rintro e w' ⟨rfl, rfl⟩))
    all_goals (go_ret; refine ⟨ret_bool ?_, hx⟩)
    all_goals first | rfl | skip
    all_goals
      have h9 : x = -1 ∨ x = 0 ∨ x = 1 ∨ x = 2 ∨ x = 3 ∨ x = 4 ∨ x = 5 ∨ x = 6 ∨ x = 7 := by omega
      rcases h9 with rfl | rfl | rfl | rfl | rfl | rfl | rfl | rfl | rfl <;> simp_all [holdFor, busy, inR] <;> omega
  · go_enter Try.func11, Try.ntmps11
    go_wp2
    go_ret
    exact ⟨rfl, Ext.refl _⟩
end Go.Proofs.Ytdjbjldmlfhigaa
