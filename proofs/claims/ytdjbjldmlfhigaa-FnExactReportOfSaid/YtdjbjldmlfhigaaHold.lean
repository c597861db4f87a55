/- Contracts: states of flows that are held; the generators for them. -/
import Derived.Test.YtdjbjldmlfhigaaReader
namespace Go.Proofs.Ytdjbjldmlfhigaa
open Go.RowKit

def busy (s : Int) : Bool := inR s 1 5
def holdFor (s h : Int) : Int := if inR s 0 6 && inR h 1 500 then (if s = 3 then h else if s = 0 ∨ s = 6 then 1 else (h + 3) / 4) else -1

theorem spec_IsBusy (n : Int) (w : World) : Calls Try.prog 20 #[.int .i64 n] w fun e w' => e = .returned (.bool (busy n)) ∧ w = w' := by
  go_enter Try.func20, Try.ntmps20
  go_wp2_with (go_at_call 53; refine (spec_inRange _ _ _ _).mono ?_; rintro e w' ⟨rfl, rfl⟩)
  go_ret
  exact ⟨rfl, rfl⟩
theorem impl_IsBusy (n : Int) (w : World) : Calls Try.prog 21 #[.int .i64 n] w fun e w' => e = .returned (.bool (busy n)) ∧ w = w' := by
  go_enter Try.func21, Try.ntmps21
  go_wp2_with (go_at_call 54; refine (impl_in _ _ _ _).mono ?_; rintro e w' ⟨rfl, rfl⟩)
  go_ret
  exact ⟨rfl, rfl⟩
theorem impl_isState (n : Int) (w : World) : Calls Try.prog 55 #[.int .i64 n] w fun e w' => e = .returned (.bool (inR n 0 6)) ∧ w = w' := by
  go_enter Try.func55, Try.ntmps55
  go_wp2_with (go_at_call 54; refine (impl_in _ _ _ _).mono ?_; rintro e w' ⟨rfl, rfl⟩)
  go_ret
  exact ⟨rfl, rfl⟩
theorem spec_HoldFor (s h : Int) (w : World) : Calls Try.prog 22 #[.int .i64 s, .int .i64 h] w fun e w' => e = .returned (.int .i64 (holdFor s h)) ∧ w = w' := by
  cases h1 : inR s 0 6 with
  | false =>
    have hv : holdFor s h = -1 := by simp [holdFor, h1]
    rw [hv]
    clear hv
    go_enter Try.func22, Try.ntmps22
    go_wp2_with (go_at_call 53; refine (spec_inRange _ _ _ _).mono ?_; rintro e w' ⟨rfl, rfl⟩)
    go_ret
    exact ⟨rfl, rfl⟩
  | true =>
    cases h2 : inR h 1 500 with
    | false =>
      have hv : holdFor s h = -1 := by simp [holdFor, h2]
      rw [hv]
      clear hv
      go_enter Try.func22, Try.ntmps22
      go_wp2_with (go_at_call 53; refine (spec_inRange _ _ _ _).mono ?_; rintro e w' ⟨rfl, rfl⟩)
      go_ret
      exact ⟨rfl, rfl⟩
    | true =>
      obtain ⟨a0, a1⟩ := inR_iff.1 h1
      obtain ⟨b0, b1⟩ := inR_iff.1 h2
      have hv : holdFor s h = if s = 3 then h else if s = 0 ∨ s = 6 then 1 else (h + 3) / 4 := by simp [holdFor, h1, h2]
      replace hv := Lib.hid hv
      go_enter Try.func22, Try.ntmps22
      go_wp2_with (go_at_call 53; refine (spec_inRange _ _ _ _).mono ?_; rintro e w' ⟨rfl, rfl⟩)
      all_goals (go_ret; refine ⟨ret_int ?_, rfl⟩)
      all_goals (rw [hv.out]; clear hv h1 h2; simp_all <;> omega)
theorem impl_HoldFor (s h : Int) (w : World) : Calls Try.prog 23 #[.int .i64 s, .int .i64 h] w fun e w' => e = .returned (.int .i64 (holdFor s h)) ∧ w = w' := by
  cases h1 : inR s 0 6 with
  | false =>
    have hv : holdFor s h = -1 := by simp [holdFor, h1]
    rw [hv]
    clear hv
    go_enter Try.func23, Try.ntmps23
    go_wp2_with (first | (go_at_call 55; refine (impl_isState _ _).mono ?_; rintro e w' ⟨rfl, rfl⟩) | (go_at_call 54; refine (impl_in _ _ _ _).mono ?_; rintro e w' ⟨rfl, rfl⟩))
    go_ret
    exact ⟨rfl, rfl⟩
  | true =>
    cases h2 : inR h 1 500 with
    | false =>
      have hv : holdFor s h = -1 := by simp [holdFor, h2]
      rw [hv]
      clear hv
      go_enter Try.func23, Try.ntmps23
      go_wp2_with (first | (go_at_call 55; refine (impl_isState _ _).mono ?_; rintro e w' ⟨rfl, rfl⟩) | (go_at_call 54; refine (impl_in _ _ _ _).mono ?_; rintro e w' ⟨rfl, rfl⟩))
      go_ret
      exact ⟨rfl, rfl⟩
    | true =>
      obtain ⟨a0, a1⟩ := inR_iff.1 h1
      obtain ⟨b0, b1⟩ := inR_iff.1 h2
      have hv : holdFor s h = if s = 3 then h else if s = 0 ∨ s = 6 then 1 else (h + 3) / 4 := by simp [holdFor, h1, h2]
      replace hv := Lib.hid hv
      go_enter Try.func23, Try.ntmps23
      go_wp2_with (first | (go_at_call 55; refine (impl_isState _ _).mono ?_; rintro e w' ⟨rfl, rfl⟩) | (go_at_call 54; refine (impl_in _ _ _ _).mono ?_; rintro e w' ⟨rfl, rfl⟩))
      all_goals (go_ret; refine ⟨ret_int ?_, rfl⟩)
      all_goals (rw [hv.out]; clear hv h1 h2; simp_all <;> omega)
end Go.Proofs.Ytdjbjldmlfhigaa
