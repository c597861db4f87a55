/- FnExactReportOut: every call of the law returns true, and what it was handed reads as before. No condition. -/
import Derived.Test.YtppdcglnopoocaaLLawXReportOut
import Derived.Test.YtppdcglnopoocaaKk
import Derived.Test.YtppdcglnopoocaaKSign
import Derived.WalkKit
import Derived.ProofKit
import Derived.OpenShut
import Derived.ShutString
import Derived.ChangeOld
import Derived.Below
namespace Go.Proofs.Ytppdcglnopoocaa.fnExactReportOut
open Go.ChangeShapes Go.WideShapes Go.ChangeAt Go.RowKit
set_option linter.unusedVariables false

theorem own : ownKnob Try.prog.godebug = none := by kernel_rfl
theorem laidOut : laidOutB Try.prog = true := by kernel_rfl

set_option maxRecDepth 100000 in
theorem lifted (os : Os) (started : os.Started) (H : Type) (enc : TypeId × Value → H) :
    ReturnsInHanded {} Try.checked os 12 .any (Rows.fnExactReportOutSpec.pre6 enc Try.prog Try.f12 Rows.fnExactReportOutRow.domain false) (Rows.fnExactReportOutSpec.post enc Try.prog Try.f12 false true false false) := by
  refine returnsInHanded_of_change (C := Try.checked) own started (by kernel_rfl) Try.func12
    (ChangeSpec.witness6 (enc := enc) (C := Try.checked) false ⟨#[], #[.agg #[.int .i64 0, .int .i64 0, .int .i64 0, .slice none 0 0, .slice none 0 0, .int .i64 0, .int .i64 0, .int .i64 0], .agg #[.int .i64 0, .int .i64 0, .int .i64 0, .int .i64 0, .int .i64 0, .int .i64 0, .int .i64 0, .int .i64 0, .slice none 0 0]], []⟩ 8 (by kernel_rfl) (by kernel_rfl) (by kernel_rfl) (by kernel_rfl)) ?_
  intro W base args ds gs before hval0 hW hcnd _
  have hval : ∀ (j : Nat) t v, Try.f12.params[j]? = some t → args[j]? = some v → Value.okWide Try.prog W .any base t v := hval0
  have hW' := hW
  obtain ⟨p, q, hA0, hV, rfl, hfz, hnd⟩ := hW
  have hA : DataW.TrodAll enc Try.prog W 0 (fun _ => true) true Try.f12.params.toList args.toList ds p := hA0
  rw [Try.params12] at hA hval
  obtain ⟨v0, vs0, d0, ds0, p0, q0, hargs, rfl, rfl, h0, r0⟩ := trodAll_cons hA
  obtain ⟨v1, vs1, d1, ds1, p1, q1, rfl, rfl, rfl, h1, r1⟩ := trodAll_cons r0
  obtain ⟨rfl, rfl, rfl⟩ := trodAll_nil r1
  obtain rfl : args = #[v0, v1] := by cases args; simp_all
  obtain ⟨rfl, rfl⟩ := trodVars_none hV
  have k0 := h0
  have lt0 : ∀ x ∈ p0, x.block < W.heap.size := by obtain ⟨m, hm⟩ := k0; exact DataW.trod_lt m _ _ _ hm
  obtain ⟨⟨cs0⟩, rfl, hz0⟩ := okWide_struct Try.underlying54 (hval 0 54 v0 rfl rfl)
  obtain ⟨x0_0, x0_1, x0_2, a0_3, n0_3, c0_3, L0_3, a0_4, n0_4, c0_4, L0_4, x0_5, x0_6, x0_7, e0, hs0_3, hs0_4, _⟩ : ∃ x0_0 x0_1 x0_2 a0_3 n0_3 c0_3 L0_3 a0_4 n0_4 c0_4 L0_4 x0_5 x0_6 x0_7, cs0 = [.int .i64 x0_0, .int .i64 x0_1, .int .i64 x0_2, .slice a0_3 n0_3 c0_3, .slice a0_4 n0_4 c0_4, .int .i64 x0_5, .int .i64 x0_6, .int .i64 x0_7] ∧ Sl encM 4 W a0_3 n0_3 c0_3 L0_3 ∧ Sl encC 3 W a0_4 n0_4 c0_4 L0_4 ∧ True := by
    obtain ⟨fuel, hf⟩ := h0
    obtain ⟨x0, x1, x2, a3, n3, c3, L3, a4, n4, c4, L4, x5, x6, x7, e, hs3, hs4, _⟩ := reads_Gate ⟨_, _, hf⟩
    exact ⟨x0, x1, x2, a3, n3, c3, L3, a4, n4, c4, L4, x5, x6, x7, e, hs3, hs4, trivial⟩
  subst e0
  have k1 := h1
  have lt1 : ∀ x ∈ p1, x.block < W.heap.size := by obtain ⟨m, hm⟩ := k1; exact DataW.trod_lt m _ _ _ hm
  obtain ⟨⟨cs1⟩, rfl, hz1⟩ := okWide_struct Try.underlying59 (hval 1 59 v1 rfl rfl)
  obtain ⟨x1_0, x1_1, x1_2, x1_3, x1_4, x1_5, x1_6, x1_7, a1_8, n1_8, c1_8, L1_8, e1, hs1_8, _⟩ : ∃ x1_0 x1_1 x1_2 x1_3 x1_4 x1_5 x1_6 x1_7 a1_8 n1_8 c1_8 L1_8, cs1 = [.int .i64 x1_0, .int .i64 x1_1, .int .i64 x1_2, .int .i64 x1_3, .int .i64 x1_4, .int .i64 x1_5, .int .i64 x1_6, .int .i64 x1_7, .slice a1_8 n1_8 c1_8] ∧ Sl encI 1 W a1_8 n1_8 c1_8 L1_8 ∧ True := by
    obtain ⟨fuel, hf⟩ := h1
    obtain ⟨x0, x1, x2, x3, x4, x5, x6, x7, a8, n8, c8, L8, e, hs8, _⟩ := reads_Report ⟨_, _, hf⟩
    exact ⟨x0, x1, x2, x3, x4, x5, x6, x7, a8, n8, c8, L8, e, hs8, trivial⟩
  subst e1
  clear hA0 hval0
  refine (law_FnExactReportOut x0_0 x0_1 x0_2 a0_3 n0_3 c0_3 L0_3 a0_4 n0_4 c0_4 L0_4 x0_5 x0_6 x0_7 x1_0 x1_1 x1_2 x1_3 x1_4 x1_5 x1_6 x1_7 a1_8 n1_8 c1_8 L1_8 W hs0_3 hs0_4 hs1_8).mono fun e W' ⟨he, hx⟩ => ?_
  have bel := hx.below
  subst he
  simp only [List.append_nil] at hW'
  exact ⟨_, rfl, _, _, _, [], _, [], hW', trodAll_mk1 (shut_bool Try.underlying4 _), (trodAll_cons_mk (Below.trod laidOut (by kernel_rfl) (of_decide_eq_true (by kernel_rfl)) k0 bel lt0) (trodAll_cons_mk (Below.trod laidOut (by kernel_rfl) (of_decide_eq_true (by kernel_rfl)) k1 bel lt1) trodAll_mk0)), rfl, bel.frame _, fun h => by cases h⟩

theorem closed : joinedFacts Try.prog 12 Try.f12 Rows.fnExactReportOutSpec Rows.fnExactReportOutRow = true := by
  unfold joinedFacts
  rw [sEnter, sLifts, sMake, sLaid, sKeys, sHeard]
  kernel_rfl

theorem over : Rows.fnExactReportOutRow.holds Try.pinned (OpenSpec.ofChange Rows.fnExactReportOutSpec) :=
  OpenClaim.holds_of_wide 12 Try.f12 rfl rfl rfl rfl rfl rfl rfl ⟨rfl, rfl, rfl, rfl, rfl⟩ rfl rfl rfl rfl rfl (by kernel_rfl) Try.func12 closed
    (of_decide_eq_true (by kernel_rfl)) (by unfold Func.isWrapper; first | (rw [if_pos (by decide +kernel)]; kernel_rfl) | (rw [if_neg (by decide +kernel)]; exact ⟨rfl, rfl⟩))
    (fun os started H enc _ => lifted os started H enc)

/-- THE STATEMENT -/
theorem proved : Rows.FnExactReportOutSaid := over
#print axioms proved
end Go.Proofs.Ytppdcglnopoocaa.fnExactReportOut
