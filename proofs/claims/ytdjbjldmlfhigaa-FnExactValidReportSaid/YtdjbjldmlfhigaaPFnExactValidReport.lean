/- FnExactValidReport: every call of the law returns true, and what it was handed reads as before. No condition. -/
import Derived.Test.YtdjbjldmlfhigaaLawVR
import Derived.Test.YtdjbjldmlfhigaaOpen
import Derived.Test.YtdjbjldmlfhigaaSign
import Derived.WalkKit
import Derived.ProofKit
import Derived.OpenShut
import Derived.ShutString
import Derived.ChangeOld
import Derived.Below
namespace Go.Proofs.Ytdjbjldmlfhigaa.fnExactValidReport
open Go.ChangeShapes Go.WideShapes Go.ChangeAt Go.RowKit
set_option linter.unusedVariables false

theorem own : ownKnob Try.prog.godebug = none := by kernel_rfl
theorem laidOut : laidOutB Try.prog = true := by kernel_rfl

set_option maxRecDepth 100000 in
theorem lifted (os : Os) (started : os.Started) (H : Type) (enc : TypeId × Value → H) :
    ReturnsInHanded {} Try.checked os 15 .any (Rows.fnExactValidReportSpec.pre6 enc Try.prog Try.f15 Rows.fnExactValidReportRow.domain false) (Rows.fnExactValidReportSpec.post enc Try.prog Try.f15 false true false false) := by
  refine returnsInHanded_of_change (C := Try.checked) own started (by kernel_rfl) Try.func15
    (ChangeSpec.witness6 (enc := enc) (C := Try.checked) false ⟨#[], #[.agg #[.int .i64 0, .int .i64 0, .int .i64 0, .int .i64 0, .int .i64 0, .int .i64 0, .int .i64 0, .int .i64 0, .slice none 0 0]], []⟩ 8 (by kernel_rfl) (by kernel_rfl) (by kernel_rfl) (by kernel_rfl)) ?_
  intro W base args ds gs before hval0 hW hcnd _
  have hval : ∀ (j : Nat) t v, Try.f15.params[j]? = some t → args[j]? = some v → Value.okWide Try.prog W .any base t v := hval0
  have hW' := hW
  obtain ⟨p, q, hA0, hV, rfl, hfz, hnd⟩ := hW
  have hA : DataW.TrodAll enc Try.prog W 0 (fun _ => true) true Try.f15.params.toList args.toList ds p := hA0
  rw [Try.params15] at hA hval
  obtain ⟨v0, vs0, d0, ds0, p0, q0, hargs, rfl, rfl, h0, r0⟩ := trodAll_cons hA
  obtain ⟨rfl, rfl, rfl⟩ := trodAll_nil r0
  obtain rfl : args = #[v0] := by cases args; simp_all
  obtain ⟨rfl, rfl⟩ := trodVars_none hV
  have k0 := h0
  have lt0 : ∀ x ∈ p0, x.block < W.heap.size := by obtain ⟨m, hm⟩ := k0; exact DataW.trod_lt m _ _ _ hm
  obtain ⟨⟨cs0⟩, rfl, hz0⟩ := okWide_struct Try.underlying58 (hval 0 58 v0 rfl rfl)
  obtain ⟨x0_0, x0_1, x0_2, x0_3, x0_4, x0_5, x0_6, x0_7, a0_8, n0_8, c0_8, L0_8, e0, hs0_8, _⟩ : ∃ x0_0 x0_1 x0_2 x0_3 x0_4 x0_5 x0_6 x0_7 a0_8 n0_8 c0_8 L0_8, cs0 = [.int .i64 x0_0, .int .i64 x0_1, .int .i64 x0_2, .int .i64 x0_3, .int .i64 x0_4, .int .i64 x0_5, .int .i64 x0_6, .int .i64 x0_7, .slice a0_8 n0_8 c0_8] ∧ Sl encI 1 W a0_8 n0_8 c0_8 L0_8 ∧ True := by
    obtain ⟨fuel, hf⟩ := h0
    obtain ⟨x0, x1, x2, x3, x4, x5, x6, x7, a8, n8, c8, L8, e, hs8, _⟩ := reads_Report ⟨_, _, hf⟩
    exact ⟨x0, x1, x2, x3, x4, x5, x6, x7, a8, n8, c8, L8, e, hs8, trivial⟩
  subst e0
  clear hA0 hval0
  refine (law_FnExactValidReport x0_0 x0_1 x0_2 x0_3 x0_4 x0_5 x0_6 x0_7 a0_8 n0_8 c0_8 L0_8 W hs0_8).mono fun e W' ⟨he, hx⟩ => ?_
  have bel := hx.below
  subst he
  simp only [List.append_nil] at hW'
  exact ⟨_, rfl, _, _, _, [], _, [], hW', trodAll_mk1 (shut_bool Try.underlying4 _), (trodAll_cons_mk (Below.trod laidOut (by kernel_rfl) (of_decide_eq_true (by kernel_rfl)) k0 bel lt0) trodAll_mk0), rfl, bel.frame _, fun h => by cases h⟩

theorem closed : joinedFacts Try.prog 15 Try.f15 Rows.fnExactValidReportSpec Rows.fnExactValidReportRow = true := by
  unfold joinedFacts
  rw [sEnter, sLifts, sMake, sLaid, sKeys, sHeard]
  kernel_rfl

theorem over : Rows.fnExactValidReportRow.holds Try.pinned (OpenSpec.ofChange Rows.fnExactValidReportSpec) :=
  OpenClaim.holds_of_wide 15 Try.f15 rfl rfl rfl rfl rfl rfl rfl ⟨rfl, rfl, rfl, rfl, rfl⟩ rfl rfl rfl rfl rfl (by kernel_rfl) Try.func15 closed
    (of_decide_eq_true (by kernel_rfl)) (by unfold Func.isWrapper; first | (rw [if_pos (by decide +kernel)]; kernel_rfl) | (rw [if_neg (by decide +kernel)]; exact ⟨rfl, rfl⟩))
    (fun os started H enc _ => lifted os started H enc)

/-- THE STATEMENT -/
theorem proved : Rows.FnExactValidReportSaid := over
#print axioms proved
end Go.Proofs.Ytdjbjldmlfhigaa.fnExactValidReport
