/- Contracts of the generators: words, ends, packets. -/
import Derived.Test.YtdjbjldmlfhigaaReader
namespace Go.Proofs.Ytdjbjldmlfhigaa
open Go.RowKit

theorem someWord_any (n0 B : Nat) (m : Int) (w : World) (hr : Rd n0 w B m) (hm : m + 5 ≤ 1000000) :
    Calls Try.prog 72 #[.pointer (some ⟨B, 0, none⟩)] w fun e w' => ∃ x, e = .returned (.int .i64 x) ∧ 0 ≤ x ∧ x ≤ 65535 ∧ Rd n0 w' B (m + 5) ∧ RExt B w w' := by
  have hnw : n0 ≤ w.heap.size := hr.le
  have hBw : B < w.heap.size := (by have := hr.lt; omega)
  go_enter Try.func72, Try.ntmps72
  go_wp2_with (first | (go_at_call 85; refine (pick_any n0 B _ 250 _ (by exact hr.to (by repeat (first | (with_reducible exact Since.refl hr.le) | (with_reducible refine Since.alloc ?_ _) | (with_reducible refine Since.drew ?_) | (with_reducible refine Since.drewN ?_ _) | (with_reducible refine Since.setCell ?_ ?_ _; rotate_left; (simp only []; omega)) | (with_reducible refine Since.ext ?_ (by assumption))))) (by omega) (by omega) (by omega)).mono ?_; rintro e w1 ⟨x, rfl, hx0, hx1, hr, hx⟩; have hc := hx.cellsFrom hBw; have hf := hx.frozensFrom hBw; have hy := hx.size; (try simp at hy); have hz : w.heap.size ≤ w1.heap.size := (by omega)) | (go_at_call 57; refine (one_lit n0 B _ _ _ _ _ _ (by exact hr.to (by repeat (first | (with_reducible exact Since.refl hr.le) | (with_reducible refine Since.alloc ?_ _) | (with_reducible refine Since.drew ?_) | (with_reducible refine Since.drewN ?_ _) | (with_reducible refine Since.setCell ?_ ?_ _; rotate_left; (simp only []; omega)) | (with_reducible refine Since.ext ?_ (by assumption))))) (by omega) (by simp) (by rfl) (by omega) (by omega) (by simp [intOf])).mono ?_; rintro e w1 ⟨x, rfl, hm, hr, hx⟩; have hc := hx.cellsFrom hBw; have hf := hx.frozensFrom hBw; have hy := hx.size; (try simp at hy); have hz : w.heap.size ≤ w1.heap.size := (by omega); simp [intOf] at hm))
  go_ret
  refine ⟨_, rfl, ?_, ?_, hr.mono (by omega), (by repeat (first | (with_reducible exact RExt.refl _ _) | (with_reducible assumption) | (with_reducible refine RExt.alloc ?_ _) | (with_reducible refine RExt.drewN ?_ _) | (with_reducible refine RExt.drew ?_) | (with_reducible refine RExt.setCell ?_ (.inr ?_) _; rotate_left; (simp only []; omega)) | (with_reducible refine RExt.trans ?_ (by assumption)) | (with_reducible refine RExt.ext ?_ (by assumption))))⟩
  all_goals omega
theorem someEnd_any (n0 B : Nat) (m : Int) (w : World) (hr : Rd n0 w B m) (hm : m + 12 ≤ 1000000) :
    Calls Try.prog 98 #[.pointer (some ⟨B, 0, none⟩)] w fun e w' => ∃ x y, e = .returned (.agg #[.int .i64 x, .int .i64 y]) ∧ 0 ≤ x ∧ x ≤ 65535 ∧ 0 ≤ y ∧ y ≤ 65535 ∧ Rd n0 w' B (m + 12) ∧ RExt B w w' := by
  have hnw : n0 ≤ w.heap.size := hr.le
  have hBw : B < w.heap.size := (by have := hr.lt; omega)
  go_enter Try.func98, Try.ntmps98
  go_wp2_with (first | (go_at_call 72; refine (someWord_any n0 B _ _ (by exact hr.to (by repeat (first | (with_reducible exact Since.refl hr.le) | (with_reducible refine Since.alloc ?_ _) | (with_reducible refine Since.drew ?_) | (with_reducible refine Since.drewN ?_ _) | (with_reducible refine Since.setCell ?_ ?_ _; rotate_left; (simp only []; omega)) | (with_reducible refine Since.ext ?_ (by assumption))))) (by omega)).mono ?_; rintro e w1 ⟨x, rfl, hx0, hx1, hr, hx⟩; have hc := hx.cellsFrom hBw; have hf := hx.frozensFrom hBw; have hy := hx.size; (try simp at hy); have hz : w.heap.size < w1.heap.size := (by omega)) | (go_at_call 57; refine (one_lit n0 B _ _ _ _ _ _ (by exact hr.to (by repeat (first | (with_reducible exact Since.refl hr.le) | (with_reducible refine Since.alloc ?_ _) | (with_reducible refine Since.drew ?_) | (with_reducible refine Since.drewN ?_ _) | (with_reducible refine Since.setCell ?_ ?_ _; rotate_left; (simp only []; omega)) | (with_reducible refine Since.ext ?_ (by assumption))))) (by omega) (by simp) (by rfl) (by omega) (by omega) (by simp [intOf])).mono ?_; rintro e w1 ⟨x, rfl, hm, hr, hx⟩; have hc := hx.cellsFrom hBw; have hf := hx.frozensFrom hBw; have hy := hx.size; (try simp at hy); have hz : w.heap.size < w1.heap.size := (by omega); simp [intOf] at hm))
  refine' bodyPost_ret (v := _) ?_ rfl ?_
  rotate_left
  · (simp only [results, Try.results98]
     go_simp
     rfl)
  refine ⟨_, _, rfl, ?_, ?_, ?_, ?_, ?_, (by repeat (first | (with_reducible exact RExt.refl _ _) | (with_reducible assumption) | (with_reducible refine RExt.alloc ?_ _) | (with_reducible refine RExt.drewN ?_ _) | (with_reducible refine RExt.drew ?_) | (with_reducible refine RExt.setCell ?_ (.inr ?_) _; rotate_left; (simp only []; omega)) | (with_reducible refine RExt.trans ?_ (by assumption)) | (with_reducible refine RExt.ext ?_ (by assumption))))⟩
  all_goals (first | omega | exact (Rd.mono hr (by omega)).to (by repeat (first | (with_reducible exact Since.refl hr.le) | (with_reducible refine Since.alloc ?_ _) | (with_reducible refine Since.drew ?_) | (with_reducible refine Since.drewN ?_ _) | (with_reducible refine Since.setCell ?_ ?_ _; rotate_left; (simp only []; omega)) | (with_reducible refine Since.ext ?_ (by assumption)))))
end Go.Proofs.Ytdjbjldmlfhigaa
