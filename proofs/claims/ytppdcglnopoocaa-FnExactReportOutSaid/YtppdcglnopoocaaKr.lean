/- The words, laws and contracts that the claims of this seat share: group r. No condition. -/
import Derived.ProofKit
import Derived.OpenShut
import Derived.Test.YtppdcglnopoocaaKe
/- From what a row's reading says of an argument to the words of the walks. -/
namespace Go.Proofs.Ytppdcglnopoocaa
set_option linter.unusedVariables false
set_option linter.unusedSimpArgs false
open Go.RowKit

/-- What a row's reading says of a slice of integers that came in: nil, or a row of cap cells. -/
def IsRow (k : IntKind) (w : World) (a : Option Addr) (len cap : Nat) (zs : List Int) : Prop :=
  (a = none ∧ len = 0 ∧ cap = 0 ∧ zs = []) ∨
  ∃ x, a = some x ∧ len ≤ cap ∧ cap ≤ maxLen ∧ zs.length = cap ∧ (∀ i, i < zs.length → w.cell? (x.add i) = some (.int k (zs.getD i 0))) ∧ ∀ n ∈ zs, (Lit.int k n).wf = true

theorem sl_of_cells {α : Type} {enc : α → List Value} {k : Nat} (hk0 : 0 < k) (hk : ∀ x, (enc x).length = k) {w : World} {x : Addr} {len cap : Nat} {L : List α} (hl : L.length = len) (hlc : len ≤ cap) (hm : cap ≤ maxLen)
    (hc : ∀ i y, L[i]? = some y → ∀ j u, (enc y)[j]? = some u → w.cell? (x.add (i * k + j)) = some u) : Sl enc k w (some x) len cap L := by
  refine ⟨hl, hlc, hm, (fun e => by cases e), fun h0 => ?_⟩
  obtain ⟨b, off, spot⟩ := x
  have hy : L[0]? = some (L[0]'(by omega)) := List.getElem?_eq_getElem _
  have hu : (enc (L[0]'(by omega)))[0]? = some ((enc (L[0]'(by omega)))[0]'(by rw [hk]; exact hk0)) := List.getElem?_eq_getElem _
  have h00 := hc 0 _ hy 0 _ hu
  have hspot : spot = none := by simpa [Addr.add] using World.cell?_spot h00
  subst hspot
  have hadd : ∀ j, (⟨b, off, none⟩ : Addr).add j = ⟨b, off + j, none⟩ := by intro j; unfold Addr.add; split <;> simp_all
  refine ⟨b, off, rfl, ?_, fun i y hy j u hu => by rw [← hadd]; exact hc i y hy j u hu⟩
  rw [hadd] at h00
  exact World.block_lt_of_cell? w _ h00
theorem code_of_row {w : World} {a : Option Addr} {len cap : Nat} {zs : List Int} (h : IsRow .u8 w a len cap zs) : Code w a len cap := by
  rcases h with ⟨rfl, rfl, rfl, rfl⟩ | ⟨x, rfl, hl, hm, hz, hc, hw⟩
  · exact ⟨⟨[], Sl.nils _, by simp⟩⟩
  · refine ⟨⟨zs.take len, sl_of_cells (k := 1) (by omega) encU_len (by rw [List.length_take]; omega) hl hm ?_, fun z hz' => ?_⟩⟩
    · intro i y hy j u hu
      have hj : j = 0 := by
        have := (List.getElem?_eq_some_iff.1 hu).1
        simp [encU] at this
        exact this
      subst hj
      simp [encU] at hu
      subst hu
      rw [List.getElem?_take] at hy
      split at hy
      · have hi : i < zs.length := (List.getElem?_eq_some_iff.1 hy).1
        have h1 := hc i hi
        rw [List.getD_eq_getElem?_getD, hy] at h1
        simpa using h1
      · cases hy
    · have := hw z (List.mem_of_mem_take hz')
      exact bounds_u8 this
end Go.Proofs.Ytppdcglnopoocaa
