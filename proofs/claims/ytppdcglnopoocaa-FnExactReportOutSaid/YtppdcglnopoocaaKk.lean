/- The words, laws and contracts that the claims of this seat share: group k. No condition. -/
import Derived.ChangeSame
import Derived.Deep.Slices
import Derived.Test.YtppdcglnopoocaaKr
import Derived.Test.YtppdcglnopoocaaKc
import Derived.Test.YtppdcglnopoocaaKs
/- From what a row's reading says of a struct that came in to its cells: field by field; slices element by element. No condition. -/
namespace Go.Proofs.Ytppdcglnopoocaa
set_option linter.unusedVariables false
set_option linter.unusedSimpArgs false
open Go.ChangeShapes Go.WideShapes Go.RowKit

section
variable {H : Type} (enc : TypeId × Value → H) (P : Program) (w : World) (base : Nat) (spare : Nat → Bool) (held : Bool)
/-- The cells cs read as a value of type t. -/
def Reads (t : TypeId) (cs : List Value) : Prop := ∃ n x, DataW.trod enc P w base spare held n t cs = some x
end
section
variable {H : Type} {enc : TypeId × Value → H} {P : Program} {w : World} {base : Nat} {spare : Nat → Bool} {held : Bool}
theorem Reads.len {t : TypeId} {fs : Array Field} {cs : List Value} (hs : P.underlying t = some (.struct fs)) (h : Reads enc P w base spare held t cs) : cs.length = P.cellsOf t := by
  obtain ⟨n, x, h⟩ := h
  obtain ⟨xs, m, _, _, hl, _, _⟩ := DataW.trod_struct hs h
  exact hl
theorem Reads.field {t : TypeId} {fs : Array Field} {cs : List Value} (hs : P.underlying t = some (.struct fs)) (h : Reads enc P w base spare held t cs) (j : Nat) {T : TypeId} {o : Nat}
    (hj : (fs[j]?).map (fun f => (f.type, f.offset)) = some (T, o)) : Reads enc P w base spare held T ((cs.drop o).take (P.cellsOf T)) := by
  obtain ⟨n, x, h⟩ := h
  obtain ⟨xs, m, _, _, hl, hlen, hg⟩ := DataW.trod_struct hs h
  obtain ⟨f, hf, e⟩ := Option.map_eq_some_iff.1 hj
  injection e with e1 e2
  subst e1; subst e2
  have hjl : j < fs.size := (Array.getElem?_eq_some_iff.1 hf).1
  have := hg j f hf
  exact ⟨m, xs[j]'(by omega), this.trans (List.getElem?_eq_getElem _)⟩
theorem Reads.int {t : TypeId} {k : IntKind} {cs : List Value} (ht : P.underlying t = some (.int k)) (h : Reads enc P w base spare held t cs) : ∃ a, cs = [.int k a] ∧ (Lit.int k a).wf = true := by
  obtain ⟨n, x, h⟩ := h
  cases n with
  | zero => simp [DataW.trod] at h
  | succ n =>
    unfold DataW.trod at h
    rw [ht] at h
    split at h <;> simp_all
theorem pick_list {α : Type} {Q : Nat → α → Prop} : ∀ len : Nat, (∀ i, i < len → ∃ x, Q i x) → ∃ L : List α, L.length = len ∧ ∀ i x, L[i]? = some x → Q i x
  | 0, _ => ⟨[], rfl, fun i x h => by simp at h⟩
  | len + 1, hex => by
    obtain ⟨L, h1, h2⟩ := pick_list len (fun i hi => hex i (by omega))
    obtain ⟨x, h3⟩ := hex len (by omega)
    refine ⟨L ++ [x], by simp [h1], fun i y hy => ?_⟩
    rcases Nat.lt_or_ge i L.length with hlt | hge
    · rw [List.getElem?_append_left hlt] at hy
      exact h2 i y hy
    · rw [List.getElem?_append_right hge] at hy
      have h0 : i - L.length = 0 := by
        have := (List.getElem?_eq_some_iff.1 hy).1
        simp at this
        omega
      rw [h0] at hy
      simp at hy
      subst hy
      have e : i = len := by omega
      rw [e]
      exact h3
theorem Reads.sl {t e : TypeId} {α : Type} {en : α → List Value} {k : Nat} {cs : List Value} (ht : P.underlying t = some (.slice e)) (hk : P.cellsOf e = k) (hk0 : 0 < k) (hen : ∀ x, (en x).length = k) (ok : α → Prop)
    (hel : ∀ cs', Reads enc P w base spare held e cs' → ∃ x : α, cs' = en x ∧ ok x) (h : Reads enc P w base spare held t cs) :
    ∃ a n c L, cs = [.slice a n c] ∧ Sl en k w a n c L ∧ (∀ x ∈ L, ok x) ∧ (∀ x, a = some x → base ≤ x.block) := by
  obtain ⟨fuel, x, h⟩ := h
  rcases Go.Deep.open_slice ht h with ⟨rfl, _⟩ | ⟨a, len, cap, m, n, D, Pl, rfl, hb, hl, hm, hmm, _, hi⟩
  · exact ⟨none, 0, 0, [], rfl, Sl.nils w, by simp, fun x e => by cases e⟩
  · have hle : len ≤ m := by rw [hmm]; split <;> omega
    have hex : ∀ i, i < len → ∃ x : α, ok x ∧ w.cells? base (a.add (i * k)) k = some (en x) := by
      intro i hil
      obtain ⟨cs', hc, ht'⟩ := hi i (by omega)
      obtain ⟨x, rfl, hok⟩ := hel cs' ⟨_, _, ht'⟩
      rw [hk] at hc
      exact ⟨x, hok, hc⟩
    obtain ⟨L, h1, h2⟩ := pick_list len hex
    refine ⟨some a, len, cap, L, rfl, sl_of_cells hk0 hen h1 hl hm ?_, fun x hx => ?_, fun x e => by injection e with e; subst e; exact hb⟩
    · intro i y hy j u hu
      obtain ⟨_, hc⟩ := h2 i y hy
      obtain ⟨_, hcl, hat⟩ := World.cells?_some hc
      have hj : j < k := by rw [← hen y]; exact (List.getElem?_eq_some_iff.1 hu).1
      have := hat j hj
      rw [hu] at this
      rw [← Go.Deep.add_add]
      exact this
    · obtain ⟨i, hi'⟩ := List.getElem?_of_mem hx
      exact (h2 i x hi').1
end
/-- A struct of integers alone, two, by its cells. -/
theorem two_of {cs : List Value} {u v : Value} (h : cs.length = 2) (h0 : (cs.drop 0).take 1 = [u]) (h1 : (cs.drop 1).take 1 = [v]) : cs = [u, v] := by
  match cs, h with
  | [x, y], _ =>
    simp at h0 h1
    rw [h0, h1]
def fitI (x : Int) : Prop := -9223372036854775808 ≤ x ∧ x ≤ 9223372036854775807
section
variable {H : Type} {enc : TypeId × Value → H} {w : World} {base : Nat} {spare : Nat → Bool} {held : Bool}
theorem cell_int : Try.prog.cellsOf 3 = 1 := by kernel_rfl
theorem reads_int {cs : List Value} (h : Reads enc Try.prog w base spare held 3 cs) : ∃ a, cs = [.int .i64 a] ∧ fitI a := by
  obtain ⟨a, e, hw⟩ := h.int Try.underlying3
  exact ⟨a, e, bounds_i64 hw⟩
/-- An integer field. -/
theorem reads_fi {t : TypeId} {fs : Array Field} {cs : List Value} (hs : Try.prog.underlying t = some (.struct fs)) (h : Reads enc Try.prog w base spare held t cs) (j o : Nat)
    (hj : (fs[j]?).map (fun f => (f.type, f.offset)) = some (3, o)) : ∃ a, (cs.drop o).take 1 = [.int .i64 a] ∧ fitI a := by
  have h1 := h.field hs j hj
  rw [cell_int] at h1
  exact reads_int h1
theorem cell_lNet : Try.prog.cellsOf 50 = 2 := by kernel_rfl
theorem reads_Net {cs : List Value} (h : Reads enc Try.prog w base spare held 50 cs) : ∃ a b, cs = [.int .i64 a, .int .i64 b] ∧ fitI a ∧ fitI b := by
  obtain ⟨a, ha, fa⟩ := reads_fi Try.underlying50 h 0 0 rfl
  obtain ⟨b, hb, fb⟩ := reads_fi Try.underlying50 h 1 1 rfl
  exact ⟨a, b, two_of ((h.len Try.underlying50).trans cell_lNet) ha hb, fa, fb⟩
theorem cell_lEnd : Try.prog.cellsOf 55 = 2 := by kernel_rfl
theorem reads_End {cs : List Value} (h : Reads enc Try.prog w base spare held 55 cs) : ∃ a b, cs = [.int .i64 a, .int .i64 b] ∧ fitI a ∧ fitI b := by
  obtain ⟨a, ha, fa⟩ := reads_fi Try.underlying55 h 0 0 rfl
  obtain ⟨b, hb, fb⟩ := reads_fi Try.underlying55 h 1 1 rfl
  exact ⟨a, b, two_of ((h.len Try.underlying55).trans cell_lEnd) ha hb, fa, fb⟩
theorem cell_lPacket : Try.prog.cellsOf 57 = 6 := by kernel_rfl
theorem cell_ints : Try.prog.cellsOf 31 = 1 := by kernel_rfl
theorem reads_ints {cs : List Value} (h : Reads enc Try.prog w base spare held 31 cs) : ∃ a n c L, cs = [.slice a n c] ∧ Sl encI 1 w a n c L ∧ (∀ x ∈ L, fitI x) ∧ (∀ x, a = some x → base ≤ x.block) :=
  h.sl Try.underlying31 cell_int (by omega) encI_len fitI (fun _ h' => reads_int h')
theorem reads_Packet {cs : List Value} (h : Reads enc Try.prog w base spare held 57 cs) : ∃ k fa fp ta tp a n c L, cs = [.int .i64 k, .int .i64 fa, .int .i64 fp, .int .i64 ta, .int .i64 tp, .slice a n c] ∧
    Sl encI 1 w a n c L ∧ (∀ x ∈ L, fitI x) ∧ fitI k ∧ fitI fa ∧ fitI fp ∧ fitI ta ∧ fitI tp := by
  have hl := (h.len Try.underlying57).trans cell_lPacket
  obtain ⟨k, h0, f0⟩ := reads_fi Try.underlying57 h 0 0 rfl
  have hn := h.field (T := 55) (o := 1) Try.underlying57 1 rfl
  rw [cell_lEnd] at hn
  obtain ⟨fa, fp, h1, f1, f2⟩ := reads_End hn
  have hn := h.field (T := 55) (o := 3) Try.underlying57 2 rfl
  rw [cell_lEnd] at hn
  obtain ⟨ta, tp, h2, f3, f4⟩ := reads_End hn
  have hn := h.field (T := 31) (o := 5) Try.underlying57 3 rfl
  rw [cell_ints] at hn
  obtain ⟨a, n, c, L, h3, hs, hf, _⟩ := reads_ints hn
  match cs, hl with
  | [x0, x1, x2, x3, x4, x5], _ =>
    simp at h0 h1 h2 h3
    exact ⟨k, fa, fp, ta, tp, a, n, c, L, by rw [h0, h1.1, h1.2, h2.1, h2.2, h3], hs, hf, f0, f1, f2, f3, f4⟩
theorem cell_lReport : Try.prog.cellsOf 59 = 9 := by kernel_rfl
theorem reads_Report {cs : List Value} (h : Reads enc Try.prog w base spare held 59 cs) : ∃ o s t k fa fp ta tp a n c L, cs = [.int .i64 o, .int .i64 s, .int .i64 t, .int .i64 k, .int .i64 fa, .int .i64 fp, .int .i64 ta, .int .i64 tp, .slice a n c] ∧
    Sl encI 1 w a n c L ∧ (∀ x ∈ L, fitI x) ∧ fitI o ∧ fitI s ∧ fitI t ∧ fitI k ∧ fitI fa ∧ fitI fp ∧ fitI ta ∧ fitI tp := by
  have hl := (h.len Try.underlying59).trans cell_lReport
  obtain ⟨o, h0, f0⟩ := reads_fi Try.underlying59 h 0 0 rfl
  obtain ⟨s, h1, f1⟩ := reads_fi Try.underlying59 h 1 1 rfl
  obtain ⟨t, h2, f2⟩ := reads_fi Try.underlying59 h 2 2 rfl
  have hn := h.field (T := 57) (o := 3) Try.underlying59 3 rfl
  rw [cell_lPacket] at hn
  obtain ⟨k, fa, fp, ta, tp, a, n, c, L, h3, hs, hf, g0, g1, g2, g3, g4⟩ := reads_Packet hn
  match cs, hl with
  | [x0, x1, x2, x3, x4, x5, x6, x7, x8], _ =>
    simp at h0 h1 h2 h3
    obtain ⟨e3, e4, e5, e6, e7, e8⟩ := h3
    exact ⟨o, s, t, k, fa, fp, ta, tp, a, n, c, L, by rw [h0, h1, h2, e3, e4, e5, e6, e7, e8], hs, hf, f0, f1, f2, g0, g1, g2, g3, g4⟩
theorem cell_lMapping : Try.prog.cellsOf 144 = 4 := by kernel_rfl
theorem reads_Mapping {cs : List Value} (h : Reads enc Try.prog w base spare held 144 cs) : ∃ m : MapD, cs = encM m ∧ True := by
  have hl := (h.len Try.underlying144).trans cell_lMapping
  have hn := h.field (T := 55) (o := 0) Try.underlying144 0 rfl
  rw [cell_lEnd] at hn
  obtain ⟨a, b, h0, fa, fb⟩ := reads_End hn
  obtain ⟨c, h2, fc⟩ := reads_fi Try.underlying144 h 1 2 rfl
  obtain ⟨d, h3, fd⟩ := reads_fi Try.underlying144 h 2 3 rfl
  match cs, hl with
  | [x, y, z, u], _ =>
    simp at h0 h2 h3
    exact ⟨⟨⟨a, b⟩, c, d⟩, by rw [h0.1, h0.2, h2, h3]; rfl, trivial⟩
theorem cell_lContact : Try.prog.cellsOf 147 = 3 := by kernel_rfl
theorem reads_Contact {cs : List Value} (h : Reads enc Try.prog w base spare held 147 cs) : ∃ x : ConD, cs = encC x ∧ True := by
  have hl := (h.len Try.underlying147).trans cell_lContact
  obtain ⟨c, h2, fc⟩ := reads_fi Try.underlying147 h 0 0 rfl
  have hn := h.field (T := 55) (o := 1) Try.underlying147 1 rfl
  rw [cell_lEnd] at hn
  obtain ⟨a, b, h0, fa, fb⟩ := reads_End hn
  match cs, hl with
  | [x, y, z], _ =>
    simp at h0 h2
    exact ⟨⟨c, ⟨a, b⟩⟩, by rw [h0.1, h0.2, h2]; rfl, trivial⟩
theorem cell_lMappingS : Try.prog.cellsOf 51 = 1 := by kernel_rfl
theorem cell_lContactS : Try.prog.cellsOf 52 = 1 := by kernel_rfl
theorem cell_lGate : Try.prog.cellsOf 54 = 8 := by kernel_rfl
theorem reads_Gate {cs : List Value} (h : Reads enc Try.prog w base spare held 54 cs) : ∃ b i o a n c L a' n' c' L' f d t, cs = [.int .i64 b, .int .i64 i, .int .i64 o, .slice a n c, .slice a' n' c', .int .i64 f, .int .i64 d, .int .i64 t] ∧
    Sl encM 4 w a n c L ∧ Sl encC 3 w a' n' c' L' ∧ True := by
  have hl := (h.len Try.underlying54).trans cell_lGate
  have hn := h.field (T := 50) (o := 0) Try.underlying54 0 rfl
  rw [cell_lNet] at hn
  obtain ⟨b, i, h0, _, _⟩ := reads_Net hn
  obtain ⟨o, h1, _⟩ := reads_fi Try.underlying54 h 1 2 rfl
  have hn := h.field (T := 51) (o := 3) Try.underlying54 2 rfl
  rw [cell_lMappingS] at hn
  obtain ⟨a, n, c, L, h2, hs, _, _⟩ := hn.sl Try.underlying51 cell_lMapping (by omega) encM_len (fun _ => True) (fun _ h' => reads_Mapping h')
  have hn := h.field (T := 52) (o := 4) Try.underlying54 3 rfl
  rw [cell_lContactS] at hn
  obtain ⟨a', n', c', L', h3, hs', _, _⟩ := hn.sl Try.underlying52 cell_lContact (by omega) encC_len (fun _ => True) (fun _ h' => reads_Contact h')
  obtain ⟨f, h4, _⟩ := reads_fi Try.underlying54 h 4 5 rfl
  obtain ⟨d, h5, _⟩ := reads_fi Try.underlying54 h 5 6 rfl
  obtain ⟨t, h6, _⟩ := reads_fi Try.underlying54 h 6 7 rfl
  match cs, hl with
  | [x0, x1, x2, x3, x4, x5, x6, x7], _ =>
    simp at h0 h1 h2 h3 h4 h5 h6
    exact ⟨b, i, o, a, n, c, L, a', n', c', L', f, d, t, by rw [h0.1, h0.2, h1, h2, h3, h4, h5, h6], hs, hs', trivial⟩
end
end Go.Proofs.Ytppdcglnopoocaa
/- Contracts of the exact laws' own helpers on gates: size, copy, comparison. -/
namespace Go.Proofs.Ytppdcglnopoocaa
set_option linter.unusedVariables false
set_option linter.unusedSimpArgs false
open Go.RowKit

theorem fill_four {cur : Array Value} {n k : Nat} {M : List MapD} (h1 : cur.size = n * 4) (hk : k < n) (hM : M.length = n) (h2 : cur.toList.take (k * 4) = (M.take k).flatMap encM) :
    ((((cur.setIfInBounds (k * 4) (.int .i64 (nth M k).ins.addr)).setIfInBounds (k * 4 + 1) (.int .i64 (nth M k).ins.port)).setIfInBounds (k * 4 + 2) (.int .i64 (nth M k).port)).setIfInBounds (k * 4 + 3) (.int .i64 (nth M k).last)).size = n * 4 ∧
    ((((cur.setIfInBounds (k * 4) (.int .i64 (nth M k).ins.addr)).setIfInBounds (k * 4 + 1) (.int .i64 (nth M k).ins.port)).setIfInBounds (k * 4 + 2) (.int .i64 (nth M k).port)).setIfInBounds (k * 4 + 3) (.int .i64 (nth M k).last)).toList.take ((k + 1) * 4) = (M.take (k + 1)).flatMap encM := by
  refine ⟨by simpa using h1, ?_⟩
  rw [show (k + 1) * 4 = k * 4 + 3 + 1 by omega]
  simp only [Array.toList_setIfInBounds]
  rw [set_take (by simp; omega), set_take (by simp; omega), set_take (by simp; omega), set_take (by simp; omega), h2, take_succ (by omega)]
  simp [encM]
theorem fill_three {cur : Array Value} {n k : Nat} {M : List ConD} (h1 : cur.size = n * 3) (hk : k < n) (hM : M.length = n) (h2 : cur.toList.take (k * 3) = (M.take k).flatMap encC) :
    (((cur.setIfInBounds (k * 3) (.int .i64 (nth M k).port)).setIfInBounds (k * 3 + 1) (.int .i64 (nth M k).to_.addr)).setIfInBounds (k * 3 + 2) (.int .i64 (nth M k).to_.port)).size = n * 3 ∧
    (((cur.setIfInBounds (k * 3) (.int .i64 (nth M k).port)).setIfInBounds (k * 3 + 1) (.int .i64 (nth M k).to_.addr)).setIfInBounds (k * 3 + 2) (.int .i64 (nth M k).to_.port)).toList.take ((k + 1) * 3) = (M.take (k + 1)).flatMap encC := by
  refine ⟨by simpa using h1, ?_⟩
  rw [show (k + 1) * 3 = k * 3 + 2 + 1 by omega]
  simp only [Array.toList_setIfInBounds]
  rw [set_take (by simp; omega), set_take (by simp; omega), set_take (by simp; omega), h2, take_succ (by omega)]
  simp [encC]
theorem toNet_any (x y : Int) (w : World) : Calls Try.prog 94 #[.agg #[.int .i64 x, .int .i64 y]] w fun e w' => e = .returned (.agg #[.int .i64 x, .int .i64 y]) ∧ Ext w w' := by
  go_enter Try.func94, Try.ntmps94
  go_wp2
  refine' bodyPost_ret (v := _) ?_ rfl ?_
  rotate_left
  · (simp only [results, Try.results94]
     go_simp
     rfl)
  exact ⟨rfl, (by repeat (first | (with_reducible exact Ext.refl _) | (with_reducible assumption) | (with_reducible refine Ext.alloc ?_ _) | (with_reducible refine Ext.drewN ?_ _) | (with_reducible refine Ext.drew ?_) | (with_reducible refine Ext.setCell ?_ ?_ _; rotate_left; (simp only []; omega)) | (with_reducible refine Ext.trans ?_ (by assumption))))⟩
theorem toMapping_any (m : MapD) (w : World) : Calls Try.prog 147 #[.agg #[.int .i64 m.ins.addr, .int .i64 m.ins.port, .int .i64 m.port, .int .i64 m.last]] w fun e w' => e = .returned (.agg #[.int .i64 m.ins.addr, .int .i64 m.ins.port, .int .i64 m.port, .int .i64 m.last]) ∧ Ext w w' := by
  go_enter Try.func147, Try.ntmps147
  go_wp2_with (go_at_call 107; refine (toEnd_any _ _ _).mono ?_; rintro e w1 ⟨rfl, hx⟩; have hc := hx.cells; have hf := hx.frozens; have hy := hx.size; (try simp at hy); have hz : w.heap.size < w1.heap.size ∧ w.heap.size + 1 < w1.heap.size ∧ w.heap.size + 2 < w1.heap.size := (by omega))
  refine' bodyPost_ret (v := _) ?_ rfl ?_
  rotate_left
  · (simp only [results, Try.results147]
     go_simp
     rfl)
  exact ⟨rfl, (by repeat (first | (with_reducible exact Ext.refl _) | (with_reducible assumption) | (with_reducible refine Ext.alloc ?_ _) | (with_reducible refine Ext.drewN ?_ _) | (with_reducible refine Ext.drew ?_) | (with_reducible refine Ext.setCell ?_ ?_ _; rotate_left; (simp only []; omega)) | (with_reducible refine Ext.trans ?_ (by assumption))))⟩
theorem toContact_any (x : ConD) (w : World) : Calls Try.prog 148 #[.agg #[.int .i64 x.port, .int .i64 x.to_.addr, .int .i64 x.to_.port]] w fun e w' => e = .returned (.agg #[.int .i64 x.port, .int .i64 x.to_.addr, .int .i64 x.to_.port]) ∧ Ext w w' := by
  go_enter Try.func148, Try.ntmps148
  go_wp2_with (go_at_call 107; refine (toEnd_any _ _ _).mono ?_; rintro e w1 ⟨rfl, hx⟩; have hc := hx.cells; have hf := hx.frozens; have hy := hx.size; (try simp at hy); have hz : w.heap.size < w1.heap.size ∧ w.heap.size + 1 < w1.heap.size ∧ w.heap.size + 2 < w1.heap.size := (by omega))
  refine' bodyPost_ret (v := _) ?_ rfl ?_
  rotate_left
  · (simp only [results, Try.results148]
     go_simp
     rfl)
  exact ⟨rfl, (by repeat (first | (with_reducible exact Ext.refl _) | (with_reducible assumption) | (with_reducible refine Ext.alloc ?_ _) | (with_reducible refine Ext.drewN ?_ _) | (with_reducible refine Ext.drew ?_) | (with_reducible refine Ext.setCell ?_ ?_ _; rotate_left; (simp only []; omega)) | (with_reducible refine Ext.trans ?_ (by assumption))))⟩
theorem make_maps (n : Nat) (hn : n ≤ 1048576) : ∃ Z : Array Value, Z.size = n * 4 ∧ ∀ W : World, (Instr.makeSlice 25 (.int .i64 (n : Int)) (.int .i64 (n : Int))).run Try.prog W = .ok (.slice (some ⟨W.heap.size, 0, none⟩) n n) (W.alloc (.cells Z 89)) := by
  obtain ⟨ht, i, z, hi, hz, hsz, hby, hzs, _⟩ := eiM
  refine ⟨madeCells z.cells (n * i.size), ?_, fun W => ?_⟩
  · simp [hsz, size_madeCells]
  · have := run_makeSlice (P := Try.prog) W 25 89 i z ht hi hz .i64 .i64 (n : Int) (n : Int) (by omega) (by omega) (by rw [hsz]; simp; omega) (by rw [hby]; omega) (by omega)
    simpa using this
theorem toMappingS_any (a : Option Addr) (n c : Nat) (L : List MapD) (w : World) (hs : Sl encM 4 w a n c L) (hn : n ≤ 1048576) :
    Calls Try.prog 95 #[.slice a n c] w fun e w' => ∃ a', e = .returned (.slice a' n n) ∧ Ow 89 encM 4 w.heap.size w' a' n n L ∧ Ext w w' := by
  have hle := hs.le
  have hmax := hs.max
  have hlen := hs.len
  obtain ⟨Z, hZ, hmk⟩ := make_maps n hn
  have HL := Lib.hid hlen
  have HZ := Lib.hid hZ
  have HI := Lib.hid hs.maps
  clear hlen hs hZ
  go_enter Try.func95, Try.ntmps95
  go_wp2
  go_loopw [4] (fun i wr => ∃ (k : Nat) (cur : Array Value), k ≤ n ∧ i = .int .i64 k ∧ Blk wr w.heap.size 89 cur ∧ cur.size = n * 4 ∧ cur.toList.take (k * 4) = (L.take k).flatMap encM ∧ Ext w wr) (fun i _ => n - (intOf i).toNat)
  case atStart => exact ⟨0, Z, Nat.zero_le _, rfl, Blk.new _ _ _, HZ.out, by simp, (by repeat (first | (with_reducible exact Ext.refl _) | (with_reducible assumption) | (with_reducible refine Ext.alloc ?_ _) | (with_reducible refine Ext.drewN ?_ _) | (with_reducible refine Ext.drew ?_) | (with_reducible refine Ext.setCell ?_ ?_ _; rotate_left; (simp only []; omega)) | (with_reducible refine Ext.trans ?_ (by assumption))))⟩
  case round =>
    obtain ⟨k, cur, hk, rfl, hB, hcz, hct, hX⟩ := hrel
    by_cases hlt : k < n
    · obtain ⟨_, b, off, rfl, hb, hc⟩ := (HI.out).resolve_left (by omega)
      obtain ⟨d0, d1, d2, d3⟩ := hc k hlt
      rw [← hX.cells _ _ hb] at d0 d1 d2 d3
      have hbr : b < wr.heap.size := by have := hX.size; omega
      have HZ2 := Lib.hid hcz
      have HT := Lib.hid hct
      have HX := Lib.hid hX
      clear hc hmk hcz hct hX
      go_wp2_with fail
      refine (toMapping_any (nth L k) _).mono ?_
      rintro e w1 ⟨rfl, hx1⟩
      have HX1 : Ext w w1 := (show Ext w wr from HX.out).trans (by repeat (first | (with_reducible exact Ext.refl _) | (with_reducible assumption) | (with_reducible refine Ext.alloc ?_ _) | (with_reducible refine Ext.drewN ?_ _) | (with_reducible refine Ext.drew ?_) | (with_reducible refine Ext.setCell ?_ ?_ _; rotate_left; (simp only []; omega)) | (with_reducible refine Ext.trans ?_ (by assumption))))
      have hB1 := hB.ext hx1
      obtain ⟨v0, c0⟩ : ∃ v, w1.cell? ⟨w.heap.size, k * 4, none⟩ = some v := ⟨_, by rw [hB1.cells]; exact Array.getElem?_eq_getElem (by rw [HZ2.out]; omega)⟩
      obtain ⟨v1, c1⟩ : ∃ v, w1.cell? ⟨w.heap.size, k * 4 + 1, none⟩ = some v := ⟨_, by rw [hB1.cells]; exact Array.getElem?_eq_getElem (by rw [HZ2.out]; omega)⟩
      obtain ⟨v2, c2⟩ : ∃ v, w1.cell? ⟨w.heap.size, k * 4 + 2, none⟩ = some v := ⟨_, by rw [hB1.cells]; exact Array.getElem?_eq_getElem (by rw [HZ2.out]; omega)⟩
      obtain ⟨v3, c3⟩ : ∃ v, w1.cell? ⟨w.heap.size, k * 4 + 3, none⟩ = some v := ⟨_, by rw [hB1.cells]; exact Array.getElem?_eq_getElem (by rw [HZ2.out]; omega)⟩
      have f0 := hB1.frozens
      have hz1 := hB1.lt
      go_wp2
      go_roundw
      case rel => exact ⟨k + 1, _, by omega, by go_num, (((hB1.set _ _).set _ _).set _ _).set _ _, (fill_four HZ2.out hlt HL.out HT.out).1, (fill_four HZ2.out hlt HL.out HT.out).2, (by repeat (first | (with_reducible exact Ext.refl _) | (with_reducible assumption) | (with_reducible refine Ext.alloc ?_ _) | (with_reducible refine Ext.drewN ?_ _) | (with_reducible refine Ext.drew ?_) | (with_reducible refine Ext.setCell ?_ ?_ _; rotate_left; (simp only []; omega)) | (with_reducible refine Ext.trans ?_ (by assumption))))⟩
      case measure => simp [intOf]; omega
    · have e : k = n := by omega
      subst e
      have HF := Lib.hid (show Ow 89 encM 4 w.heap.size wr (some ⟨w.heap.size, 0, none⟩) k k L by
        refine ⟨HL.out, .inr ⟨w.heap.size, cur, rfl, Nat.le_refl _, hB, Nat.le_refl _, by omega, by omega, ?_⟩⟩
        rw [hct, List.take_of_length_le (by rw [HL.out]; omega)])
      have HX := Lib.hid hX
      clear hcz hct hmk hX
      go_wp2
      go_ret
      exact ⟨_, rfl, HF.out, HX.out⟩
theorem make_cons (n : Nat) (hn : n ≤ 1048576) : ∃ Z : Array Value, Z.size = n * 3 ∧ ∀ W : World, (Instr.makeSlice 26 (.int .i64 (n : Int)) (.int .i64 (n : Int))).run Try.prog W = .ok (.slice (some ⟨W.heap.size, 0, none⟩) n n) (W.alloc (.cells Z 47)) := by
  obtain ⟨ht, i, z, hi, hz, hsz, hby, hzs, _⟩ := eiC
  refine ⟨madeCells z.cells (n * i.size), ?_, fun W => ?_⟩
  · simp [hsz, size_madeCells]
  · have := run_makeSlice (P := Try.prog) W 26 47 i z ht hi hz .i64 .i64 (n : Int) (n : Int) (by omega) (by omega) (by rw [hsz]; simp; omega) (by rw [hby]; omega) (by omega)
    simpa using this
theorem toContactS_any (a : Option Addr) (n c : Nat) (L : List ConD) (w : World) (hs : Sl encC 3 w a n c L) (hn : n ≤ 1048576) :
    Calls Try.prog 96 #[.slice a n c] w fun e w' => ∃ a', e = .returned (.slice a' n n) ∧ Ow 47 encC 3 w.heap.size w' a' n n L ∧ Ext w w' := by
  have hle := hs.le
  have hmax := hs.max
  have hlen := hs.len
  obtain ⟨Z, hZ, hmk⟩ := make_cons n hn
  have HL := Lib.hid hlen
  have HZ := Lib.hid hZ
  have HI := Lib.hid hs.cons
  clear hlen hs hZ
  go_enter Try.func96, Try.ntmps96
  go_wp2
  go_loopw [4] (fun i wr => ∃ (k : Nat) (cur : Array Value), k ≤ n ∧ i = .int .i64 k ∧ Blk wr w.heap.size 47 cur ∧ cur.size = n * 3 ∧ cur.toList.take (k * 3) = (L.take k).flatMap encC ∧ Ext w wr) (fun i _ => n - (intOf i).toNat)
  case atStart => exact ⟨0, Z, Nat.zero_le _, rfl, Blk.new _ _ _, HZ.out, by simp, (by repeat (first | (with_reducible exact Ext.refl _) | (with_reducible assumption) | (with_reducible refine Ext.alloc ?_ _) | (with_reducible refine Ext.drewN ?_ _) | (with_reducible refine Ext.drew ?_) | (with_reducible refine Ext.setCell ?_ ?_ _; rotate_left; (simp only []; omega)) | (with_reducible refine Ext.trans ?_ (by assumption))))⟩
  case round =>
    obtain ⟨k, cur, hk, rfl, hB, hcz, hct, hX⟩ := hrel
    by_cases hlt : k < n
    · obtain ⟨_, b, off, rfl, hb, hc⟩ := (HI.out).resolve_left (by omega)
      obtain ⟨d0, d1, d2⟩ := hc k hlt
      rw [← hX.cells _ _ hb] at d0 d1 d2
      have hbr : b < wr.heap.size := by have := hX.size; omega
      have HZ2 := Lib.hid hcz
      have HT := Lib.hid hct
      have HX := Lib.hid hX
      clear hc hmk hcz hct hX
      go_wp2_with fail
      refine (toContact_any (nth L k) _).mono ?_
      rintro e w1 ⟨rfl, hx1⟩
      have HX1 : Ext w w1 := (show Ext w wr from HX.out).trans (by repeat (first | (with_reducible exact Ext.refl _) | (with_reducible assumption) | (with_reducible refine Ext.alloc ?_ _) | (with_reducible refine Ext.drewN ?_ _) | (with_reducible refine Ext.drew ?_) | (with_reducible refine Ext.setCell ?_ ?_ _; rotate_left; (simp only []; omega)) | (with_reducible refine Ext.trans ?_ (by assumption))))
      have hB1 := hB.ext hx1
      obtain ⟨v0, c0⟩ : ∃ v, w1.cell? ⟨w.heap.size, k * 3, none⟩ = some v := ⟨_, by rw [hB1.cells]; exact Array.getElem?_eq_getElem (by rw [HZ2.out]; omega)⟩
      obtain ⟨v1, c1⟩ : ∃ v, w1.cell? ⟨w.heap.size, k * 3 + 1, none⟩ = some v := ⟨_, by rw [hB1.cells]; exact Array.getElem?_eq_getElem (by rw [HZ2.out]; omega)⟩
      obtain ⟨v2, c2⟩ : ∃ v, w1.cell? ⟨w.heap.size, k * 3 + 2, none⟩ = some v := ⟨_, by rw [hB1.cells]; exact Array.getElem?_eq_getElem (by rw [HZ2.out]; omega)⟩
      have f0 := hB1.frozens
      have hz1 := hB1.lt
      go_wp2
      go_roundw
      case rel => exact ⟨k + 1, _, by omega, by go_num, ((hB1.set _ _).set _ _).set _ _, (fill_three HZ2.out hlt HL.out HT.out).1, (fill_three HZ2.out hlt HL.out HT.out).2, (by repeat (first | (with_reducible exact Ext.refl _) | (with_reducible assumption) | (with_reducible refine Ext.alloc ?_ _) | (with_reducible refine Ext.drewN ?_ _) | (with_reducible refine Ext.drew ?_) | (with_reducible refine Ext.setCell ?_ ?_ _; rotate_left; (simp only []; omega)) | (with_reducible refine Ext.trans ?_ (by assumption))))⟩
      case measure => simp [intOf]; omega
    · have e : k = n := by omega
      subst e
      have HF := Lib.hid (show Ow 47 encC 3 w.heap.size wr (some ⟨w.heap.size, 0, none⟩) k k L by
        refine ⟨HL.out, .inr ⟨w.heap.size, cur, rfl, Nat.le_refl _, hB, Nat.le_refl _, by omega, by omega, ?_⟩⟩
        rw [hct, List.take_of_length_le (by rw [HL.out]; omega)])
      have HX := Lib.hid hX
      clear hcz hct hmk hX
      go_wp2
      go_ret
      exact ⟨_, rfl, HF.out, HX.out⟩
theorem szMappingS_any (a : Option Addr) (n c : Nat) (left : Int) (w : World) (h0 : 0 ≤ left) (h1 : left ≤ 1048576) (hn : (n : Int) ≤ 9223372036854775807) :
    Calls Try.prog 87 #[.slice a n c, .int .i64 left] w fun e w' => e = .returned (.int .i64 (if (n : Int) ≤ left then left - n else -1)) ∧ w = w' := by
  by_cases h : (n : Int) ≤ left
  · rw [if_pos h]
    go_enter Try.func87, Try.ntmps87
    go_wp2
    go_ret
    exact ⟨rfl, rfl⟩
  · rw [if_neg h]
    go_enter Try.func87, Try.ntmps87
    go_wp2
    go_ret
    exact ⟨rfl, rfl⟩
theorem szContactS_any (a : Option Addr) (n c : Nat) (left : Int) (w : World) (h0 : 0 ≤ left) (h1 : left ≤ 1048576) (hn : (n : Int) ≤ 9223372036854775807) :
    Calls Try.prog 88 #[.slice a n c, .int .i64 left] w fun e w' => e = .returned (.int .i64 (if (n : Int) ≤ left then left - n else -1)) ∧ w = w' := by
  by_cases h : (n : Int) ≤ left
  · rw [if_pos h]
    go_enter Try.func88, Try.ntmps88
    go_wp2
    go_ret
    exact ⟨rfl, rfl⟩
  · rw [if_neg h]
    go_enter Try.func88, Try.ntmps88
    go_wp2
    go_ret
    exact ⟨rfl, rfl⟩
theorem eqMapping_same (m : MapD) (w : World) : Calls Try.prog 149 #[.agg #[.int .i64 m.ins.addr, .int .i64 m.ins.port, .int .i64 m.port, .int .i64 m.last], .agg #[.int .i64 m.ins.addr, .int .i64 m.ins.port, .int .i64 m.port, .int .i64 m.last]] w fun e w' => e = .returned (.bool true) ∧ Ext w w' := by
  go_enter Try.func149, Try.ntmps149
  go_wp2_with (go_at_call 109; refine (eqEnd_same _ _ _).mono ?_; rintro e w1 ⟨rfl, hx⟩; have hc := hx.cells; have hf := hx.frozens; have hy := hx.size; (try simp at hy); have hz : w.heap.size < w1.heap.size ∧ w.heap.size + 1 < w1.heap.size := (by omega))
  go_ret
  exact ⟨rfl, (by repeat (first | (with_reducible exact Ext.refl _) | (with_reducible assumption) | (with_reducible refine Ext.alloc ?_ _) | (with_reducible refine Ext.drewN ?_ _) | (with_reducible refine Ext.drew ?_) | (with_reducible refine Ext.setCell ?_ ?_ _; rotate_left; (simp only []; omega)) | (with_reducible refine Ext.trans ?_ (by assumption))))⟩
theorem eqContact_same (x : ConD) (w : World) : Calls Try.prog 150 #[.agg #[.int .i64 x.port, .int .i64 x.to_.addr, .int .i64 x.to_.port], .agg #[.int .i64 x.port, .int .i64 x.to_.addr, .int .i64 x.to_.port]] w fun e w' => e = .returned (.bool true) ∧ Ext w w' := by
  go_enter Try.func150, Try.ntmps150
  go_wp2_with (go_at_call 109; refine (eqEnd_same _ _ _).mono ?_; rintro e w1 ⟨rfl, hx⟩; have hc := hx.cells; have hf := hx.frozens; have hy := hx.size; (try simp at hy); have hz : w.heap.size < w1.heap.size ∧ w.heap.size + 1 < w1.heap.size := (by omega))
  go_ret
  exact ⟨rfl, (by repeat (first | (with_reducible exact Ext.refl _) | (with_reducible assumption) | (with_reducible refine Ext.alloc ?_ _) | (with_reducible refine Ext.drewN ?_ _) | (with_reducible refine Ext.drew ?_) | (with_reducible refine Ext.setCell ?_ ?_ _; rotate_left; (simp only []; omega)) | (with_reducible refine Ext.trans ?_ (by assumption))))⟩
theorem eqNet_same (x : NetD) (w : World) : Calls Try.prog 98 #[.agg #[.int .i64 x.base, .int .i64 x.bits], .agg #[.int .i64 x.base, .int .i64 x.bits]] w fun e w' => e = .returned (.bool true) ∧ Ext w w' := by
  go_enter Try.func98, Try.ntmps98
  go_wp2
  go_ret
  exact ⟨rfl, (by repeat (first | (with_reducible exact Ext.refl _) | (with_reducible assumption) | (with_reducible refine Ext.alloc ?_ _) | (with_reducible refine Ext.drewN ?_ _) | (with_reducible refine Ext.drew ?_) | (with_reducible refine Ext.setCell ?_ ?_ _; rotate_left; (simp only []; omega)) | (with_reducible refine Ext.trans ?_ (by assumption))))⟩
theorem eqMappingS_same (a a' : Option Addr) (n c c' : Nat) (L : List MapD) (w : World) (hs : Sl encM 4 w a n c L) (hs' : Sl encM 4 w a' n c' L) :
    Calls Try.prog 99 #[.slice a n c, .slice a' n c'] w fun e w' => e = .returned (.bool true) ∧ Ext w w' := by
  have hle := hs.le
  have hmax := hs.max
  have HI := Lib.hid hs.maps
  have HJ := Lib.hid hs'.maps
  clear hs hs'
  go_enter Try.func99, Try.ntmps99
  go_wp2
  go_loopw [5] (fun i wr => ∃ k : Nat, k ≤ n ∧ i = .int .i64 k ∧ Ext w wr) (fun i _ => n - (intOf i).toNat)
  case atStart => exact ⟨0, Nat.zero_le _, rfl, Ext.refl _⟩
  case round =>
    obtain ⟨k, hk, rfl, hX⟩ := hrel
    by_cases hlt : k < n
    · obtain ⟨_, b, off, rfl, hb, hc⟩ := (HI.out).resolve_left (by omega)
      obtain ⟨_, b', off', rfl, hb', hc'⟩ := (HJ.out).resolve_left (by omega)
      obtain ⟨d0, d1, d2, d3⟩ := hc k hlt
      obtain ⟨e0, e1, e2, e3⟩ := hc' k hlt
      rw [← hX.cells _ _ hb] at d0 d1 d2 d3
      rw [← hX.cells _ _ hb'] at e0 e1 e2 e3
      have hbr : b < wr.heap.size := by have := hX.size; omega
      have hbr' : b' < wr.heap.size := by have := hX.size; omega
      have HX := Lib.hid hX
      clear hc hc' hX
      go_wp2_with fail
      have hdrS : ∀ W : World, W.drew.heap.size = W.heap.size := fun _ => rfl
      refine wp_region_eager (R := Ext) [0, 1, 2, 3, 4, 5, 6, 7, 8, 9] (by kernel_rfl) (by kernel_rfl) Ext.refl (fun _ _ _ => Ext.trans) ?_
      repeat' (first
        | (refine ChX.skip (by rfl) (by rfl) ?_
           (try simp only [Act.put, List.setIfInBounds_toArray, List.set_cons_zero, List.set_cons_succ]))
        | (refine' ChX.quiet (v := _) (by rfl) (by rfl) (by rfl) ?_ ?_
           rotate_left
           · (intro wS hS
              have hcS := Ext.cells hS
              go_simp
              with_reducible rfl)
           (try simp only [Act.put, List.setIfInBounds_toArray, List.set_cons_zero, List.set_cons_succ]))
        | (refine ChX.nil ?_)
        | (refine' ChX.guard (x := _) (by rfl) ?_ ?_ ?_
           rotate_left
           · (go_simp
              rfl)
           all_goals
             intro hg
             simp only [hg])
        | (refine' ChX.guardN (x := _) (by rfl) ?_ ?_ ?_
           rotate_left
           · (go_simp
              rfl)
           all_goals
             intro hg
             simp only [hg]))
      refine ChX.call (by rfl) (by rfl) (by rfl) (by go_simp; (constructor <;> rfl)) ?_
      refine (eqMapping_same (nth L k) _).mono ?_
      rintro e w1 ⟨rfl, hx1⟩
      refine ⟨_, rfl, hx1, ?_⟩
      (try simp only [Act.put, List.setIfInBounds_toArray, List.set_cons_zero, List.set_cons_succ])
      have hc1 := hx1.cells
      have hf1 := hx1.frozens
      have hy1 := hx1.size
      (try simp at hy1)
      repeat' (first
        | (refine ChX.skip (by rfl) (by rfl) ?_
           (try simp only [Act.put, List.setIfInBounds_toArray, List.set_cons_zero, List.set_cons_succ]))
        | (refine' ChX.quiet (v := _) (by rfl) (by rfl) (by rfl) ?_ ?_
           rotate_left
           · (intro wS hS
              have hcS := Ext.cells hS
              go_simp
              with_reducible rfl)
           (try simp only [Act.put, List.setIfInBounds_toArray, List.set_cons_zero, List.set_cons_succ]))
        | (refine ChX.nil ?_)
        | (refine' ChX.guard (x := _) (by rfl) ?_ ?_ ?_
           rotate_left
           · (go_simp
              rfl)
           all_goals
             intro hg
             simp only [hg])
        | (refine' ChX.guardN (x := _) (by rfl) ?_ ?_ ?_
           rotate_left
           · (go_simp
              rfl)
           all_goals
             intro hg
             simp only [hg]))
      go_wp2
      go_roundw
      case rel => exact ⟨k + 1, hlt, by go_num, (show Ext w wr from HX.out).trans (by repeat (first | (with_reducible exact Ext.refl _) | (with_reducible assumption) | (with_reducible refine Ext.alloc ?_ _) | (with_reducible refine Ext.drewN ?_ _) | (with_reducible refine Ext.drew ?_) | (with_reducible refine Ext.setCell ?_ ?_ _; rotate_left; (simp only []; omega)) | (with_reducible refine Ext.trans ?_ (by assumption))))⟩
      case measure => simp [intOf]; omega
    · have HX := Lib.hid hX
      clear hX
      go_wp2
      go_ret
      exact ⟨rfl, HX.out⟩
theorem eqContactS_same (a a' : Option Addr) (n c c' : Nat) (L : List ConD) (w : World) (hs : Sl encC 3 w a n c L) (hs' : Sl encC 3 w a' n c' L) :
    Calls Try.prog 100 #[.slice a n c, .slice a' n c'] w fun e w' => e = .returned (.bool true) ∧ Ext w w' := by
  have hle := hs.le
  have hmax := hs.max
  have HI := Lib.hid hs.cons
  have HJ := Lib.hid hs'.cons
  clear hs hs'
  go_enter Try.func100, Try.ntmps100
  go_wp2
  go_loopw [5] (fun i wr => ∃ k : Nat, k ≤ n ∧ i = .int .i64 k ∧ Ext w wr) (fun i _ => n - (intOf i).toNat)
  case atStart => exact ⟨0, Nat.zero_le _, rfl, Ext.refl _⟩
  case round =>
    obtain ⟨k, hk, rfl, hX⟩ := hrel
    by_cases hlt : k < n
    · obtain ⟨_, b, off, rfl, hb, hc⟩ := (HI.out).resolve_left (by omega)
      obtain ⟨_, b', off', rfl, hb', hc'⟩ := (HJ.out).resolve_left (by omega)
      obtain ⟨d0, d1, d2⟩ := hc k hlt
      obtain ⟨e0, e1, e2⟩ := hc' k hlt
      rw [← hX.cells _ _ hb] at d0 d1 d2
      rw [← hX.cells _ _ hb'] at e0 e1 e2
      have hbr : b < wr.heap.size := by have := hX.size; omega
      have hbr' : b' < wr.heap.size := by have := hX.size; omega
      have HX := Lib.hid hX
      clear hc hc' hX
      go_wp2_with fail
      have hdrS : ∀ W : World, W.drew.heap.size = W.heap.size := fun _ => rfl
      refine wp_region_eager (R := Ext) [0, 1, 2, 3, 4, 5, 6, 7, 8, 9] (by kernel_rfl) (by kernel_rfl) Ext.refl (fun _ _ _ => Ext.trans) ?_
      repeat' (first
        | (refine ChX.skip (by rfl) (by rfl) ?_
           (try simp only [Act.put, List.setIfInBounds_toArray, List.set_cons_zero, List.set_cons_succ]))
        | (refine' ChX.quiet (v := _) (by rfl) (by rfl) (by rfl) ?_ ?_
           rotate_left
           · (intro wS hS
              have hcS := Ext.cells hS
              go_simp
              with_reducible rfl)
           (try simp only [Act.put, List.setIfInBounds_toArray, List.set_cons_zero, List.set_cons_succ]))
        | (refine ChX.nil ?_)
        | (refine' ChX.guard (x := _) (by rfl) ?_ ?_ ?_
           rotate_left
           · (go_simp
              rfl)
           all_goals
             intro hg
             simp only [hg])
        | (refine' ChX.guardN (x := _) (by rfl) ?_ ?_ ?_
           rotate_left
           · (go_simp
              rfl)
           all_goals
             intro hg
             simp only [hg]))
      refine ChX.call (by rfl) (by rfl) (by rfl) (by go_simp; (constructor <;> rfl)) ?_
      refine (eqContact_same (nth L k) _).mono ?_
      rintro e w1 ⟨rfl, hx1⟩
      refine ⟨_, rfl, hx1, ?_⟩
      (try simp only [Act.put, List.setIfInBounds_toArray, List.set_cons_zero, List.set_cons_succ])
      have hc1 := hx1.cells
      have hf1 := hx1.frozens
      have hy1 := hx1.size
      (try simp at hy1)
      repeat' (first
        | (refine ChX.skip (by rfl) (by rfl) ?_
           (try simp only [Act.put, List.setIfInBounds_toArray, List.set_cons_zero, List.set_cons_succ]))
        | (refine' ChX.quiet (v := _) (by rfl) (by rfl) (by rfl) ?_ ?_
           rotate_left
           · (intro wS hS
              have hcS := Ext.cells hS
              go_simp
              with_reducible rfl)
           (try simp only [Act.put, List.setIfInBounds_toArray, List.set_cons_zero, List.set_cons_succ]))
        | (refine ChX.nil ?_)
        | (refine' ChX.guard (x := _) (by rfl) ?_ ?_ ?_
           rotate_left
           · (go_simp
              rfl)
           all_goals
             intro hg
             simp only [hg])
        | (refine' ChX.guardN (x := _) (by rfl) ?_ ?_ ?_
           rotate_left
           · (go_simp
              rfl)
           all_goals
             intro hg
             simp only [hg]))
      go_wp2
      go_roundw
      case rel => exact ⟨k + 1, hlt, by go_num, (show Ext w wr from HX.out).trans (by repeat (first | (with_reducible exact Ext.refl _) | (with_reducible assumption) | (with_reducible refine Ext.alloc ?_ _) | (with_reducible refine Ext.drewN ?_ _) | (with_reducible refine Ext.drew ?_) | (with_reducible refine Ext.setCell ?_ ?_ _; rotate_left; (simp only []; omega)) | (with_reducible refine Ext.trans ?_ (by assumption))))⟩
      case measure => simp [intOf]; omega
    · have HX := Lib.hid hX
      clear hX
      go_wp2
      go_ret
      exact ⟨rfl, HX.out⟩
set_option maxHeartbeats 1000000 in
theorem eqGate_same (g : GateD) (ta : Option Addr) (tn tc : Nat) (ka : Option Addr) (kn kc : Nat) (sa : Option Addr) (sc : Nat) (qa : Option Addr) (qc : Nat) (w : World)
    (ht : Sl encM 4 w ta tn tc g.table) (hk : Sl encC 3 w ka kn kc g.cons) (hs : Sl encM 4 w sa tn sc g.table) (hq : Sl encC 3 w qa kn qc g.cons) :
    Calls Try.prog 38 #[.agg #[.int .i64 g.net.base, .int .i64 g.net.bits, .int .i64 g.out, .slice ta tn tc, .slice ka kn kc, .int .i64 g.filter, .int .i64 g.hold, .int .i64 g.now], .agg #[.int .i64 g.net.base, .int .i64 g.net.bits, .int .i64 g.out, .slice sa tn sc, .slice qa kn qc, .int .i64 g.filter, .int .i64 g.hold, .int .i64 g.now]] w fun e w' => e = .returned (.bool true) ∧ Ext w w' := by
  go_enter Try.func38, Try.ntmps38
  go_wp2_with (first | (go_at_call 98; refine (eqNet_same g.net _).mono ?_; rintro e w1 ⟨rfl, hx⟩; have hc := hx.cells; have hf := hx.frozens; have hy := hx.size; (try simp at hy); have hz : w.heap.size < w1.heap.size ∧ w.heap.size + 1 < w1.heap.size := (by omega)) | (go_at_call 99; refine (eqMappingS_same _ _ tn tc sc g.table _ (by exact ht.ext (by repeat (first | (with_reducible exact Ext.refl _) | (with_reducible assumption) | (with_reducible refine Ext.alloc ?_ _) | (with_reducible refine Ext.drewN ?_ _) | (with_reducible refine Ext.drew ?_) | (with_reducible refine Ext.setCell ?_ ?_ _; rotate_left; (simp only []; omega)) | (with_reducible refine Ext.trans ?_ (by assumption))))) (by exact hs.ext (by repeat (first | (with_reducible exact Ext.refl _) | (with_reducible assumption) | (with_reducible refine Ext.alloc ?_ _) | (with_reducible refine Ext.drewN ?_ _) | (with_reducible refine Ext.drew ?_) | (with_reducible refine Ext.setCell ?_ ?_ _; rotate_left; (simp only []; omega)) | (with_reducible refine Ext.trans ?_ (by assumption)))))).mono ?_; rintro e w1 ⟨rfl, hx⟩; have hc := hx.cells; have hf := hx.frozens; have hy := hx.size; (try simp at hy); have hz : w.heap.size < w1.heap.size ∧ w.heap.size + 1 < w1.heap.size := (by omega)) | (go_at_call 100; refine (eqContactS_same _ _ kn kc qc g.cons _ (by exact hk.ext (by repeat (first | (with_reducible exact Ext.refl _) | (with_reducible assumption) | (with_reducible refine Ext.alloc ?_ _) | (with_reducible refine Ext.drewN ?_ _) | (with_reducible refine Ext.drew ?_) | (with_reducible refine Ext.setCell ?_ ?_ _; rotate_left; (simp only []; omega)) | (with_reducible refine Ext.trans ?_ (by assumption))))) (by exact hq.ext (by repeat (first | (with_reducible exact Ext.refl _) | (with_reducible assumption) | (with_reducible refine Ext.alloc ?_ _) | (with_reducible refine Ext.drewN ?_ _) | (with_reducible refine Ext.drew ?_) | (with_reducible refine Ext.setCell ?_ ?_ _; rotate_left; (simp only []; omega)) | (with_reducible refine Ext.trans ?_ (by assumption)))))).mono ?_; rintro e w1 ⟨rfl, hx⟩; have hc := hx.cells; have hf := hx.frozens; have hy := hx.size; (try simp at hy); have hz : w.heap.size < w1.heap.size ∧ w.heap.size + 1 < w1.heap.size := (by omega)))
  go_ret
  exact ⟨rfl, (by repeat (first | (with_reducible exact Ext.refl _) | (with_reducible assumption) | (with_reducible refine Ext.alloc ?_ _) | (with_reducible refine Ext.drewN ?_ _) | (with_reducible refine Ext.drew ?_) | (with_reducible refine Ext.setCell ?_ ?_ _; rotate_left; (simp only []; omega)) | (with_reducible refine Ext.trans ?_ (by assumption))))⟩
theorem szGate_any (g : GateD) (ta : Option Addr) (tn tc : Nat) (ka : Option Addr) (kn kc : Nat) (left : Int) (w : World) (h0 : 0 ≤ left) (h1 : left ≤ 1048576) (ht : (tn : Int) ≤ 9223372036854775807) (hk : (kn : Int) ≤ 9223372036854775807) :
    Calls Try.prog 31 #[.agg #[.int .i64 g.net.base, .int .i64 g.net.bits, .int .i64 g.out, .slice ta tn tc, .slice ka kn kc, .int .i64 g.filter, .int .i64 g.hold, .int .i64 g.now], .int .i64 left] w fun e w' => e = .returned (.int .i64 (if (tn : Int) + kn ≤ left then left - tn - kn else -1)) ∧ Ext w w' := by
  by_cases h2 : (tn : Int) ≤ left
  · have c1 := szMappingS_any ta tn tc left
    have c2 := szContactS_any ka kn kc (left - tn)
    rw [if_pos h2] at c1
    by_cases h3 : (kn : Int) ≤ left - tn
    · rw [if_pos (by omega)]
      rw [if_pos h3] at c2
      go_enter Try.func31, Try.ntmps31
      go_wp2_with (first | (go_at_call 87; refine (c1 _ h0 h1 ht).mono ?_; rintro e w' ⟨rfl, rfl⟩) | (go_at_call 88; refine (c2 _ (by omega) (by omega) hk).mono ?_; rintro e w' ⟨rfl, rfl⟩))
      go_ret
      exact ⟨rfl, (by repeat (first | (with_reducible exact Ext.refl _) | (with_reducible assumption) | (with_reducible refine Ext.alloc ?_ _) | (with_reducible refine Ext.drewN ?_ _) | (with_reducible refine Ext.drew ?_) | (with_reducible refine Ext.setCell ?_ ?_ _; rotate_left; (simp only []; omega)) | (with_reducible refine Ext.trans ?_ (by assumption))))⟩
    · rw [if_neg (by omega)]
      rw [if_neg h3] at c2
      go_enter Try.func31, Try.ntmps31
      go_wp2_with (first | (go_at_call 87; refine (c1 _ h0 h1 ht).mono ?_; rintro e w' ⟨rfl, rfl⟩) | (go_at_call 88; refine (c2 _ (by omega) (by omega) hk).mono ?_; rintro e w' ⟨rfl, rfl⟩))
      go_ret
      exact ⟨rfl, (by repeat (first | (with_reducible exact Ext.refl _) | (with_reducible assumption) | (with_reducible refine Ext.alloc ?_ _) | (with_reducible refine Ext.drewN ?_ _) | (with_reducible refine Ext.drew ?_) | (with_reducible refine Ext.setCell ?_ ?_ _; rotate_left; (simp only []; omega)) | (with_reducible refine Ext.trans ?_ (by assumption))))⟩
  · have c1 := szMappingS_any ta tn tc left
    rw [if_neg h2] at c1
    rw [if_neg (by omega)]
    go_enter Try.func31, Try.ntmps31
    go_wp2_with (go_at_call 87; refine (c1 _ h0 h1 ht).mono ?_; rintro e w' ⟨rfl, rfl⟩)
    go_ret
    exact ⟨rfl, (by repeat (first | (with_reducible exact Ext.refl _) | (with_reducible assumption) | (with_reducible refine Ext.alloc ?_ _) | (with_reducible refine Ext.drewN ?_ _) | (with_reducible refine Ext.drew ?_) | (with_reducible refine Ext.setCell ?_ ?_ _; rotate_left; (simp only []; omega)) | (with_reducible refine Ext.trans ?_ (by assumption))))⟩
set_option maxHeartbeats 1000000 in
theorem toGate_any (g : GateD) (ta : Option Addr) (tn tc : Nat) (ka : Option Addr) (kn kc : Nat) (w : World) (ht : Sl encM 4 w ta tn tc g.table) (hk : Sl encC 3 w ka kn kc g.cons) (h1 : tn ≤ 1048576) (h2 : kn ≤ 1048576) :
    Calls Try.prog 34 #[.agg #[.int .i64 g.net.base, .int .i64 g.net.bits, .int .i64 g.out, .slice ta tn tc, .slice ka kn kc, .int .i64 g.filter, .int .i64 g.hold, .int .i64 g.now]] w fun e w' => ∃ sa qa, e = .returned (.agg #[.int .i64 g.net.base, .int .i64 g.net.bits, .int .i64 g.out, .slice sa tn tn, .slice qa kn kn, .int .i64 g.filter, .int .i64 g.hold, .int .i64 g.now]) ∧
      Ow 89 encM 4 w.heap.size w' sa tn tn g.table ∧ Ow 47 encC 3 w.heap.size w' qa kn kn g.cons ∧ Ext w w' := by
  go_enter Try.func34, Try.ntmps34
  go_wp2_with fail
  refine (toNet_any _ _ _).mono ?_
  rintro e w1 ⟨rfl, hx1⟩
  have hc1 := hx1.cells
  have hf1 := hx1.frozens
  have hy1 := hx1.size
  (try simp at hy1)
  have hz1 : w.heap.size < w1.heap.size ∧ w.heap.size + 1 < w1.heap.size ∧ w.heap.size + 2 < w1.heap.size := (by omega)
  go_wp2_with fail
  refine (toMappingS_any ta tn tc g.table _ (by exact ht.ext (by repeat (first | (with_reducible exact Ext.refl _) | (with_reducible assumption) | (with_reducible refine Ext.alloc ?_ _) | (with_reducible refine Ext.drewN ?_ _) | (with_reducible refine Ext.drew ?_) | (with_reducible refine Ext.setCell ?_ ?_ _; rotate_left; (simp only []; omega)) | (with_reducible refine Ext.trans ?_ (by assumption))))) h1).mono ?_
  rintro e w2 ⟨sa, rfl, hoM, hx2⟩
  have hc2 := hx2.cells
  have hf2 := hx2.frozens
  have hy2 := hx2.size
  (try simp at hy2)
  have hz2 : w.heap.size < w2.heap.size ∧ w.heap.size + 1 < w2.heap.size ∧ w.heap.size + 2 < w2.heap.size := (by omega)
  have HM := Lib.hid (hoM.rebase (b' := w.heap.size + 3) (by simp; omega))
  clear hoM
  go_wp2_with fail
  refine (toContactS_any ka kn kc g.cons _ (by exact hk.ext (by repeat (first | (with_reducible exact Ext.refl _) | (with_reducible assumption) | (with_reducible refine Ext.alloc ?_ _) | (with_reducible refine Ext.drewN ?_ _) | (with_reducible refine Ext.drew ?_) | (with_reducible refine Ext.setCell ?_ ?_ _; rotate_left; (simp only []; omega)) | (with_reducible refine Ext.trans ?_ (by assumption))))) h2).mono ?_
  rintro e w3 ⟨qa, rfl, hoC, hx3⟩
  have hc3 := hx3.cells
  have hf3 := hx3.frozens
  have hy3 := hx3.size
  (try simp at hy3)
  have hz3 : w.heap.size < w3.heap.size ∧ w.heap.size + 1 < w3.heap.size ∧ w.heap.size + 2 < w3.heap.size := (by omega)
  have HC := Lib.hid (hoC.rebase (b' := w.heap.size + 3) (by simp; omega))
  clear hoC
  have HM3 : RowKit.Hid (Ow 89 encM 4 (w.heap.size + 3) w3 sa tn tn g.table) := by
    refine Lib.hid (Ow.ext ?_ hx3)
    repeat (refine Ow.setBelow ?_ (by simp only []; omega) _)
    exact HM.out
  go_wp2
  refine' bodyPost_ret (v := _) ?_ rfl ?_
  rotate_left
  · (simp only [results, Try.results34]
     go_simp
     rfl)
  refine ⟨sa, qa, rfl, ?_, ?_, (by repeat (first | (with_reducible exact Ext.refl _) | (with_reducible assumption) | (with_reducible refine Ext.alloc ?_ _) | (with_reducible refine Ext.drewN ?_ _) | (with_reducible refine Ext.drew ?_) | (with_reducible refine Ext.setCell ?_ ?_ _; rotate_left; (simp only []; omega)) | (with_reducible refine Ext.trans ?_ (by assumption))))⟩
  · refine Ow.rebase (base := w.heap.size + 3) ?_ (by omega)
    repeat (refine Ow.setBelow ?_ (by simp only []; omega) _)
    exact HM3.out
  · refine Ow.rebase (base := w.heap.size + 3) ?_ (by omega)
    repeat (refine Ow.setBelow ?_ (by simp only []; omega) _)
    exact HC.out
end Go.Proofs.Ytppdcglnopoocaa
/- Contracts of the exact laws' own marks on gates. -/
namespace Go.Proofs.Ytppdcglnopoocaa
set_option linter.unusedVariables false
set_option linter.unusedSimpArgs false
open Go.RowKit

def marksM (m : Int) (n : Nat) : List MapD := (List.range n).map fun (i : Nat) => ⟨⟨m + 4 * i, m + 4 * i + 1⟩, m + 4 * i + 1 + 1, m + 4 * i + 1 + 1 + 1⟩
def marksC (m : Int) (n : Nat) : List ConD := (List.range n).map fun (i : Nat) => ⟨m + 3 * i, ⟨m + 3 * i + 1, m + 3 * i + 1 + 1⟩⟩
theorem marksM_len (m : Int) (n : Nat) : (marksM m n).length = n := by simp [marksM]
theorem marksC_len (m : Int) (n : Nat) : (marksC m n).length = n := by simp [marksC]
theorem marksM_nth {m : Int} {n i : Nat} (h : i < n) : nth (marksM m n) i = ⟨⟨m + 4 * i, m + 4 * i + 1⟩, m + 4 * i + 1 + 1, m + 4 * i + 1 + 1 + 1⟩ := nth_of (by simp [marksM, h])
theorem marksC_nth {m : Int} {n i : Nat} (h : i < n) : nth (marksC m n) i = ⟨m + 3 * i, ⟨m + 3 * i + 1, m + 3 * i + 1 + 1⟩⟩ := nth_of (by simp [marksC, h])
theorem putM {cur : Array Value} {i : Nat} {K : List MapD} {x : MapD} (hlt : i * 4 + 3 < cur.size) (h2 : cur.toList.take (i * 4) = K.flatMap encM) :
    ((((cur.setIfInBounds (i * 4) (.int .i64 x.ins.addr)).setIfInBounds (i * 4 + 1) (.int .i64 x.ins.port)).setIfInBounds (i * 4 + 2) (.int .i64 x.port)).setIfInBounds (i * 4 + 3) (.int .i64 x.last)).toList.take ((i + 1) * 4) = (K ++ [x]).flatMap encM := by
  rw [show (i + 1) * 4 = i * 4 + 3 + 1 by omega]
  simp only [Array.toList_setIfInBounds]
  rw [set_take (by simp; omega), set_take (by simp; omega), set_take (by simp; omega), set_take (by simp; omega), h2]
  simp [encM]
theorem putC {cur : Array Value} {i : Nat} {K : List ConD} {x : ConD} (hlt : i * 3 + 2 < cur.size) (h2 : cur.toList.take (i * 3) = K.flatMap encC) :
    (((cur.setIfInBounds (i * 3) (.int .i64 x.port)).setIfInBounds (i * 3 + 1) (.int .i64 x.to_.addr)).setIfInBounds (i * 3 + 2) (.int .i64 x.to_.port)).toList.take ((i + 1) * 3) = (K ++ [x]).flatMap encC := by
  rw [show (i + 1) * 3 = i * 3 + 2 + 1 by omega]
  simp only [Array.toList_setIfInBounds]
  rw [set_take (by simp; omega), set_take (by simp; omega), set_take (by simp; omega), h2]
  simp [encC]
theorem grown_set {w wr : World} {g o : Nat} (h : w.grownBy wr (some g)) (v : Value) : w.grownBy (wr.setCell ⟨g, o, none⟩ v) (some g) :=
  World.grownBy.trans h ⟨rfl, rfl, rfl, by simp [World.setCell], fun i _ hne => Below.heap_setCell wr ⟨g, o, none⟩ _ i (fun e => hne (by rw [e]))⟩
theorem heldMappingS_any (a : Option Addr) (n c : Nat) (m : Int) (w : World) (hs : Sl encM 4 w a n c (marksM m n)) (h0 : 0 ≤ m) (h1 : m ≤ 100000000) (hn : n ≤ 1048576) :
    Calls Try.prog 113 #[.slice a n c, .int .i64 m] w fun e w' => e = .returned (.int .i64 (m + 4 * n)) ∧ w = w' := by
  have hle := hs.le
  have hmax := hs.max
  have HI := Lib.hid hs.maps
  clear hs
  go_enter Try.func113, Try.ntmps113
  go_wp2
  go_loop [1, 5] (fun t i => ∃ k : Nat, k ≤ n ∧ i = .int .i64 k ∧ t = .int .i64 (m + 4 * k)) (fun _ i => n - (intOf i).toNat)
  case atStart => exact ⟨0, Nat.zero_le _, rfl, by simp⟩
  case round =>
    obtain ⟨k, hk, rfl, rfl⟩ := hrel
    by_cases hlt : k < n
    · obtain ⟨_, b, off, rfl, hb, hc⟩ := (HI.out).resolve_left (by omega)
      obtain ⟨c0, c1, c2, c3⟩ := hc k hlt
      rw [marksM_nth hlt] at c0 c1 c2 c3
      clear hc
      go_wp2
      go_round
      case rel => exact ⟨k + 1, by omega, by go_num, by congr 1; omega⟩
      case measure => simp [intOf]; omega
    · have e : k = n := by omega
      subst e
      go_wp2
      go_ret
      exact ⟨rfl, rfl⟩
theorem heldContactS_any (a : Option Addr) (n c : Nat) (m : Int) (w : World) (hs : Sl encC 3 w a n c (marksC m n)) (h0 : 0 ≤ m) (h1 : m ≤ 100000000) (hn : n ≤ 1048576) :
    Calls Try.prog 114 #[.slice a n c, .int .i64 m] w fun e w' => e = .returned (.int .i64 (m + 3 * n)) ∧ w = w' := by
  have hle := hs.le
  have hmax := hs.max
  have HI := Lib.hid hs.cons
  clear hs
  go_enter Try.func114, Try.ntmps114
  go_wp2
  go_loop [1, 5] (fun t i => ∃ k : Nat, k ≤ n ∧ i = .int .i64 k ∧ t = .int .i64 (m + 3 * k)) (fun _ i => n - (intOf i).toNat)
  case atStart => exact ⟨0, Nat.zero_le _, rfl, by simp⟩
  case round =>
    obtain ⟨k, hk, rfl, rfl⟩ := hrel
    by_cases hlt : k < n
    · obtain ⟨_, b, off, rfl, hb, hc⟩ := (HI.out).resolve_left (by omega)
      obtain ⟨c0, c1, c2⟩ := hc k hlt
      rw [marksC_nth hlt] at c0 c1 c2
      clear hc
      go_wp2
      go_round
      case rel => exact ⟨k + 1, by omega, by go_num, by congr 1; omega⟩
      case measure => simp [intOf]; omega
    · have e : k = n := by omega
      subst e
      go_wp2
      go_ret
      exact ⟨rfl, rfl⟩
theorem markMappingS_any (a : Option Addr) (n c base : Nat) (L : List MapD) (m : Int) (w : World) (hs : Ow 89 encM 4 base w a n c L) (h0 : 0 ≤ m) (h1 : m ≤ 100000000) (hn : n ≤ 1048576) :
    Calls Try.prog 101 #[.slice a n c, .int .i64 m] w fun e w' => e = .returned (.int .i64 (m + 4 * n)) ∧ Ow 89 encM 4 base w' a n c (marksM m n) ∧ w.grownBy w' (a.map (·.block)) := by
  have hle := (hs.sl encM_len).le
  have hmax := (hs.sl encM_len).max
  obtain ⟨hl, ⟨rfl, hn0, hc0⟩ | ⟨g, cur0, rfl, hg, hgB, hnc, hcm, hcs, ht⟩⟩ := hs
  · subst hn0
    go_enter Try.func101, Try.ntmps101
    go_wp2
    go_loop [1, 5] (fun t i => i = .int .i64 0 ∧ t = .int .i64 m) (fun _ _ => 0)
    case atStart => exact ⟨rfl, rfl⟩
    case round =>
      obtain ⟨rfl, rfl⟩ := hrel
      go_wp2
      go_ret
      exact ⟨ret_int (by simp), ⟨rfl, .inl ⟨rfl, rfl, by first | rfl | exact hc0⟩⟩, World.grownBy.refl w _⟩
  · have HC := Lib.hid hcs
    have HB0 := Lib.hid (show Blk w g 89 cur0 from hgB)
    have hbs : base ≤ g := hg
    clear hl ht hgB hcs
    go_enter Try.func101, Try.ntmps101
    go_wp2
    go_loopw [1, 5] (fun t i wr => ∃ (k : Nat) (cur : Array Value), k ≤ n ∧ i = .int .i64 k ∧ t = .int .i64 (m + 4 * k) ∧ Blk wr g 89 cur ∧ cur.size = cur0.size ∧ cur.toList.take (k * 4) = ((marksM m n).take k).flatMap encM ∧ w.grownBy wr (some g)) (fun _ i _ => n - (intOf i).toNat)
    case atStart => exact ⟨0, cur0, Nat.zero_le _, rfl, by simp, HB0.out, rfl, by simp, World.grownBy.refl w _⟩
    case round =>
      obtain ⟨k, cur, hk, rfl, rfl, hB, hcz, hct, hX⟩ := hrel
      by_cases hlt : k < n
      · have hks : k * 4 + 3 < cur.size := by rw [hcz]; have := HC.out; omega
        obtain ⟨v0, c0⟩ : ∃ v, wr.cell? ⟨g, k * 4, none⟩ = some v := ⟨_, by rw [hB.cells]; exact Array.getElem?_eq_getElem (by omega)⟩
        obtain ⟨v1, c1⟩ : ∃ v, wr.cell? ⟨g, k * 4 + 1, none⟩ = some v := ⟨_, by rw [hB.cells]; exact Array.getElem?_eq_getElem (by omega)⟩
        obtain ⟨v2, c2⟩ : ∃ v, wr.cell? ⟨g, k * 4 + 2, none⟩ = some v := ⟨_, by rw [hB.cells]; exact Array.getElem?_eq_getElem (by omega)⟩
        obtain ⟨v3, c3⟩ : ∃ v, wr.cell? ⟨g, k * 4 + 3, none⟩ = some v := ⟨_, by rw [hB.cells]; exact Array.getElem?_eq_getElem (by omega)⟩
        have fB := hB.frozens
        have ST := Lib.hid hct
        have HZ2 := Lib.hid hcz
        have HX := Lib.hid hX
        have hmk := Lib.hid (marksM_nth (m := m) hlt)
        clear hct hcz hX
        go_wp2
        go_roundw
        case rel =>
          refine ⟨k + 1, _, by omega, by go_num, by congr 1; omega, (((hB.set _ _).set _ _).set _ _).set _ _, by simpa using HZ2.out, ?_, grown_set (grown_set (grown_set (grown_set HX.out _) _) _) _⟩
          have h := putM (x := nth (marksM m n) k) hks ST.out
          rw [← take_succ (by rw [marksM_len]; omega), hmk.out] at h
          exact h
        case measure => simp [intOf]; omega
      · have e : k = n := by omega
        subst e
        have HF := Lib.hid (show Ow 89 encM 4 base wr (some ⟨g, 0, none⟩) k c (marksM m k) by
          refine ⟨marksM_len _ _, .inr ⟨g, cur, rfl, hbs, hB, hnc, hcm, by rw [hcz]; exact HC.out, ?_⟩⟩
          rw [hct, List.take_of_length_le (by rw [marksM_len]; omega)])
        have HX := Lib.hid hX
        clear hcz hct hX
        go_wp2
        go_ret
        exact ⟨rfl, HF.out, HX.out⟩
theorem markContactS_any (a : Option Addr) (n c base : Nat) (L : List ConD) (m : Int) (w : World) (hs : Ow 47 encC 3 base w a n c L) (h0 : 0 ≤ m) (h1 : m ≤ 100000000) (hn : n ≤ 1048576) :
    Calls Try.prog 102 #[.slice a n c, .int .i64 m] w fun e w' => e = .returned (.int .i64 (m + 3 * n)) ∧ Ow 47 encC 3 base w' a n c (marksC m n) ∧ w.grownBy w' (a.map (·.block)) := by
  have hle := (hs.sl encC_len).le
  have hmax := (hs.sl encC_len).max
  obtain ⟨hl, ⟨rfl, hn0, hc0⟩ | ⟨g, cur0, rfl, hg, hgB, hnc, hcm, hcs, ht⟩⟩ := hs
  · subst hn0
    go_enter Try.func102, Try.ntmps102
    go_wp2
    go_loop [1, 5] (fun t i => i = .int .i64 0 ∧ t = .int .i64 m) (fun _ _ => 0)
    case atStart => exact ⟨rfl, rfl⟩
    case round =>
      obtain ⟨rfl, rfl⟩ := hrel
      go_wp2
      go_ret
      exact ⟨ret_int (by simp), ⟨rfl, .inl ⟨rfl, rfl, by first | rfl | exact hc0⟩⟩, World.grownBy.refl w _⟩
  · have HC := Lib.hid hcs
    have HB0 := Lib.hid (show Blk w g 47 cur0 from hgB)
    have hbs : base ≤ g := hg
    clear hl ht hgB hcs
    go_enter Try.func102, Try.ntmps102
    go_wp2
    go_loopw [1, 5] (fun t i wr => ∃ (k : Nat) (cur : Array Value), k ≤ n ∧ i = .int .i64 k ∧ t = .int .i64 (m + 3 * k) ∧ Blk wr g 47 cur ∧ cur.size = cur0.size ∧ cur.toList.take (k * 3) = ((marksC m n).take k).flatMap encC ∧ w.grownBy wr (some g)) (fun _ i _ => n - (intOf i).toNat)
    case atStart => exact ⟨0, cur0, Nat.zero_le _, rfl, by simp, HB0.out, rfl, by simp, World.grownBy.refl w _⟩
    case round =>
      obtain ⟨k, cur, hk, rfl, rfl, hB, hcz, hct, hX⟩ := hrel
      by_cases hlt : k < n
      · have hks : k * 3 + 2 < cur.size := by rw [hcz]; have := HC.out; omega
        obtain ⟨v0, c0⟩ : ∃ v, wr.cell? ⟨g, k * 3, none⟩ = some v := ⟨_, by rw [hB.cells]; exact Array.getElem?_eq_getElem (by omega)⟩
        obtain ⟨v1, c1⟩ : ∃ v, wr.cell? ⟨g, k * 3 + 1, none⟩ = some v := ⟨_, by rw [hB.cells]; exact Array.getElem?_eq_getElem (by omega)⟩
        obtain ⟨v2, c2⟩ : ∃ v, wr.cell? ⟨g, k * 3 + 2, none⟩ = some v := ⟨_, by rw [hB.cells]; exact Array.getElem?_eq_getElem (by omega)⟩
        have fB := hB.frozens
        have ST := Lib.hid hct
        have HZ2 := Lib.hid hcz
        have HX := Lib.hid hX
        have hmk := Lib.hid (marksC_nth (m := m) hlt)
        clear hct hcz hX
        go_wp2
        go_roundw
        case rel =>
          refine ⟨k + 1, _, by omega, by go_num, by congr 1; omega, ((hB.set _ _).set _ _).set _ _, by simpa using HZ2.out, ?_, grown_set (grown_set (grown_set HX.out _) _) _⟩
          have h := putC (x := nth (marksC m n) k) hks ST.out
          rw [← take_succ (by rw [marksC_len]; omega), hmk.out] at h
          exact h
        case measure => simp [intOf]; omega
      · have e : k = n := by omega
        subst e
        have HF := Lib.hid (show Ow 47 encC 3 base wr (some ⟨g, 0, none⟩) k c (marksC m k) by
          refine ⟨marksC_len _ _, .inr ⟨g, cur, rfl, hbs, hB, hnc, hcm, by rw [hcz]; exact HC.out, ?_⟩⟩
          rw [hct, List.take_of_length_le (by rw [marksC_len]; omega)])
        have HX := Lib.hid hX
        clear hcz hct hX
        go_wp2
        go_ret
        exact ⟨rfl, HF.out, HX.out⟩
theorem heldGate_any (b i o f d t : Int) (ta : Option Addr) (tn tc : Nat) (ka : Option Addr) (kn kc : Nat) (m : Int) (w : World) (ht : Sl encM 4 w ta tn tc (marksM m tn)) (hk : Sl encC 3 w ka kn kc (marksC (m + 4 * tn) kn)) (h0 : 0 ≤ m) (h1 : m ≤ 10000000) (hn : tn ≤ 1048576) (hn2 : kn ≤ 1048576) :
    Calls Try.prog 53 #[.agg #[.int .i64 b, .int .i64 i, .int .i64 o, .slice ta tn tc, .slice ka kn kc, .int .i64 f, .int .i64 d, .int .i64 t], .int .i64 m] w fun e w' => e = .returned (.int .i64 (m + 4 * tn + 3 * kn)) ∧ Ext w w' := by
  have g1 : ¬ m + 4 * (tn : Int) < 0 := by omega
  have g2 : ¬ m + 4 * (tn : Int) + 3 * (kn : Int) < 0 := by omega
  go_enter Try.func53, Try.ntmps53
  go_wp2_with (first | (go_at_call 113; refine (heldMappingS_any ta tn tc m _ (by exact ht.ext (by repeat (first | (with_reducible exact Ext.refl _) | (with_reducible assumption) | (with_reducible refine Ext.alloc ?_ _) | (with_reducible refine Ext.drewN ?_ _) | (with_reducible refine Ext.drew ?_) | (with_reducible refine Ext.setCell ?_ ?_ _; rotate_left; (simp only []; omega)) | (with_reducible refine Ext.trans ?_ (by assumption))))) h0 (by omega) hn).mono ?_; rintro e w' ⟨rfl, rfl⟩) | (go_at_call 114; refine (heldContactS_any ka kn kc (m + 4 * tn) _ (by exact hk.ext (by repeat (first | (with_reducible exact Ext.refl _) | (with_reducible assumption) | (with_reducible refine Ext.alloc ?_ _) | (with_reducible refine Ext.drewN ?_ _) | (with_reducible refine Ext.drew ?_) | (with_reducible refine Ext.setCell ?_ ?_ _; rotate_left; (simp only []; omega)) | (with_reducible refine Ext.trans ?_ (by assumption))))) (by omega) (by omega) hn2).mono ?_; rintro e w' ⟨rfl, rfl⟩))
  go_ret
  exact ⟨rfl, (by repeat (first | (with_reducible exact Ext.refl _) | (with_reducible assumption) | (with_reducible refine Ext.alloc ?_ _) | (with_reducible refine Ext.drewN ?_ _) | (with_reducible refine Ext.drew ?_) | (with_reducible refine Ext.setCell ?_ ?_ _; rotate_left; (simp only []; omega)) | (with_reducible refine Ext.trans ?_ (by assumption))))⟩
theorem markGate_any (b i o f d t : Int) (ta : Option Addr) (tn tc base : Nat) (L : List MapD) (ka : Option Addr) (kn kc base' : Nat) (K : List ConD) (m : Int) (w : World) (ht : Ow 89 encM 4 base w ta tn tc L) (hk : Ow 47 encC 3 base' w ka kn kc K) (h0 : 0 ≤ m) (h1 : m ≤ 10000000) (hn : tn ≤ 1048576) (hn2 : kn ≤ 1048576) :
    Calls Try.prog 39 #[.agg #[.int .i64 b, .int .i64 i, .int .i64 o, .slice ta tn tc, .slice ka kn kc, .int .i64 f, .int .i64 d, .int .i64 t], .int .i64 m] w fun e w' => e = .returned (.int .i64 (m + 4 * tn + 3 * kn)) ∧
      Ow 89 encM 4 base w' ta tn tc (marksM m tn) ∧ Ow 47 encC 3 base' w' ka kn kc (marksC (m + 4 * tn) kn) ∧ ∃ v, w.grownBy v (ta.map (·.block)) ∧ v.grownBy w' (ka.map (·.block)) := by
  have hap := ht.apart hk (by decide)
  have lT := ht.lt
  have HT := Lib.hid ht
  have HK := Lib.hid hk
  clear ht hk
  go_enter Try.func39, Try.ntmps39
  go_wp2_with fail
  refine (markMappingS_any ta tn tc base L m _ (by exact HT.out.ext (by repeat (first | (with_reducible exact Ext.refl _) | (with_reducible assumption) | (with_reducible refine Ext.alloc ?_ _) | (with_reducible refine Ext.drewN ?_ _) | (with_reducible refine Ext.drew ?_) | (with_reducible refine Ext.setCell ?_ ?_ _; rotate_left; (simp only []; omega)) | (with_reducible refine Ext.trans ?_ (by assumption))))) h0 (by omega) hn).mono ?_
  rintro e w1 ⟨rfl, how, hg⟩
  have HO := Lib.hid how
  have HG := Lib.hid (World.grownBy.trans (grown_ext (r := ta.map (·.block)) (show Ext w _ from (by repeat (first | (with_reducible exact Ext.refl _) | (with_reducible assumption) | (with_reducible refine Ext.alloc ?_ _) | (with_reducible refine Ext.drewN ?_ _) | (with_reducible refine Ext.drew ?_) | (with_reducible refine Ext.setCell ?_ ?_ _; rotate_left; (simp only []; omega)) | (with_reducible refine Ext.trans ?_ (by assumption)))))) hg)
  have BX : Blk w1 w.heap.size 28 #[.int .i64 b, .int .i64 i, .int .i64 o, .slice ta tn tc, .slice ka kn kc, .int .i64 f, .int .i64 d, .int .i64 t] := Blk.grown (by repeat (first | (with_reducible assumption) | (with_reducible exact Blk.new _ _ _) | exact Blk.newAt _ _ _ (by simp) | (with_reducible refine Blk.alloc ?_ _) | (with_reducible refine Blk.drew ?_) | (with_reducible refine Blk.drewN ?_ _) | refine Blk.far ?_ (by simp only []; omega) _ | refine Blk.rext ?_ (by assumption) (by omega) | refine Blk.ext ?_ (by assumption))) hg (by
    cases ta with
    | none => simp
    | some x => have := (lT x rfl).2.1; simp; omega)
  have HK1 := Lib.hid ((HK.out.ext (show Ext w _ from (by repeat (first | (with_reducible exact Ext.refl _) | (with_reducible assumption) | (with_reducible refine Ext.alloc ?_ _) | (with_reducible refine Ext.drewN ?_ _) | (with_reducible refine Ext.drew ?_) | (with_reducible refine Ext.setCell ?_ ?_ _; rotate_left; (simp only []; omega)) | (with_reducible refine Ext.trans ?_ (by assumption)))))).keep (w' := w1) (fun x e hb => hg.block _ hb (by
    cases ta with
    | none => simp
    | some y => have := hap y x rfl e; simp; omega)))
  clear how hg
  have cX := BX.cells
  have fX := BX.frozens
  have zX := BX.lt
  go_wp2_with fail
  refine (markContactS_any ka kn kc base' K _ _ (by exact HK1.out.ext (by repeat (first | (with_reducible exact Ext.refl _) | (with_reducible assumption) | (with_reducible refine Ext.alloc ?_ _) | (with_reducible refine Ext.drewN ?_ _) | (with_reducible refine Ext.drew ?_) | (with_reducible refine Ext.setCell ?_ ?_ _; rotate_left; (simp only []; omega)) | (with_reducible refine Ext.trans ?_ (by assumption))))) (by omega) (by omega) hn2).mono ?_
  rintro e w2 ⟨rfl, how, hg⟩
  have HO2 := Lib.hid how
  have HG2 := Lib.hid (World.grownBy.trans (grown_ext (r := ka.map (·.block)) (show Ext w1 _ from (by repeat (first | (with_reducible exact Ext.refl _) | (with_reducible assumption) | (with_reducible refine Ext.alloc ?_ _) | (with_reducible refine Ext.drewN ?_ _) | (with_reducible refine Ext.drew ?_) | (with_reducible refine Ext.setCell ?_ ?_ _; rotate_left; (simp only []; omega)) | (with_reducible refine Ext.trans ?_ (by assumption)))))) hg)
  have HM2 := Lib.hid ((HO.out.ext (show Ext w1 _ from (by repeat (first | (with_reducible exact Ext.refl _) | (with_reducible assumption) | (with_reducible refine Ext.alloc ?_ _) | (with_reducible refine Ext.drewN ?_ _) | (with_reducible refine Ext.drew ?_) | (with_reducible refine Ext.setCell ?_ ?_ _; rotate_left; (simp only []; omega)) | (with_reducible refine Ext.trans ?_ (by assumption)))))).keep (w' := w2) (fun x e hb => hg.block _ hb (by
    cases ka with
    | none => simp
    | some y => have := hap x y e rfl; simp; omega)))
  clear how hg
  go_wp2
  go_ret
  exact ⟨rfl, HM2.out, HO2.out, w1, HG.out, HG2.out⟩
end Go.Proofs.Ytppdcglnopoocaa
