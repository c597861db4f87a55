/- From what a row's reading says of a struct that came in to its cells: field by field; slices element by element. No condition. -/
import Derived.Test.YtafmomocmodbhaaRowOf
import Derived.ChangeSame
import Derived.Deep.Slices
namespace Go.Proofs.Ytafmomocmodbhaa
open Go.ChangeShapes Go.WideShapes Go.RowKit

section
variable {H : Type} (enc : TypeId × Value → H) (P : Program) (w : World) (base : Nat) (spare : Nat → Bool) (held : Bool)
/-- The cells cs read as a value of type t. -/
def Reads (t : TypeId) (cs : List Value) : Prop := ∃ n x, DataW.trod enc P w base spare held n t cs = some x
end
section
variable {H : Type} {enc : TypeId × Value → H} {P : Program} {w : World} {base : Nat} {spare : Nat → Bool} {held : Bool}
theorem Reads.len {t : TypeId} {fs : Array Field} {cs : List Value} (hs : P.underlying t = some (.struct fs)) (h : Reads enc P w base spare held t cs) : cs.length = P.cellsOf t := by
  obtain ⟨n, x, h⟩ := h
  obtain ⟨xs, m, _, _, hl, _, _⟩ := DataW.trod_struct hs h
  exact hl
theorem Reads.field {t : TypeId} {fs : Array Field} {cs : List Value} (hs : P.underlying t = some (.struct fs)) (h : Reads enc P w base spare held t cs) (j : Nat) {T : TypeId} {o : Nat}
    (hj : (fs[j]?).map (fun f => (f.type, f.offset)) = some (T, o)) : Reads enc P w base spare held T ((cs.drop o).take (P.cellsOf T)) := by
  obtain ⟨n, x, h⟩ := h
  obtain ⟨xs, m, _, _, hl, hlen, hg⟩ := DataW.trod_struct hs h
  obtain ⟨f, hf, e⟩ := Option.map_eq_some_iff.1 hj
  injection e with e1 e2
  subst e1; subst e2
  have hjl : j < fs.size := (Array.getElem?_eq_some_iff.1 hf).1
  have := hg j f hf
  exact ⟨m, xs[j]'(by omega), this.trans (List.getElem?_eq_getElem _)⟩
theorem Reads.int {t : TypeId} {k : IntKind} {cs : List Value} (ht : P.underlying t = some (.int k)) (h : Reads enc P w base spare held t cs) : ∃ a, cs = [.int k a] ∧ (Lit.int k a).wf = true := by
  obtain ⟨n, x, h⟩ := h
  cases n with
  | zero => simp [DataW.trod] at h
  | succ n =>
    unfold DataW.trod at h
    rw [ht] at h
    split at h <;> simp_all
theorem pick_list {α : Type} {Q : Nat → α → Prop} : ∀ len : Nat, (∀ i, i < len → ∃ x, Q i x) → ∃ L : List α, L.length = len ∧ ∀ i x, L[i]? = some x → Q i x
  | 0, _ => ⟨[], rfl, fun i x h => by simp at h⟩
  | len + 1, hex => by
    obtain ⟨L, h1, h2⟩ := pick_list len (fun i hi => hex i (by omega))
    obtain ⟨x, h3⟩ := hex len (by omega)
    refine ⟨L ++ [x], by simp [h1], fun i y hy => ?_⟩
    rcases Nat.lt_or_ge i L.length with hlt | hge
    · rw [List.getElem?_append_left hlt] at hy
      exact h2 i y hy
    · rw [List.getElem?_append_right hge] at hy
      have h0 : i - L.length = 0 := by
        have := (List.getElem?_eq_some_iff.1 hy).1
        simp at this
        omega
      rw [h0] at hy
      simp at hy
      subst hy
      have e : i = len := by omega
      rw [e]
      exact h3
theorem Reads.sl {t e : TypeId} {α : Type} {en : α → List Value} {k : Nat} {cs : List Value} (ht : P.underlying t = some (.slice e)) (hk : P.cellsOf e = k) (hk0 : 0 < k) (hen : ∀ x, (en x).length = k) (ok : α → Prop)
    (hel : ∀ cs', Reads enc P w base spare held e cs' → ∃ x : α, cs' = en x ∧ ok x) (h : Reads enc P w base spare held t cs) :
    ∃ a n c L, cs = [.slice a n c] ∧ Sl en k w a n c L ∧ (∀ x ∈ L, ok x) ∧ (∀ x, a = some x → base ≤ x.block) := by
  obtain ⟨fuel, x, h⟩ := h
  rcases Go.Deep.open_slice ht h with ⟨rfl, _⟩ | ⟨a, len, cap, m, n, D, Pl, rfl, hb, hl, hm, hmm, _, hi⟩
  · exact ⟨none, 0, 0, [], rfl, Sl.nils w, by simp, fun x e => by cases e⟩
  · have hle : len ≤ m := by rw [hmm]; split <;> omega
    have hex : ∀ i, i < len → ∃ x : α, ok x ∧ w.cells? base (a.add (i * k)) k = some (en x) := by
      intro i hil
      obtain ⟨cs', hc, ht'⟩ := hi i (by omega)
      obtain ⟨x, rfl, hok⟩ := hel cs' ⟨_, _, ht'⟩
      rw [hk] at hc
      exact ⟨x, hok, hc⟩
    obtain ⟨L, h1, h2⟩ := pick_list len hex
    refine ⟨some a, len, cap, L, rfl, sl_of_cells hk0 hen h1 hl hm ?_, fun x hx => ?_, fun x e => by injection e with e; subst e; exact hb⟩
    · intro i y hy j u hu
      obtain ⟨_, hc⟩ := h2 i y hy
      obtain ⟨_, hcl, hat⟩ := World.cells?_some hc
      have hj : j < k := by rw [← hen y]; exact (List.getElem?_eq_some_iff.1 hu).1
      have := hat j hj
      rw [hu] at this
      rw [← Go.Deep.add_add]
      exact this
    · obtain ⟨i, hi'⟩ := List.getElem?_of_mem hx
      exact (h2 i x hi').1
end
/-- A struct of integers alone, two, by its cells. -/
theorem two_of {cs : List Value} {u v : Value} (h : cs.length = 2) (h0 : (cs.drop 0).take 1 = [u]) (h1 : (cs.drop 1).take 1 = [v]) : cs = [u, v] := by
  match cs, h with
  | [x, y], _ =>
    simp at h0 h1
    rw [h0, h1]
def fitI (x : Int) : Prop := -9223372036854775808 ≤ x ∧ x ≤ 9223372036854775807
section
variable {H : Type} {enc : TypeId × Value → H} {w : World} {base : Nat} {spare : Nat → Bool} {held : Bool}
theorem cell_int : Try.prog.cellsOf 3 = 1 := by kernel_rfl
theorem reads_int {cs : List Value} (h : Reads enc Try.prog w base spare held 3 cs) : ∃ a, cs = [.int .i64 a] ∧ fitI a := by
  obtain ⟨a, e, hw⟩ := h.int Try.underlying3
  exact ⟨a, e, bounds_i64 hw⟩
/-- An integer field. -/
theorem reads_fi {t : TypeId} {fs : Array Field} {cs : List Value} (hs : Try.prog.underlying t = some (.struct fs)) (h : Reads enc Try.prog w base spare held t cs) (j o : Nat)
    (hj : (fs[j]?).map (fun f => (f.type, f.offset)) = some (3, o)) : ∃ a, (cs.drop o).take 1 = [.int .i64 a] ∧ fitI a := by
  have h1 := h.field hs j hj
  rw [cell_int] at h1
  exact reads_int h1
theorem cell_lNet : Try.prog.cellsOf 23 = 2 := by kernel_rfl
theorem reads_Net {cs : List Value} (h : Reads enc Try.prog w base spare held 23 cs) : ∃ a b, cs = [.int .i64 a, .int .i64 b] ∧ fitI a ∧ fitI b := by
  obtain ⟨a, ha, fa⟩ := reads_fi Try.underlying23 h 0 0 rfl
  obtain ⟨b, hb, fb⟩ := reads_fi Try.underlying23 h 1 1 rfl
  exact ⟨a, b, two_of ((h.len Try.underlying23).trans cell_lNet) ha hb, fa, fb⟩
theorem cell_lEnd : Try.prog.cellsOf 29 = 2 := by kernel_rfl
theorem reads_End {cs : List Value} (h : Reads enc Try.prog w base spare held 29 cs) : ∃ a b, cs = [.int .i64 a, .int .i64 b] ∧ fitI a ∧ fitI b := by
  obtain ⟨a, ha, fa⟩ := reads_fi Try.underlying29 h 0 0 rfl
  obtain ⟨b, hb, fb⟩ := reads_fi Try.underlying29 h 1 1 rfl
  exact ⟨a, b, two_of ((h.len Try.underlying29).trans cell_lEnd) ha hb, fa, fb⟩
theorem cell_lPacket : Try.prog.cellsOf 32 = 6 := by kernel_rfl
theorem cell_ints : Try.prog.cellsOf 30 = 1 := by kernel_rfl
theorem reads_ints {cs : List Value} (h : Reads enc Try.prog w base spare held 30 cs) : ∃ a n c L, cs = [.slice a n c] ∧ Sl encI 1 w a n c L ∧ (∀ x ∈ L, fitI x) ∧ (∀ x, a = some x → base ≤ x.block) :=
  h.sl Try.underlying30 cell_int (by omega) encI_len fitI (fun _ h' => reads_int h')
theorem reads_Packet {cs : List Value} (h : Reads enc Try.prog w base spare held 32 cs) : ∃ k fa fp ta tp a n c L, cs = [.int .i64 k, .int .i64 fa, .int .i64 fp, .int .i64 ta, .int .i64 tp, .slice a n c] ∧
    Sl encI 1 w a n c L ∧ (∀ x ∈ L, fitI x) ∧ fitI k ∧ fitI fa ∧ fitI fp ∧ fitI ta ∧ fitI tp := by
  have hl := (h.len Try.underlying32).trans cell_lPacket
  obtain ⟨k, h0, f0⟩ := reads_fi Try.underlying32 h 0 0 rfl
  have hn := h.field (T := 29) (o := 1) Try.underlying32 1 rfl
  rw [cell_lEnd] at hn
  obtain ⟨fa, fp, h1, f1, f2⟩ := reads_End hn
  have hn := h.field (T := 29) (o := 3) Try.underlying32 2 rfl
  rw [cell_lEnd] at hn
  obtain ⟨ta, tp, h2, f3, f4⟩ := reads_End hn
  have hn := h.field (T := 30) (o := 5) Try.underlying32 3 rfl
  rw [cell_ints] at hn
  obtain ⟨a, n, c, L, h3, hs, hf, _⟩ := reads_ints hn
  match cs, hl with
  | [x0, x1, x2, x3, x4, x5], _ =>
    simp at h0 h1 h2 h3
    exact ⟨k, fa, fp, ta, tp, a, n, c, L, by rw [h0, h1.1, h1.2, h2.1, h2.2, h3], hs, hf, f0, f1, f2, f3, f4⟩
theorem cell_lMapping : Try.prog.cellsOf 121 = 4 := by kernel_rfl
theorem reads_Mapping {cs : List Value} (h : Reads enc Try.prog w base spare held 121 cs) : ∃ m : MapD, cs = encM m ∧ True := by
  have hl := (h.len Try.underlying121).trans cell_lMapping
  have hn := h.field (T := 29) (o := 0) Try.underlying121 0 rfl
  rw [cell_lEnd] at hn
  obtain ⟨a, b, h0, fa, fb⟩ := reads_End hn
  obtain ⟨c, h2, fc⟩ := reads_fi Try.underlying121 h 1 2 rfl
  obtain ⟨d, h3, fd⟩ := reads_fi Try.underlying121 h 2 3 rfl
  match cs, hl with
  | [x, y, z, u], _ =>
    simp at h0 h2 h3
    exact ⟨⟨⟨a, b⟩, c, d⟩, by rw [h0.1, h0.2, h2, h3]; rfl, trivial⟩
theorem cell_lContact : Try.prog.cellsOf 124 = 3 := by kernel_rfl
theorem reads_Contact {cs : List Value} (h : Reads enc Try.prog w base spare held 124 cs) : ∃ x : ConD, cs = encC x ∧ True := by
  have hl := (h.len Try.underlying124).trans cell_lContact
  obtain ⟨c, h2, fc⟩ := reads_fi Try.underlying124 h 0 0 rfl
  have hn := h.field (T := 29) (o := 1) Try.underlying124 1 rfl
  rw [cell_lEnd] at hn
  obtain ⟨a, b, h0, fa, fb⟩ := reads_End hn
  match cs, hl with
  | [x, y, z], _ =>
    simp at h0 h2
    exact ⟨⟨c, ⟨a, b⟩⟩, by rw [h0.1, h0.2, h2]; rfl, trivial⟩
theorem cell_lMappingS : Try.prog.cellsOf 24 = 1 := by kernel_rfl
theorem cell_lContactS : Try.prog.cellsOf 25 = 1 := by kernel_rfl
theorem cell_lGate : Try.prog.cellsOf 27 = 8 := by kernel_rfl
theorem reads_Gate {cs : List Value} (h : Reads enc Try.prog w base spare held 27 cs) : ∃ b i o a n c L a' n' c' L' f d t, cs = [.int .i64 b, .int .i64 i, .int .i64 o, .slice a n c, .slice a' n' c', .int .i64 f, .int .i64 d, .int .i64 t] ∧
    Sl encM 4 w a n c L ∧ Sl encC 3 w a' n' c' L' ∧ True := by
  have hl := (h.len Try.underlying27).trans cell_lGate
  have hn := h.field (T := 23) (o := 0) Try.underlying27 0 rfl
  rw [cell_lNet] at hn
  obtain ⟨b, i, h0, _, _⟩ := reads_Net hn
  obtain ⟨o, h1, _⟩ := reads_fi Try.underlying27 h 1 2 rfl
  have hn := h.field (T := 24) (o := 3) Try.underlying27 2 rfl
  rw [cell_lMappingS] at hn
  obtain ⟨a, n, c, L, h2, hs, _, _⟩ := hn.sl Try.underlying24 cell_lMapping (by omega) encM_len (fun _ => True) (fun _ h' => reads_Mapping h')
  have hn := h.field (T := 25) (o := 4) Try.underlying27 3 rfl
  rw [cell_lContactS] at hn
  obtain ⟨a', n', c', L', h3, hs', _, _⟩ := hn.sl Try.underlying25 cell_lContact (by omega) encC_len (fun _ => True) (fun _ h' => reads_Contact h')
  obtain ⟨f, h4, _⟩ := reads_fi Try.underlying27 h 4 5 rfl
  obtain ⟨d, h5, _⟩ := reads_fi Try.underlying27 h 5 6 rfl
  obtain ⟨t, h6, _⟩ := reads_fi Try.underlying27 h 6 7 rfl
  match cs, hl with
  | [x0, x1, x2, x3, x4, x5, x6, x7], _ =>
    simp at h0 h1 h2 h3 h4 h5 h6
    exact ⟨b, i, o, a, n, c, L, a', n', c', L', f, d, t, by rw [h0.1, h0.2, h1, h2, h3, h4, h5, h6], hs, hs', trivial⟩
end
end Go.Proofs.Ytafmomocmodbhaa
