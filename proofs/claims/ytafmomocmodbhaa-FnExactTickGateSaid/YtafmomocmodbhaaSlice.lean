/- Laws on slices of the call's own: append from a slice that reads as a list; copies. -/
import Derived.Test.YtafmomocmodbhaaWords
namespace Go.Proofs.Ytafmomocmodbhaa
open Go.RowKit

/-- What the table of types says of a slice type t with elements E of k cells. -/
def EI (P : Program) (t E : TypeId) (k bytes : Nat) : Prop :=
  P.underlying t = some (.slice E) ∧ ∃ i z, P.info? E = some i ∧ i.zero = some z ∧ i.size = k ∧ i.bytes = bytes ∧ z.cells.size = k ∧ 0 < k
theorem EI.mk {P : Program} {t E : TypeId} {k bytes : Nat} {z : Value} (h : P.underlying t = some (.slice E)) (hi : (P.info? E).map (fun i => (i.zero, i.size, i.bytes)) = some (some z, k, bytes))
    (hz : z.cells.size = k) (hk : 0 < k) : EI P t E k bytes := by
  obtain ⟨i, h1, h2, h3, h4⟩ := info_parts hi
  exact ⟨h, i, z, h1, h2, h3, h4, hz, hk⟩

section
variable {P : Program} {t E : TypeId} {k bytes : Nat} {α : Type} {enc : α → List Value}
theorem run_append_sl (w : World) (hE : EI P t E k bytes) (hk : ∀ x, (enc x).length = k) (h1 : ∀ x, ∀ u ∈ enc x, u.oneCell' = true) (ty : TypeId) (base : Nat) (v : Value) (n : Nat) (xs : List Value) (hown : w.ownsRow base E k v n xs)
    (A : Option Addr) (m c : Nat) (L : List α) (hs : Sl enc k w A m c L) (h63 : n + m ≤ maxLen) (hbytes : (n + m) * bytes ≤ 140737488355328) (hbase : base ≤ w.heap.size) :
    ∃ a' c' w', (Builtin.append_ #[t, t] ty #[v, .slice A m c]).run P w = .ok (.slice a' (n + m) c') w' ∧ w'.ownsRow base E k (.slice a' (n + m) c') (n + m) (xs ++ L.flatMap enc) ∧ w.grownBy w' v.ownBlock ∧
      ((Value.slice a' (n + m) c').ownBlock = v.ownBlock ∨ (Value.slice a' (n + m) c').ownBlock = some w.heap.size) := by
  obtain ⟨ht, i, z, hi, hz, hsz, hby, hzs, hk0⟩ := hE
  cases A with
  | none =>
    have hc := hs.nil rfl
    have hm : m = 0 := by have := hs.le; omega
    subst hm
    subst hc
    have hL := hs.zero
    subst hL
    have hr : (Builtin.append_ #[t, t] ty #[v, .slice none 0 0]).run P w = .ok v w := run_append_owned_none (P := P) w base t ty E i k ht hi v n xs hown
    rcases hown.2 with ⟨rfl, rfl⟩ | ⟨g, cap, cur, rfl, r⟩
    · exact ⟨none, 0, w, hr, by simpa using hown, World.grownBy.refl w _, .inl rfl⟩
    · exact ⟨some ⟨g, 0, none⟩, cap, w, hr, by simpa using hown, World.grownBy.refl w _, .inl rfl⟩
  | some ad =>
    have hl : (L.flatMap enc).length = m * k := by rw [flat_len hk, hs.len]
    have hcells : ∀ j u, (L.flatMap enc)[j]? = some u → w.cell? (ad.add j) = some u := by
      intro j u hu
      have hj : j < m * k := by rw [← hl]; exact (List.getElem?_eq_some_iff.1 hu).1
      have hm : 0 < m := by
        rcases Nat.eq_zero_or_pos m with h | h
        · rw [h, Nat.zero_mul] at hj; omega
        · exact h
      obtain ⟨b, off, he, _, hc⟩ := hs.at_ hm
      injection he with he
      subst he
      have hq : j / k < L.length := by rw [hs.len]; exact Nat.div_lt_of_lt_mul (by rw [Nat.mul_comm]; exact hj)
      have hr : j % k < k := Nat.mod_lt _ hk0
      have hjj : j / k * k + j % k = j := by rw [Nat.mul_comm]; exact Nat.div_add_mod j k
      have hx := List.getElem?_eq_getElem hq
      have hv : (enc L[j / k])[j % k]? = some ((enc L[j / k])[j % k]'(by rw [hk]; exact hr)) := List.getElem?_eq_getElem _
      have h2 := flat_at hk L (j / k) _ hx (j % k) _ hv
      rw [hjj, hu] at h2
      have h3 := hc (j / k) _ hx (j % k) _ hv
      rw [hjj, ← h2] at h3
      have hadd : (⟨b, off, none⟩ : Addr).add j = ⟨b, off + j, none⟩ := by unfold Addr.add; split <;> simp_all
      rw [hadd]
      exact h3
    have h1' : ∀ u ∈ L.flatMap enc, u.oneCell' = true := by
      intro u hu
      obtain ⟨x, _, hx⟩ := List.mem_flatMap.1 hu
      exact h1 x u hx
    obtain ⟨v', w', hr, h2, h3, h4, h5⟩ := run_append_own_at (P := P) w base t ty E i z k bytes ht hi hz hsz hby hzs hk0 v n xs hown ad m c (L.flatMap enc) hl hcells h1' h63 hbytes hbase
    have hform : ∃ a' c', v' = .slice a' (n + m) c' := by
      rcases h2.2 with ⟨rfl, h0⟩ | ⟨g, cap, cur, rfl, r⟩
      · exact ⟨none, 0, by rw [h0]⟩
      · exact ⟨_, _, rfl⟩
    obtain ⟨a', c', rfl⟩ := hform
    exact ⟨a', c', w', hr, h2, h3, h5⟩
theorem wpList_append_sl {ops : Array Oper} {rest : List Oper} {o : Oper} {a : Act} {Q : Exit → Act → World → Prop} (w : World) (hgd : o.guard = none) (s x : Operand) 
    (ho : o.op = .call { callee := .builtin .append, args := #[s, x], argTypes := #[t, t] }) (hE : EI P t E k bytes) (hk : ∀ x, (enc x).length = k) (h1 : ∀ x, ∀ u ∈ enc x, u.oneCell' = true)
    (base : Nat) (v : Value) (n : Nat) (xs : List Value) (hs : a.eval s = v) (hown : w.ownsRow base E k v n xs)
    (A : Option Addr) (m c : Nat) (L : List α) (hx : a.eval x = .slice A m c) (hsl : Sl enc k w A m c L) (h63 : n + m ≤ maxLen) (hbytes : (n + m) * bytes ≤ 140737488355328) (hbase : base ≤ w.heap.size)
    (h : ∀ a' c' w', w'.ownsRow base E k (.slice a' (n + m) c') (n + m) (xs ++ L.flatMap enc) → w.grownBy w' v.ownBlock →
      ((Value.slice a' (n + m) c').ownBlock = v.ownBlock ∨ (Value.slice a' (n + m) c').ownBlock = some w.heap.size) → wpList P ops Q rest (a.put o.dst (.slice a' (n + m) c')) w') : wpList P ops Q (o :: rest) a w := by
  obtain ⟨a', c', w', hr, h2, h3, h4⟩ := run_append_sl (P := P) w hE hk h1 o.type base v n xs hown A m c L hsl h63 hbytes hbase
  refine wpList_plain hgd fun _ hK => ?_
  unfold Oper.wp execOp
  simp only [ho, resolve, invoke, builtin, Sem.run_bind, Sem.run_pure, Result.andThen_ok, List.map_toArray, List.map_cons, List.map_nil, hs, hx, hr]
  exact hK _ _ (h a' c' w' h2 h3 h4)
/-- A new empty row: what '[]T{}' makes. -/
theorem own_empty (w : World) (base : Nat) {b : Nat} (hb : b = w.heap.size) (h : base ≤ w.heap.size) : (w.alloc (.cells #[] E)).ownsRow base E k (.slice (some ⟨b, 0, none⟩) 0 0) 0 [] := by
  subst hb
  have := World.ownsRow_made (base := base) (e := E) (size := k) w #[] 0 h (by simp [maxLen]) (by simp)
  exact this
end
theorem encI_one : ∀ x, ∀ u ∈ encI x, u.oneCell' = true := by
  intro x u hu
  simp only [encI, List.mem_singleton] at hu
  subst hu; rfl
theorem encM_one : ∀ x, ∀ u ∈ encM x, u.oneCell' = true := by
  intro x u hu
  simp only [encM, List.mem_cons, List.not_mem_nil, or_false] at hu
  rcases hu with rfl | rfl | rfl | rfl <;> rfl
theorem encC_one : ∀ x, ∀ u ∈ encC x, u.oneCell' = true := by
  intro x u hu
  simp only [encC, List.mem_cons, List.not_mem_nil, or_false] at hu
  rcases hu with rfl | rfl | rfl <;> rfl
theorem eiI : EI Try.prog 30 3 1 8 := EI.mk (z := .int .i64 0) Try.underlying30 (by kernel_rfl) rfl (by omega)
/-- append onto a slice without room behind it: a new row. -/
theorem run_append_full {P : Program} {t E : TypeId} {k bytes : Nat} {α : Type} {enc : α → List Value} (w : World) (hE : EI P t E k bytes) (hk : ∀ x, (enc x).length = k) (ty : TypeId)
    (A : Option Addr) (n : Nat) (L : List α) (hs : Sl enc k w A n n L) (x : α) (b : Nat) (hx : ∀ j u, (enc x)[j]? = some u → w.cell? ⟨b, j, none⟩ = some u) (hn : n ≤ 1048576) (hby : bytes ≤ 1024) :
    ∃ a' c' w', (Builtin.append_ #[t, t] ty #[.slice A n n, .slice (some ⟨b, 0, none⟩) 1 1]).run P w = .ok (.slice a' (n + 1) c') w' ∧ Ow E enc k w.heap.size w' a' (n + 1) c' (L ++ [x]) ∧ Ext w w' := by
  obtain ⟨ht, i, z, hi, hz, hsz, hbs, hzs, hk0⟩ := hE
  have hnews : ∀ j u, (enc x)[j]? = some u → w.cell? ((⟨b, 0, none⟩ : Addr).add j) = some u := by
    intro j u hu
    have hadd : (⟨b, 0, none⟩ : Addr).add j = ⟨b, j, none⟩ := by unfold Addr.add; split <;> simp_all
    rw [hadd]; exact hx j u hu
  have hln : (enc x).length = 1 * i.size := by rw [hk, hsz]; omega
  have hge := grownCap_ge w (n + 1) n E
  have hle := grownCap_le_maxLen w (n + 1) n E (by simp only [maxLen]; omega)
  have hfl : (L.flatMap enc).length = n * k := by rw [flat_len hk, hs.len]
  have hbb : (n + 1) * i.bytes ≤ 140737488355328 := by rw [hbs]; exact Nat.le_trans (Nat.mul_le_mul (show n + 1 ≤ 1048577 by omega) hby) (by omega)
  have fin : ∀ (old : Nat) (olds : List Value), old < n + 1 → olds = L.flatMap enc →
      Ow E enc k w.heap.size (w.drew.alloc (.cells (olds.toArray ++ (enc x).toArray ++ Builtin.zeroCells z.cells (grownCap w (n + 1) old E - (n + 1))) E)) (some ⟨w.heap.size, 0, none⟩) (n + 1) (grownCap w (n + 1) old E) (L ++ [x]) := by
    intro old olds _ ho
    subst ho
    have hge := grownCap_ge w (n + 1) old E
    have hle := grownCap_le_maxLen w (n + 1) old E (by simp only [maxLen]; omega)
    refine ⟨by simp [hs.len], .inr ⟨w.heap.size, _, rfl, Nat.le_refl _, heap_alloc_new w.drew _, hge, hle, ?_, ?_⟩⟩
    · simp only [Array.size_append, List.size_toArray, size_zeroCells, hzs, hfl, hk]
      have e : grownCap w (n + 1) old E * k = n * k + k + (grownCap w (n + 1) old E - (n + 1)) * k := by
        have : grownCap w (n + 1) old E = (n + 1) + (grownCap w (n + 1) old E - (n + 1)) := by omega
        conv => lhs; rw [this]
        rw [Nat.add_mul, Nat.add_mul, Nat.one_mul]
      omega
    · simp only [Array.toList_append, List.flatMap_append, List.flatMap_cons, List.flatMap_nil, List.append_nil]
      have e : (L.flatMap enc ++ enc x).length = (n + 1) * k := by rw [List.length_append, hfl, hk, Nat.add_mul, Nat.one_mul]
      rw [← e]
      exact List.take_left
  cases A with
  | none =>
    have hc := hs.nil rfl
    have hm : n = 0 := by omega
    subst hm
    have hL := hs.zero
    subst hL
    have hr := run_append_nil (P := P) w t ty E i z ht hi hz ⟨b, 0, none⟩ 1 1 (enc x) hln hnews (by omega) (by omega) (by rw [hbs]; omega)
    have hf := fin 0 [] (by omega) rfl
    simp only [Nat.zero_add, List.nil_append, Array.empty_append] at hf ⊢
    exact ⟨_, _, _, hr, hf, ((Ext.refl w).drew).alloc _⟩
  | some ad =>
    have hcells : ∀ j u, (L.flatMap enc)[j]? = some u → w.cell? (ad.add j) = some u := by
      intro j u hu
      have hj : j < n * k := by rw [← hfl]; exact (List.getElem?_eq_some_iff.1 hu).1
      have hm : 0 < n := by
        rcases Nat.eq_zero_or_pos n with h | h
        · rw [h, Nat.zero_mul] at hj; omega
        · exact h
      obtain ⟨b', off, he, _, hc⟩ := hs.at_ hm
      injection he with he
      subst he
      have hq : j / k < L.length := by rw [hs.len]; exact Nat.div_lt_of_lt_mul (by rw [Nat.mul_comm]; exact hj)
      have hr : j % k < k := Nat.mod_lt _ hk0
      have hjj : j / k * k + j % k = j := by rw [Nat.mul_comm]; exact Nat.div_add_mod j k
      have hx' := List.getElem?_eq_getElem hq
      have hv : (enc L[j / k])[j % k]? = some ((enc L[j / k])[j % k]'(by rw [hk]; exact hr)) := List.getElem?_eq_getElem _
      have h2 := flat_at hk L (j / k) _ hx' (j % k) _ hv
      rw [hjj, hu] at h2
      have h3 := hc (j / k) _ hx' (j % k) _ hv
      rw [hjj, ← h2] at h3
      have hadd : (⟨b', off, none⟩ : Addr).add j = ⟨b', off + j, none⟩ := by unfold Addr.add; split <;> simp_all
      rw [hadd]
      exact h3
    have hr := run_append_grow (P := P) w t ty E i z ht hi hz ad n n (L.flatMap enc) (by rw [hfl, hsz]) hcells ⟨b, 0, none⟩ 1 1 (enc x) hln hnews (by omega) (by omega) (growslice_fits (by omega) hbb)
    exact ⟨_, _, _, hr, fin n (L.flatMap enc) (by omega) rfl, ((Ext.refl w).drew).alloc _⟩
theorem spec_copyInts (a : Option Addr) (n c : Nat) (L : List Int) (w : World) (hs : Sl encI 1 w a n c L) (hn : n ≤ 1048576) :
    Calls Try.prog 141 #[.slice a n c] w fun e w' => ∃ a' c', e = .returned (.slice a' n c') ∧ w'.ownsRow w.heap.size 3 1 (.slice a' n c') n (L.flatMap encI) ∧ Ext w w' := by
  go_enter Try.func141, Try.ntmps141
  go_wp2_with (at_builtin; refine wpList_append_sl _ rfl _ _ rfl eiI encI_len encI_one w.heap.size (.slice (some ⟨w.heap.size, 0, none⟩) 0 0) 0 [] rfl (own_empty w w.heap.size rfl (Nat.le_refl _)) a n c L rfl (by exact hs.ext (by repeat (first | (with_reducible exact Ext.refl _) | (with_reducible assumption) | (with_reducible refine Ext.alloc ?_ _) | (with_reducible refine Ext.drewN ?_ _) | (with_reducible refine Ext.drew ?_) | (with_reducible refine Ext.setCell ?_ ?_ _; rotate_left; (simp only []; omega)) | (with_reducible refine Ext.trans ?_ (by assumption))))) (by simp only [maxLen]; omega) (by omega) (by simp) ?_; intro a' c' w1 hown hg hat; simp only [Nat.zero_add, List.nil_append] at hown)
  go_ret
  exact ⟨a', c', by simp, hown, Ext.own (by repeat (first | (with_reducible exact Ext.refl _) | (with_reducible assumption) | (with_reducible refine Ext.alloc ?_ _) | (with_reducible refine Ext.drewN ?_ _) | (with_reducible refine Ext.drew ?_) | (with_reducible refine Ext.setCell ?_ ?_ _; rotate_left; (simp only []; omega)) | (with_reducible refine Ext.trans ?_ (by assumption)))) hg (Nat.le_refl _)⟩
theorem Clone_int (a : Option Addr) (n c : Nat) (L : List Int) (w : World) (hs : Sl encI 1 w a n c L) (hn : n ≤ 1048576) :
    Calls Try.prog 150 #[.slice a n c] w fun e w' => ∃ a' c', e = .returned (.slice a' n c') ∧ w'.ownsRow w.heap.size 3 1 (.slice a' n c') n (L.flatMap encI) ∧ Ext w w' := by
  have hq := fun (W : World) => Lib.run_eql_slice_nil (P := Try.prog) W 30 3 a n c 0 0 Try.underlying30
  cases a with
  | none =>
    have hc := hs.nil rfl
    have h0 : n = 0 := by have := hs.le; omega
    subst h0; subst hc
    have hL := hs.zero
    subst hL
    go_enter Try.func150, Try.ntmps150
    go_wp2
    go_ret
    exact ⟨none, 0, rfl, World.ownsRow_nil _ _ _ _, Ext.refl _⟩
  | some ad =>
    go_enter Try.func150, Try.ntmps150
    go_wp2_with (at_builtin; refine wpList_append_sl _ rfl _ _ rfl eiI encI_len encI_one w.heap.size (.slice (some ⟨w.heap.size, 0, none⟩) 0 0) 0 [] rfl (own_empty w w.heap.size rfl (Nat.le_refl _)) (some ad) n c L rfl (by exact hs.ext (by repeat (first | (with_reducible exact Ext.refl _) | (with_reducible assumption) | (with_reducible refine Ext.alloc ?_ _) | (with_reducible refine Ext.drewN ?_ _) | (with_reducible refine Ext.drew ?_) | (with_reducible refine Ext.setCell ?_ ?_ _; rotate_left; (simp only []; omega)) | (with_reducible refine Ext.trans ?_ (by assumption))))) (by simp only [maxLen]; omega) (by omega) (by simp) ?_; intro a' c' w1 hown hg hat; simp only [Nat.zero_add, List.nil_append] at hown)
    go_ret
    exact ⟨a', c', by simp, hown, Ext.own (by repeat (first | (with_reducible exact Ext.refl _) | (with_reducible assumption) | (with_reducible refine Ext.alloc ?_ _) | (with_reducible refine Ext.drewN ?_ _) | (with_reducible refine Ext.drew ?_) | (with_reducible refine Ext.setCell ?_ ?_ _; rotate_left; (simp only []; omega)) | (with_reducible refine Ext.trans ?_ (by assumption)))) hg (Nat.le_refl _)⟩
theorem Clip_int (a : Option Addr) (n c : Nat) (L : List Int) (base : Nat) (w : World) (hs : Ow 3 encI 1 base w a n c L) (hn : n ≤ 1048576) :
    Calls Try.prog 119 #[.slice a n c] w fun e w' => e = .returned (.slice a n n) ∧ w = w' := by
  have hle : n ≤ c := (hs.sl encI_len).le
  obtain ⟨hl, ⟨rfl, h0, rfl⟩ | ⟨g, cur, rfl, hb, hg, hnc, hcm, hcs, ht⟩⟩ := hs
  · subst h0
    go_enter Try.func119, Try.ntmps119
    go_wp2
    go_ret
    exact ⟨rfl, rfl⟩
  · clear ht hcs hl hg
    go_enter Try.func119, Try.ntmps119
    go_wp2
    all_goals (go_ret; exact ⟨by simp, rfl⟩)
theorem impl_clone_int (a : Option Addr) (n c : Nat) (L : List Int) (w : World) (hs : Sl encI 1 w a n c L) (hn : n ≤ 1048576) :
    Calls Try.prog 136 #[.slice a n c] w fun e w' => ∃ a', e = .returned (.slice a' n n) ∧ Ow 3 encI 1 w.heap.size w' a' n n L ∧ Ext w w' := by
  go_enter Try.func136, Try.ntmps136
  go_wp2_with fail
  refine (Clone_int _ _ _ L _ hs hn).mono ?_
  rintro e w1 ⟨a', c', rfl, hown, hx⟩
  have how := Ow.of_row hown encI_len (by omega)
  go_wp2_with fail
  refine (Clip_int _ _ _ L _ _ how hn).mono ?_
  rintro e w2 ⟨rfl, rfl⟩
  go_wp2
  go_ret
  exact ⟨a', rfl, how.clip, hx⟩
end Go.Proofs.Ytafmomocmodbhaa
