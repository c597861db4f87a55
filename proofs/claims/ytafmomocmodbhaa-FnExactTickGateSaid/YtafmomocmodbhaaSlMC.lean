/- Laws on slices of mappings and of contacts: copies; what a slice of them holds. -/
import Derived.Test.YtafmomocmodbhaaSlice
import Derived.Test.YtafmomocmodbhaaEager
namespace Go.Proofs.Ytafmomocmodbhaa
open Go.RowKit

theorem eiM : EI Try.prog 37 102 4 32 := EI.mk (z := .agg #[.int .i64 0, .int .i64 0, .int .i64 0, .int .i64 0]) Try.underlying37 (by kernel_rfl) rfl (by omega)
theorem Clone_M (a : Option Addr) (n c : Nat) (L : List MapD) (w : World) (hs : Sl encM 4 w a n c L) (hn : n ≤ 1048576) :
    Calls Try.prog 126 #[.slice a n c] w fun e w' => ∃ a' c', e = .returned (.slice a' n c') ∧ w'.ownsRow w.heap.size 102 4 (.slice a' n c') n (L.flatMap encM) ∧ Ext w w' := by
  have hq := fun (W : World) => Lib.run_eql_slice_nil (P := Try.prog) W 37 102 a n c 0 0 Try.underlying37
  cases a with
  | none =>
    have hc := hs.nil rfl
    have h0 : n = 0 := by have := hs.le; omega
    subst h0; subst hc
    have hL := hs.zero
    subst hL
    go_enter Try.func126, Try.ntmps126
    go_wp2
    go_ret
    exact ⟨none, 0, rfl, World.ownsRow_nil _ _ _ _, Ext.refl _⟩
  | some ad =>
    go_enter Try.func126, Try.ntmps126
    go_wp2_with (at_builtin; refine wpList_append_sl _ rfl _ _ rfl eiM encM_len encM_one w.heap.size (.slice (some ⟨w.heap.size, 0, none⟩) 0 0) 0 [] rfl (own_empty w w.heap.size rfl (Nat.le_refl _)) (some ad) n c L rfl (by exact hs.ext (by repeat (first | (with_reducible exact Ext.refl _) | (with_reducible assumption) | (with_reducible refine Ext.alloc ?_ _) | (with_reducible refine Ext.drewN ?_ _) | (with_reducible refine Ext.drew ?_) | (with_reducible refine Ext.setCell ?_ ?_ _; rotate_left; (simp only []; omega)) | (with_reducible refine Ext.trans ?_ (by assumption))))) (by simp only [maxLen]; omega) (by omega) (by simp) ?_; intro a' c' w1 hown hg hat; simp only [Nat.zero_add, List.nil_append] at hown)
    go_ret
    exact ⟨a', c', by simp, hown, Ext.own (by repeat (first | (with_reducible exact Ext.refl _) | (with_reducible assumption) | (with_reducible refine Ext.alloc ?_ _) | (with_reducible refine Ext.drewN ?_ _) | (with_reducible refine Ext.drew ?_) | (with_reducible refine Ext.setCell ?_ ?_ _; rotate_left; (simp only []; omega)) | (with_reducible refine Ext.trans ?_ (by assumption)))) hg (Nat.le_refl _)⟩
theorem Clip_M (a : Option Addr) (n c : Nat) (L : List MapD) (base : Nat) (w : World) (hs : Ow 102 encM 4 base w a n c L) (hn : n ≤ 1048576) :
    Calls Try.prog 124 #[.slice a n c] w fun e w' => e = .returned (.slice a n n) ∧ w = w' := by
  have hle : n ≤ c := (hs.sl encM_len).le
  obtain ⟨hl, ⟨rfl, h0, rfl⟩ | ⟨g, cur, rfl, hb, hg, hnc, hcm, hcs, ht⟩⟩ := hs
  · subst h0
    go_enter Try.func124, Try.ntmps124
    go_wp2
    go_ret
    exact ⟨rfl, rfl⟩
  · clear ht hcs hl hg
    go_enter Try.func124, Try.ntmps124
    go_wp2
    all_goals (go_ret; exact ⟨by simp, rfl⟩)
theorem impl_clone_M (a : Option Addr) (n c : Nat) (L : List MapD) (w : World) (hs : Sl encM 4 w a n c L) (hn : n ≤ 1048576) :
    Calls Try.prog 117 #[.slice a n c] w fun e w' => ∃ a', e = .returned (.slice a' n n) ∧ Ow 102 encM 4 w.heap.size w' a' n n L ∧ Ext w w' := by
  go_enter Try.func117, Try.ntmps117
  go_wp2_with fail
  refine (Clone_M _ _ _ L _ hs hn).mono ?_
  rintro e w1 ⟨a', c', rfl, hown, hx⟩
  have how := Ow.of_row hown encM_len (by omega)
  go_wp2_with fail
  refine (Clip_M _ _ _ L _ _ how hn).mono ?_
  rintro e w2 ⟨rfl, rfl⟩
  go_wp2
  go_ret
  exact ⟨a', rfl, how.clip, hx⟩
theorem eiC : EI Try.prog 38 115 3 24 := EI.mk (z := .agg #[.int .i64 0, .int .i64 0, .int .i64 0]) Try.underlying38 (by kernel_rfl) rfl (by omega)
theorem Clone_C (a : Option Addr) (n c : Nat) (L : List ConD) (w : World) (hs : Sl encC 3 w a n c L) (hn : n ≤ 1048576) :
    Calls Try.prog 122 #[.slice a n c] w fun e w' => ∃ a' c', e = .returned (.slice a' n c') ∧ w'.ownsRow w.heap.size 115 3 (.slice a' n c') n (L.flatMap encC) ∧ Ext w w' := by
  have hq := fun (W : World) => Lib.run_eql_slice_nil (P := Try.prog) W 38 115 a n c 0 0 Try.underlying38
  cases a with
  | none =>
    have hc := hs.nil rfl
    have h0 : n = 0 := by have := hs.le; omega
    subst h0; subst hc
    have hL := hs.zero
    subst hL
    go_enter Try.func122, Try.ntmps122
    go_wp2
    go_ret
    exact ⟨none, 0, rfl, World.ownsRow_nil _ _ _ _, Ext.refl _⟩
  | some ad =>
    go_enter Try.func122, Try.ntmps122
    go_wp2_with (at_builtin; refine wpList_append_sl _ rfl _ _ rfl eiC encC_len encC_one w.heap.size (.slice (some ⟨w.heap.size, 0, none⟩) 0 0) 0 [] rfl (own_empty w w.heap.size rfl (Nat.le_refl _)) (some ad) n c L rfl (by exact hs.ext (by repeat (first | (with_reducible exact Ext.refl _) | (with_reducible assumption) | (with_reducible refine Ext.alloc ?_ _) | (with_reducible refine Ext.drewN ?_ _) | (with_reducible refine Ext.drew ?_) | (with_reducible refine Ext.setCell ?_ ?_ _; rotate_left; (simp only []; omega)) | (with_reducible refine Ext.trans ?_ (by assumption))))) (by simp only [maxLen]; omega) (by omega) (by simp) ?_; intro a' c' w1 hown hg hat; simp only [Nat.zero_add, List.nil_append] at hown)
    go_ret
    exact ⟨a', c', by simp, hown, Ext.own (by repeat (first | (with_reducible exact Ext.refl _) | (with_reducible assumption) | (with_reducible refine Ext.alloc ?_ _) | (with_reducible refine Ext.drewN ?_ _) | (with_reducible refine Ext.drew ?_) | (with_reducible refine Ext.setCell ?_ ?_ _; rotate_left; (simp only []; omega)) | (with_reducible refine Ext.trans ?_ (by assumption)))) hg (Nat.le_refl _)⟩
theorem Clip_C (a : Option Addr) (n c : Nat) (L : List ConD) (base : Nat) (w : World) (hs : Ow 115 encC 3 base w a n c L) (hn : n ≤ 1048576) :
    Calls Try.prog 120 #[.slice a n c] w fun e w' => e = .returned (.slice a n n) ∧ w = w' := by
  have hle : n ≤ c := (hs.sl encC_len).le
  obtain ⟨hl, ⟨rfl, h0, rfl⟩ | ⟨g, cur, rfl, hb, hg, hnc, hcm, hcs, ht⟩⟩ := hs
  · subst h0
    go_enter Try.func120, Try.ntmps120
    go_wp2
    go_ret
    exact ⟨rfl, rfl⟩
  · clear ht hcs hl hg
    go_enter Try.func120, Try.ntmps120
    go_wp2
    all_goals (go_ret; exact ⟨by simp, rfl⟩)
theorem impl_clone_C (a : Option Addr) (n c : Nat) (L : List ConD) (w : World) (hs : Sl encC 3 w a n c L) (hn : n ≤ 1048576) :
    Calls Try.prog 118 #[.slice a n c] w fun e w' => ∃ a', e = .returned (.slice a' n n) ∧ Ow 115 encC 3 w.heap.size w' a' n n L ∧ Ext w w' := by
  go_enter Try.func118, Try.ntmps118
  go_wp2_with fail
  refine (Clone_C _ _ _ L _ hs hn).mono ?_
  rintro e w1 ⟨a', c', rfl, hown, hx⟩
  have how := Ow.of_row hown encC_len (by omega)
  go_wp2_with fail
  refine (Clip_C _ _ _ L _ _ how hn).mono ?_
  rintro e w2 ⟨rfl, rfl⟩
  go_wp2
  go_ret
  exact ⟨a', rfl, how.clip, hx⟩
/-- A slice of mappings that is not empty: its address and its cells. -/
theorem Sl.maps {w : World} {a : Option Addr} {n c : Nat} {L : List MapD} (h : Sl encM 4 w a n c L) :
    (n = 0 ∧ L = []) ∨ (0 < n ∧ ∃ b off, a = some ⟨b, off, none⟩ ∧ b < w.heap.size ∧ ∀ i : Nat, i < n → w.cell? ⟨b, off + i * 4, none⟩ = some (.int .i64 (nth L i).ins.addr) ∧ w.cell? ⟨b, off + i * 4 + 1, none⟩ = some (.int .i64 (nth L i).ins.port) ∧
      w.cell? ⟨b, off + i * 4 + 2, none⟩ = some (.int .i64 (nth L i).port) ∧ w.cell? ⟨b, off + i * 4 + 3, none⟩ = some (.int .i64 (nth L i).last)) := by
  rcases h.form with h0 | ⟨h0, b, off, ha, hb, hc⟩
  · exact .inl h0
  · refine .inr ⟨h0, b, off, ha, hb, fun i hi => ?_⟩
    have hx := nth_some (l := L) (i := i) (by rw [h.len]; exact hi)
    exact ⟨by simpa using hc i _ hx 0 _ rfl, hc i _ hx 1 _ rfl, hc i _ hx 2 _ rfl, hc i _ hx 3 _ rfl⟩
theorem Sl.cons {w : World} {a : Option Addr} {n c : Nat} {L : List ConD} (h : Sl encC 3 w a n c L) :
    (n = 0 ∧ L = []) ∨ (0 < n ∧ ∃ b off, a = some ⟨b, off, none⟩ ∧ b < w.heap.size ∧ ∀ i : Nat, i < n → w.cell? ⟨b, off + i * 3, none⟩ = some (.int .i64 (nth L i).port) ∧ w.cell? ⟨b, off + i * 3 + 1, none⟩ = some (.int .i64 (nth L i).to_.addr) ∧
      w.cell? ⟨b, off + i * 3 + 2, none⟩ = some (.int .i64 (nth L i).to_.port)) := by
  rcases h.form with h0 | ⟨h0, b, off, ha, hb, hc⟩
  · exact .inl h0
  · refine .inr ⟨h0, b, off, ha, hb, fun i hi => ?_⟩
    have hx := nth_some (l := L) (i := i) (by rw [h.len]; exact hi)
    exact ⟨by simpa using hc i _ hx 0 _ rfl, hc i _ hx 1 _ rfl, hc i _ hx 2 _ rfl⟩
end Go.Proofs.Ytafmomocmodbhaa
