/- Contracts: lists of words, ends, packets (the tests). -/
import Derived.Test.YtafmomocmodbhaaBase
namespace Go.Proofs.Ytafmomocmodbhaa
open Go.RowKit

/-- A slice of integers that is not empty: its address and its cells. -/
theorem Sl.ints {w : World} {a : Option Addr} {n c : Nat} {L : List Int} (h : Sl encI 1 w a n c L) :
    (n = 0 ∧ L = []) ∨ (0 < n ∧ ∃ b off, a = some ⟨b, off, none⟩ ∧ b < w.heap.size ∧ ∀ i : Nat, i < n → w.cell? ⟨b, off + i, none⟩ = some (.int .i64 (nth L i))) := by
  rcases h.form with h0 | ⟨h0, b, off, ha, hb, hc⟩
  · exact .inl h0
  · refine .inr ⟨h0, b, off, ha, hb, fun i hi => ?_⟩
    have := hc i _ (nth_some (by rw [h.len]; exact hi)) 0 (.int .i64 (nth L i)) rfl
    simpa using this

theorem spec_allIn (a : Option Addr) (n c : Nat) (L : List Int) (lo hi : Int) (w : World) (hs : Sl encI 1 w a n c L) :
    Calls Try.prog 102 #[.slice a n c, .int .i64 lo, .int .i64 hi] w fun e w' => e = .returned (.bool (L.all fun x => inR x lo hi)) ∧ w = w' := by
  have hle := hs.le
  have hmax := hs.max
  have hfin : L.all (fun x => inR x lo hi) = upTo (fun i => inR (nth L i) lo hi) n := by rw [all_upTo, hs.len]
  rw [hfin]
  clear hfin
  rcases hs.ints with ⟨h0, hL⟩ | ⟨h0, b, off, ha, hb, hc⟩
  · subst h0
    clear hs hL
    go_enter Try.func102, Try.ntmps102
    go_wp2
    go_loop [7] (fun i => i = .int .i64 0) (fun _ => 0)
    case atStart => rfl
    case round =>
      subst hrel
      go_wp2
      go_ret
      exact ⟨rfl, rfl⟩
  · subst ha
    clear hs
    go_enter Try.func102, Try.ntmps102
    go_wp2
    go_loop [7] (fun i => ∃ k : Nat, k ≤ n ∧ i = .int .i64 k ∧ ∀ j, j < k → inR (nth L j) lo hi = true) (fun i => n - (intOf i).toNat)
    case atStart => exact ⟨0, Nat.zero_le _, rfl, by omega⟩
    case round =>
      obtain ⟨k, hk, rfl, hall⟩ := hrel
      have HA := Lib.hid hall
      clear hall
      by_cases hlt : k < n
      · have hck := hc k hlt
        have c1 := spec_inRange (nth L k) lo hi
        cases hb : inR (nth L k) lo hi with
        | true =>
          simp only [hb] at c1
          replace c1 := Lib.hid c1
          replace hb := Lib.hid hb
          go_wp2_with (go_at_call 68; refine (c1.out _).mono ?_; rintro e w' ⟨rfl, rfl⟩)
          go_round
          case rel => exact ⟨k + 1, hlt, by go_num, fun j hj => by
            rcases Nat.lt_or_ge j k with h | h
            · exact HA.out j h
            · have e : j = k := by omega
              rw [e]; exact hb.out⟩
          case measure => simp [intOf]; omega
        | false =>
          simp only [hb] at c1
          replace c1 := Lib.hid c1
          replace hb := Lib.hid hb
          go_wp2_with (go_at_call 68; refine (c1.out _).mono ?_; rintro e w' ⟨rfl, rfl⟩)
          go_ret
          exact ⟨ret_bool (upTo_f hlt hb.out).symm, rfl⟩
      · go_wp2
        go_ret
        exact ⟨ret_bool (upTo_iff.2 fun j hj => HA.out j (by omega)).symm, rfl⟩
theorem impl_areWords (a : Option Addr) (n c : Nat) (L : List Int) (w : World) (hs : Sl encI 1 w a n c L) :
    Calls Try.prog 84 #[.slice a n c] w fun e w' => e = .returned (.bool (L.all word)) ∧ w = w' := by
  have hle := hs.le
  have hmax := hs.max
  have hfin : L.all word = upTo (fun i => word (nth L i)) n := by rw [all_upTo, hs.len]
  rw [hfin]
  clear hfin
  rcases hs.ints with ⟨h0, hL⟩ | ⟨h0, b, off, ha, hb, hc⟩
  · subst h0
    clear hs hL
    go_enter Try.func84, Try.ntmps84
    go_wp2
    go_loop [7] (fun i => i = .int .i64 0) (fun _ => 0)
    case atStart => rfl
    case round =>
      subst hrel
      go_wp2
      go_ret
      exact ⟨rfl, rfl⟩
  · subst ha
    clear hs
    go_enter Try.func84, Try.ntmps84
    go_wp2
    go_loop [7] (fun i => ∃ k : Nat, k ≤ n ∧ i = .int .i64 k ∧ ∀ j, j < k → word (nth L j) = true) (fun i => n - (intOf i).toNat)
    case atStart => exact ⟨0, Nat.zero_le _, rfl, by omega⟩
    case round =>
      obtain ⟨k, hk, rfl, hall⟩ := hrel
      have HA := Lib.hid hall
      clear hall
      by_cases hlt : k < n
      · have hck := hc k hlt
        have c1 := impl_isWord (nth L k)
        cases hb : word (nth L k) with
        | true =>
          simp only [hb] at c1
          replace c1 := Lib.hid c1
          replace hb := Lib.hid hb
          go_wp2_with (go_at_call 83; refine (c1.out _).mono ?_; rintro e w' ⟨rfl, rfl⟩)
          go_round
          case rel => exact ⟨k + 1, hlt, by go_num, fun j hj => by
            rcases Nat.lt_or_ge j k with h | h
            · exact HA.out j h
            · have e : j = k := by omega
              rw [e]; exact hb.out⟩
          case measure => simp [intOf]; omega
        | false =>
          simp only [hb] at c1
          replace c1 := Lib.hid c1
          replace hb := Lib.hid hb
          go_wp2_with (go_at_call 83; refine (c1.out _).mono ?_; rintro e w' ⟨rfl, rfl⟩)
          go_ret
          exact ⟨ret_bool (upTo_f hlt hb.out).symm, rfl⟩
      · go_wp2
        go_ret
        exact ⟨ret_bool (upTo_iff.2 fun j hj => HA.out j (by omega)).symm, rfl⟩
theorem impl_End_valid (x y : Int) (w : World) : Calls Try.prog 113 #[.agg #[.int .i64 x, .int .i64 y]] w fun e w' => e = .returned (.bool (validEnd ⟨x, y⟩)) ∧ Ext w w' := by
  go_enter Try.func113, Try.ntmps113
  go_wp2_with (go_at_call 84; refine (impl_areWords _ _ _ [x, y] _ (by exact Sl.lit _ _ [x, y] (by simp))).mono ?_; rintro e w' ⟨rfl, rfl⟩)
  go_ret
  exact ⟨rfl, (by repeat (first | (with_reducible exact Ext.refl _) | (with_reducible assumption) | (with_reducible refine Ext.alloc ?_ _) | (with_reducible refine Ext.drewN ?_ _) | (with_reducible refine Ext.drew ?_) | (with_reducible refine Ext.setCell ?_ ?_ _; rotate_left; (simp only []; omega)) | (with_reducible refine Ext.trans ?_ (by assumption))))⟩
theorem spec_validEnd (x y : Int) (w : World) : Calls Try.prog 101 #[.agg #[.int .i64 x, .int .i64 y]] w fun e w' => e = .returned (.bool (validEnd ⟨x, y⟩)) ∧ Ext w w' := by
  have c1 := spec_validAddr x
  cases h1 : word x with
  | false =>
    have hv : validEnd ⟨x, y⟩ = false := by simp [validEnd, h1]
    simp only [h1, hv] at c1 ⊢
    clear hv h1
    replace c1 := Lib.hid c1
    go_enter Try.func101, Try.ntmps101
    go_wp2_with (go_at_call 97; refine (c1.out _).mono ?_; rintro e w' ⟨rfl, rfl⟩)
    go_ret
    exact ⟨rfl, (by repeat (first | (with_reducible exact Ext.refl _) | (with_reducible assumption) | (with_reducible refine Ext.alloc ?_ _) | (with_reducible refine Ext.drewN ?_ _) | (with_reducible refine Ext.drew ?_) | (with_reducible refine Ext.setCell ?_ ?_ _; rotate_left; (simp only []; omega)) | (with_reducible refine Ext.trans ?_ (by assumption))))⟩
  | true =>
    have hv : validEnd ⟨x, y⟩ = inR y 0 65535 := by rw [validEnd, h1]; rfl
    simp only [h1, hv] at c1 ⊢
    clear hv h1
    replace c1 := Lib.hid c1
    go_enter Try.func101, Try.ntmps101
    go_wp2_with (first | (go_at_call 97; refine (c1.out _).mono ?_; rintro e w' ⟨rfl, rfl⟩) | (go_at_call 68; refine (spec_inRange _ _ _ _).mono ?_; rintro e w' ⟨rfl, rfl⟩))
    go_ret
    exact ⟨rfl, (by repeat (first | (with_reducible exact Ext.refl _) | (with_reducible assumption) | (with_reducible refine Ext.alloc ?_ _) | (with_reducible refine Ext.drewN ?_ _) | (with_reducible refine Ext.drew ?_) | (with_reducible refine Ext.setCell ?_ ?_ _; rotate_left; (simp only []; omega)) | (with_reducible refine Ext.trans ?_ (by assumption))))⟩
theorem impl_ValidPacket (kind fa fp ta tp : Int) (a : Option Addr) (n c : Nat) (L : List Int) (w : World) (hs : Sl encI 1 w a n c L) :
    Calls Try.prog 53 #[.agg #[.int .i64 kind, .int .i64 fa, .int .i64 fp, .int .i64 ta, .int .i64 tp, .slice a n c]] w fun e w' => e = .returned (.bool (validPkt ⟨kind, ⟨fa, fp⟩, ⟨ta, tp⟩, L⟩)) ∧ Ext w w' := by
  have hlen := hs.len
  have hmax := hs.max
  have hle := hs.le
  rw [show validPkt ⟨kind, ⟨fa, fp⟩, ⟨ta, tp⟩, L⟩ = (inR kind 0 2 && validEnd ⟨fa, fp⟩ && validEnd ⟨ta, tp⟩ && decide (n ≤ 12) && L.all word) by rw [← hlen]; rfl]
  clear hlen
  go_enter Try.func53, Try.ntmps53
  go_wp2_with (first | (go_at_call 63; refine (impl_in _ _ _ _).mono ?_; rintro e w' ⟨rfl, rfl⟩) | (go_at_call 113; refine (impl_End_valid _ _ _).mono ?_; rintro e w1 ⟨rfl, hx⟩; have hc := hx.cells; have hf := hx.frozens; have hy := hx.size; (try simp at hy); have hz : w.heap.size < w1.heap.size := (by omega)) | (go_at_call 84; refine (impl_areWords _ _ _ L _ (by exact hs.ext (by repeat (first | (with_reducible exact Ext.refl _) | (with_reducible assumption) | (with_reducible refine Ext.alloc ?_ _) | (with_reducible refine Ext.drewN ?_ _) | (with_reducible refine Ext.drew ?_) | (with_reducible refine Ext.setCell ?_ ?_ _; rotate_left; (simp only []; omega)) | (with_reducible refine Ext.trans ?_ (by assumption)))))).mono ?_; rintro e w' ⟨rfl, rfl⟩))
  all_goals (go_ret; exact ⟨ret_bool (by simp [*] <;> intros <;> omega), (by repeat (first | (with_reducible exact Ext.refl _) | (with_reducible assumption) | (with_reducible refine Ext.alloc ?_ _) | (with_reducible refine Ext.drewN ?_ _) | (with_reducible refine Ext.drew ?_) | (with_reducible refine Ext.setCell ?_ ?_ _; rotate_left; (simp only []; omega)) | (with_reducible refine Ext.trans ?_ (by assumption))))⟩)
theorem spec_validPacket (kind fa fp ta tp : Int) (a : Option Addr) (n c : Nat) (L : List Int) (w : World) (hs : Sl encI 1 w a n c L) :
    Calls Try.prog 43 #[.agg #[.int .i64 kind, .int .i64 fa, .int .i64 fp, .int .i64 ta, .int .i64 tp, .slice a n c]] w fun e w' => e = .returned (.bool (validPkt ⟨kind, ⟨fa, fp⟩, ⟨ta, tp⟩, L⟩)) ∧ Ext w w' := by
  have hlen := hs.len
  have hmax := hs.max
  have hle := hs.le
  rw [show validPkt ⟨kind, ⟨fa, fp⟩, ⟨ta, tp⟩, L⟩ = (inR kind 0 2 && validEnd ⟨fa, fp⟩ && validEnd ⟨ta, tp⟩ && decide (n ≤ 12) && L.all fun x => inR x 0 65535) by rw [← hlen]; rfl]
  clear hlen
  go_enter Try.func43, Try.ntmps43
  go_wp2_with (first | (go_at_call 68; refine (spec_inRange _ _ _ _).mono ?_; rintro e w' ⟨rfl, rfl⟩) | (go_at_call 101; refine (spec_validEnd _ _ _).mono ?_; rintro e w1 ⟨rfl, hx⟩; have hc := hx.cells; have hf := hx.frozens; have hy := hx.size; (try simp at hy); have hz : w.heap.size < w1.heap.size := (by omega)) | (go_at_call 102; refine (spec_allIn _ _ _ L _ _ _ (by exact hs.ext (by repeat (first | (with_reducible exact Ext.refl _) | (with_reducible assumption) | (with_reducible refine Ext.alloc ?_ _) | (with_reducible refine Ext.drewN ?_ _) | (with_reducible refine Ext.drew ?_) | (with_reducible refine Ext.setCell ?_ ?_ _; rotate_left; (simp only []; omega)) | (with_reducible refine Ext.trans ?_ (by assumption)))))).mono ?_; rintro e w' ⟨rfl, rfl⟩))
  all_goals (go_ret; exact ⟨ret_bool (by simp [*] <;> intros <;> omega), (by repeat (first | (with_reducible exact Ext.refl _) | (with_reducible assumption) | (with_reducible refine Ext.alloc ?_ _) | (with_reducible refine Ext.drewN ?_ _) | (with_reducible refine Ext.drew ?_) | (with_reducible refine Ext.setCell ?_ ?_ _; rotate_left; (simp only []; omega)) | (with_reducible refine Ext.trans ?_ (by assumption))))⟩)
end Go.Proofs.Ytafmomocmodbhaa
