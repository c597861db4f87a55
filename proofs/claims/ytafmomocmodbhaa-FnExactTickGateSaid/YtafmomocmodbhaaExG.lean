/- Contracts of the exact laws' own helpers on gates: size, copy, comparison. -/
import Derived.Test.YtafmomocmodbhaaExact
import Derived.Test.YtafmomocmodbhaaEql
import Derived.Test.YtafmomocmodbhaaEager
namespace Go.Proofs.Ytafmomocmodbhaa
open Go.RowKit

theorem fill_four {cur : Array Value} {n k : Nat} {M : List MapD} (h1 : cur.size = n * 4) (hk : k < n) (hM : M.length = n) (h2 : cur.toList.take (k * 4) = (M.take k).flatMap encM) :
    ((((cur.setIfInBounds (k * 4) (.int .i64 (nth M k).ins.addr)).setIfInBounds (k * 4 + 1) (.int .i64 (nth M k).ins.port)).setIfInBounds (k * 4 + 2) (.int .i64 (nth M k).port)).setIfInBounds (k * 4 + 3) (.int .i64 (nth M k).last)).size = n * 4 ∧
    ((((cur.setIfInBounds (k * 4) (.int .i64 (nth M k).ins.addr)).setIfInBounds (k * 4 + 1) (.int .i64 (nth M k).ins.port)).setIfInBounds (k * 4 + 2) (.int .i64 (nth M k).port)).setIfInBounds (k * 4 + 3) (.int .i64 (nth M k).last)).toList.take ((k + 1) * 4) = (M.take (k + 1)).flatMap encM := by
  refine ⟨by simpa using h1, ?_⟩
  rw [show (k + 1) * 4 = k * 4 + 3 + 1 by omega]
  simp only [Array.toList_setIfInBounds]
  rw [set_take (by simp; omega), set_take (by simp; omega), set_take (by simp; omega), set_take (by simp; omega), h2, take_succ (by omega)]
  simp [encM]
theorem fill_three {cur : Array Value} {n k : Nat} {M : List ConD} (h1 : cur.size = n * 3) (hk : k < n) (hM : M.length = n) (h2 : cur.toList.take (k * 3) = (M.take k).flatMap encC) :
    (((cur.setIfInBounds (k * 3) (.int .i64 (nth M k).port)).setIfInBounds (k * 3 + 1) (.int .i64 (nth M k).to_.addr)).setIfInBounds (k * 3 + 2) (.int .i64 (nth M k).to_.port)).size = n * 3 ∧
    (((cur.setIfInBounds (k * 3) (.int .i64 (nth M k).port)).setIfInBounds (k * 3 + 1) (.int .i64 (nth M k).to_.addr)).setIfInBounds (k * 3 + 2) (.int .i64 (nth M k).to_.port)).toList.take ((k + 1) * 3) = (M.take (k + 1)).flatMap encC := by
  refine ⟨by simpa using h1, ?_⟩
  rw [show (k + 1) * 3 = k * 3 + 2 + 1 by omega]
  simp only [Array.toList_setIfInBounds]
  rw [set_take (by simp; omega), set_take (by simp; omega), set_take (by simp; omega), h2, take_succ (by omega)]
  simp [encC]
theorem toNet_any (x y : Int) (w : World) : Calls Try.prog 47 #[.agg #[.int .i64 x, .int .i64 y]] w fun e w' => e = .returned (.agg #[.int .i64 x, .int .i64 y]) ∧ Ext w w' := by
  go_enter Try.func47, Try.ntmps47
  go_wp2
  refine' bodyPost_ret (v := _) ?_ rfl ?_
  rotate_left
  · (simp only [results, Try.results47]
     go_simp
     rfl)
  exact ⟨rfl, (by repeat (first | (with_reducible exact Ext.refl _) | (with_reducible assumption) | (with_reducible refine Ext.alloc ?_ _) | (with_reducible refine Ext.drewN ?_ _) | (with_reducible refine Ext.drew ?_) | (with_reducible refine Ext.setCell ?_ ?_ _; rotate_left; (simp only []; omega)) | (with_reducible refine Ext.trans ?_ (by assumption))))⟩
theorem toMapping_any (m : MapD) (w : World) : Calls Try.prog 104 #[.agg #[.int .i64 m.ins.addr, .int .i64 m.ins.port, .int .i64 m.port, .int .i64 m.last]] w fun e w' => e = .returned (.agg #[.int .i64 m.ins.addr, .int .i64 m.ins.port, .int .i64 m.port, .int .i64 m.last]) ∧ Ext w w' := by
  go_enter Try.func104, Try.ntmps104
  go_wp2_with (go_at_call 50; refine (toEnd_any _ _ _).mono ?_; rintro e w1 ⟨rfl, hx⟩; have hc := hx.cells; have hf := hx.frozens; have hy := hx.size; (try simp at hy); have hz : w.heap.size < w1.heap.size ∧ w.heap.size + 1 < w1.heap.size ∧ w.heap.size + 2 < w1.heap.size := (by omega))
  refine' bodyPost_ret (v := _) ?_ rfl ?_
  rotate_left
  · (simp only [results, Try.results104]
     go_simp
     rfl)
  exact ⟨rfl, (by repeat (first | (with_reducible exact Ext.refl _) | (with_reducible assumption) | (with_reducible refine Ext.alloc ?_ _) | (with_reducible refine Ext.drewN ?_ _) | (with_reducible refine Ext.drew ?_) | (with_reducible refine Ext.setCell ?_ ?_ _; rotate_left; (simp only []; omega)) | (with_reducible refine Ext.trans ?_ (by assumption))))⟩
theorem toContact_any (x : ConD) (w : World) : Calls Try.prog 105 #[.agg #[.int .i64 x.port, .int .i64 x.to_.addr, .int .i64 x.to_.port]] w fun e w' => e = .returned (.agg #[.int .i64 x.port, .int .i64 x.to_.addr, .int .i64 x.to_.port]) ∧ Ext w w' := by
  go_enter Try.func105, Try.ntmps105
  go_wp2_with (go_at_call 50; refine (toEnd_any _ _ _).mono ?_; rintro e w1 ⟨rfl, hx⟩; have hc := hx.cells; have hf := hx.frozens; have hy := hx.size; (try simp at hy); have hz : w.heap.size < w1.heap.size ∧ w.heap.size + 1 < w1.heap.size ∧ w.heap.size + 2 < w1.heap.size := (by omega))
  refine' bodyPost_ret (v := _) ?_ rfl ?_
  rotate_left
  · (simp only [results, Try.results105]
     go_simp
     rfl)
  exact ⟨rfl, (by repeat (first | (with_reducible exact Ext.refl _) | (with_reducible assumption) | (with_reducible refine Ext.alloc ?_ _) | (with_reducible refine Ext.drewN ?_ _) | (with_reducible refine Ext.drew ?_) | (with_reducible refine Ext.setCell ?_ ?_ _; rotate_left; (simp only []; omega)) | (with_reducible refine Ext.trans ?_ (by assumption))))⟩
theorem make_maps (n : Nat) (hn : n ≤ 1048576) : ∃ Z : Array Value, Z.size = n * 4 ∧ ∀ W : World, (Instr.makeSlice 37 (.int .i64 (n : Int)) (.int .i64 (n : Int))).run Try.prog W = .ok (.slice (some ⟨W.heap.size, 0, none⟩) n n) (W.alloc (.cells Z 102)) := by
  obtain ⟨ht, i, z, hi, hz, hsz, hby, hzs, _⟩ := eiM
  refine ⟨madeCells z.cells (n * i.size), ?_, fun W => ?_⟩
  · simp [hsz, size_madeCells]
  · have := run_makeSlice (P := Try.prog) W 37 102 i z ht hi hz .i64 .i64 (n : Int) (n : Int) (by omega) (by omega) (by rw [hsz]; simp; omega) (by rw [hby]; omega) (by omega)
    simpa using this
theorem toMappingS_any (a : Option Addr) (n c : Nat) (L : List MapD) (w : World) (hs : Sl encM 4 w a n c L) (hn : n ≤ 1048576) :
    Calls Try.prog 48 #[.slice a n c] w fun e w' => ∃ a', e = .returned (.slice a' n n) ∧ Ow 102 encM 4 w.heap.size w' a' n n L ∧ Ext w w' := by
  have hle := hs.le
  have hmax := hs.max
  have hlen := hs.len
  obtain ⟨Z, hZ, hmk⟩ := make_maps n hn
  have HL := Lib.hid hlen
  have HZ := Lib.hid hZ
  have HI := Lib.hid hs.maps
  clear hlen hs hZ
  go_enter Try.func48, Try.ntmps48
  go_wp2
  go_loopw [4] (fun i wr => ∃ (k : Nat) (cur : Array Value), k ≤ n ∧ i = .int .i64 k ∧ Blk wr w.heap.size 102 cur ∧ cur.size = n * 4 ∧ cur.toList.take (k * 4) = (L.take k).flatMap encM ∧ Ext w wr) (fun i _ => n - (intOf i).toNat)
  case atStart => exact ⟨0, Z, Nat.zero_le _, rfl, Blk.new _ _ _, HZ.out, by simp, (by repeat (first | (with_reducible exact Ext.refl _) | (with_reducible assumption) | (with_reducible refine Ext.alloc ?_ _) | (with_reducible refine Ext.drewN ?_ _) | (with_reducible refine Ext.drew ?_) | (with_reducible refine Ext.setCell ?_ ?_ _; rotate_left; (simp only []; omega)) | (with_reducible refine Ext.trans ?_ (by assumption))))⟩
  case round =>
    obtain ⟨k, cur, hk, rfl, hB, hcz, hct, hX⟩ := hrel
    by_cases hlt : k < n
    · obtain ⟨_, b, off, rfl, hb, hc⟩ := (HI.out).resolve_left (by omega)
      obtain ⟨d0, d1, d2, d3⟩ := hc k hlt
      rw [← hX.cells _ _ hb] at d0 d1 d2 d3
      have hbr : b < wr.heap.size := by have := hX.size; omega
      have HZ2 := Lib.hid hcz
      have HT := Lib.hid hct
      have HX := Lib.hid hX
      clear hc hmk hcz hct hX
      go_wp2_with fail
      refine (toMapping_any (nth L k) _).mono ?_
      rintro e w1 ⟨rfl, hx1⟩
      have HX1 : Ext w w1 := (show Ext w wr from HX.out).trans (by repeat (first | (with_reducible exact Ext.refl _) | (with_reducible assumption) | (with_reducible refine Ext.alloc ?_ _) | (with_reducible refine Ext.drewN ?_ _) | (with_reducible refine Ext.drew ?_) | (with_reducible refine Ext.setCell ?_ ?_ _; rotate_left; (simp only []; omega)) | (with_reducible refine Ext.trans ?_ (by assumption))))
      have hB1 := hB.ext hx1
      obtain ⟨v0, c0⟩ : ∃ v, w1.cell? ⟨w.heap.size, k * 4, none⟩ = some v := ⟨_, by rw [hB1.cells]; exact Array.getElem?_eq_getElem (by rw [HZ2.out]; omega)⟩
      obtain ⟨v1, c1⟩ : ∃ v, w1.cell? ⟨w.heap.size, k * 4 + 1, none⟩ = some v := ⟨_, by rw [hB1.cells]; exact Array.getElem?_eq_getElem (by rw [HZ2.out]; omega)⟩
      obtain ⟨v2, c2⟩ : ∃ v, w1.cell? ⟨w.heap.size, k * 4 + 2, none⟩ = some v := ⟨_, by rw [hB1.cells]; exact Array.getElem?_eq_getElem (by rw [HZ2.out]; omega)⟩
      obtain ⟨v3, c3⟩ : ∃ v, w1.cell? ⟨w.heap.size, k * 4 + 3, none⟩ = some v := ⟨_, by rw [hB1.cells]; exact Array.getElem?_eq_getElem (by rw [HZ2.out]; omega)⟩
      have f0 := hB1.frozens
      have hz1 := hB1.lt
      go_wp2
      go_roundw
      case rel => exact ⟨k + 1, _, by omega, by go_num, (((hB1.set _ _).set _ _).set _ _).set _ _, (fill_four HZ2.out hlt HL.out HT.out).1, (fill_four HZ2.out hlt HL.out HT.out).2, (by repeat (first | (with_reducible exact Ext.refl _) | (with_reducible assumption) | (with_reducible refine Ext.alloc ?_ _) | (with_reducible refine Ext.drewN ?_ _) | (with_reducible refine Ext.drew ?_) | (with_reducible refine Ext.setCell ?_ ?_ _; rotate_left; (simp only []; omega)) | (with_reducible refine Ext.trans ?_ (by assumption))))⟩
      case measure => simp [intOf]; omega
    · have e : k = n := by omega
      subst e
      have HF := Lib.hid (show Ow 102 encM 4 w.heap.size wr (some ⟨w.heap.size, 0, none⟩) k k L by
        refine ⟨HL.out, .inr ⟨w.heap.size, cur, rfl, Nat.le_refl _, hB, Nat.le_refl _, by omega, by omega, ?_⟩⟩
        rw [hct, List.take_of_length_le (by rw [HL.out]; omega)])
      have HX := Lib.hid hX
      clear hcz hct hmk hX
      go_wp2
      go_ret
      exact ⟨_, rfl, HF.out, HX.out⟩
theorem make_cons (n : Nat) (hn : n ≤ 1048576) : ∃ Z : Array Value, Z.size = n * 3 ∧ ∀ W : World, (Instr.makeSlice 38 (.int .i64 (n : Int)) (.int .i64 (n : Int))).run Try.prog W = .ok (.slice (some ⟨W.heap.size, 0, none⟩) n n) (W.alloc (.cells Z 115)) := by
  obtain ⟨ht, i, z, hi, hz, hsz, hby, hzs, _⟩ := eiC
  refine ⟨madeCells z.cells (n * i.size), ?_, fun W => ?_⟩
  · simp [hsz, size_madeCells]
  · have := run_makeSlice (P := Try.prog) W 38 115 i z ht hi hz .i64 .i64 (n : Int) (n : Int) (by omega) (by omega) (by rw [hsz]; simp; omega) (by rw [hby]; omega) (by omega)
    simpa using this
theorem toContactS_any (a : Option Addr) (n c : Nat) (L : List ConD) (w : World) (hs : Sl encC 3 w a n c L) (hn : n ≤ 1048576) :
    Calls Try.prog 49 #[.slice a n c] w fun e w' => ∃ a', e = .returned (.slice a' n n) ∧ Ow 115 encC 3 w.heap.size w' a' n n L ∧ Ext w w' := by
  have hle := hs.le
  have hmax := hs.max
  have hlen := hs.len
  obtain ⟨Z, hZ, hmk⟩ := make_cons n hn
  have HL := Lib.hid hlen
  have HZ := Lib.hid hZ
  have HI := Lib.hid hs.cons
  clear hlen hs hZ
  go_enter Try.func49, Try.ntmps49
  go_wp2
  go_loopw [4] (fun i wr => ∃ (k : Nat) (cur : Array Value), k ≤ n ∧ i = .int .i64 k ∧ Blk wr w.heap.size 115 cur ∧ cur.size = n * 3 ∧ cur.toList.take (k * 3) = (L.take k).flatMap encC ∧ Ext w wr) (fun i _ => n - (intOf i).toNat)
  case atStart => exact ⟨0, Z, Nat.zero_le _, rfl, Blk.new _ _ _, HZ.out, by simp, (by repeat (first | (with_reducible exact Ext.refl _) | (with_reducible assumption) | (with_reducible refine Ext.alloc ?_ _) | (with_reducible refine Ext.drewN ?_ _) | (with_reducible refine Ext.drew ?_) | (with_reducible refine Ext.setCell ?_ ?_ _; rotate_left; (simp only []; omega)) | (with_reducible refine Ext.trans ?_ (by assumption))))⟩
  case round =>
    obtain ⟨k, cur, hk, rfl, hB, hcz, hct, hX⟩ := hrel
    by_cases hlt : k < n
    · obtain ⟨_, b, off, rfl, hb, hc⟩ := (HI.out).resolve_left (by omega)
      obtain ⟨d0, d1, d2⟩ := hc k hlt
      rw [← hX.cells _ _ hb] at d0 d1 d2
      have hbr : b < wr.heap.size := by have := hX.size; omega
      have HZ2 := Lib.hid hcz
      have HT := Lib.hid hct
      have HX := Lib.hid hX
      clear hc hmk hcz hct hX
      go_wp2_with fail
      refine (toContact_any (nth L k) _).mono ?_
      rintro e w1 ⟨rfl, hx1⟩
      have HX1 : Ext w w1 := (show Ext w wr from HX.out).trans (by repeat (first | (with_reducible exact Ext.refl _) | (with_reducible assumption) | (with_reducible refine Ext.alloc ?_ _) | (with_reducible refine Ext.drewN ?_ _) | (with_reducible refine Ext.drew ?_) | (with_reducible refine Ext.setCell ?_ ?_ _; rotate_left; (simp only []; omega)) | (with_reducible refine Ext.trans ?_ (by assumption))))
      have hB1 := hB.ext hx1
      obtain ⟨v0, c0⟩ : ∃ v, w1.cell? ⟨w.heap.size, k * 3, none⟩ = some v := ⟨_, by rw [hB1.cells]; exact Array.getElem?_eq_getElem (by rw [HZ2.out]; omega)⟩
      obtain ⟨v1, c1⟩ : ∃ v, w1.cell? ⟨w.heap.size, k * 3 + 1, none⟩ = some v := ⟨_, by rw [hB1.cells]; exact Array.getElem?_eq_getElem (by rw [HZ2.out]; omega)⟩
      obtain ⟨v2, c2⟩ : ∃ v, w1.cell? ⟨w.heap.size, k * 3 + 2, none⟩ = some v := ⟨_, by rw [hB1.cells]; exact Array.getElem?_eq_getElem (by rw [HZ2.out]; omega)⟩
      have f0 := hB1.frozens
      have hz1 := hB1.lt
      go_wp2
      go_roundw
      case rel => exact ⟨k + 1, _, by omega, by go_num, ((hB1.set _ _).set _ _).set _ _, (fill_three HZ2.out hlt HL.out HT.out).1, (fill_three HZ2.out hlt HL.out HT.out).2, (by repeat (first | (with_reducible exact Ext.refl _) | (with_reducible assumption) | (with_reducible refine Ext.alloc ?_ _) | (with_reducible refine Ext.drewN ?_ _) | (with_reducible refine Ext.drew ?_) | (with_reducible refine Ext.setCell ?_ ?_ _; rotate_left; (simp only []; omega)) | (with_reducible refine Ext.trans ?_ (by assumption))))⟩
      case measure => simp [intOf]; omega
    · have e : k = n := by omega
      subst e
      have HF := Lib.hid (show Ow 115 encC 3 w.heap.size wr (some ⟨w.heap.size, 0, none⟩) k k L by
        refine ⟨HL.out, .inr ⟨w.heap.size, cur, rfl, Nat.le_refl _, hB, Nat.le_refl _, by omega, by omega, ?_⟩⟩
        rw [hct, List.take_of_length_le (by rw [HL.out]; omega)])
      have HX := Lib.hid hX
      clear hcz hct hmk hX
      go_wp2
      go_ret
      exact ⟨_, rfl, HF.out, HX.out⟩
theorem szMappingS_any (a : Option Addr) (n c : Nat) (left : Int) (w : World) (h0 : 0 ≤ left) (h1 : left ≤ 1048576) (hn : (n : Int) ≤ 9223372036854775807) :
    Calls Try.prog 39 #[.slice a n c, .int .i64 left] w fun e w' => e = .returned (.int .i64 (if (n : Int) ≤ left then left - n else -1)) ∧ w = w' := by
  by_cases h : (n : Int) ≤ left
  · rw [if_pos h]
    go_enter Try.func39, Try.ntmps39
    go_wp2
    go_ret
    exact ⟨rfl, rfl⟩
  · rw [if_neg h]
    go_enter Try.func39, Try.ntmps39
    go_wp2
    go_ret
    exact ⟨rfl, rfl⟩
theorem szContactS_any (a : Option Addr) (n c : Nat) (left : Int) (w : World) (h0 : 0 ≤ left) (h1 : left ≤ 1048576) (hn : (n : Int) ≤ 9223372036854775807) :
    Calls Try.prog 40 #[.slice a n c, .int .i64 left] w fun e w' => e = .returned (.int .i64 (if (n : Int) ≤ left then left - n else -1)) ∧ w = w' := by
  by_cases h : (n : Int) ≤ left
  · rw [if_pos h]
    go_enter Try.func40, Try.ntmps40
    go_wp2
    go_ret
    exact ⟨rfl, rfl⟩
  · rw [if_neg h]
    go_enter Try.func40, Try.ntmps40
    go_wp2
    go_ret
    exact ⟨rfl, rfl⟩
theorem eqMapping_same (m : MapD) (w : World) : Calls Try.prog 114 #[.agg #[.int .i64 m.ins.addr, .int .i64 m.ins.port, .int .i64 m.port, .int .i64 m.last], .agg #[.int .i64 m.ins.addr, .int .i64 m.ins.port, .int .i64 m.port, .int .i64 m.last]] w fun e w' => e = .returned (.bool true) ∧ Ext w w' := by
  go_enter Try.func114, Try.ntmps114
  go_wp2_with (go_at_call 58; refine (eqEnd_same _ _ _).mono ?_; rintro e w1 ⟨rfl, hx⟩; have hc := hx.cells; have hf := hx.frozens; have hy := hx.size; (try simp at hy); have hz : w.heap.size < w1.heap.size ∧ w.heap.size + 1 < w1.heap.size := (by omega))
  go_ret
  exact ⟨rfl, (by repeat (first | (with_reducible exact Ext.refl _) | (with_reducible assumption) | (with_reducible refine Ext.alloc ?_ _) | (with_reducible refine Ext.drewN ?_ _) | (with_reducible refine Ext.drew ?_) | (with_reducible refine Ext.setCell ?_ ?_ _; rotate_left; (simp only []; omega)) | (with_reducible refine Ext.trans ?_ (by assumption))))⟩
theorem eqContact_same (x : ConD) (w : World) : Calls Try.prog 115 #[.agg #[.int .i64 x.port, .int .i64 x.to_.addr, .int .i64 x.to_.port], .agg #[.int .i64 x.port, .int .i64 x.to_.addr, .int .i64 x.to_.port]] w fun e w' => e = .returned (.bool true) ∧ Ext w w' := by
  go_enter Try.func115, Try.ntmps115
  go_wp2_with (go_at_call 58; refine (eqEnd_same _ _ _).mono ?_; rintro e w1 ⟨rfl, hx⟩; have hc := hx.cells; have hf := hx.frozens; have hy := hx.size; (try simp at hy); have hz : w.heap.size < w1.heap.size ∧ w.heap.size + 1 < w1.heap.size := (by omega))
  go_ret
  exact ⟨rfl, (by repeat (first | (with_reducible exact Ext.refl _) | (with_reducible assumption) | (with_reducible refine Ext.alloc ?_ _) | (with_reducible refine Ext.drewN ?_ _) | (with_reducible refine Ext.drew ?_) | (with_reducible refine Ext.setCell ?_ ?_ _; rotate_left; (simp only []; omega)) | (with_reducible refine Ext.trans ?_ (by assumption))))⟩
theorem eqNet_same (x : NetD) (w : World) : Calls Try.prog 55 #[.agg #[.int .i64 x.base, .int .i64 x.bits], .agg #[.int .i64 x.base, .int .i64 x.bits]] w fun e w' => e = .returned (.bool true) ∧ Ext w w' := by
  go_enter Try.func55, Try.ntmps55
  go_wp2
  go_ret
  exact ⟨rfl, (by repeat (first | (with_reducible exact Ext.refl _) | (with_reducible assumption) | (with_reducible refine Ext.alloc ?_ _) | (with_reducible refine Ext.drewN ?_ _) | (with_reducible refine Ext.drew ?_) | (with_reducible refine Ext.setCell ?_ ?_ _; rotate_left; (simp only []; omega)) | (with_reducible refine Ext.trans ?_ (by assumption))))⟩
theorem eqMappingS_same (a a' : Option Addr) (n c c' : Nat) (L : List MapD) (w : World) (hs : Sl encM 4 w a n c L) (hs' : Sl encM 4 w a' n c' L) :
    Calls Try.prog 56 #[.slice a n c, .slice a' n c'] w fun e w' => e = .returned (.bool true) ∧ Ext w w' := by
  have hle := hs.le
  have hmax := hs.max
  have HI := Lib.hid hs.maps
  have HJ := Lib.hid hs'.maps
  clear hs hs'
  go_enter Try.func56, Try.ntmps56
  go_wp2
  go_loopw [5] (fun i wr => ∃ k : Nat, k ≤ n ∧ i = .int .i64 k ∧ Ext w wr) (fun i _ => n - (intOf i).toNat)
  case atStart => exact ⟨0, Nat.zero_le _, rfl, Ext.refl _⟩
  case round =>
    obtain ⟨k, hk, rfl, hX⟩ := hrel
    by_cases hlt : k < n
    · obtain ⟨_, b, off, rfl, hb, hc⟩ := (HI.out).resolve_left (by omega)
      obtain ⟨_, b', off', rfl, hb', hc'⟩ := (HJ.out).resolve_left (by omega)
      obtain ⟨d0, d1, d2, d3⟩ := hc k hlt
      obtain ⟨e0, e1, e2, e3⟩ := hc' k hlt
      rw [← hX.cells _ _ hb] at d0 d1 d2 d3
      rw [← hX.cells _ _ hb'] at e0 e1 e2 e3
      have hbr : b < wr.heap.size := by have := hX.size; omega
      have hbr' : b' < wr.heap.size := by have := hX.size; omega
      have HX := Lib.hid hX
      clear hc hc' hX
      go_wp2_with fail
      have hdrS : ∀ W : World, W.drew.heap.size = W.heap.size := fun _ => rfl
      refine wp_region_eager (R := Ext) [0, 1, 2, 3, 4, 5, 6, 7, 8, 9] (by kernel_rfl) (by kernel_rfl) Ext.refl (fun _ _ _ => Ext.trans) ?_
      repeat' (first
        | (refine ChX.skip (by rfl) (by rfl) ?_
           (try simp only [Act.put, List.setIfInBounds_toArray, List.set_cons_zero, List.set_cons_succ]))
        | (refine' ChX.quiet (v := _) (by rfl) (by rfl) (by rfl) ?_ ?_
           rotate_left
           · (intro wS hS
              have hcS := Ext.cells hS
              go_simp
              with_reducible rfl)
           (try simp only [Act.put, List.setIfInBounds_toArray, List.set_cons_zero, List.set_cons_succ]))
        | (refine ChX.nil ?_)
        | (refine' ChX.guard (x := _) (by rfl) ?_ ?_ ?_
           rotate_left
           · (go_simp
              rfl)
           all_goals
             intro hg
             simp only [hg])
        | (refine' ChX.guardN (x := _) (by rfl) ?_ ?_ ?_
           rotate_left
           · (go_simp
              rfl)
           all_goals
             intro hg
             simp only [hg]))
      refine ChX.call (by rfl) (by rfl) (by rfl) (by go_simp; (constructor <;> rfl)) ?_
      refine (eqMapping_same (nth L k) _).mono ?_
      rintro e w1 ⟨rfl, hx1⟩
      refine ⟨_, rfl, hx1, ?_⟩
      (try simp only [Act.put, List.setIfInBounds_toArray, List.set_cons_zero, List.set_cons_succ])
      have hc1 := hx1.cells
      have hf1 := hx1.frozens
      have hy1 := hx1.size
      (try simp at hy1)
      repeat' (first
        | (refine ChX.skip (by rfl) (by rfl) ?_
           (try simp only [Act.put, List.setIfInBounds_toArray, List.set_cons_zero, List.set_cons_succ]))
        | (refine' ChX.quiet (v := _) (by rfl) (by rfl) (by rfl) ?_ ?_
           rotate_left
           · (intro wS hS
              have hcS := Ext.cells hS
              go_simp
              with_reducible rfl)
           (try simp only [Act.put, List.setIfInBounds_toArray, List.set_cons_zero, List.set_cons_succ]))
        | (refine ChX.nil ?_)
        | (refine' ChX.guard (x := _) (by rfl) ?_ ?_ ?_
           rotate_left
           · (go_simp
              rfl)
           all_goals
             intro hg
             simp only [hg])
        | (refine' ChX.guardN (x := _) (by rfl) ?_ ?_ ?_
           rotate_left
           · (go_simp
              rfl)
           all_goals
             intro hg
             simp only [hg]))
      go_wp2
      go_roundw
      case rel => exact ⟨k + 1, hlt, by go_num, (show Ext w wr from HX.out).trans (by repeat (first | (with_reducible exact Ext.refl _) | (with_reducible assumption) | (with_reducible refine Ext.alloc ?_ _) | (with_reducible refine Ext.drewN ?_ _) | (with_reducible refine Ext.drew ?_) | (with_reducible refine Ext.setCell ?_ ?_ _; rotate_left; (simp only []; omega)) | (with_reducible refine Ext.trans ?_ (by assumption))))⟩
      case measure => simp [intOf]; omega
    · have HX := Lib.hid hX
      clear hX
      go_wp2
      go_ret
      exact ⟨rfl, HX.out⟩
theorem eqContactS_same (a a' : Option Addr) (n c c' : Nat) (L : List ConD) (w : World) (hs : Sl encC 3 w a n c L) (hs' : Sl encC 3 w a' n c' L) :
    Calls Try.prog 57 #[.slice a n c, .slice a' n c'] w fun e w' => e = .returned (.bool true) ∧ Ext w w' := by
  have hle := hs.le
  have hmax := hs.max
  have HI := Lib.hid hs.cons
  have HJ := Lib.hid hs'.cons
  clear hs hs'
  go_enter Try.func57, Try.ntmps57
  go_wp2
  go_loopw [5] (fun i wr => ∃ k : Nat, k ≤ n ∧ i = .int .i64 k ∧ Ext w wr) (fun i _ => n - (intOf i).toNat)
  case atStart => exact ⟨0, Nat.zero_le _, rfl, Ext.refl _⟩
  case round =>
    obtain ⟨k, hk, rfl, hX⟩ := hrel
    by_cases hlt : k < n
    · obtain ⟨_, b, off, rfl, hb, hc⟩ := (HI.out).resolve_left (by omega)
      obtain ⟨_, b', off', rfl, hb', hc'⟩ := (HJ.out).resolve_left (by omega)
      obtain ⟨d0, d1, d2⟩ := hc k hlt
      obtain ⟨e0, e1, e2⟩ := hc' k hlt
      rw [← hX.cells _ _ hb] at d0 d1 d2
      rw [← hX.cells _ _ hb'] at e0 e1 e2
      have hbr : b < wr.heap.size := by have := hX.size; omega
      have hbr' : b' < wr.heap.size := by have := hX.size; omega
      have HX := Lib.hid hX
      clear hc hc' hX
      go_wp2_with fail
      have hdrS : ∀ W : World, W.drew.heap.size = W.heap.size := fun _ => rfl
      refine wp_region_eager (R := Ext) [0, 1, 2, 3, 4, 5, 6, 7, 8, 9] (by kernel_rfl) (by kernel_rfl) Ext.refl (fun _ _ _ => Ext.trans) ?_
      repeat' (first
        | (refine ChX.skip (by rfl) (by rfl) ?_
           (try simp only [Act.put, List.setIfInBounds_toArray, List.set_cons_zero, List.set_cons_succ]))
        | (refine' ChX.quiet (v := _) (by rfl) (by rfl) (by rfl) ?_ ?_
           rotate_left
           · (intro wS hS
              have hcS := Ext.cells hS
              go_simp
              with_reducible rfl)
           (try simp only [Act.put, List.setIfInBounds_toArray, List.set_cons_zero, List.set_cons_succ]))
        | (refine ChX.nil ?_)
        | (refine' ChX.guard (x := _) (by rfl) ?_ ?_ ?_
           rotate_left
           · (go_simp
              rfl)
           all_goals
             intro hg
             simp only [hg])
        | (refine' ChX.guardN (x := _) (by rfl) ?_ ?_ ?_
           rotate_left
           · (go_simp
              rfl)
           all_goals
             intro hg
             simp only [hg]))
      refine ChX.call (by rfl) (by rfl) (by rfl) (by go_simp; (constructor <;> rfl)) ?_
      refine (eqContact_same (nth L k) _).mono ?_
      rintro e w1 ⟨rfl, hx1⟩
      refine ⟨_, rfl, hx1, ?_⟩
      (try simp only [Act.put, List.setIfInBounds_toArray, List.set_cons_zero, List.set_cons_succ])
      have hc1 := hx1.cells
      have hf1 := hx1.frozens
      have hy1 := hx1.size
      (try simp at hy1)
      repeat' (first
        | (refine ChX.skip (by rfl) (by rfl) ?_
           (try simp only [Act.put, List.setIfInBounds_toArray, List.set_cons_zero, List.set_cons_succ]))
        | (refine' ChX.quiet (v := _) (by rfl) (by rfl) (by rfl) ?_ ?_
           rotate_left
           · (intro wS hS
              have hcS := Ext.cells hS
              go_simp
              with_reducible rfl)
           (try simp only [Act.put, List.setIfInBounds_toArray, List.set_cons_zero, List.set_cons_succ]))
        | (refine ChX.nil ?_)
        | (refine' ChX.guard (x := _) (by rfl) ?_ ?_ ?_
           rotate_left
           · (go_simp
              rfl)
           all_goals
             intro hg
             simp only [hg])
        | (refine' ChX.guardN (x := _) (by rfl) ?_ ?_ ?_
           rotate_left
           · (go_simp
              rfl)
           all_goals
             intro hg
             simp only [hg]))
      go_wp2
      go_roundw
      case rel => exact ⟨k + 1, hlt, by go_num, (show Ext w wr from HX.out).trans (by repeat (first | (with_reducible exact Ext.refl _) | (with_reducible assumption) | (with_reducible refine Ext.alloc ?_ _) | (with_reducible refine Ext.drewN ?_ _) | (with_reducible refine Ext.drew ?_) | (with_reducible refine Ext.setCell ?_ ?_ _; rotate_left; (simp only []; omega)) | (with_reducible refine Ext.trans ?_ (by assumption))))⟩
      case measure => simp [intOf]; omega
    · have HX := Lib.hid hX
      clear hX
      go_wp2
      go_ret
      exact ⟨rfl, HX.out⟩
set_option maxHeartbeats 1000000 in
theorem eqGate_same (g : GateD) (ta : Option Addr) (tn tc : Nat) (ka : Option Addr) (kn kc : Nat) (sa : Option Addr) (sc : Nat) (qa : Option Addr) (qc : Nat) (w : World)
    (ht : Sl encM 4 w ta tn tc g.table) (hk : Sl encC 3 w ka kn kc g.cons) (hs : Sl encM 4 w sa tn sc g.table) (hq : Sl encC 3 w qa kn qc g.cons) :
    Calls Try.prog 18 #[.agg #[.int .i64 g.net.base, .int .i64 g.net.bits, .int .i64 g.out, .slice ta tn tc, .slice ka kn kc, .int .i64 g.filter, .int .i64 g.hold, .int .i64 g.now], .agg #[.int .i64 g.net.base, .int .i64 g.net.bits, .int .i64 g.out, .slice sa tn sc, .slice qa kn qc, .int .i64 g.filter, .int .i64 g.hold, .int .i64 g.now]] w fun e w' => e = .returned (.bool true) ∧ Ext w w' := by
  go_enter Try.func18, Try.ntmps18
  go_wp2_with (first | (go_at_call 55; refine (eqNet_same g.net _).mono ?_; rintro e w1 ⟨rfl, hx⟩; have hc := hx.cells; have hf := hx.frozens; have hy := hx.size; (try simp at hy); have hz : w.heap.size < w1.heap.size ∧ w.heap.size + 1 < w1.heap.size := (by omega)) | (go_at_call 56; refine (eqMappingS_same _ _ tn tc sc g.table _ (by exact ht.ext (by repeat (first | (with_reducible exact Ext.refl _) | (with_reducible assumption) | (with_reducible refine Ext.alloc ?_ _) | (with_reducible refine Ext.drewN ?_ _) | (with_reducible refine Ext.drew ?_) | (with_reducible refine Ext.setCell ?_ ?_ _; rotate_left; (simp only []; omega)) | (with_reducible refine Ext.trans ?_ (by assumption))))) (by exact hs.ext (by repeat (first | (with_reducible exact Ext.refl _) | (with_reducible assumption) | (with_reducible refine Ext.alloc ?_ _) | (with_reducible refine Ext.drewN ?_ _) | (with_reducible refine Ext.drew ?_) | (with_reducible refine Ext.setCell ?_ ?_ _; rotate_left; (simp only []; omega)) | (with_reducible refine Ext.trans ?_ (by assumption)))))).mono ?_; rintro e w1 ⟨rfl, hx⟩; have hc := hx.cells; have hf := hx.frozens; have hy := hx.size; (try simp at hy); have hz : w.heap.size < w1.heap.size ∧ w.heap.size + 1 < w1.heap.size := (by omega)) | (go_at_call 57; refine (eqContactS_same _ _ kn kc qc g.cons _ (by exact hk.ext (by repeat (first | (with_reducible exact Ext.refl _) | (with_reducible assumption) | (with_reducible refine Ext.alloc ?_ _) | (with_reducible refine Ext.drewN ?_ _) | (with_reducible refine Ext.drew ?_) | (with_reducible refine Ext.setCell ?_ ?_ _; rotate_left; (simp only []; omega)) | (with_reducible refine Ext.trans ?_ (by assumption))))) (by exact hq.ext (by repeat (first | (with_reducible exact Ext.refl _) | (with_reducible assumption) | (with_reducible refine Ext.alloc ?_ _) | (with_reducible refine Ext.drewN ?_ _) | (with_reducible refine Ext.drew ?_) | (with_reducible refine Ext.setCell ?_ ?_ _; rotate_left; (simp only []; omega)) | (with_reducible refine Ext.trans ?_ (by assumption)))))).mono ?_; rintro e w1 ⟨rfl, hx⟩; have hc := hx.cells; have hf := hx.frozens; have hy := hx.size; (try simp at hy); have hz : w.heap.size < w1.heap.size ∧ w.heap.size + 1 < w1.heap.size := (by omega)))
  go_ret
  exact ⟨rfl, (by repeat (first | (with_reducible exact Ext.refl _) | (with_reducible assumption) | (with_reducible refine Ext.alloc ?_ _) | (with_reducible refine Ext.drewN ?_ _) | (with_reducible refine Ext.drew ?_) | (with_reducible refine Ext.setCell ?_ ?_ _; rotate_left; (simp only []; omega)) | (with_reducible refine Ext.trans ?_ (by assumption))))⟩
theorem szGate_any (g : GateD) (ta : Option Addr) (tn tc : Nat) (ka : Option Addr) (kn kc : Nat) (left : Int) (w : World) (h0 : 0 ≤ left) (h1 : left ≤ 1048576) (ht : (tn : Int) ≤ 9223372036854775807) (hk : (kn : Int) ≤ 9223372036854775807) :
    Calls Try.prog 12 #[.agg #[.int .i64 g.net.base, .int .i64 g.net.bits, .int .i64 g.out, .slice ta tn tc, .slice ka kn kc, .int .i64 g.filter, .int .i64 g.hold, .int .i64 g.now], .int .i64 left] w fun e w' => e = .returned (.int .i64 (if (tn : Int) + kn ≤ left then left - tn - kn else -1)) ∧ Ext w w' := by
  by_cases h2 : (tn : Int) ≤ left
  · have c1 := szMappingS_any ta tn tc left
    have c2 := szContactS_any ka kn kc (left - tn)
    rw [if_pos h2] at c1
    by_cases h3 : (kn : Int) ≤ left - tn
    · rw [if_pos (by omega)]
      rw [if_pos h3] at c2
      go_enter Try.func12, Try.ntmps12
      go_wp2_with (first | (go_at_call 39; refine (c1 _ h0 h1 ht).mono ?_; rintro e w' ⟨rfl, rfl⟩) | (go_at_call 40; refine (c2 _ (by omega) (by omega) hk).mono ?_; rintro e w' ⟨rfl, rfl⟩))
      go_ret
      exact ⟨rfl, (by repeat (first | (with_reducible exact Ext.refl _) | (with_reducible assumption) | (with_reducible refine Ext.alloc ?_ _) | (with_reducible refine Ext.drewN ?_ _) | (with_reducible refine Ext.drew ?_) | (with_reducible refine Ext.setCell ?_ ?_ _; rotate_left; (simp only []; omega)) | (with_reducible refine Ext.trans ?_ (by assumption))))⟩
    · rw [if_neg (by omega)]
      rw [if_neg h3] at c2
      go_enter Try.func12, Try.ntmps12
      go_wp2_with (first | (go_at_call 39; refine (c1 _ h0 h1 ht).mono ?_; rintro e w' ⟨rfl, rfl⟩) | (go_at_call 40; refine (c2 _ (by omega) (by omega) hk).mono ?_; rintro e w' ⟨rfl, rfl⟩))
      go_ret
      exact ⟨rfl, (by repeat (first | (with_reducible exact Ext.refl _) | (with_reducible assumption) | (with_reducible refine Ext.alloc ?_ _) | (with_reducible refine Ext.drewN ?_ _) | (with_reducible refine Ext.drew ?_) | (with_reducible refine Ext.setCell ?_ ?_ _; rotate_left; (simp only []; omega)) | (with_reducible refine Ext.trans ?_ (by assumption))))⟩
  · have c1 := szMappingS_any ta tn tc left
    rw [if_neg h2] at c1
    rw [if_neg (by omega)]
    go_enter Try.func12, Try.ntmps12
    go_wp2_with (go_at_call 39; refine (c1 _ h0 h1 ht).mono ?_; rintro e w' ⟨rfl, rfl⟩)
    go_ret
    exact ⟨rfl, (by repeat (first | (with_reducible exact Ext.refl _) | (with_reducible assumption) | (with_reducible refine Ext.alloc ?_ _) | (with_reducible refine Ext.drewN ?_ _) | (with_reducible refine Ext.drew ?_) | (with_reducible refine Ext.setCell ?_ ?_ _; rotate_left; (simp only []; omega)) | (with_reducible refine Ext.trans ?_ (by assumption))))⟩
set_option maxHeartbeats 1000000 in
theorem toGate_any (g : GateD) (ta : Option Addr) (tn tc : Nat) (ka : Option Addr) (kn kc : Nat) (w : World) (ht : Sl encM 4 w ta tn tc g.table) (hk : Sl encC 3 w ka kn kc g.cons) (h1 : tn ≤ 1048576) (h2 : kn ≤ 1048576) :
    Calls Try.prog 15 #[.agg #[.int .i64 g.net.base, .int .i64 g.net.bits, .int .i64 g.out, .slice ta tn tc, .slice ka kn kc, .int .i64 g.filter, .int .i64 g.hold, .int .i64 g.now]] w fun e w' => ∃ sa qa, e = .returned (.agg #[.int .i64 g.net.base, .int .i64 g.net.bits, .int .i64 g.out, .slice sa tn tn, .slice qa kn kn, .int .i64 g.filter, .int .i64 g.hold, .int .i64 g.now]) ∧
      Ow 102 encM 4 w.heap.size w' sa tn tn g.table ∧ Ow 115 encC 3 w.heap.size w' qa kn kn g.cons ∧ Ext w w' := by
  go_enter Try.func15, Try.ntmps15
  go_wp2_with fail
  refine (toNet_any _ _ _).mono ?_
  rintro e w1 ⟨rfl, hx1⟩
  have hc1 := hx1.cells
  have hf1 := hx1.frozens
  have hy1 := hx1.size
  (try simp at hy1)
  have hz1 : w.heap.size < w1.heap.size ∧ w.heap.size + 1 < w1.heap.size ∧ w.heap.size + 2 < w1.heap.size := (by omega)
  go_wp2_with fail
  refine (toMappingS_any ta tn tc g.table _ (by exact ht.ext (by repeat (first | (with_reducible exact Ext.refl _) | (with_reducible assumption) | (with_reducible refine Ext.alloc ?_ _) | (with_reducible refine Ext.drewN ?_ _) | (with_reducible refine Ext.drew ?_) | (with_reducible refine Ext.setCell ?_ ?_ _; rotate_left; (simp only []; omega)) | (with_reducible refine Ext.trans ?_ (by assumption))))) h1).mono ?_
  rintro e w2 ⟨sa, rfl, hoM, hx2⟩
  have hc2 := hx2.cells
  have hf2 := hx2.frozens
  have hy2 := hx2.size
  (try simp at hy2)
  have hz2 : w.heap.size < w2.heap.size ∧ w.heap.size + 1 < w2.heap.size ∧ w.heap.size + 2 < w2.heap.size := (by omega)
  have HM := Lib.hid (hoM.rebase (b' := w.heap.size + 3) (by simp; omega))
  clear hoM
  go_wp2_with fail
  refine (toContactS_any ka kn kc g.cons _ (by exact hk.ext (by repeat (first | (with_reducible exact Ext.refl _) | (with_reducible assumption) | (with_reducible refine Ext.alloc ?_ _) | (with_reducible refine Ext.drewN ?_ _) | (with_reducible refine Ext.drew ?_) | (with_reducible refine Ext.setCell ?_ ?_ _; rotate_left; (simp only []; omega)) | (with_reducible refine Ext.trans ?_ (by assumption))))) h2).mono ?_
  rintro e w3 ⟨qa, rfl, hoC, hx3⟩
  have hc3 := hx3.cells
  have hf3 := hx3.frozens
  have hy3 := hx3.size
  (try simp at hy3)
  have hz3 : w.heap.size < w3.heap.size ∧ w.heap.size + 1 < w3.heap.size ∧ w.heap.size + 2 < w3.heap.size := (by omega)
  have HC := Lib.hid (hoC.rebase (b' := w.heap.size + 3) (by simp; omega))
  clear hoC
  have HM3 : RowKit.Hid (Ow 102 encM 4 (w.heap.size + 3) w3 sa tn tn g.table) := by
    refine Lib.hid (Ow.ext ?_ hx3)
    repeat (refine Ow.setBelow ?_ (by simp only []; omega) _)
    exact HM.out
  go_wp2
  refine' bodyPost_ret (v := _) ?_ rfl ?_
  rotate_left
  · (simp only [results, Try.results15]
     go_simp
     rfl)
  refine ⟨sa, qa, rfl, ?_, ?_, (by repeat (first | (with_reducible exact Ext.refl _) | (with_reducible assumption) | (with_reducible refine Ext.alloc ?_ _) | (with_reducible refine Ext.drewN ?_ _) | (with_reducible refine Ext.drew ?_) | (with_reducible refine Ext.setCell ?_ ?_ _; rotate_left; (simp only []; omega)) | (with_reducible refine Ext.trans ?_ (by assumption))))⟩
  · refine Ow.rebase (base := w.heap.size + 3) ?_ (by omega)
    repeat (refine Ow.setBelow ?_ (by simp only []; omega) _)
    exact HM3.out
  · refine Ow.rebase (base := w.heap.size + 3) ?_ (by omega)
    repeat (refine Ow.setBelow ?_ (by simp only []; omega) _)
    exact HC.out
end Go.Proofs.Ytafmomocmodbhaa
