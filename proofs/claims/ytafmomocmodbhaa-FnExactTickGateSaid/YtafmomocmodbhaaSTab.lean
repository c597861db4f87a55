/- Contracts: places, valid tables, valid contacts, of the reference. -/
import Derived.Test.YtafmomocmodbhaaCon
import Derived.Test.YtafmomocmodbhaaGate
namespace Go.Proofs.Ytafmomocmodbhaa
open Go.RowKit Go.Shelf

theorem spec_byPort (q : Int) (a : Option Addr) (n c : Nat) (L : List MapD) (w : World) (hs : Sl encM 4 w a n c L) :
    Calls Try.prog 90 #[.slice a n c, .int .i64 q] w fun r w' => r = .returned (.int .i64 (byPort L q)) ∧ w = w' := by
  have hle := hs.le
  have hmax := hs.max
  have hlen := Lib.hid hs.len
  unfold byPort
  rcases hs.maps with ⟨h0, hL⟩ | ⟨h0, b, off, ha, hb, hc⟩
  · subst h0
    subst hL
    clear hs hlen
    go_enter Try.func90, Try.ntmps90
    go_wp2
    go_loop [5] (fun i => i = .int .i64 0) (fun _ => 0)
    case atStart => rfl
    case round =>
      subst hrel
      go_wp2
      go_ret
      exact ⟨rfl, rfl⟩
  · subst ha
    have HC2 := Lib.hid hc
    clear hs hc
    go_enter Try.func90, Try.ntmps90
    go_wp2
    go_loop [5] (fun i => ∃ k : Nat, k ≤ n ∧ i = .int .i64 k ∧ (∀ j, j < k → (nth L j).port ≠ q)) (fun i => n - (intOf i).toNat)
    case atStart => exact ⟨0, Nat.zero_le _, rfl, by omega⟩
    case round =>
      obtain ⟨k, hk, rfl, hall⟩ := hrel
      have HA := Lib.hid hall
      clear hall
      by_cases hlt : k < n
      · obtain ⟨_, _, d2, _⟩ := HC2.out k hlt
        by_cases hq : (nth L k).port = q
        · rw [hq] at d2
          replace hq := Lib.hid hq
          go_wp2
          go_ret
          refine ⟨ret_int (ix_some (k := k) (x := nth L k) ?_ (nth_some (by rw [hlen.out]; exact hlt)) (by simpa using hq.out)).symm, rfl⟩
          intro y hy
          obtain ⟨j, hj, rfl⟩ := List.mem_take_iff_getElem.1 hy
          have h1 := HA.out j (by omega)
          rw [nth_of (List.getElem?_eq_getElem (by omega))] at h1
          simpa using h1
        · have hqf : ((nth L k).port == q) = false := by simpa using hq
          replace hq := Lib.hid hq
          go_wp2
          go_round
          case rel => exact ⟨k + 1, hlt, by go_num, fun j hj => by
            rcases Nat.lt_or_ge j k with h | h
            · exact HA.out j h
            · have e : j = k := by omega
              rw [e]; exact hq.out⟩
          case measure => simp [intOf]; omega
      · have e : k = n := by omega
        subst e
        go_wp2
        go_ret
        refine ⟨ret_int (ix_none fun y hy => ?_).symm, rfl⟩
        obtain ⟨j, hj, rfl⟩ := List.mem_iff_getElem.1 hy
        have h1 := HA.out j (by rw [← hlen.out]; exact hj)
        rw [nth_of (List.getElem?_eq_getElem hj)] at h1
        simpa using h1
theorem spec_byInside (x : EndD) (a : Option Addr) (n c : Nat) (L : List MapD) (w : World) (hs : Sl encM 4 w a n c L) :
    Calls Try.prog 79 #[.slice a n c, .agg #[.int .i64 x.addr, .int .i64 x.port]] w fun r w' => r = .returned (.int .i64 (byEnd L x)) ∧ Ext w w' := by
  have hle := hs.le
  have hmax := hs.max
  have hlen := Lib.hid hs.len
  unfold byEnd
  rcases hs.maps with ⟨h0, hL⟩ | ⟨h0, b, off, ha, hb, hc⟩
  · subst h0
    subst hL
    clear hs hlen
    go_enter Try.func79, Try.ntmps79
    go_wp2
    go_loop [5] (fun i => i = .int .i64 0) (fun _ => 0)
    case atStart => rfl
    case round =>
      subst hrel
      go_wp2
      go_ret
      exact ⟨rfl, (by repeat (first | (with_reducible exact Ext.refl _) | (with_reducible assumption) | (with_reducible refine Ext.alloc ?_ _) | (with_reducible refine Ext.drewN ?_ _) | (with_reducible refine Ext.drew ?_) | (with_reducible refine Ext.setCell ?_ ?_ _; rotate_left; (simp only []; omega)) | (with_reducible refine Ext.trans ?_ (by assumption))))⟩
  · subst ha
    have HC2 := Lib.hid hc
    clear hs hc
    go_enter Try.func79, Try.ntmps79
    go_wp2
    go_loopw [5] (fun i wr => ∃ k : Nat, k ≤ n ∧ i = .int .i64 k ∧ (∀ j, j < k → (nth L j).ins ≠ x) ∧ Blk wr w.heap.size 42 #[.int .i64 x.addr, .int .i64 x.port] ∧ Ext w wr) (fun i _ => n - (intOf i).toNat)
    case atStart => exact ⟨0, Nat.zero_le _, rfl, by omega, Blk.new _ _ _, (by repeat (first | (with_reducible exact Ext.refl _) | (with_reducible assumption) | (with_reducible refine Ext.alloc ?_ _) | (with_reducible refine Ext.drewN ?_ _) | (with_reducible refine Ext.drew ?_) | (with_reducible refine Ext.setCell ?_ ?_ _; rotate_left; (simp only []; omega)) | (with_reducible refine Ext.trans ?_ (by assumption))))⟩
    case round =>
      obtain ⟨k, hk, rfl, hall, hB, hX⟩ := hrel
      have HA := Lib.hid hall
      clear hall
      by_cases hlt : k < n
      · obtain ⟨d0, d1, _, _⟩ := HC2.out k hlt
        rw [← hX.cells _ _ hb] at d0 d1
        have hcB := hB.cells
        have hzB := hB.lt
        have hbr : b < wr.heap.size := by have := hX.size; omega
        have HX := Lib.hid hX
        clear hX
        by_cases hq : (nth L k).ins = x
        · have heq : ∀ W : World, (Go.binOp .eql 42 (.agg #[.int .i64 (nth L k).ins.addr, .int .i64 (nth L k).ins.port]) (.agg #[.int .i64 x.addr, .int .i64 x.port])).run Try.prog W = .ok (.bool true) W := fun W => by rw [run_eql_E (nth L k).ins x, decide_eq_true hq]
          replace hq := Lib.hid hq
          go_wp2_with fail
          have hdrS : ∀ W : World, W.drew.heap.size = W.heap.size := fun _ => rfl
          refine wp_region_eager (R := Ext) [0, 1, 2, 3, 4, 5, 6] (by kernel_rfl) (by kernel_rfl) Ext.refl (fun _ _ _ => Ext.trans) ?_
          repeat' (first
            | (refine ChX.skip (by rfl) (by rfl) ?_
               (try simp only [Act.put, List.setIfInBounds_toArray, List.set_cons_zero, List.set_cons_succ]))
            | (refine' ChX.quiet (v := _) (by rfl) (by rfl) (by rfl) ?_ ?_
               rotate_left
               · (intro wS hS
                  have hcS := Ext.cells hS
                  go_simp
                  with_reducible rfl)
               (try simp only [Act.put, List.setIfInBounds_toArray, List.set_cons_zero, List.set_cons_succ]))
            | (refine ChX.nil ?_)
            | (refine' ChX.guard (x := _) (by rfl) ?_ ?_ ?_
               rotate_left
               · (go_simp
                  rfl)
               all_goals
                 intro hg
                 simp only [hg])
            | (refine' ChX.guardN (x := _) (by rfl) ?_ ?_ ?_
               rotate_left
               · (go_simp
                  rfl)
               all_goals
                 intro hg
                 simp only [hg]))
          go_wp2
          go_ret
          refine ⟨ret_int (ix_some (k := k) (x := nth L k) ?_ (nth_some (by rw [hlen.out]; exact hlt)) (by simpa using hq.out)).symm, (show Ext w wr from HX.out).trans (by repeat (first | (with_reducible exact Ext.refl _) | (with_reducible assumption) | (with_reducible refine Ext.alloc ?_ _) | (with_reducible refine Ext.drewN ?_ _) | (with_reducible refine Ext.drew ?_) | (with_reducible refine Ext.setCell ?_ ?_ _; rotate_left; (simp only []; omega)) | (with_reducible refine Ext.trans ?_ (by assumption))))⟩
          intro y hy
          obtain ⟨j, hj, rfl⟩ := List.mem_take_iff_getElem.1 hy
          have h1 := HA.out j (by omega)
          rw [nth_of (List.getElem?_eq_getElem (by omega))] at h1
          simpa using h1
        · have heq : ∀ W : World, (Go.binOp .eql 42 (.agg #[.int .i64 (nth L k).ins.addr, .int .i64 (nth L k).ins.port]) (.agg #[.int .i64 x.addr, .int .i64 x.port])).run Try.prog W = .ok (.bool false) W := fun W => by rw [run_eql_E (nth L k).ins x, decide_eq_false hq]
          replace hq := Lib.hid hq
          go_wp2_with fail
          have hdrS : ∀ W : World, W.drew.heap.size = W.heap.size := fun _ => rfl
          refine wp_region_eager (R := Ext) [0, 1, 2, 3, 4, 5, 6] (by kernel_rfl) (by kernel_rfl) Ext.refl (fun _ _ _ => Ext.trans) ?_
          repeat' (first
            | (refine ChX.skip (by rfl) (by rfl) ?_
               (try simp only [Act.put, List.setIfInBounds_toArray, List.set_cons_zero, List.set_cons_succ]))
            | (refine' ChX.quiet (v := _) (by rfl) (by rfl) (by rfl) ?_ ?_
               rotate_left
               · (intro wS hS
                  have hcS := Ext.cells hS
                  go_simp
                  with_reducible rfl)
               (try simp only [Act.put, List.setIfInBounds_toArray, List.set_cons_zero, List.set_cons_succ]))
            | (refine ChX.nil ?_)
            | (refine' ChX.guard (x := _) (by rfl) ?_ ?_ ?_
               rotate_left
               · (go_simp
                  rfl)
               all_goals
                 intro hg
                 simp only [hg])
            | (refine' ChX.guardN (x := _) (by rfl) ?_ ?_ ?_
               rotate_left
               · (go_simp
                  rfl)
               all_goals
                 intro hg
                 simp only [hg]))
          go_wp2
          go_roundw
          case rel => exact ⟨k + 1, hlt, by go_num, fun j hj => by
            rcases Nat.lt_or_ge j k with h | h
            · exact HA.out j h
            · have e : j = k := by omega
              rw [e]; exact hq.out, hB.ext (by repeat (first | (with_reducible exact Ext.refl _) | (with_reducible assumption) | (with_reducible refine Ext.alloc ?_ _) | (with_reducible refine Ext.drewN ?_ _) | (with_reducible refine Ext.drew ?_) | (with_reducible refine Ext.setCell ?_ ?_ _; rotate_left; (simp only []; omega)) | (with_reducible refine Ext.trans ?_ (by assumption)))), (show Ext w wr from HX.out).trans (by repeat (first | (with_reducible exact Ext.refl _) | (with_reducible assumption) | (with_reducible refine Ext.alloc ?_ _) | (with_reducible refine Ext.drewN ?_ _) | (with_reducible refine Ext.drew ?_) | (with_reducible refine Ext.setCell ?_ ?_ _; rotate_left; (simp only []; omega)) | (with_reducible refine Ext.trans ?_ (by assumption))))⟩
          case measure => simp [intOf]; omega
      · have e : k = n := by omega
        have HX := Lib.hid hX
        clear hX
        subst e
        go_wp2
        go_ret
        refine ⟨ret_int (ix_none fun y hy => ?_).symm, HX.out⟩
        obtain ⟨j, hj, rfl⟩ := List.mem_iff_getElem.1 hy
        have h1 := HA.out j (by rw [← hlen.out]; exact hj)
        rw [nth_of (List.getElem?_eq_getElem hj)] at h1
        simpa using h1
theorem spec_expired (m : MapD) (now hold : Int) (w : World) (h0 : 0 ≤ m.last) (h1 : m.last ≤ 10000) (h2 : 0 ≤ now) (h3 : now ≤ 10000) :
    Calls Try.prog 100 #[.agg #[.int .i64 m.ins.addr, .int .i64 m.ins.port, .int .i64 m.port, .int .i64 m.last], .int .i64 now, .int .i64 hold] w fun e w' => e = .returned (.bool (expired m now hold)) ∧ Ext w w' := by
  unfold expired
  go_enter Try.func100, Try.ntmps100
  go_wp2
  go_ret
  exact ⟨rfl, (by repeat (first | (with_reducible exact Ext.refl _) | (with_reducible assumption) | (with_reducible refine Ext.alloc ?_ _) | (with_reducible refine Ext.drewN ?_ _) | (with_reducible refine Ext.drew ?_) | (with_reducible refine Ext.setCell ?_ ?_ _; rotate_left; (simp only []; omega)) | (with_reducible refine Ext.trans ?_ (by assumption))))⟩
theorem spec_validTimer (now hold : Int) (w : World) : Calls Try.prog 149 #[.int .i64 now, .int .i64 hold] w fun e w' => e = .returned (.bool (timer now hold)) ∧ w = w' := by
  unfold timer
  go_enter Try.func149, Try.ntmps149
  go_wp2_with (go_at_call 68; refine (spec_inRange _ _ _ _).mono ?_; rintro e w' ⟨rfl, rfl⟩)
  all_goals (go_ret; exact ⟨ret_bool (by simp [*]), rfl⟩)
theorem okMapAt_spec {L : List MapD} {k : Nat} (hk : k < L.length) (h : okMap (nth L k) = true) (hall : ∀ j, j < k → (nth L j).ins ≠ (nth L k).ins ∧ (nth L j).port ≠ (nth L k).port) : okMapAt L k = true := by
  unfold okMapAt
  rw [h, Bool.true_and, List.all_eq_true]
  intro y hy
  obtain ⟨j, hj, rfl⟩ := List.mem_take_iff_getElem.1 hy
  have h1 := hall j (by omega)
  rw [nth_of (List.getElem?_eq_getElem (show j < L.length by omega))] at h1
  simpa using h1
theorem okMapAt_no {L : List MapD} {k j : Nat} (hk : k < L.length) (hj : j < k) (h : (nth L j).ins = (nth L k).ins ∨ (nth L j).port = (nth L k).port) : okMapAt L k = false := by
  have hm : nth L j ∈ L.take k := by
    rw [← nth_take hj]
    exact nth_mem (by simp; omega)
  unfold okMapAt
  rw [Bool.and_eq_false_iff]
  right
  rw [List.all_eq_false]
  refine ⟨_, hm, ?_⟩
  rcases h with h | h <;> simp [h]
theorem spec_validEnd' (e : EndD) (w : World) : Calls Try.prog 101 #[.agg #[.int .i64 e.addr, .int .i64 e.port]] w fun r w' => r = .returned (.bool (validEnd e)) ∧ Ext w w' := spec_validEnd e.addr e.port w
set_option maxHeartbeats 2000000 in
theorem spec_validTable (a : Option Addr) (n c : Nat) (L : List MapD) (w : World) (hs : Sl encM 4 w a n c L) :
    Calls Try.prog 98 #[.slice a n c] w fun e w' => e = .returned (.bool (validTable L)) ∧ Ext w w' := by
  have hle := hs.le
  have hmax := hs.max
  have hlen := Lib.hid hs.len
  have hfin : validTable L = (upTo (okMapAt L) n && decide (n ≤ 8)) := by rw [← hs.len]; rfl
  rw [hfin]
  clear hfin
  rcases hs.maps with ⟨h0, hL⟩ | ⟨h0, b, off, ha, hb, hc⟩
  · subst h0
    subst hL
    clear hs hlen
    go_enter Try.func98, Try.ntmps98
    go_wp2
    go_loop [3, 4, 5] (fun i _ _ => i = .int .i64 0) (fun _ _ _ => 0)
    case atStart => rfl
    case round =>
      subst hrel
      go_wp2
      go_ret
      exact ⟨rfl, Ext.refl _⟩
  · subst ha
    have HC2 := Lib.hid hc
    clear hc hs
    go_enter Try.func98, Try.ntmps98
    go_wp2
    go_loopw [3, 4, 5] (fun i _ _ wr => ∃ k : Nat, k ≤ n ∧ i = .int .i64 k ∧ (∀ j, j < k → okMapAt L j = true) ∧ Ext w wr) (fun i _ _ _ => n - (intOf i).toNat)
    case atStart => exact ⟨0, Nat.zero_le _, rfl, by omega, Ext.refl _⟩
    case round =>
      obtain ⟨k, hk, rfl, hall, hX⟩ := hrel
      have HA := Lib.hid hall
      clear hall
      obtain ⟨wo, rfl⟩ : ∃ wo : World, wo = wr := ⟨_, rfl⟩
      by_cases hlt : k < n
      · obtain ⟨d0, d1, d2, d3⟩ := HC2.out k hlt
        rw [← hX.cells _ _ hb] at d0 d1 d2 d3
        have hbr : b < wo.heap.size := by have := hX.size; omega
        cases h1 : validEnd (nth L k).ins with
        | false =>
          have hno := Lib.hid (show okMapAt L k = false by unfold okMapAt okMap; rw [h1]; rfl)
          go_wp2_with (go_at_call 101; refine (spec_validEnd' (nth L k).ins _).mono ?_; rintro e w1 ⟨rfl, hx⟩; have hc := hx.cells; have hf := hx.frozens; have hy := hx.size; (try simp at hy); have hz : wo.heap.size < w1.heap.size := (by omega))
          go_ret
          exact ⟨ret_bool (by rw [upTo_f hlt hno.out]; rfl), hX.trans (by repeat (first | (with_reducible exact Ext.refl _) | (with_reducible assumption) | (with_reducible refine Ext.alloc ?_ _) | (with_reducible refine Ext.drewN ?_ _) | (with_reducible refine Ext.drew ?_) | (with_reducible refine Ext.setCell ?_ ?_ _; rotate_left; (simp only []; omega)) | (with_reducible refine Ext.trans ?_ (by assumption))))⟩
        | true =>
        cases h2 : inR (nth L k).port 1000 1007 with
        | false =>
          have hno := Lib.hid (show okMapAt L k = false by unfold okMapAt okMap; rw [h1, h2]; rfl)
          go_wp2_with (first | (go_at_call 101; refine (spec_validEnd' (nth L k).ins _).mono ?_; rintro e w1 ⟨rfl, hx⟩; have hc := hx.cells; have hf := hx.frozens; have hy := hx.size; (try simp at hy); have hz : wo.heap.size < w1.heap.size := (by omega)) | (go_at_call 68; refine (spec_inRange _ _ _ _).mono ?_; rintro e w' ⟨rfl, rfl⟩))
          go_ret
          exact ⟨ret_bool (by rw [upTo_f hlt hno.out]; rfl), hX.trans (by repeat (first | (with_reducible exact Ext.refl _) | (with_reducible assumption) | (with_reducible refine Ext.alloc ?_ _) | (with_reducible refine Ext.drewN ?_ _) | (with_reducible refine Ext.drew ?_) | (with_reducible refine Ext.setCell ?_ ?_ _; rotate_left; (simp only []; omega)) | (with_reducible refine Ext.trans ?_ (by assumption))))⟩
        | true =>
        cases h3 : inR (nth L k).last 0 10000 with
        | false =>
          have hno := Lib.hid (show okMapAt L k = false by unfold okMapAt okMap; rw [h1, h2, h3]; rfl)
          go_wp2_with (first | (go_at_call 101; refine (spec_validEnd' (nth L k).ins _).mono ?_; rintro e w1 ⟨rfl, hx⟩; have hc := hx.cells; have hf := hx.frozens; have hy := hx.size; (try simp at hy); have hz : wo.heap.size < w1.heap.size := (by omega)) | (go_at_call 68; refine (spec_inRange _ _ _ _).mono ?_; rintro e w' ⟨rfl, rfl⟩))
          go_ret
          exact ⟨ret_bool (by rw [upTo_f hlt hno.out]; rfl), hX.trans (by repeat (first | (with_reducible exact Ext.refl _) | (with_reducible assumption) | (with_reducible refine Ext.alloc ?_ _) | (with_reducible refine Ext.drewN ?_ _) | (with_reducible refine Ext.drew ?_) | (with_reducible refine Ext.setCell ?_ ?_ _; rotate_left; (simp only []; omega)) | (with_reducible refine Ext.trans ?_ (by assumption))))⟩
        | true =>
          have hokm := Lib.hid (show okMap (nth L k) = true by unfold okMap; rw [h1, h2, h3]; rfl)
          go_wp2_with fail
          refine (spec_validEnd' (nth L k).ins _).mono ?_
          rintro e w1 ⟨rfl, hx1⟩
          have hB1 : Blk w1 wo.heap.size 102 #[.int .i64 (nth L k).ins.addr, .int .i64 (nth L k).ins.port, .int .i64 (nth L k).port, .int .i64 (nth L k).last] := by refine Blk.ext ?_ hx1; exact (by repeat (first | (with_reducible assumption) | (with_reducible exact Blk.new _ _ _) | exact Blk.newAt _ _ _ (by simp) | (with_reducible refine Blk.alloc ?_ _) | (with_reducible refine Blk.drew ?_) | (with_reducible refine Blk.drewN ?_ _) | refine Blk.far ?_ (by simp only []; omega) _ | refine Blk.rext ?_ (by assumption) (by omega) | refine Blk.ext ?_ (by assumption)))
          have hX1 : Ext w w1 := hX.trans (Ext.trans (show Ext wo _ from (by repeat (first | (with_reducible exact Ext.refl _) | (with_reducible assumption) | (with_reducible refine Ext.alloc ?_ _) | (with_reducible refine Ext.drewN ?_ _) | (with_reducible refine Ext.drew ?_) | (with_reducible refine Ext.setCell ?_ ?_ _; rotate_left; (simp only []; omega)) | (with_reducible refine Ext.trans ?_ (by assumption))))) hx1)
          have hcB := hB1.cells
          clear hx1
          go_wp2_with (go_at_call 68; refine (spec_inRange _ _ _ _).mono ?_; rintro e w' ⟨rfl, rfl⟩)
          obtain ⟨M, hM⟩ : ∃ M, M = wo.heap.size := ⟨_, rfl⟩
          rw [← hM] at hB1 ⊢
          clear hcB hM hX d0 d1 d2 d3 h1 h2 h3
          go_loopw [5] (fun i2 w2 => ∃ k2 : Nat, k2 ≤ k ∧ i2 = .int .i64 k2 ∧ (∀ j, j < k2 → (nth L j).ins ≠ (nth L k).ins ∧ (nth L j).port ≠ (nth L k).port) ∧ Blk w2 M 102 #[.int .i64 (nth L k).ins.addr, .int .i64 (nth L k).ins.port, .int .i64 (nth L k).port, .int .i64 (nth L k).last] ∧ Ext w w2) (fun i2 _ => k - (intOf i2).toNat)
          case atStart => exact ⟨0, Nat.zero_le _, rfl, by omega, hB1, hX1⟩
          case round =>
            obtain ⟨k2, hk2, rfl, hall2, hB, hX2⟩ := hrel
            have HA2 := Lib.hid hall2
            clear hall2 hB1 hX1
            by_cases hlt2 : k2 < k
            · obtain ⟨e0, e1, e2, _⟩ := HC2.out k2 (by omega)
              rw [← hX2.cells _ _ hb] at e0 e1 e2
              have hcM := hB.cells
              have hzM := hB.lt
              have hbr2 : b < wr.heap.size := by have := hX2.size; omega
              have hk2n : k2 < n := by omega
              have HX2 := Lib.hid hX2
              clear hX2
              by_cases p1 : (nth L k2).ins = (nth L k).ins
              · have heq : ∀ W : World, (Go.binOp .eql 42 (.agg #[.int .i64 (nth L k2).ins.addr, .int .i64 (nth L k2).ins.port]) (.agg #[.int .i64 (nth L k).ins.addr, .int .i64 (nth L k).ins.port])).run Try.prog W = .ok (.bool true) W := fun W => by rw [run_eql_E (nth L k2).ins (nth L k).ins, decide_eq_true p1]
                have hno := Lib.hid (okMapAt_no (by rw [hlen.out]; exact hlt) hlt2 (.inl p1))
                clear p1
                go_wp2_with fail
                have hdrS : ∀ W : World, W.drew.heap.size = W.heap.size := fun _ => rfl
                refine wp_region_eager (R := Ext) [0, 1, 2, 3, 4, 5, 6, 7, 8, 9, 10, 11, 12, 13, 14, 15, 16, 17] (by kernel_rfl) (by kernel_rfl) Ext.refl (fun _ _ _ => Ext.trans) ?_
                repeat' (first
                  | (refine ChX.skip (by rfl) (by rfl) ?_
                     (try simp only [Act.put, List.setIfInBounds_toArray, List.set_cons_zero, List.set_cons_succ]))
                  | (refine' ChX.quiet (v := _) (by rfl) (by rfl) (by rfl) ?_ ?_
                     rotate_left
                     · (intro wS hS
                        have hcS := Ext.cells hS
                        go_simp
                        with_reducible rfl)
                     (try simp only [Act.put, List.setIfInBounds_toArray, List.set_cons_zero, List.set_cons_succ]))
                  | (refine ChX.nil ?_)
                  | (refine' ChX.guard (x := _) (by rfl) ?_ ?_ ?_
                     rotate_left
                     · (go_simp
                        rfl)
                     all_goals
                       intro hg
                       simp only [hg])
                  | (refine' ChX.guardN (x := _) (by rfl) ?_ ?_ ?_
                     rotate_left
                     · (go_simp
                        rfl)
                     all_goals
                       intro hg
                       simp only [hg]))
                go_wp2
                go_ret
                exact ⟨ret_bool (by rw [upTo_f hlt hno.out]; rfl), (show Ext w wr from HX2.out).trans (by repeat (first | (with_reducible exact Ext.refl _) | (with_reducible assumption) | (with_reducible refine Ext.alloc ?_ _) | (with_reducible refine Ext.drewN ?_ _) | (with_reducible refine Ext.drew ?_) | (with_reducible refine Ext.setCell ?_ ?_ _; rotate_left; (simp only []; omega)) | (with_reducible refine Ext.trans ?_ (by assumption))))⟩
              · have heq : ∀ W : World, (Go.binOp .eql 42 (.agg #[.int .i64 (nth L k2).ins.addr, .int .i64 (nth L k2).ins.port]) (.agg #[.int .i64 (nth L k).ins.addr, .int .i64 (nth L k).ins.port])).run Try.prog W = .ok (.bool false) W := fun W => by rw [run_eql_E (nth L k2).ins (nth L k).ins, decide_eq_false p1]
                by_cases p2 : (nth L k2).port = (nth L k).port
                · have hno := Lib.hid (okMapAt_no (by rw [hlen.out]; exact hlt) hlt2 (.inr p2))
                  rw [p2] at e2
                  clear p1 p2
                  go_wp2_with fail
                  have hdrS : ∀ W : World, W.drew.heap.size = W.heap.size := fun _ => rfl
                  refine wp_region_eager (R := Ext) [0, 1, 2, 3, 4, 5, 6, 7, 8, 9, 10, 11, 12, 13, 14, 15, 16, 17] (by kernel_rfl) (by kernel_rfl) Ext.refl (fun _ _ _ => Ext.trans) ?_
                  repeat' (first
                    | (refine ChX.skip (by rfl) (by rfl) ?_
                       (try simp only [Act.put, List.setIfInBounds_toArray, List.set_cons_zero, List.set_cons_succ]))
                    | (refine' ChX.quiet (v := _) (by rfl) (by rfl) (by rfl) ?_ ?_
                       rotate_left
                       · (intro wS hS
                          have hcS := Ext.cells hS
                          go_simp
                          with_reducible rfl)
                       (try simp only [Act.put, List.setIfInBounds_toArray, List.set_cons_zero, List.set_cons_succ]))
                    | (refine ChX.nil ?_)
                    | (refine' ChX.guard (x := _) (by rfl) ?_ ?_ ?_
                       rotate_left
                       · (go_simp
                          rfl)
                       all_goals
                         intro hg
                         simp only [hg])
                    | (refine' ChX.guardN (x := _) (by rfl) ?_ ?_ ?_
                       rotate_left
                       · (go_simp
                          rfl)
                       all_goals
                         intro hg
                         simp only [hg]))
                  go_wp2
                  go_ret
                  exact ⟨ret_bool (by rw [upTo_f hlt hno.out]; rfl), (show Ext w wr from HX2.out).trans (by repeat (first | (with_reducible exact Ext.refl _) | (with_reducible assumption) | (with_reducible refine Ext.alloc ?_ _) | (with_reducible refine Ext.drewN ?_ _) | (with_reducible refine Ext.drew ?_) | (with_reducible refine Ext.setCell ?_ ?_ _; rotate_left; (simp only []; omega)) | (with_reducible refine Ext.trans ?_ (by assumption))))⟩
                · have hqf : ((nth L k2).port == (nth L k).port) = false := by simpa using p2
                  replace p1 := Lib.hid p1
                  replace p2 := Lib.hid p2
                  go_wp2_with fail
                  have hdrS : ∀ W : World, W.drew.heap.size = W.heap.size := fun _ => rfl
                  refine wp_region_eager (R := Ext) [0, 1, 2, 3, 4, 5, 6, 7, 8, 9, 10, 11, 12, 13, 14, 15, 16, 17] (by kernel_rfl) (by kernel_rfl) Ext.refl (fun _ _ _ => Ext.trans) ?_
                  repeat' (first
                    | (refine ChX.skip (by rfl) (by rfl) ?_
                       (try simp only [Act.put, List.setIfInBounds_toArray, List.set_cons_zero, List.set_cons_succ]))
                    | (refine' ChX.quiet (v := _) (by rfl) (by rfl) (by rfl) ?_ ?_
                       rotate_left
                       · (intro wS hS
                          have hcS := Ext.cells hS
                          go_simp
                          with_reducible rfl)
                       (try simp only [Act.put, List.setIfInBounds_toArray, List.set_cons_zero, List.set_cons_succ]))
                    | (refine ChX.nil ?_)
                    | (refine' ChX.guard (x := _) (by rfl) ?_ ?_ ?_
                       rotate_left
                       · (go_simp
                          rfl)
                       all_goals
                         intro hg
                         simp only [hg])
                    | (refine' ChX.guardN (x := _) (by rfl) ?_ ?_ ?_
                       rotate_left
                       · (go_simp
                          rfl)
                       all_goals
                         intro hg
                         simp only [hg]))
                  go_wp2
                  go_roundw
                  case rel => exact ⟨k2 + 1, hlt2, by go_num, fun j hj => by
                    rcases Nat.lt_or_ge j k2 with h | h
                    · exact HA2.out j h
                    · have e : j = k2 := by omega
                      rw [e]; exact ⟨p1.out, p2.out⟩, hB.ext (by repeat (first | (with_reducible exact Ext.refl _) | (with_reducible assumption) | (with_reducible refine Ext.alloc ?_ _) | (with_reducible refine Ext.drewN ?_ _) | (with_reducible refine Ext.drew ?_) | (with_reducible refine Ext.setCell ?_ ?_ _; rotate_left; (simp only []; omega)) | (with_reducible refine Ext.trans ?_ (by assumption)))), (show Ext w wr from HX2.out).trans (by repeat (first | (with_reducible exact Ext.refl _) | (with_reducible assumption) | (with_reducible refine Ext.alloc ?_ _) | (with_reducible refine Ext.drewN ?_ _) | (with_reducible refine Ext.drew ?_) | (with_reducible refine Ext.setCell ?_ ?_ _; rotate_left; (simp only []; omega)) | (with_reducible refine Ext.trans ?_ (by assumption))))⟩
                  case measure => simp [intOf]; omega
            · have e : k2 = k := by omega
              subst e
              have HX2 := Lib.hid hX2
              clear hX2
              go_wp2
              go_roundw
              case rel => exact ⟨k2 + 1, hlt, by go_num, fun j hj => by
                rcases Nat.lt_or_ge j k2 with h | h
                · exact HA.out j h
                · have e : j = k2 := by omega
                  rw [e]; exact okMapAt_spec (by rw [hlen.out]; exact hlt) hokm.out HA2.out, HX2.out⟩
              case measure => simp [intOf]; omega
      · have e : k = n := by omega
        subst e
        have HX := Lib.hid hX
        clear hX
        go_wp2
        go_ret
        exact ⟨ret_bool (by rw [upTo_iff.2 HA.out, Bool.eq_iff_iff]; simp; omega), HX.out⟩
theorem okConAt_spec {L : List ConD} {k : Nat} (hk : k < L.length) (h : okCon (nth L k) = true) (hall : ∀ j, j < k → nth L j ≠ nth L k) : okConAt L k = true := by
  unfold okConAt
  rw [h, Bool.true_and, List.all_eq_true]
  intro y hy
  obtain ⟨j, hj, rfl⟩ := List.mem_take_iff_getElem.1 hy
  have h1 := hall j (by omega)
  rw [nth_of (List.getElem?_eq_getElem (show j < L.length by omega))] at h1
  simpa using h1
theorem okConAt_no {L : List ConD} {k j : Nat} (hk : k < L.length) (hj : j < k) (h : nth L j = nth L k) : okConAt L k = false := by
  have hm : nth L j ∈ L.take k := by
    rw [← nth_take hj]
    exact nth_mem (by simp; omega)
  unfold okConAt
  rw [Bool.and_eq_false_iff]
  right
  rw [List.all_eq_false]
  exact ⟨_, hm, by simp [h]⟩
set_option maxHeartbeats 2000000 in
theorem spec_validContacts (a : Option Addr) (n c : Nat) (L : List ConD) (w : World) (hs : Sl encC 3 w a n c L) :
    Calls Try.prog 99 #[.slice a n c] w fun e w' => e = .returned (.bool (validContacts L)) ∧ Ext w w' := by
  have hle := hs.le
  have hmax := hs.max
  have hlen := Lib.hid hs.len
  have hfin : validContacts L = (upTo (okConAt L) n && decide (n ≤ 10)) := by rw [← hs.len]; rfl
  rw [hfin]
  clear hfin
  rcases hs.cons with ⟨h0, hL⟩ | ⟨h0, b, off, ha, hb, hc⟩
  · subst h0
    subst hL
    clear hs hlen
    go_enter Try.func99, Try.ntmps99
    go_wp2
    go_loop [3, 4] (fun i _ => i = .int .i64 0) (fun _ _ => 0)
    case atStart => rfl
    case round =>
      subst hrel
      go_wp2
      go_ret
      exact ⟨rfl, Ext.refl _⟩
  · subst ha
    have HC2 := Lib.hid hc
    clear hc hs
    go_enter Try.func99, Try.ntmps99
    go_wp2
    go_loopw [3, 4] (fun i _ wr => ∃ k : Nat, k ≤ n ∧ i = .int .i64 k ∧ (∀ j, j < k → okConAt L j = true) ∧ Ext w wr) (fun i _ _ => n - (intOf i).toNat)
    case atStart => exact ⟨0, Nat.zero_le _, rfl, by omega, Ext.refl _⟩
    case round =>
      obtain ⟨k, hk, rfl, hall, hX⟩ := hrel
      have HA := Lib.hid hall
      clear hall
      obtain ⟨wo, rfl⟩ : ∃ wo : World, wo = wr := ⟨_, rfl⟩
      by_cases hlt : k < n
      · obtain ⟨d0, d1, d2⟩ := HC2.out k hlt
        rw [← hX.cells _ _ hb] at d0 d1 d2
        have hbr : b < wo.heap.size := by have := hX.size; omega
        cases h1 : inR (nth L k).port 1000 1007 with
        | false =>
          have hno := Lib.hid (show okConAt L k = false by unfold okConAt okCon; rw [h1]; rfl)
          go_wp2_with (go_at_call 68; refine (spec_inRange _ _ _ _).mono ?_; rintro e w' ⟨rfl, rfl⟩)
          go_ret
          exact ⟨ret_bool (by rw [upTo_f hlt hno.out]; rfl), hX.trans (by repeat (first | (with_reducible exact Ext.refl _) | (with_reducible assumption) | (with_reducible refine Ext.alloc ?_ _) | (with_reducible refine Ext.drewN ?_ _) | (with_reducible refine Ext.drew ?_) | (with_reducible refine Ext.setCell ?_ ?_ _; rotate_left; (simp only []; omega)) | (with_reducible refine Ext.trans ?_ (by assumption))))⟩
        | true =>
        cases h2 : validEnd (nth L k).to_ with
        | false =>
          have hno := Lib.hid (show okConAt L k = false by unfold okConAt okCon; rw [h1, h2]; rfl)
          go_wp2_with (first | (go_at_call 101; refine (spec_validEnd' (nth L k).to_ _).mono ?_; rintro e w1 ⟨rfl, hx⟩; have hc := hx.cells; have hf := hx.frozens; have hy := hx.size; (try simp at hy); have hz : b < w1.heap.size := (by omega)) | (go_at_call 68; refine (spec_inRange _ _ _ _).mono ?_; rintro e w' ⟨rfl, rfl⟩))
          go_ret
          exact ⟨ret_bool (by rw [upTo_f hlt hno.out]; rfl), hX.trans (by repeat (first | (with_reducible exact Ext.refl _) | (with_reducible assumption) | (with_reducible refine Ext.alloc ?_ _) | (with_reducible refine Ext.drewN ?_ _) | (with_reducible refine Ext.drew ?_) | (with_reducible refine Ext.setCell ?_ ?_ _; rotate_left; (simp only []; omega)) | (with_reducible refine Ext.trans ?_ (by assumption))))⟩
        | true =>
          have hokm := Lib.hid (show okCon (nth L k) = true by unfold okCon; rw [h1, h2]; rfl)
          go_wp2_with (go_at_call 68; refine (spec_inRange _ _ _ _).mono ?_; rintro e w' ⟨rfl, rfl⟩)
          refine (spec_validEnd' (nth L k).to_ _).mono ?_
          rintro e w1 ⟨rfl, hx1⟩
          have hX1 : Ext w w1 := hX.trans (Ext.trans (show Ext wo _ from (by repeat (first | (with_reducible exact Ext.refl _) | (with_reducible assumption) | (with_reducible refine Ext.alloc ?_ _) | (with_reducible refine Ext.drewN ?_ _) | (with_reducible refine Ext.drew ?_) | (with_reducible refine Ext.setCell ?_ ?_ _; rotate_left; (simp only []; omega)) | (with_reducible refine Ext.trans ?_ (by assumption))))) hx1)
          clear hx1 d0 d1 d2 hX
          go_wp2
          clear h1 h2
          go_loopw [4] (fun i2 w2 => ∃ k2 : Nat, k2 ≤ k ∧ i2 = .int .i64 k2 ∧ (∀ j, j < k2 → nth L j ≠ nth L k) ∧ Ext w w2) (fun i2 _ => k - (intOf i2).toNat)
          case atStart => exact ⟨0, Nat.zero_le _, rfl, by omega, hX1⟩
          case round =>
            obtain ⟨k2, hk2, rfl, hall2, hX2⟩ := hrel
            have HA2 := Lib.hid hall2
            clear hall2 hX1
            by_cases hlt2 : k2 < k
            · obtain ⟨e0, e1, e2⟩ := HC2.out k2 (by omega)
              obtain ⟨d0, d1, d2⟩ := HC2.out k (by omega)
              rw [← hX2.cells _ _ hb] at e0 e1 e2 d0 d1 d2
              have hbr2 : b < wr.heap.size := by have := hX2.size; omega
              have hk2n : k2 < n := by omega
              have HX2 := Lib.hid hX2
              clear hX2
              by_cases p1 : nth L k2 = nth L k
              · have heq : ∀ W : World, (Go.binOp .eql 115 (.agg #[.int .i64 (nth L k2).port, .int .i64 (nth L k2).to_.addr, .int .i64 (nth L k2).to_.port]) (.agg #[.int .i64 (nth L k).port, .int .i64 (nth L k).to_.addr, .int .i64 (nth L k).to_.port])).run Try.prog W = .ok (.bool true) W := fun W => by rw [run_eql_C (nth L k2) (nth L k), decide_eq_true p1]
                have hno := Lib.hid (okConAt_no (by rw [hlen.out]; exact hlt) hlt2 p1)
                clear p1
                go_wp2_with fail
                have hdrS : ∀ W : World, W.drew.heap.size = W.heap.size := fun _ => rfl
                refine wp_region_eager (R := Ext) [0, 1, 2, 3, 4, 5, 6, 7, 8] (by kernel_rfl) (by kernel_rfl) Ext.refl (fun _ _ _ => Ext.trans) ?_
                repeat' (first
                  | (refine ChX.skip (by rfl) (by rfl) ?_
                     (try simp only [Act.put, List.setIfInBounds_toArray, List.set_cons_zero, List.set_cons_succ]))
                  | (refine' ChX.quiet (v := _) (by rfl) (by rfl) (by rfl) ?_ ?_
                     rotate_left
                     · (intro wS hS
                        have hcS := Ext.cells hS
                        go_simp
                        with_reducible rfl)
                     (try simp only [Act.put, List.setIfInBounds_toArray, List.set_cons_zero, List.set_cons_succ]))
                  | (refine ChX.nil ?_)
                  | (refine' ChX.guard (x := _) (by rfl) ?_ ?_ ?_
                     rotate_left
                     · (go_simp
                        rfl)
                     all_goals
                       intro hg
                       simp only [hg])
                  | (refine' ChX.guardN (x := _) (by rfl) ?_ ?_ ?_
                     rotate_left
                     · (go_simp
                        rfl)
                     all_goals
                       intro hg
                       simp only [hg]))
                go_wp2
                go_ret
                exact ⟨ret_bool (by rw [upTo_f hlt hno.out]; rfl), (show Ext w wr from HX2.out).trans (by repeat (first | (with_reducible exact Ext.refl _) | (with_reducible assumption) | (with_reducible refine Ext.alloc ?_ _) | (with_reducible refine Ext.drewN ?_ _) | (with_reducible refine Ext.drew ?_) | (with_reducible refine Ext.setCell ?_ ?_ _; rotate_left; (simp only []; omega)) | (with_reducible refine Ext.trans ?_ (by assumption))))⟩
              · have heq : ∀ W : World, (Go.binOp .eql 115 (.agg #[.int .i64 (nth L k2).port, .int .i64 (nth L k2).to_.addr, .int .i64 (nth L k2).to_.port]) (.agg #[.int .i64 (nth L k).port, .int .i64 (nth L k).to_.addr, .int .i64 (nth L k).to_.port])).run Try.prog W = .ok (.bool false) W := fun W => by rw [run_eql_C (nth L k2) (nth L k), decide_eq_false p1]
                replace p1 := Lib.hid p1
                go_wp2_with fail
                have hdrS : ∀ W : World, W.drew.heap.size = W.heap.size := fun _ => rfl
                refine wp_region_eager (R := Ext) [0, 1, 2, 3, 4, 5, 6, 7, 8] (by kernel_rfl) (by kernel_rfl) Ext.refl (fun _ _ _ => Ext.trans) ?_
                repeat' (first
                  | (refine ChX.skip (by rfl) (by rfl) ?_
                     (try simp only [Act.put, List.setIfInBounds_toArray, List.set_cons_zero, List.set_cons_succ]))
                  | (refine' ChX.quiet (v := _) (by rfl) (by rfl) (by rfl) ?_ ?_
                     rotate_left
                     · (intro wS hS
                        have hcS := Ext.cells hS
                        go_simp
                        with_reducible rfl)
                     (try simp only [Act.put, List.setIfInBounds_toArray, List.set_cons_zero, List.set_cons_succ]))
                  | (refine ChX.nil ?_)
                  | (refine' ChX.guard (x := _) (by rfl) ?_ ?_ ?_
                     rotate_left
                     · (go_simp
                        rfl)
                     all_goals
                       intro hg
                       simp only [hg])
                  | (refine' ChX.guardN (x := _) (by rfl) ?_ ?_ ?_
                     rotate_left
                     · (go_simp
                        rfl)
                     all_goals
                       intro hg
                       simp only [hg]))
                go_wp2
                go_roundw
                case rel => exact ⟨k2 + 1, hlt2, by go_num, fun j hj => by
                  rcases Nat.lt_or_ge j k2 with h | h
                  · exact HA2.out j h
                  · have e : j = k2 := by omega
                    rw [e]; exact p1.out, (show Ext w wr from HX2.out).trans (by repeat (first | (with_reducible exact Ext.refl _) | (with_reducible assumption) | (with_reducible refine Ext.alloc ?_ _) | (with_reducible refine Ext.drewN ?_ _) | (with_reducible refine Ext.drew ?_) | (with_reducible refine Ext.setCell ?_ ?_ _; rotate_left; (simp only []; omega)) | (with_reducible refine Ext.trans ?_ (by assumption))))⟩
                case measure => simp [intOf]; omega
            · have e : k2 = k := by omega
              subst e
              have HX2 := Lib.hid hX2
              clear hX2
              go_wp2
              go_roundw
              case rel => exact ⟨k2 + 1, hlt, by go_num, fun j hj => by
                rcases Nat.lt_or_ge j k2 with h | h
                · exact HA.out j h
                · have e : j = k2 := by omega
                  rw [e]; exact okConAt_spec (by rw [hlen.out]; exact hlt) hokm.out HA2.out, HX2.out⟩
              case measure => simp [intOf]; omega
      · have e : k = n := by omega
        subst e
        have HX := Lib.hid hX
        clear hX
        go_wp2
        go_ret
        exact ⟨ret_bool (by rw [upTo_iff.2 HA.out, Bool.eq_iff_iff]; simp; omega), HX.out⟩
end Go.Proofs.Ytafmomocmodbhaa
