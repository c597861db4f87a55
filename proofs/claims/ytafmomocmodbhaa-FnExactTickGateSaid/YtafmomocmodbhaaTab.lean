/- Contracts: valid tables of mappings, of both packages; the places of ends and ports. -/
import Derived.Test.YtafmomocmodbhaaFind
import Derived.Test.YtafmomocmodbhaaEq
import Derived.Test.YtafmomocmodbhaaWords
namespace Go.Proofs.Ytafmomocmodbhaa
open Go.RowKit Go.Shelf

theorem all_two {α : Type} (a b : α → Bool) (l : List α) : (l.all fun q => !a q && !b q) = (!l.any a && !l.any b) := by
  induction l with
  | nil => rfl
  | cons x l ih => rw [List.all_cons, List.any_cons, List.any_cons, ih]; cases a x <;> cases b x <;> simp
theorem okMapAt_impl (L : List MapD) (k : Nat) : okMapAt L k = (validEnd (nth L k).ins && inR (nth L k).port 1000 1007 && inR (nth L k).last 0 10000 && !decide (0 ≤ byEnd (L.take k) (nth L k).ins) && !decide (0 ≤ byPort (L.take k) (nth L k).port)) := by
  unfold okMapAt okMap byEnd byPort
  rw [all_two, ix_any, ix_any]
  simp only [Bool.and_assoc]
theorem Sl.cut {α : Type} {enc : α → List Value} {k : Nat} {w : World} {a : Option Addr} {n c : Nat} {L : List α} (h : Sl enc k w a n c L) {m : Nat} (hm : m ≤ n) : Sl enc k w a m c (L.take m) :=
  h.take hm (Nat.le_trans hm h.le) (Nat.le_refl c)
theorem run_take_M (a : Option Addr) (n c m : Nat) (h : m ≤ c) (W : World) : (Instr.slice 37 (.slice a n c) none (some (.int .i64 m)) none).run Try.prog W = .ok (.slice a m c) W := by
  have h2 : (m : Int) ≤ (c : Int) := by omega
  have e : ∀ s : Nat, a.map (·.add (0 * s)) = a := by intro s; rw [Nat.zero_mul]; exact add_zero' a
  rw [run_slice_h (P := Try.prog) W 37 a n c (by kernel_rfl) .i64 (m : Int) (by omega) h2]
  go_simp
theorem impl_isOutside (n : Int) (w : World) : Calls Try.prog 143 #[.int .i64 n] w fun e w' => e = .returned (.bool (inR n 1000 1007)) ∧ w = w' := by
  go_enter Try.func143, Try.ntmps143
  go_wp2_with (go_at_call 63; refine (impl_in _ _ _ _).mono ?_; rintro e w' ⟨rfl, rfl⟩)
  go_ret
  exact ⟨rfl, rfl⟩
theorem impl_isTime (n : Int) (w : World) : Calls Try.prog 144 #[.int .i64 n] w fun e w' => e = .returned (.bool (inR n 0 10000)) ∧ w = w' := by
  go_enter Try.func144, Try.ntmps144
  go_wp2_with (go_at_call 63; refine (impl_in _ _ _ _).mono ?_; rintro e w' ⟨rfl, rfl⟩)
  go_ret
  exact ⟨rfl, rfl⟩
theorem impl_End_valid' (e : EndD) (w : World) : Calls Try.prog 113 #[.agg #[.int .i64 e.addr, .int .i64 e.port]] w fun r w' => r = .returned (.bool (validEnd e)) ∧ Ext w w' := impl_End_valid e.addr e.port w
set_option maxHeartbeats 1000000 in
theorem impl_ValidTable (a : Option Addr) (n c : Nat) (L : List MapD) (w : World) (hs : Sl encM 4 w a n c L) :
    Calls Try.prog 91 #[.slice a n c] w fun e w' => e = .returned (.bool (validTable L)) ∧ Ext w w' := by
  have hle := hs.le
  have hmax := hs.max
  have hfin : validTable L = (upTo (okMapAt L) n && decide (n ≤ 8)) := by rw [← hs.len]; rfl
  rw [hfin]
  clear hfin
  rcases hs.maps with ⟨h0, hL⟩ | ⟨h0, b, off, ha, hb, hc⟩
  · subst h0
    subst hL
    clear hs
    go_enter Try.func91, Try.ntmps91
    go_wp2
    go_loop [3, 4, 7] (fun _ _ i => i = .int .i64 0) (fun _ _ _ => 0)
    case atStart => rfl
    case round =>
      subst hrel
      go_wp2
      go_ret
      exact ⟨rfl, Ext.refl _⟩
  · subst ha
    have HC2 := Lib.hid hc
    clear hc
    go_enter Try.func91, Try.ntmps91
    go_wp2
    go_loopw [3, 4, 7] (fun _ _ i wr => ∃ k : Nat, k ≤ n ∧ i = .int .i64 k ∧ (∀ j, j < k → okMapAt L j = true) ∧ Ext w wr) (fun _ _ i _ => n - (intOf i).toNat)
    case atStart => exact ⟨0, Nat.zero_le _, rfl, by omega, Ext.refl _⟩
    case round =>
      obtain ⟨k, hk, rfl, hall, hX⟩ := hrel
      have HA := Lib.hid hall
      clear hall
      have hsk := hs.ext hX
      by_cases hlt : k < n
      · obtain ⟨d0, d1, d2, d3⟩ := HC2.out k hlt
        rw [← hX.cells _ _ hb] at d0 d1 d2 d3
        have hbr : b < wr.heap.size := by have := hX.size; omega
        have hok := okMapAt_impl L k
        obtain ⟨B1, hB1⟩ : ∃ B1, decide (0 ≤ byEnd (L.take k) (nth L k).ins) = B1 := ⟨_, rfl⟩
        obtain ⟨B2, hB2⟩ : ∃ B2, decide (0 ≤ byPort (L.take k) (nth L k).port) = B2 := ⟨_, rfl⟩
        rw [hB1, hB2] at hok
        replace hok := Lib.hid hok
        have hcut := hsk.cut (m := k) (by omega)
        have hsl := run_take_M (some ⟨b, off, none⟩) n c k (by omega)
        go_wp2_with fail
        refine wp_region_ext (by kernel_rfl) (by kernel_rfl) ?_
        repeat' (first
          | (refine ChL.skip (by rfl) ?_
             (try simp only [Act.put, List.setIfInBounds_toArray, List.set_cons_zero, List.set_cons_succ]))
          | (refine' ChL.val (v := _) (by rfl) ?_ ?_
             rotate_left
             · (intro wS hS
                have hcS := Ext.cells hS
                go_simp
                with_reducible rfl)
             (try simp only [Act.put, List.setIfInBounds_toArray, List.set_cons_zero, List.set_cons_succ]))
          | (refine' ChL.call (v := _) (f := _) (args := _) (by rfl) ?_ ?_ ?_
             rotate_left 3
             · (intro wS
                go_simp
                (constructor <;> rfl))
             · (intro wS hS
                first | (go_at_call 113; refine (impl_End_valid' (nth L k).ins _).mono ?_; rintro e w1 ⟨rfl, hx⟩; refine ⟨?_, Ext.trans hS hx⟩; rfl) | (go_at_call 143; refine (impl_isOutside _ _).mono ?_; rintro e w1 ⟨rfl, hx⟩; subst hx; refine ⟨?_, hS⟩; rfl) | (go_at_call 144; refine (impl_isTime _ _).mono ?_; rintro e w1 ⟨rfl, hx⟩; subst hx; refine ⟨?_, hS⟩; rfl) | (go_at_call 76; refine (impl_byEnd (nth L k).ins (some ⟨b, off, none⟩) k c (L.take k) _ (by exact (hcut.ext (show Ext wr _ from (by repeat (first | (with_reducible exact Ext.refl _) | (with_reducible assumption) | (with_reducible refine Ext.alloc ?_ _) | (with_reducible refine Ext.drewN ?_ _) | (with_reducible refine Ext.drew ?_) | (with_reducible refine Ext.setCell ?_ ?_ _; rotate_left; (simp only []; omega)) | (with_reducible refine Ext.trans ?_ (by assumption)))))).ext hS)).mono ?_; rintro e w1 ⟨rfl, hx⟩; refine ⟨?_, Ext.trans hS hx⟩; rfl) | (go_at_call 89; refine (impl_byPort _ (some ⟨b, off, none⟩) k c (L.take k) _ (by exact (hcut.ext (show Ext wr _ from (by repeat (first | (with_reducible exact Ext.refl _) | (with_reducible assumption) | (with_reducible refine Ext.alloc ?_ _) | (with_reducible refine Ext.drewN ?_ _) | (with_reducible refine Ext.drew ?_) | (with_reducible refine Ext.setCell ?_ ?_ _; rotate_left; (simp only []; omega)) | (with_reducible refine Ext.trans ?_ (by assumption)))))).ext hS)).mono ?_; rintro e w1 ⟨rfl, hx⟩; refine ⟨?_, Ext.trans hS hx⟩; rfl))
             (try simp only [Act.put, List.setIfInBounds_toArray, List.set_cons_zero, List.set_cons_succ]))
          | (refine ChL.nil ?_)
          | (refine' ChL.guard (x := _) ?_ ?_ ?_
             rotate_left
             · (go_simp
                rfl)
             all_goals
               intro hg
               simp only [hg])
          | (refine' ChL.guardN (x := _) ?_ ?_ ?_
             rotate_left
             · (go_simp
                rfl)
             all_goals
               intro hg
               simp only [hg]))
        all_goals
          intro w' hw'
          have HX : Ext w w' := hX.trans (Ext.trans (show Ext wr _ from (by repeat (first | (with_reducible exact Ext.refl _) | (with_reducible assumption) | (with_reducible refine Ext.alloc ?_ _) | (with_reducible refine Ext.drewN ?_ _) | (with_reducible refine Ext.drew ?_) | (with_reducible refine Ext.setCell ?_ ?_ _; rotate_left; (simp only []; omega)) | (with_reducible refine Ext.trans ?_ (by assumption))))) hw')
          clear hX hw' hsk hcut hsl
          go_wp2
        all_goals first
          | (go_ret
             exact ⟨ret_bool (by rw [upTo_f hlt (by rw [hok.out]; simp [*])]; rfl), HX⟩)
          | (go_roundw
             case rel =>
               exact ⟨k + 1, hlt, by go_num, fun j hj => by
                 rcases Nat.lt_or_ge j k with h | h
                 · exact HA.out j h
                 · have e : j = k := by omega
                   rw [e, hok.out]; simp [*], HX⟩
             case measure => simp [intOf]; omega)
      · have e : k = n := by omega
        subst e
        clear hsk
        have HX := Lib.hid hX
        clear hX
        go_wp2
        go_ret
        exact ⟨ret_bool (by rw [upTo_iff.2 HA.out, Bool.eq_iff_iff]; simp; omega), HX.out⟩
end Go.Proofs.Ytafmomocmodbhaa
