/- The words, laws and contracts that the claims of this seat share: group f. No condition. -/
import Derived.Test.YtppdcglnopoocaaKc
import Derived.Test.YtppdcglnopoocaaKb
import Derived.Test.YtppdcglnopoocaaKe
/- The second package's way out. -/
namespace Go.Proofs.Ytppdcglnopoocaa
set_option linter.unusedVariables false
set_option linter.unusedSimpArgs false
open Go.RowKit

set_option maxHeartbeats 1000000 in
theorem spec_freePort (a : Option Addr) (n c : Nat) (L : List MapD) (want : Int) (w : World) (hs : Sl encM 4 w a n c L) (h0 : 0 ≤ want) (h1 : want ≤ 65535) :
    Calls Try.prog 166 #[.slice a n c, .int .i64 want] w fun e w' => e = .returned (.int .i64 (freePort L want)) ∧ w = w' := by
  have hP := Lib.hid (fun q W h => spec_byPort q a n c L W h)
  have hS := Lib.hid hs
  clear hs
  have hbL : ∀ q, -1 ≤ byPort L q := fun q => ix_ge _ _
  have HBL := Lib.hid hbL
  obtain ⟨R, hR⟩ : ∃ R, R = freePort L want := ⟨_, rfl⟩
  rw [← hR]
  have tw : want.tmod 2 = want % 2 := Int.tmod_eq_emod_of_nonneg h0
  cases hi : inR want 1000 1007 && freeAt L want with
  | true =>
    have e : R = want := by rw [hR]; unfold freePort; rw [if_pos hi]
    simp only [Bool.and_eq_true] at hi
    have c1 := spec_inRange want 1000 1007
    rw [hi.1] at c1
    have hf : byPort L want < 0 := of_decide_eq_true hi.2
    clear hR hbL hi tw
    subst e
    go_enter Try.func166, Try.ntmps166
    go_wp2_with (first | (go_at_call 144; refine (c1 _).mono ?_; rintro e w' ⟨rfl, rfl⟩) | (go_at_call 92; refine (hP.out _ _ hS.out).mono ?_; rintro e w' ⟨rfl, rfl⟩))
    go_ret
    exact ⟨rfl, rfl⟩
  | false =>
    have e : R = if firstOf (fun n => decide (n % 2 = want % 2) && freeAt L n) 1000 8 < 0 then firstOf (freeAt L) 1000 8 else firstOf (fun n => decide (n % 2 = want % 2) && freeAt L n) 1000 8 := by rw [hR]; unfold freePort; rw [if_neg (by rw [hi]; simp)]
    have HE := Lib.hid e
    have c1 := fun W => spec_inRange want 1000 1007 W
    have fin : ∀ (Q : World → Prop), Q w → True := fun _ _ => trivial
    clear hR e fin hbL
    have hstart : ∃ x y : Bool, inR want 1000 1007 = x ∧ decide (byPort L want < 0) = y ∧ (x && y) = false := ⟨_, _, rfl, rfl, hi⟩
    obtain ⟨x, y, hx, hy, hxy⟩ := hstart
    rw [hx] at c1
    clear hi
    have hyd : (byPort L want < 0) ↔ y = true := by rw [← hy]; simp
    cases x with
    | true =>
      have hy0 : ¬ byPort L want < 0 := by rw [hyd]; simpa using hxy
      clear hyd hxy hy hx
      go_enter Try.func166, Try.ntmps166
      go_wp2_with (first | (go_at_call 144; refine (c1 _).mono ?_; rintro e w' ⟨rfl, rfl⟩) | (go_at_call 92; refine (hP.out _ _ hS.out).mono ?_; rintro e w' ⟨rfl, rfl⟩))
      clear c1
      go_loop [5] (fun i => ∃ k : Nat, k ≤ 8 ∧ i = .int .i64 (1000 + k) ∧ (∀ j : Int, 1000 ≤ j → j < 1000 + k → (decide (j % 2 = want % 2) && freeAt L j) = false)) (fun i => 8 - (intOf i - 1000).toNat)
      case atStart => exact ⟨0, by omega, by go_num, fun j h1 h2 => by omega⟩
      case round =>
        obtain ⟨k, hk, rfl, hall⟩ := hrel
        have HA := Lib.hid hall
        clear hall
        have t1 : (1000 + (k : Int)).tmod 2 = (1000 + (k : Int)) % 2 := Int.tmod_eq_emod_of_nonneg (by omega)
        by_cases hlt : k < 8
        · by_cases hp : (1000 + (k : Int)) % 2 = want % 2
          · by_cases hf : byPort L (1000 + k) < 0
            · have hfin := Lib.hid (show R = 1000 + k by
                have h := firstOf_some (f := fun n => decide (n % 2 = want % 2) && freeAt L n) 8 1000 (1000 + k) (by omega) (by omega) HA.out (by simp [freeAt, hf, hp])
                rw [HE.out, h, if_neg (by omega)])
              go_wp2_with (go_at_call 92; refine (hP.out _ _ hS.out).mono ?_; rintro e w' ⟨rfl, rfl⟩)
              go_ret
              exact ⟨ret_int hfin.out.symm, rfl⟩
            · go_wp2_with (go_at_call 92; refine (hP.out _ _ hS.out).mono ?_; rintro e w' ⟨rfl, rfl⟩)
              go_round
              case rel => exact ⟨k + 1, by omega, by congr 1 <;> omega, fun j h1 h2 => by
                rcases Int.lt_or_le j (1000 + k) with h | h
                · exact HA.out j h1 h
                · have e : j = 1000 + k := by omega
                  rw [e]; simp [freeAt, hf]⟩
              case measure => simp [intOf]; omega
          · go_wp2
            go_round
            case rel => exact ⟨k + 1, by omega, by congr 1 <;> omega, fun j h1 h2 => by
              rcases Int.lt_or_le j (1000 + k) with h | h
              · exact HA.out j h1 h
              · have e : j = 1000 + k := by omega
                rw [e]; simp [hp]⟩
            case measure => simp [intOf]; omega
        · have e : k = 8 := by omega
          subst e
          have HE2 := Lib.hid (show R = firstOf (freeAt L) 1000 8 by
            have h := firstOf_none (f := fun n => decide (n % 2 = want % 2) && freeAt L n) 8 1000 (fun j h1 h2 => HA.out j h1 (by omega))
            rw [HE.out, h, if_pos (by omega)])
          clear t1 HE HA
          go_wp2
          go_loop [6] (fun i => ∃ k : Nat, k ≤ 8 ∧ i = .int .i64 (1000 + k) ∧ (∀ j : Int, 1000 ≤ j → j < 1000 + k → freeAt L j = false)) (fun i => 8 - (intOf i - 1000).toNat)
          case atStart => exact ⟨0, by omega, by go_num, fun j h1 h2 => by omega⟩
          case round =>
            obtain ⟨k, hk2, rfl, hall⟩ := hrel
            have HA := Lib.hid hall
            clear hall
            by_cases hlt : k < 8
            · by_cases hf : byPort L (1000 + k) < 0
              · have hfin := Lib.hid (show R = 1000 + k by
                  rw [HE2.out, firstOf_some (f := freeAt L) 8 1000 (1000 + k) (by omega) (by omega) HA.out (by simp [freeAt, hf])])
                go_wp2_with (go_at_call 92; refine (hP.out _ _ hS.out).mono ?_; rintro e w' ⟨rfl, rfl⟩)
                go_ret
                exact ⟨ret_int hfin.out.symm, rfl⟩
              · go_wp2_with (go_at_call 92; refine (hP.out _ _ hS.out).mono ?_; rintro e w' ⟨rfl, rfl⟩)
                go_round
                case rel => exact ⟨k + 1, by omega, by congr 1 <;> omega, fun j h1 h2 => by
                  rcases Int.lt_or_le j (1000 + k) with h | h
                  · exact HA.out j h1 h
                  · have e : j = 1000 + k := by omega
                    rw [e]; simp [freeAt, hf]⟩
                case measure => simp [intOf]; omega
            · have e : k = 8 := by omega
              subst e
              have hfin := Lib.hid (show R = -1 by rw [HE2.out, firstOf_none (f := freeAt L) 8 1000 (fun j h1 h2 => HA.out j h1 (by omega))])
              go_wp2
              go_ret
              exact ⟨ret_int hfin.out.symm, rfl⟩
    | false =>
      clear hyd hxy hy hx
      go_enter Try.func166, Try.ntmps166
      go_wp2_with (first | (go_at_call 144; refine (c1 _).mono ?_; rintro e w' ⟨rfl, rfl⟩))
      clear c1
      go_loop [5] (fun i => ∃ k : Nat, k ≤ 8 ∧ i = .int .i64 (1000 + k) ∧ (∀ j : Int, 1000 ≤ j → j < 1000 + k → (decide (j % 2 = want % 2) && freeAt L j) = false)) (fun i => 8 - (intOf i - 1000).toNat)
      case atStart => exact ⟨0, by omega, by go_num, fun j h1 h2 => by omega⟩
      case round =>
        obtain ⟨k, hk, rfl, hall⟩ := hrel
        have HA := Lib.hid hall
        clear hall
        have t1 : (1000 + (k : Int)).tmod 2 = (1000 + (k : Int)) % 2 := Int.tmod_eq_emod_of_nonneg (by omega)
        by_cases hlt : k < 8
        · by_cases hp : (1000 + (k : Int)) % 2 = want % 2
          · by_cases hf : byPort L (1000 + k) < 0
            · have hfin := Lib.hid (show R = 1000 + k by
                have h := firstOf_some (f := fun n => decide (n % 2 = want % 2) && freeAt L n) 8 1000 (1000 + k) (by omega) (by omega) HA.out (by simp [freeAt, hf, hp])
                rw [HE.out, h, if_neg (by omega)])
              go_wp2_with (go_at_call 92; refine (hP.out _ _ hS.out).mono ?_; rintro e w' ⟨rfl, rfl⟩)
              go_ret
              exact ⟨ret_int hfin.out.symm, rfl⟩
            · go_wp2_with (go_at_call 92; refine (hP.out _ _ hS.out).mono ?_; rintro e w' ⟨rfl, rfl⟩)
              go_round
              case rel => exact ⟨k + 1, by omega, by congr 1 <;> omega, fun j h1 h2 => by
                rcases Int.lt_or_le j (1000 + k) with h | h
                · exact HA.out j h1 h
                · have e : j = 1000 + k := by omega
                  rw [e]; simp [freeAt, hf]⟩
              case measure => simp [intOf]; omega
          · go_wp2
            go_round
            case rel => exact ⟨k + 1, by omega, by congr 1 <;> omega, fun j h1 h2 => by
              rcases Int.lt_or_le j (1000 + k) with h | h
              · exact HA.out j h1 h
              · have e : j = 1000 + k := by omega
                rw [e]; simp [hp]⟩
            case measure => simp [intOf]; omega
        · have e : k = 8 := by omega
          subst e
          have HE2 := Lib.hid (show R = firstOf (freeAt L) 1000 8 by
            have h := firstOf_none (f := fun n => decide (n % 2 = want % 2) && freeAt L n) 8 1000 (fun j h1 h2 => HA.out j h1 (by omega))
            rw [HE.out, h, if_pos (by omega)])
          clear t1 HE HA
          go_wp2
          go_loop [6] (fun i => ∃ k : Nat, k ≤ 8 ∧ i = .int .i64 (1000 + k) ∧ (∀ j : Int, 1000 ≤ j → j < 1000 + k → freeAt L j = false)) (fun i => 8 - (intOf i - 1000).toNat)
          case atStart => exact ⟨0, by omega, by go_num, fun j h1 h2 => by omega⟩
          case round =>
            obtain ⟨k, hk2, rfl, hall⟩ := hrel
            have HA := Lib.hid hall
            clear hall
            by_cases hlt : k < 8
            · by_cases hf : byPort L (1000 + k) < 0
              · have hfin := Lib.hid (show R = 1000 + k by
                  rw [HE2.out, firstOf_some (f := freeAt L) 8 1000 (1000 + k) (by omega) (by omega) HA.out (by simp [freeAt, hf])])
                go_wp2_with (go_at_call 92; refine (hP.out _ _ hS.out).mono ?_; rintro e w' ⟨rfl, rfl⟩)
                go_ret
                exact ⟨ret_int hfin.out.symm, rfl⟩
              · go_wp2_with (go_at_call 92; refine (hP.out _ _ hS.out).mono ?_; rintro e w' ⟨rfl, rfl⟩)
                go_round
                case rel => exact ⟨k + 1, by omega, by congr 1 <;> omega, fun j h1 h2 => by
                  rcases Int.lt_or_le j (1000 + k) with h | h
                  · exact HA.out j h1 h
                  · have e : j = 1000 + k := by omega
                    rw [e]; simp [freeAt, hf]⟩
                case measure => simp [intOf]; omega
            · have e : k = 8 := by omega
              subst e
              have hfin := Lib.hid (show R = -1 by rw [HE2.out, firstOf_none (f := freeAt L) 8 1000 (fun j h1 h2 => HA.out j h1 (by omega))])
              go_wp2
              go_ret
              exact ⟨ret_int hfin.out.symm, rfl⟩
end Go.Proofs.Ytppdcglnopoocaa
/- The second package's noted contacts and mapped ends. -/
namespace Go.Proofs.Ytppdcglnopoocaa
set_option linter.unusedVariables false
set_option linter.unusedSimpArgs false
open Go.RowKit

theorem Sl.drop0 {α : Type} {enc : α → List Value} {k : Nat} {w : World} {g n c : Nat} {L : List α} (h : Sl enc k w (some ⟨g, 0, none⟩) n c L) {j : Nat} (hj : j ≤ n) : Sl enc k w (some ⟨g, j * k, none⟩) (n - j) (c - j) (L.drop j) := by
  have hl := h.len
  have h1 := h.le
  have h2 := h.max
  refine ⟨by simp; omega, by omega, by omega, (fun e => by cases e), fun hn => ?_⟩
  obtain ⟨b, off, e, hb, hc⟩ := h.at_ (by omega)
  injection e with e
  injection e with e1 e2
  subst e1; subst e2
  refine ⟨g, j * k, rfl, hb, fun i x hx q u hu => ?_⟩
  have := hc (j + i) x (by rw [List.getElem?_drop] at hx; exact hx) q u hu
  rw [← this]
  congr 2
  rw [Nat.add_mul]; omega
theorem run_drop_C' (g n c m : Nat) (h : m < n) (hc : n ≤ c) (W : World) : (Instr.slice 26 (.slice (some ⟨g, 0, none⟩) n c) (some (.int .i64 m)) none none).run Try.prog W = .ok (.slice (some ⟨g, m * 3, none⟩) (n - m) (c - m)) W := by
  rw [run_slice_l (P := Try.prog) W 26 (some ⟨g, 0, none⟩) n c (by kernel_rfl) .i64 (m : Int) (by omega) (by omega)]
  have hcm : ¬ c = m := by omega
  go_simp
theorem OwR.form {α : Type} {E : TypeId} {enc : α → List Value} {k base : Nat} {w : World} {a : Option Addr} {n c : Nat} {L : List α} (h : OwR E enc k base w a n c L) (hn : 0 < n) : ∃ g, a = some ⟨g, 0, none⟩ := by
  rcases h.2 with ⟨e, h0⟩ | ⟨g, cap, cur, e, _⟩
  · omega
  · injection e with e1 e2 e3
    exact ⟨g, e1⟩
set_option maxHeartbeats 1000000 in
theorem spec_note (a : Option Addr) (n c : Nat) (L : List ConD) (x : ConD) (w : World) (hs : Sl encC 3 w a n c L) (hn : n ≤ 10) :
    Calls Try.prog 138 #[.slice a n c, .agg #[.int .i64 x.port, .int .i64 x.to_.addr, .int .i64 x.to_.port]] w fun e w' => ∃ a' m c', e = .returned (.slice a' m c') ∧ OwR 47 encC 3 w.heap.size w' a' m c' (note L x) ∧ m ≤ 11 ∧ Ext w w' := by
  have hle := hs.le
  have hmax := hs.max
  have hlen := hs.len
  have HL := Lib.hid hlen
  have HI := Lib.hid hs.cons
  clear hlen hs
  go_enter Try.func138, Try.ntmps138
  go_wp2
  go_loopw [5, 6] (fun v i wr => ∃ (k : Nat) (a' : Option Addr) (m c' : Nat) (M : List ConD), k ≤ n ∧ i = .int .i64 k ∧ v = .slice a' m c' ∧ m ≤ k ∧ M = (L.take k).filter (fun d => !decide (d = x)) ∧ OwR 47 encC 3 (w.heap.size + 1) wr a' m c' M ∧ Blk wr w.heap.size 47 #[.int .i64 x.port, .int .i64 x.to_.addr, .int .i64 x.to_.port] ∧ Ext w wr) (fun _ i _ => n - (intOf i).toNat)
  case atStart => exact ⟨0, _, 0, 0, [], Nat.zero_le _, rfl, rfl, Nat.le_refl _, rfl, OwR.empty _ _ (by simp) (by simp), (by repeat (first | (with_reducible assumption) | (with_reducible exact Blk.new _ _ _) | exact Blk.newAt _ _ _ (by simp) | (with_reducible refine Blk.alloc ?_ _) | (with_reducible refine Blk.drew ?_) | (with_reducible refine Blk.drewN ?_ _) | refine Blk.far ?_ (by simp only []; omega) _ | refine Blk.rext ?_ (by assumption) (by omega) | refine Blk.ext ?_ (by assumption))), (by repeat (first | (with_reducible exact Ext.refl _) | (with_reducible assumption) | (with_reducible refine Ext.alloc ?_ _) | (with_reducible refine Ext.drewN ?_ _) | (with_reducible refine Ext.drew ?_) | (with_reducible refine Ext.setCell ?_ ?_ _; rotate_left; (simp only []; omega)) | (with_reducible refine Ext.trans ?_ (by assumption))))⟩
  case round =>
    obtain ⟨k, a', m, c', M, hk, rfl, rfl, hmk, hM, hO, BX, hX⟩ := hrel
    have cX := BX.cells
    have fX := BX.frozens
    have zX := BX.lt
    have lO := hO.lt
    by_cases hlt : k < n
    · obtain ⟨_, b, off, rfl, hb, hc⟩ := (HI.out).resolve_left (by omega)
      obtain ⟨d0, d1, d2⟩ := hc k hlt
      rw [← hX.cells _ _ hb] at d0 d1 d2
      have hbr : b < wr.heap.size := by have := hX.size; omega
      have HO := Lib.hid hO
      have HM := Lib.hid hM
      clear hc hO hM
      by_cases hq : nth L k = x
      · have heq : ∀ W : World, (Go.binOp .neq 47 (.agg #[.int .i64 (nth L k).port, .int .i64 (nth L k).to_.addr, .int .i64 (nth L k).to_.port]) (.agg #[.int .i64 x.port, .int .i64 x.to_.addr, .int .i64 x.to_.port])).run Try.prog W = .ok (.bool false) W := fun W => by rw [run_neq_C (nth L k) x, decide_eq_true hq]; rfl
        have HQ := Lib.hid hq
        clear hq
        go_wp2_with fail
        have hdrS : ∀ W : World, W.drew.heap.size = W.heap.size := fun _ => rfl
        refine wp_region_eager (R := Ext) [0, 1, 2, 3, 4, 5] (by kernel_rfl) (by kernel_rfl) Ext.refl (fun _ _ _ => Ext.trans) ?_
        repeat' (first
          | (refine ChX.skip (by rfl) (by rfl) ?_
             (try simp only [Act.put, List.setIfInBounds_toArray, List.set_cons_zero, List.set_cons_succ]))
          | (refine' ChX.quiet (v := _) (by rfl) (by rfl) (by rfl) ?_ ?_
             rotate_left
             · (intro wS hS
                have hcS := Ext.cells hS
                go_simp
                with_reducible rfl)
             (try simp only [Act.put, List.setIfInBounds_toArray, List.set_cons_zero, List.set_cons_succ]))
          | (refine ChX.nil ?_)
          | (refine' ChX.guard (x := _) (by rfl) ?_ ?_ ?_
             rotate_left
             · (go_simp
                rfl)
             all_goals
               intro hg
               simp only [hg])
          | (refine' ChX.guardN (x := _) (by rfl) ?_ ?_ ?_
             rotate_left
             · (go_simp
                rfl)
             all_goals
               intro hg
               simp only [hg]))
        go_wp2
        go_roundw
        case rel => exact ⟨k + 1, a', m, c', M, hlt, by go_num, rfl, by omega, by rw [HM.out, filt_drop (by rw [HL.out]; exact hlt) (by simp [HQ.out])], HO.out.ext (show Ext wr _ from (by repeat (first | (with_reducible exact Ext.refl _) | (with_reducible assumption) | (with_reducible refine Ext.alloc ?_ _) | (with_reducible refine Ext.drewN ?_ _) | (with_reducible refine Ext.drew ?_) | (with_reducible refine Ext.setCell ?_ ?_ _; rotate_left; (simp only []; omega)) | (with_reducible refine Ext.trans ?_ (by assumption))))), BX.ext (show Ext wr _ from (by repeat (first | (with_reducible exact Ext.refl _) | (with_reducible assumption) | (with_reducible refine Ext.alloc ?_ _) | (with_reducible refine Ext.drewN ?_ _) | (with_reducible refine Ext.drew ?_) | (with_reducible refine Ext.setCell ?_ ?_ _; rotate_left; (simp only []; omega)) | (with_reducible refine Ext.trans ?_ (by assumption))))), hX.trans (show Ext wr _ from (by repeat (first | (with_reducible exact Ext.refl _) | (with_reducible assumption) | (with_reducible refine Ext.alloc ?_ _) | (with_reducible refine Ext.drewN ?_ _) | (with_reducible refine Ext.drew ?_) | (with_reducible refine Ext.setCell ?_ ?_ _; rotate_left; (simp only []; omega)) | (with_reducible refine Ext.trans ?_ (by assumption)))))⟩
        case measure => simp [intOf]; omega
      · have heq : ∀ W : World, (Go.binOp .neq 47 (.agg #[.int .i64 (nth L k).port, .int .i64 (nth L k).to_.addr, .int .i64 (nth L k).to_.port]) (.agg #[.int .i64 x.port, .int .i64 x.to_.addr, .int .i64 x.to_.port])).run Try.prog W = .ok (.bool true) W := fun W => by rw [run_neq_C (nth L k) x, decide_eq_false hq]; rfl
        have HQ := Lib.hid hq
        clear hq
        go_wp2_with fail
        have hdrS : ∀ W : World, W.drew.heap.size = W.heap.size := fun _ => rfl
        refine wp_region_eager (R := Ext) [0, 1, 2, 3, 4, 5] (by kernel_rfl) (by kernel_rfl) Ext.refl (fun _ _ _ => Ext.trans) ?_
        repeat' (first
          | (refine ChX.skip (by rfl) (by rfl) ?_
             (try simp only [Act.put, List.setIfInBounds_toArray, List.set_cons_zero, List.set_cons_succ]))
          | (refine' ChX.quiet (v := _) (by rfl) (by rfl) (by rfl) ?_ ?_
             rotate_left
             · (intro wS hS
                have hcS := Ext.cells hS
                go_simp
                with_reducible rfl)
             (try simp only [Act.put, List.setIfInBounds_toArray, List.set_cons_zero, List.set_cons_succ]))
          | (refine ChX.nil ?_)
          | (refine' ChX.guard (x := _) (by rfl) ?_ ?_ ?_
             rotate_left
             · (go_simp
                rfl)
             all_goals
               intro hg
               simp only [hg])
          | (refine' ChX.guardN (x := _) (by rfl) ?_ ?_ ?_
             rotate_left
             · (go_simp
                rfl)
             all_goals
               intro hg
               simp only [hg]))
        have HX := Lib.hid hX
        have HBX := Lib.hid BX
        have HLO := Lib.hid lO
        clear hX BX lO
        go_wp2_with (at_builtin; refine wpList_append_ow _ rfl _ _ rfl (by with_reducible exact eiC) encC_len encC_one (by omega) (w.heap.size + 1) a' m c' M rfl (by exact HO.out.ext (show Ext wr _ from (by repeat (first | (with_reducible exact Ext.refl _) | (with_reducible assumption) | (with_reducible refine Ext.alloc ?_ _) | (with_reducible refine Ext.drewN ?_ _) | (with_reducible refine Ext.drew ?_) | (with_reducible refine Ext.setCell ?_ ?_ _; rotate_left; (simp only []; omega)) | (with_reducible refine Ext.trans ?_ (by assumption)))))) _ 1 1 [nth L k] rfl (by first | exact Sl.lit1 _ _ (nth L k) _ rfl rfl | (refine Sl.ext ?_ ((Ext.refl _).drew); exact Sl.lit1 _ _ (nth L k) _ rfl rfl)) (by omega) (by (try simp); omega) ?_; intro a3 c3 w3 hO3 hX3 hg3; replace hX3 := hX3 w ((show Ext w wr from HX.out).trans (by repeat (first | (with_reducible exact Ext.refl _) | (with_reducible assumption) | (with_reducible refine Ext.alloc ?_ _) | (with_reducible refine Ext.drewN ?_ _) | (with_reducible refine Ext.drew ?_) | (with_reducible refine Ext.setCell ?_ ?_ _; rotate_left; (simp only []; omega)) | (with_reducible refine Ext.trans ?_ (by assumption))))) (by omega); have BX3 := Blk.grown (Blk.ext HBX.out (show Ext wr _ from (by repeat (first | (with_reducible exact Ext.refl _) | (with_reducible assumption) | (with_reducible refine Ext.alloc ?_ _) | (with_reducible refine Ext.drewN ?_ _) | (with_reducible refine Ext.drew ?_) | (with_reducible refine Ext.setCell ?_ ?_ _; rotate_left; (simp only []; omega)) | (with_reducible refine Ext.trans ?_ (by assumption)))))) hg3 (row_ne fun y e => by have := (HLO.out y e).1; omega))
        go_roundw
        case rel => exact ⟨k + 1, a3, m + 1, c3, _, hlt, by go_num, rfl, by omega, by rw [HM.out, filt_keep (by rw [HL.out]; exact hlt) (by simp [HQ.out])], hO3, BX3, hX3⟩
        case measure => simp [intOf]; omega
    · have e : k = n := by omega
      subst e
      rw [List.take_of_length_le (by rw [HL.out]; omega)] at hM
      have hNA := Lib.hid (show M ++ [x] = noteAll L x by rw [hM]; rfl)
      have HX := Lib.hid hX
      have HO := Lib.hid hO
      clear hX hO hM BX lO
      by_cases h10 : m + 1 ≤ 10
      · have hmx : max (0 : Int) ((m : Int) + 1 - 10) = 0 := by omega
        go_wp2_with (first
          | (at_builtin; refine wpList_append_ow _ rfl _ _ rfl (by with_reducible exact eiC) encC_len encC_one (by omega) (w.heap.size + 1) a' m c' M rfl (by exact HO.out.ext (show Ext wr _ from (by repeat (first | (with_reducible exact Ext.refl _) | (with_reducible assumption) | (with_reducible refine Ext.alloc ?_ _) | (with_reducible refine Ext.drewN ?_ _) | (with_reducible refine Ext.drew ?_) | (with_reducible refine Ext.setCell ?_ ?_ _; rotate_left; (simp only []; omega)) | (with_reducible refine Ext.trans ?_ (by assumption)))))) _ 1 1 [x] rfl (by first | exact Sl.lit1 _ _ x _ rfl rfl | (refine Sl.ext ?_ ((Ext.refl _).drew); exact Sl.lit1 _ _ x _ rfl rfl)) (by omega) (by (try simp); omega) ?_; intro a3 c3 w3 hO3 hX3 hg3; replace hX3 := hX3 w ((show Ext w wr from HX.out).trans (by repeat (first | (with_reducible exact Ext.refl _) | (with_reducible assumption) | (with_reducible refine Ext.alloc ?_ _) | (with_reducible refine Ext.drewN ?_ _) | (with_reducible refine Ext.drew ?_) | (with_reducible refine Ext.setCell ?_ ?_ _; rotate_left; (simp only []; omega)) | (with_reducible refine Ext.trans ?_ (by assumption))))) (by omega); obtain ⟨g3, rfl⟩ := hO3.form (by omega); have hS3 := (hO3.ow encC_len (by omega)).sl encC_len; have hle3 := hS3.le; have hmx3 := hS3.max; have hl3 := hS3.len; have hdr := run_drop_C' g3 (m + 1) c3 0 (by omega) hle3; have hD3 := Lib.hid (hS3.drop0 (j := 0) (by omega)); have HO3 := Lib.hid hO3; clear hS3 hO3 hg3)
          | (at_builtin; refine wpList_append_ow _ rfl _ _ rfl (by with_reducible exact eiC) encC_len encC_one (by omega) w3.heap.size (some ⟨w3.heap.size, 0, none⟩) 0 0 [] rfl (by exact OwR.empty _ _ (by simp) (by simp)) (some ⟨g3, 0 * 3, none⟩) (m + 1 - 0) (c3 - 0) _ rfl (by exact hD3.out.ext (by repeat (first | (with_reducible exact Ext.refl _) | (with_reducible assumption) | (with_reducible refine Ext.alloc ?_ _) | (with_reducible refine Ext.drewN ?_ _) | (with_reducible refine Ext.drew ?_) | (with_reducible refine Ext.setCell ?_ ?_ _; rotate_left; (simp only []; omega)) | (with_reducible refine Ext.trans ?_ (by assumption))))) (by omega) (by simp) ?_; intro a4 c4 w4 hO4 hX4 hg4; replace hX4 := hX4 w (by repeat (first | (with_reducible exact Ext.refl _) | (with_reducible assumption) | (with_reducible refine Ext.alloc ?_ _) | (with_reducible refine Ext.drewN ?_ _) | (with_reducible refine Ext.drew ?_) | (with_reducible refine Ext.setCell ?_ ?_ _; rotate_left; (simp only []; omega)) | (with_reducible refine Ext.trans ?_ (by assumption)))) (by have := hX3.size; omega)))
        go_ret
        refine ⟨a4, 0 + (m + 1 - 0), c4, by (first | rfl | simp), ?_, by omega, hX4⟩
        rw [hNA.out] at hO4 hl3
        have e : (noteAll L x).length - 10 = 0 := by omega
        unfold note
        rw [e]
        exact OwR.rebase (by simpa using hO4) (by have := hX3.size; omega)
      · have hmx : max (0 : Int) ((m : Int) + 1 - 10) = 1 := by omega
        go_wp2_with (first
          | (at_builtin; refine wpList_append_ow _ rfl _ _ rfl (by with_reducible exact eiC) encC_len encC_one (by omega) (w.heap.size + 1) a' m c' M rfl (by exact HO.out.ext (show Ext wr _ from (by repeat (first | (with_reducible exact Ext.refl _) | (with_reducible assumption) | (with_reducible refine Ext.alloc ?_ _) | (with_reducible refine Ext.drewN ?_ _) | (with_reducible refine Ext.drew ?_) | (with_reducible refine Ext.setCell ?_ ?_ _; rotate_left; (simp only []; omega)) | (with_reducible refine Ext.trans ?_ (by assumption)))))) _ 1 1 [x] rfl (by first | exact Sl.lit1 _ _ x _ rfl rfl | (refine Sl.ext ?_ ((Ext.refl _).drew); exact Sl.lit1 _ _ x _ rfl rfl)) (by omega) (by (try simp); omega) ?_; intro a3 c3 w3 hO3 hX3 hg3; replace hX3 := hX3 w ((show Ext w wr from HX.out).trans (by repeat (first | (with_reducible exact Ext.refl _) | (with_reducible assumption) | (with_reducible refine Ext.alloc ?_ _) | (with_reducible refine Ext.drewN ?_ _) | (with_reducible refine Ext.drew ?_) | (with_reducible refine Ext.setCell ?_ ?_ _; rotate_left; (simp only []; omega)) | (with_reducible refine Ext.trans ?_ (by assumption))))) (by omega); obtain ⟨g3, rfl⟩ := hO3.form (by omega); have hS3 := (hO3.ow encC_len (by omega)).sl encC_len; have hle3 := hS3.le; have hmx3 := hS3.max; have hl3 := hS3.len; have hdr := run_drop_C' g3 (m + 1) c3 1 (by omega) hle3; have hD3 := Lib.hid (hS3.drop0 (j := 1) (by omega)); have HO3 := Lib.hid hO3; clear hS3 hO3 hg3)
          | (at_builtin; refine wpList_append_ow _ rfl _ _ rfl (by with_reducible exact eiC) encC_len encC_one (by omega) w3.heap.size (some ⟨w3.heap.size, 0, none⟩) 0 0 [] rfl (by exact OwR.empty _ _ (by simp) (by simp)) (some ⟨g3, 1 * 3, none⟩) (m + 1 - 1) (c3 - 1) _ rfl (by exact hD3.out.ext (by repeat (first | (with_reducible exact Ext.refl _) | (with_reducible assumption) | (with_reducible refine Ext.alloc ?_ _) | (with_reducible refine Ext.drewN ?_ _) | (with_reducible refine Ext.drew ?_) | (with_reducible refine Ext.setCell ?_ ?_ _; rotate_left; (simp only []; omega)) | (with_reducible refine Ext.trans ?_ (by assumption))))) (by omega) (by simp) ?_; intro a4 c4 w4 hO4 hX4 hg4; replace hX4 := hX4 w (by repeat (first | (with_reducible exact Ext.refl _) | (with_reducible assumption) | (with_reducible refine Ext.alloc ?_ _) | (with_reducible refine Ext.drewN ?_ _) | (with_reducible refine Ext.drew ?_) | (with_reducible refine Ext.setCell ?_ ?_ _; rotate_left; (simp only []; omega)) | (with_reducible refine Ext.trans ?_ (by assumption)))) (by have := hX3.size; omega)))
        go_ret
        refine ⟨a4, 0 + (m + 1 - 1), c4, by (first | rfl | simp), ?_, by omega, hX4⟩
        rw [hNA.out] at hO4 hl3
        have e : (noteAll L x).length - 10 = 1 := by omega
        unfold note
        rw [e]
        exact OwR.rebase (by simpa using hO4) (by have := hX3.size; omega)
end Go.Proofs.Ytppdcglnopoocaa
/- The second package's mapped ends. -/
namespace Go.Proofs.Ytppdcglnopoocaa
set_option linter.unusedVariables false
set_option linter.unusedSimpArgs false
open Go.RowKit

theorem flat_setLast (v : Int) : ∀ (L : List MapD) (k : Nat), k < L.length → (L.flatMap encM).set (k * 4 + 3) (.int .i64 v) = (L.set k { nth L k with last := v }).flatMap encM
  | [], k, h => by simp at h
  | y :: L, 0, _ => by simp [encM, nth]
  | y :: L, k + 1, h => by
    have ih := flat_setLast v L k (by simpa using h)
    rw [List.set_cons_succ, List.flatMap_cons, List.flatMap_cons, List.set_append_right _ _ (by simp [encM]; omega)]
    have e : (k + 1) * 4 + 3 - (encM y).length = k * 4 + 3 := by simp [encM]; omega
    rw [e, ih]
    rfl
theorem OwR.blk {α : Type} {E : TypeId} {enc : α → List Value} {k base : Nat} {w : World} {g n c : Nat} {L : List α} (h : OwR E enc k base w (some ⟨g, 0, none⟩) n c L) : ∃ cur, Blk w g E cur := by
  rcases h.2 with ⟨e, h0⟩ | ⟨g', cap, cur, e, hb, hg, _⟩
  · cases e
  · injection e with e1 e2 e3
    injection e1 with e1
    injection e1 with e1
    subst e1
    exact ⟨cur, hg⟩
theorem OwR.setLast {E : TypeId} {base : Nat} {w : World} {g n c : Nat} {L : List MapD} (h : OwR E encM 4 base w (some ⟨g, 0, none⟩) n c L) {k : Nat} (hk : k < n) (v : Int) :
    OwR E encM 4 base (w.setCell ⟨g, k * 4 + 3, none⟩ (.int .i64 v)) (some ⟨g, 0, none⟩) n c (L.set k { nth L k with last := v }) := by
  have hl := (h.ow encM_len (by omega)).1
  rcases h.2 with ⟨e, h0⟩ | ⟨g', cap, cur, e, hb, hg, hnc, hcm, hcs, ht⟩
  · cases e
  · injection e with e1 e2 e3
    injection e1 with e1
    injection e1 with e1
    subst e1
    refine ⟨by rw [flat_len encM_len]; simp [hl], .inr ⟨g, cap, cur.setIfInBounds (k * 4 + 3) (.int .i64 v), by rw [e3], hb, Blk.set (show Blk w g E cur from hg) _ _, hnc, hcm, by simpa using hcs, ?_⟩⟩
    rw [Array.toList_setIfInBounds, List.take_set, ht, flat_setLast v L k (by omega)]
set_option maxHeartbeats 1000000 in
theorem spec_mapEnd_some (a : Option Addr) (n c : Nat) (L : List MapD) (x : EndD) (now : Int) (w : World) (hs : Sl encM 4 w a n c L) (hn : n ≤ 1000) (h0 : 0 ≤ x.port) (h1 : x.port ≤ 65535) (T : List MapD) (p : Int) (hm : mapEnd L x now = some (T, p)) :
    Calls Try.prog 137 #[.slice a n c, .agg #[.int .i64 x.addr, .int .i64 x.port], .int .i64 now] w fun r w' => ∃ a' m c', r = .returned (.tuple #[.slice a' m c', .int .i64 p, .bool true]) ∧ OwR 89 encM 4 w.heap.size w' a' m c' T ∧ Ext w w' := by
  have hlen := hs.len
  have cE := fun W h => spec_byInside x a n c L W h
  by_cases hb : 0 ≤ byEnd L x
  · obtain ⟨k, m, e1, e2, e3, e4⟩ := byEnd_some hb
    have hk : k < n := by have := (List.getElem?_eq_some_iff.1 e2).1; omega
    have hT : T = L.set k { nth L k with last := max (nth L k).last now } ∧ p = (nth L k).port := by
      unfold mapEnd at hm
      rw [if_pos hb, e1] at hm
      simp only [Int.toNat_natCast, Option.some.injEq, Prod.mk.injEq] at hm
      exact ⟨hm.1.symm, hm.2.symm⟩
    obtain ⟨rfl, rfl⟩ := hT
    rw [e1] at cE
    replace cE := Lib.hid cE
    have hmn := hs.max
    have hle := hs.le
    clear hm e1 e2 e3 e4 hb
    go_enter Try.func137, Try.ntmps137
    go_wp2_with (at_builtin; refine wpList_append_ow _ rfl _ _ rfl (by with_reducible exact eiM) encM_len encM_one (by omega) (w.heap.size + 1) (some ⟨w.heap.size + 1, 0, none⟩) 0 0 [] rfl (by exact OwR.empty _ _ (by simp) (by simp)) a n c L rfl (by exact hs.ext (by repeat (first | (with_reducible exact Ext.refl _) | (with_reducible assumption) | (with_reducible refine Ext.alloc ?_ _) | (with_reducible refine Ext.drewN ?_ _) | (with_reducible refine Ext.drew ?_) | (with_reducible refine Ext.setCell ?_ ?_ _; rotate_left; (simp only []; omega)) | (with_reducible refine Ext.trans ?_ (by assumption))))) (by omega) (by simp) ?_; intro a3 c3 w3 hO3 hX3 hg3; (replace hX3 := hX3 w (by repeat (first | (with_reducible exact Ext.refl _) | (with_reducible assumption) | (with_reducible refine Ext.alloc ?_ _) | (with_reducible refine Ext.drewN ?_ _) | (with_reducible refine Ext.drew ?_) | (with_reducible refine Ext.setCell ?_ ?_ _; rotate_left; (simp only []; omega)) | (with_reducible refine Ext.trans ?_ (by assumption)))) (by omega)); (have hB3 : Blk w3 w.heap.size 30 #[.int .i64 x.addr, .int .i64 x.port] := Blk.grown (by repeat (first | (with_reducible assumption) | (with_reducible exact Blk.new _ _ _) | exact Blk.newAt _ _ _ (by simp) | (with_reducible refine Blk.alloc ?_ _) | (with_reducible refine Blk.drew ?_) | (with_reducible refine Blk.drewN ?_ _) | refine Blk.far ?_ (by simp only []; omega) _ | refine Blk.rext ?_ (by assumption) (by omega) | refine Blk.ext ?_ (by assumption))) hg3 (by simp)); simp only [Nat.zero_add, List.nil_append] at hO3; obtain ⟨g3, rfl⟩ := hO3.form (by omega); have cB := hB3.cells; have fB := hB3.frozens; have zB := hB3.lt)
    refine (cE.out _ (by exact hs.ext hX3)).mono ?_
    rintro e w4 ⟨rfl, hx4⟩
    have X4 : Ext w w4 := hX3.trans hx4
    have hO4 := hO3.ext hx4
    obtain ⟨cur, BR⟩ := hO4.blk
    have fR := BR.frozens
    have zR := BR.lt
    obtain ⟨_, b, off, eab, hb, hc⟩ := (((hO4.ow encM_len (by omega)).sl encM_len).maps).resolve_left (by omega)
    injection eab with eab
    injection eab with eb eo
    subst eb; subst eo
    simp only [Nat.zero_add] at hc
    obtain ⟨d0, d1, d2, d3⟩ := hc k hk
    have lR := hO4.lt _ rfl
    simp only [] at lR
    have hfin := Lib.hid (hO4.setLast hk (max (nth L k).last now))
    have HX := Lib.hid X4
    clear hg3 hX3 hB3 cB fB zB hx4 hO3 hO4 BR hc X4
    go_wp2_with fail
    have hdrS : ∀ W : World, W.drew.heap.size = W.heap.size := fun _ => rfl
    refine wp_region_eager (R := Ext) [0, 1, 2, 3, 4, 5, 6, 7, 8] (by kernel_rfl) (by kernel_rfl) Ext.refl (fun _ _ _ => Ext.trans) ?_
    repeat' (first
      | (refine ChX.skip (by rfl) (by rfl) ?_
         (try simp only [Act.put, List.setIfInBounds_toArray, List.set_cons_zero, List.set_cons_succ]))
      | (refine' ChX.quiet (v := _) (by rfl) (by rfl) (by rfl) ?_ ?_
         rotate_left
         · (intro wS hS
            have hcS := Ext.cells hS
            go_simp
            with_reducible rfl)
         (try simp only [Act.put, List.setIfInBounds_toArray, List.set_cons_zero, List.set_cons_succ]))
      | (refine ChX.nil ?_)
      | (refine' ChX.guard (x := _) (by rfl) ?_ ?_ ?_
         rotate_left
         · (go_simp
            rfl)
         all_goals
           intro hg
           simp only [hg])
      | (refine' ChX.guardN (x := _) (by rfl) ?_ ?_ ?_
         rotate_left
         · (go_simp
            rfl)
         all_goals
           intro hg
           simp only [hg]))
    go_wp2
    refine' bodyPost_ret (v := _) ?_ rfl ?_
    rotate_left
    · (simp only [results, Try.results137]
       go_simp
       rfl)
    exact ⟨some ⟨g3, 0, none⟩, n, c3, rfl, (hfin.out.ext ((Ext.refl _).drew)).rebase (by omega), ((HX.out).setCell (show w.heap.size ≤ g3 by omega) _).drew⟩
  · have hb2 := byEnd_neg hb
    have hq : ¬ freePort L x.port < 0 ∧ T = L ++ [⟨x, freePort L x.port, now⟩] ∧ p = freePort L x.port := by
      unfold mapEnd at hm
      rw [if_neg hb] at hm
      by_cases hf : freePort L x.port < 0
      · rw [if_pos hf] at hm; cases hm
      · rw [if_neg hf] at hm
        simp only [Option.some.injEq, Prod.mk.injEq] at hm
        exact ⟨hf, hm.1.symm, hm.2.symm⟩
    have cF := fun W h => spec_freePort a n c L x.port W h h0 h1
    rw [hb2.1] at cE
    obtain ⟨hq1, rfl, rfl⟩ := hq
    clear hm hb hb2
    generalize freePort L x.port = q at *
    replace cE := Lib.hid cE
    replace cF := Lib.hid cF
    have hmn := hs.max
    have hle := hs.le
    go_enter Try.func137, Try.ntmps137
    go_wp2_with (at_builtin; refine wpList_append_ow _ rfl _ _ rfl (by with_reducible exact eiM) encM_len encM_one (by omega) (w.heap.size + 1) (some ⟨w.heap.size + 1, 0, none⟩) 0 0 [] rfl (by exact OwR.empty _ _ (by simp) (by simp)) a n c L rfl (by exact hs.ext (by repeat (first | (with_reducible exact Ext.refl _) | (with_reducible assumption) | (with_reducible refine Ext.alloc ?_ _) | (with_reducible refine Ext.drewN ?_ _) | (with_reducible refine Ext.drew ?_) | (with_reducible refine Ext.setCell ?_ ?_ _; rotate_left; (simp only []; omega)) | (with_reducible refine Ext.trans ?_ (by assumption))))) (by omega) (by simp) ?_; intro a3 c3 w3 hO3 hX3 hg3; (replace hX3 := hX3 w (by repeat (first | (with_reducible exact Ext.refl _) | (with_reducible assumption) | (with_reducible refine Ext.alloc ?_ _) | (with_reducible refine Ext.drewN ?_ _) | (with_reducible refine Ext.drew ?_) | (with_reducible refine Ext.setCell ?_ ?_ _; rotate_left; (simp only []; omega)) | (with_reducible refine Ext.trans ?_ (by assumption)))) (by omega)); (have hB3 : Blk w3 w.heap.size 30 #[.int .i64 x.addr, .int .i64 x.port] := Blk.grown (by repeat (first | (with_reducible assumption) | (with_reducible exact Blk.new _ _ _) | exact Blk.newAt _ _ _ (by simp) | (with_reducible refine Blk.alloc ?_ _) | (with_reducible refine Blk.drew ?_) | (with_reducible refine Blk.drewN ?_ _) | refine Blk.far ?_ (by simp only []; omega) _ | refine Blk.rext ?_ (by assumption) (by omega) | refine Blk.ext ?_ (by assumption))) hg3 (by simp)); simp only [Nat.zero_add, List.nil_append] at hO3; have cB := hB3.cells; have fB := hB3.frozens; have zB := hB3.lt)
    refine (cE.out _ (by exact hs.ext hX3)).mono ?_
    rintro e w4 ⟨rfl, hx4⟩
    have X4 : Ext w w4 := hX3.trans hx4
    have hO4 := hO3.ext hx4
    have hB4 := hB3.ext hx4
    clear hg3 hX3 hB3 cB fB zB hx4 hO3
    have cB := hB4.cells
    have fB := hB4.frozens
    have zB := hB4.lt
    go_wp2_with (first | (go_at_call 166; refine (cF.out _ (by exact hs.ext (show Ext w _ from (by repeat (first | (with_reducible exact Ext.refl _) | (with_reducible assumption) | (with_reducible refine Ext.alloc ?_ _) | (with_reducible refine Ext.drewN ?_ _) | (with_reducible refine Ext.drew ?_) | (with_reducible refine Ext.setCell ?_ ?_ _; rotate_left; (simp only []; omega)) | (with_reducible refine Ext.trans ?_ (by assumption))))))).mono ?_; rintro e w' ⟨rfl, rfl⟩) | (at_builtin; refine wpList_append_ow _ rfl _ _ rfl (by with_reducible exact eiM) encM_len encM_one (by omega) (w.heap.size + 1) a3 n c3 L rfl (by exact hO4.ext (show Ext w4 _ from (by repeat (first | (with_reducible exact Ext.refl _) | (with_reducible assumption) | (with_reducible refine Ext.alloc ?_ _) | (with_reducible refine Ext.drewN ?_ _) | (with_reducible refine Ext.drew ?_) | (with_reducible refine Ext.setCell ?_ ?_ _; rotate_left; (simp only []; omega)) | (with_reducible refine Ext.trans ?_ (by assumption)))))) _ 1 1 [(⟨x, q, now⟩ : MapD)] rfl (by first | exact Sl.lit1 _ _ (⟨x, q, now⟩ : MapD) _ rfl rfl | (refine Sl.ext ?_ ((Ext.refl _).drew); exact Sl.lit1 _ _ (⟨x, q, now⟩ : MapD) _ rfl rfl)) (by omega) (by (try simp); omega) ?_; intro a5 c5 w5 hO5 hX5 hg5; (replace hX5 := hX5 w (by repeat (first | (with_reducible exact Ext.refl _) | (with_reducible assumption) | (with_reducible refine Ext.alloc ?_ _) | (with_reducible refine Ext.drewN ?_ _) | (with_reducible refine Ext.drew ?_) | (with_reducible refine Ext.setCell ?_ ?_ _; rotate_left; (simp only []; omega)) | (with_reducible refine Ext.trans ?_ (by assumption)))) (by omega))))
    refine' bodyPost_ret (v := _) ?_ rfl ?_
    rotate_left
    · (simp only [results, Try.results137]
       go_simp
       rfl)
    exact ⟨a5, n + 1, c5, rfl, hO5.rebase (by omega), hX5⟩
theorem spec_mapEnd_none (a : Option Addr) (n c : Nat) (L : List MapD) (x : EndD) (now : Int) (w : World) (hs : Sl encM 4 w a n c L) (hn : n ≤ 1000) (h0 : 0 ≤ x.port) (h1 : x.port ≤ 65535) (hm : mapEnd L x now = none) :
    Calls Try.prog 137 #[.slice a n c, .agg #[.int .i64 x.addr, .int .i64 x.port], .int .i64 now] w fun r w' => r = .returned (.tuple #[.slice none 0 0, .int .i64 (-1), .bool false]) ∧ Ext w w' := by
  have cE := fun W h => spec_byInside x a n c L W h
  have hb : ¬ 0 ≤ byEnd L x := by
    intro hb
    unfold mapEnd at hm
    rw [if_pos hb] at hm
    cases hm
  have hb2 := byEnd_neg hb
  have hq1 : freePort L x.port < 0 := by
    unfold mapEnd at hm
    rw [if_neg hb] at hm
    by_cases hf : freePort L x.port < 0
    · exact hf
    · rw [if_neg hf] at hm; cases hm
  have cF := fun W h => spec_freePort a n c L x.port W h h0 h1
  rw [hb2.1] at cE
  clear hm hb hb2
  generalize freePort L x.port = q at *
  replace cE := Lib.hid cE
  replace cF := Lib.hid cF
  have hmn := hs.max
  have hle := hs.le
  go_enter Try.func137, Try.ntmps137
  go_wp2_with (at_builtin; refine wpList_append_ow _ rfl _ _ rfl (by with_reducible exact eiM) encM_len encM_one (by omega) (w.heap.size + 1) (some ⟨w.heap.size + 1, 0, none⟩) 0 0 [] rfl (by exact OwR.empty _ _ (by simp) (by simp)) a n c L rfl (by exact hs.ext (by repeat (first | (with_reducible exact Ext.refl _) | (with_reducible assumption) | (with_reducible refine Ext.alloc ?_ _) | (with_reducible refine Ext.drewN ?_ _) | (with_reducible refine Ext.drew ?_) | (with_reducible refine Ext.setCell ?_ ?_ _; rotate_left; (simp only []; omega)) | (with_reducible refine Ext.trans ?_ (by assumption))))) (by omega) (by simp) ?_; intro a3 c3 w3 hO3 hX3 hg3; (replace hX3 := hX3 w (by repeat (first | (with_reducible exact Ext.refl _) | (with_reducible assumption) | (with_reducible refine Ext.alloc ?_ _) | (with_reducible refine Ext.drewN ?_ _) | (with_reducible refine Ext.drew ?_) | (with_reducible refine Ext.setCell ?_ ?_ _; rotate_left; (simp only []; omega)) | (with_reducible refine Ext.trans ?_ (by assumption)))) (by omega)); (have hB3 : Blk w3 w.heap.size 30 #[.int .i64 x.addr, .int .i64 x.port] := Blk.grown (by repeat (first | (with_reducible assumption) | (with_reducible exact Blk.new _ _ _) | exact Blk.newAt _ _ _ (by simp) | (with_reducible refine Blk.alloc ?_ _) | (with_reducible refine Blk.drew ?_) | (with_reducible refine Blk.drewN ?_ _) | refine Blk.far ?_ (by simp only []; omega) _ | refine Blk.rext ?_ (by assumption) (by omega) | refine Blk.ext ?_ (by assumption))) hg3 (by simp)); simp only [Nat.zero_add, List.nil_append] at hO3; have cB := hB3.cells; have fB := hB3.frozens; have zB := hB3.lt)
  refine (cE.out _ (by exact hs.ext hX3)).mono ?_
  rintro e w4 ⟨rfl, hx4⟩
  have X4 : Ext w w4 := hX3.trans hx4
  have hB4 := hB3.ext hx4
  clear hg3 hX3 hB3 cB fB zB hx4 hO3
  have cB := hB4.cells
  have fB := hB4.frozens
  have zB := hB4.lt
  go_wp2_with (go_at_call 166; refine (cF.out _ (by exact hs.ext (show Ext w _ from (by repeat (first | (with_reducible exact Ext.refl _) | (with_reducible assumption) | (with_reducible refine Ext.alloc ?_ _) | (with_reducible refine Ext.drewN ?_ _) | (with_reducible refine Ext.drew ?_) | (with_reducible refine Ext.setCell ?_ ?_ _; rotate_left; (simp only []; omega)) | (with_reducible refine Ext.trans ?_ (by assumption))))))).mono ?_; rintro e w' ⟨rfl, rfl⟩)
  refine' bodyPost_ret (v := _) ?_ rfl ?_
  rotate_left
  · (simp only [results, Try.results137]
     go_simp
     rfl)
  exact ⟨rfl, (by repeat (first | (with_reducible exact Ext.refl _) | (with_reducible assumption) | (with_reducible refine Ext.alloc ?_ _) | (with_reducible refine Ext.drewN ?_ _) | (with_reducible refine Ext.drew ?_) | (with_reducible refine Ext.setCell ?_ ?_ _; rotate_left; (simp only []; omega)) | (with_reducible refine Ext.trans ?_ (by assumption))))⟩
end Go.Proofs.Ytppdcglnopoocaa
/- The second package's SendOut. -/
namespace Go.Proofs.Ytppdcglnopoocaa
set_option linter.unusedVariables false
set_option linter.unusedSimpArgs false
open Go.RowKit

/-- Blocks b1 and b2 may have turned, new ones may lie behind; all else is as it was. -/
def Two (b1 b2 : Nat) (x y : World) : Prop := y.os = x.os ∧ y.tape = x.tape ∧ y.output = x.output ∧ x.heap.size ≤ y.heap.size ∧ ∀ i, i < x.heap.size → i ≠ b1 → i ≠ b2 → y.heap[i]? = x.heap[i]?
theorem Two.refl (b1 b2 : Nat) (x : World) : Two b1 b2 x x := ⟨rfl, rfl, rfl, Nat.le_refl _, fun _ _ _ _ => rfl⟩
theorem Two.set1 {b1 b2 : Nat} {x y : World} (h : Two b1 b2 x y) (o : Nat) (u : Value) : Two b1 b2 x (y.setCell ⟨b1, o, none⟩ u) :=
  ⟨h.1, h.2.1, h.2.2.1, by simpa [World.setCell] using h.2.2.2.1, fun i hi h1 h2 => (Below.heap_setCell y ⟨b1, o, none⟩ u i h1).trans (h.2.2.2.2 i hi h1 h2)⟩
theorem Two.set2 {b1 b2 : Nat} {x y : World} (h : Two b1 b2 x y) (o : Nat) (u : Value) : Two b1 b2 x (y.setCell ⟨b2, o, none⟩ u) :=
  ⟨h.1, h.2.1, h.2.2.1, by simpa [World.setCell] using h.2.2.2.1, fun i hi h1 h2 => (Below.heap_setCell y ⟨b2, o, none⟩ u i h2).trans (h.2.2.2.2 i hi h1 h2)⟩
theorem Two.alloc {b1 b2 : Nat} {x y : World} (h : Two b1 b2 x y) (o : Obj) : Two b1 b2 x (y.alloc o) :=
  ⟨h.1, h.2.1, h.2.2.1, by have := h.2.2.2.1; simp; omega, fun i hi h1 h2 => (Below.heap_alloc y o i (by have := h.2.2.2.1; omega)).trans (h.2.2.2.2 i hi h1 h2)⟩
theorem Two.drew {b1 b2 : Nat} {x y : World} (h : Two b1 b2 x y) : Two b1 b2 x y.drew := h
theorem Two.ow {α : Type} {E : TypeId} {enc : α → List Value} {k base : Nat} {b1 b2 : Nat} {x y : World} {a : Option Addr} {n c : Nat} {L : List α} (h : Two b1 b2 x y) (o : Ow E enc k base x a n c L) (h1 : ∀ z, a = some z → z.block ≠ b1) (h2 : ∀ z, a = some z → z.block ≠ b2) : Ow E enc k base y a n c L :=
  o.keep fun z e hb => h.2.2.2.2 z.block hb (h1 z e) (h2 z e)
theorem Two.ext {b1 b2 : Nat} {u x y : World} (h : Two b1 b2 x y) (k : Ext u x) (h1 : u.heap.size ≤ b1) (h2 : u.heap.size ≤ b2) : Ext u y :=
  ⟨h.1.trans (World.grownBy.os k), h.2.1.trans (World.grownBy.tape k), h.2.2.1.trans (World.grownBy.output k), Nat.le_trans k.size h.2.2.2.1, fun i hi _ => (h.2.2.2.2 i (Nat.lt_of_lt_of_le hi k.size) (by omega) (by omega)).trans (k.block i hi)⟩
set_option maxHeartbeats 4000000 in
theorem spec_send_some (g : GateD) (p : PktD) (ta : Option Addr) (tn tc : Nat) (ka : Option Addr) (kn kc : Nat) (a : Option Addr) (n c : Nat) (w : World) (ht : Sl encM 4 w ta tn tc g.table) (hk : Sl encC 3 w ka kn kc g.cons) (hs : Sl encI 1 w a n c p.data)
    (htn : tn ≤ 8) (hkn : kn ≤ 10) (hn : n ≤ 12) (h0 : 0 ≤ p.fr.port) (h1 : p.fr.port ≤ 65535) (T : List MapD) (port : Int) (hm : mapEnd g.table p.fr g.now = some (T, port)) :
    Calls Try.prog 80 #[.agg #[.int .i64 g.net.base, .int .i64 g.net.bits, .int .i64 g.out, .slice ta tn tc, .slice ka kn kc, .int .i64 g.filter, .int .i64 g.hold, .int .i64 g.now], .agg #[.int .i64 p.kind, .int .i64 p.fr.addr, .int .i64 p.fr.port, .int .i64 p.to_.addr, .int .i64 p.to_.port, .slice a n c]] w fun e w' => ∃ A C sa sn sc qa qn qc, e = .returned (.tuple #[.agg #[.int .i64 p.kind, .int .i64 g.out, .int .i64 port, .int .i64 p.to_.addr, .int .i64 p.to_.port, .slice A n C],
      .agg #[.int .i64 g.net.base, .int .i64 g.net.bits, .int .i64 g.out, .slice sa sn sc, .slice qa qn qc, .int .i64 g.filter, .int .i64 g.hold, .int .i64 g.now], .bool true]) ∧
      Ow 3 encI 1 w.heap.size w' A n C p.data ∧ Ow 89 encM 4 w.heap.size w' sa sn sc T ∧ Ow 47 encC 3 w.heap.size w' qa qn qc (note g.cons ⟨port, p.to_⟩) ∧ Ext w w' := by
  have T0 := ht
  have K0 := hk
  have S0 := hs
  have S0l := Lib.hid (fun (h : 0 < n) => hs.lt h)
  have hm := Lib.hid hm
  have XU := Ext.refl w
  clear ht hk hs
  go_enter Try.func80, Try.ntmps80
  go_wp2_with fail
  refine (spec_mapEnd_some ta tn tc g.table p.fr g.now _ (by exact T0.ext (by repeat (first | (with_reducible exact Ext.refl _) | (with_reducible assumption) | (with_reducible refine Ext.alloc ?_ _) | (with_reducible refine Ext.drewN ?_ _) | (with_reducible refine Ext.drew ?_) | (with_reducible refine Ext.setCell ?_ ?_ _; rotate_left; (simp only []; omega)) | (with_reducible refine Ext.trans ?_ (by assumption))))) (by omega) h0 h1 T port hm.out).mono ?_
  rintro e w1 ⟨a1, m1, c1, rfl, O1, hx1⟩
  have hy1 := hx1.size
  (try simp at hy1)
  have eW1 := useE (fun (h : Ext _ w1) => T0.ext h) (by repeat (first | (with_reducible exact Ext.refl _) | (with_reducible assumption) | (with_reducible refine Ext.alloc ?_ _) | (with_reducible refine Ext.drewN ?_ _) | (with_reducible refine Ext.drew ?_) | (with_reducible refine Ext.setCell ?_ ?_ _; rotate_left; (simp only []; omega)) | (with_reducible refine Ext.trans ?_ (by assumption))))
  replace T0 := T0.ext eW1
  replace K0 := K0.ext eW1
  replace S0 := S0.ext eW1
  have BG : Blk w1 w.heap.size 28 (#[.int .i64 g.net.base, .int .i64 g.net.bits, .int .i64 g.out, .slice ta tn tc, .slice ka kn kc, .int .i64 g.filter, .int .i64 g.hold, .int .i64 g.now]) := by refine Blk.ext ?_ hx1; exact (by repeat (first | (with_reducible assumption) | (with_reducible exact Blk.new _ _ _) | exact Blk.newAt _ _ _ (by simp) | (with_reducible refine Blk.alloc ?_ _) | (with_reducible refine Blk.drew ?_) | (with_reducible refine Blk.drewN ?_ _) | refine Blk.far ?_ (by simp only []; omega) _ | refine Blk.rext ?_ (by assumption) (by omega) | refine Blk.ext ?_ (by assumption)))
  have BP : Blk w1 (w.heap.size+1) 33 (#[.int .i64 p.kind, .int .i64 p.fr.addr, .int .i64 p.fr.port, .int .i64 p.to_.addr, .int .i64 p.to_.port, .slice a n c]) := by refine Blk.ext ?_ hx1; exact (by repeat (first | (with_reducible assumption) | (with_reducible exact Blk.new _ _ _) | exact Blk.newAt _ _ _ (by simp) | (with_reducible refine Blk.alloc ?_ _) | (with_reducible refine Blk.drew ?_) | (with_reducible refine Blk.drewN ?_ _) | refine Blk.far ?_ (by simp only []; omega) _ | refine Blk.rext ?_ (by assumption) (by omega) | refine Blk.ext ?_ (by assumption)))
  have BQ : Blk w1 (w.heap.size+2) 33 #[.int .i64 0, .int .i64 0, .int .i64 0, .int .i64 0, .int .i64 0, .slice none 0 0] := by refine Blk.ext ?_ hx1; exact (by repeat (first | (with_reducible assumption) | (with_reducible exact Blk.new _ _ _) | exact Blk.newAt _ _ _ (by simp) | (with_reducible refine Blk.alloc ?_ _) | (with_reducible refine Blk.drew ?_) | (with_reducible refine Blk.drewN ?_ _) | refine Blk.far ?_ (by simp only []; omega) _ | refine Blk.rext ?_ (by assumption) (by omega) | refine Blk.ext ?_ (by assumption)))
  have BR : Blk w1 (w.heap.size+3) 28 #[.int .i64 0, .int .i64 0, .int .i64 0, .slice none 0 0, .slice none 0 0, .int .i64 0, .int .i64 0, .int .i64 0] := by refine Blk.ext ?_ hx1; exact (by repeat (first | (with_reducible assumption) | (with_reducible exact Blk.new _ _ _) | exact Blk.newAt _ _ _ (by simp) | (with_reducible refine Blk.alloc ?_ _) | (with_reducible refine Blk.drew ?_) | (with_reducible refine Blk.drewN ?_ _) | refine Blk.far ?_ (by simp only []; omega) _ | refine Blk.rext ?_ (by assumption) (by omega) | refine Blk.ext ?_ (by assumption)))
  replace XU := XU.ext eW1
  have cBG := BG.cells
  have fBG := BG.frozens
  have zBG := BG.lt
  have cBP := BP.cells
  have fBP := BP.frozens
  have zBP := BP.lt
  have cBQ := BQ.cells
  have fBQ := BQ.frozens
  have zBQ := BQ.lt
  have cBR := BR.cells
  have fBR := BR.frozens
  have zBR := BR.lt
  have l1 := Lib.hid (show ∀ x, a1 = some x → w.heap.size + 4 ≤ x.block ∧ x.block < w1.heap.size from fun x e => by have h := O1.lt x e; simp at h; omega)
  go_wp2_with fail
  refine (spec_copyGate g ta tn tc ka kn kc _ (by exact T0.ext (by repeat (first | (with_reducible exact Ext.refl _) | (with_reducible assumption) | (with_reducible refine Ext.alloc ?_ _) | (with_reducible refine Ext.drewN ?_ _) | (with_reducible refine Ext.drew ?_) | (with_reducible refine Ext.setCell ?_ ?_ _; rotate_left; (simp only []; omega)) | (with_reducible refine Ext.trans ?_ (by assumption))))) (by exact K0.ext (by repeat (first | (with_reducible exact Ext.refl _) | (with_reducible assumption) | (with_reducible refine Ext.alloc ?_ _) | (with_reducible refine Ext.drewN ?_ _) | (with_reducible refine Ext.drew ?_) | (with_reducible refine Ext.setCell ?_ ?_ _; rotate_left; (simp only []; omega)) | (with_reducible refine Ext.trans ?_ (by assumption))))) (by omega) (by omega)).mono ?_
  rintro e w2 ⟨sa, sc, qa, qc, rfl, O2, O3, hx2⟩
  have hy2 := hx2.size
  (try simp at hy2)
  have eW2 := useE (fun (h : Ext _ w2) => T0.ext h) (by repeat (first | (with_reducible exact Ext.refl _) | (with_reducible assumption) | (with_reducible refine Ext.alloc ?_ _) | (with_reducible refine Ext.drewN ?_ _) | (with_reducible refine Ext.drew ?_) | (with_reducible refine Ext.setCell ?_ ?_ _; rotate_left; (simp only []; omega)) | (with_reducible refine Ext.trans ?_ (by assumption))))
  replace T0 := T0.ext eW2
  replace K0 := K0.ext eW2
  replace S0 := S0.ext eW2
  clear cBG fBG zBG
  replace BG := BG.ext eW2
  clear cBP fBP zBP
  replace BP := BP.ext eW2
  clear cBQ fBQ zBQ
  replace BQ := BQ.ext eW2
  clear cBR fBR zBR
  replace BR := BR.ext eW2
  replace O1 := O1.ext eW2
  replace XU := XU.ext eW2
  have cBG := BG.cells
  have fBG := BG.frozens
  have zBG := BG.lt
  have cBP := BP.cells
  have fBP := BP.frozens
  have zBP := BP.lt
  have cBQ := BQ.cells
  have fBQ := BQ.frozens
  have zBQ := BQ.lt
  have cBR := BR.cells
  have fBR := BR.frozens
  have zBR := BR.lt
  clear O2 O3
  go_wp2_with fail
  refine (spec_note ka kn kc g.cons ⟨port, p.to_⟩ _ (by exact K0.ext (by repeat (first | (with_reducible exact Ext.refl _) | (with_reducible assumption) | (with_reducible refine Ext.alloc ?_ _) | (with_reducible refine Ext.drewN ?_ _) | (with_reducible refine Ext.drew ?_) | (with_reducible refine Ext.setCell ?_ ?_ _; rotate_left; (simp only []; omega)) | (with_reducible refine Ext.trans ?_ (by assumption))))) (by omega)).mono ?_
  rintro e w3 ⟨a3, m3, c3, rfl, O4, hm3, hx3⟩
  have hy3 := hx3.size
  (try simp at hy3)
  have eW3 := useE (fun (h : Ext _ w3) => T0.ext h) (by repeat (first | (with_reducible exact Ext.refl _) | (with_reducible assumption) | (with_reducible refine Ext.alloc ?_ _) | (with_reducible refine Ext.drewN ?_ _) | (with_reducible refine Ext.drew ?_) | (with_reducible refine Ext.setCell ?_ ?_ _; rotate_left; (simp only []; omega)) | (with_reducible refine Ext.trans ?_ (by assumption))))
  replace T0 := T0.ext eW3
  replace K0 := K0.ext eW3
  replace S0 := S0.ext eW3
  clear cBG fBG zBG
  replace BG := BG.ext eW3
  clear cBP fBP zBP
  replace BP := BP.ext eW3
  clear cBQ fBQ zBQ
  replace BQ := BQ.ext eW3
  clear cBR fBR zBR
  replace BR := BR.ext eW3
  replace O1 := O1.ext eW3
  have BX : Blk w3 w2.heap.size 28 (#[.int .i64 g.net.base, .int .i64 g.net.bits, .int .i64 g.out, .slice a1 m1 c1, .slice qa kn qc, .int .i64 g.filter, .int .i64 g.hold, .int .i64 g.now]) := by refine Blk.ext ?_ hx3; exact (by repeat (first | (with_reducible assumption) | (with_reducible exact Blk.new _ _ _) | exact Blk.newAt _ _ _ (by simp) | (with_reducible refine Blk.alloc ?_ _) | (with_reducible refine Blk.drew ?_) | (with_reducible refine Blk.drewN ?_ _) | refine Blk.far ?_ (by simp only []; omega) _ | refine Blk.rext ?_ (by assumption) (by omega) | refine Blk.ext ?_ (by assumption)))
  replace XU := XU.ext eW3
  have cBG := BG.cells
  have fBG := BG.frozens
  have zBG := BG.lt
  have cBP := BP.cells
  have fBP := BP.frozens
  have zBP := BP.lt
  have cBQ := BQ.cells
  have fBQ := BQ.frozens
  have zBQ := BQ.lt
  have cBR := BR.cells
  have fBR := BR.frozens
  have zBR := BR.lt
  have cBX := BX.cells
  have fBX := BX.frozens
  have zBX := BX.lt
  have l4 := Lib.hid (show ∀ x, a3 = some x → w2.heap.size < x.block ∧ x.block < w3.heap.size from fun x e => by have h := O4.lt x e; simp at h; omega)
  go_wp2_with fail
  refine (spec_copyPacket p.kind p.fr.addr p.fr.port p.to_.addr p.to_.port a n c p.data _ (by exact S0.setFar (fun hn x e => by have := S0l.out hn x e; simp only []; omega) _) (by omega)).mono ?_
  rintro e w4 ⟨a4, c4, rfl, O5, hx4⟩
  have l5 := Lib.hid (show ∀ x, a4 = some x → w.heap.size + 4 ≤ x.block ∧ x.block < w4.heap.size from fun x e => by have h := O5.lt x e; simp at h; omega)
  have hy4 := hx4.size
  (try simp at hy4)
  clear cBG fBG cBP fBP cBQ fBQ cBR fBR cBX fBX
  replace BX := (show Blk (w3.setCell ⟨w2.heap.size, 4, none⟩ (.slice a3 m3 c3)) w2.heap.size 28 (#[.int .i64 g.net.base, .int .i64 g.net.bits, .int .i64 g.out, .slice a1 m1 c1, .slice a3 m3 c3, .int .i64 g.filter, .int .i64 g.hold, .int .i64 g.now]) from BX.set 4 _).ext hx4
  replace BG := (BG.far (by simp only []; omega) _).ext hx4
  replace BQ := (BQ.far (by simp only []; omega) _).ext hx4
  replace BR := (BR.far (by simp only []; omega) _).ext hx4
  replace O1 := (O1.setC (fun x e => by have := l1.out x e; simp only []; omega) _).ext hx4
  replace O4 := (O4.setC (fun x e => by have := l4.out x e; simp only []; omega) _).ext hx4
  have X4 : Ext w w4 := by refine Ext.trans ?_ hx4; exact XU.setCell (by simp only []; omega) _
  clear hx4 XU BP zBP T0 K0 S0 hx1 hx2 hx3 zBG zBQ zBR zBX
  have cBG := BG.cells
  have fBG := BG.frozens
  have zBG := BG.lt
  have cBX := BX.cells
  have fBX := BX.frozens
  have zBX := BX.lt
  have cBQ := BQ.cells
  have fBQ := BQ.frozens
  have zBQ := BQ.lt
  have cBR := BR.cells
  have fBR := BR.frozens
  have zBR := BR.lt
  have X5 : Ow 3 encI 1 (w.heap.size + 4) w4 a4 n c4 p.data := O5.rebase (by (try simp); (try omega))
  have X1 : Ow 89 encM 4 (w.heap.size + 4) w4 a1 m1 c1 T := (O1.ow encM_len (by omega)).rebase (by (try simp); (try omega))
  have X3 : Ow 47 encC 3 (w.heap.size + 4) w4 a3 m3 c3 (note g.cons ⟨port, p.to_⟩) := (O4.ow encC_len (by omega)).rebase (by (try simp); (try omega))
  clear O1 O4 O5
  have e2 : w.heap.size ≤ w.heap.size + 1 + 1 := by omega
  have e3 : w.heap.size ≤ w.heap.size + 1 + 1 + 1 := by omega
  have n52 : ∀ x, a4 = some x → x.block ≠ w.heap.size + 1 + 1 := fun x e => by have := l5.out x e; omega
  have n53 : ∀ x, a4 = some x → x.block ≠ w.heap.size + 1 + 1 + 1 := fun x e => by have := l5.out x e; omega
  have n12 : ∀ x, a1 = some x → x.block ≠ w.heap.size + 1 + 1 := fun x e => by have := l1.out x e; omega
  have n13 : ∀ x, a1 = some x → x.block ≠ w.heap.size + 1 + 1 + 1 := fun x e => by have := l1.out x e; omega
  have n42 : ∀ x, a3 = some x → x.block ≠ w.heap.size + 1 + 1 := fun x e => by have := l4.out x e; omega
  have n43 : ∀ x, a3 = some x → x.block ≠ w.heap.size + 1 + 1 + 1 := fun x e => by have := l4.out x e; omega
  have Y5 := Lib.hid (X5.rebase (b' := w.heap.size) (by omega))
  have Y1 := Lib.hid (X1.rebase (b' := w.heap.size) (by omega))
  have Y3 := Lib.hid (X3.rebase (b' := w.heap.size) (by omega))
  go_wp2_with fail
  go_region_with fail
  all_goals
    go_wp2
    refine' bodyPost_ret (v := _) ?_ rfl ?_
    rotate_left
    · (simp only [results, Try.results80]
       go_simp
       rfl)
    refine ⟨a4, c4, a1, m1, c1, a3, m3, c3, rfl, ?_⟩
    refine (fun (h : Two (w.heap.size + 1 + 1) (w.heap.size + 1 + 1 + 1) w4 _) => ⟨h.ow Y5.out n52 n53, h.ow Y1.out n12 n13, h.ow Y3.out n42 n43, h.ext X4 e2 e3⟩) ?_
    clear n52 n53 n12 n13 n42 n43 e2 e3 cBG fBG cBX fBX cBQ fBQ cBR fBR
    generalize w.heap.size + 1 + 1 + 1 = b2
    generalize w.heap.size + 1 + 1 = b1
    repeat (first | (with_reducible exact Two.refl _ _ _) | (with_reducible refine Two.drew ?_) | (with_reducible refine Two.alloc ?_ _) | (with_reducible refine Two.set1 ?_ _ _) | (with_reducible refine Two.set2 ?_ _ _))
end Go.Proofs.Ytppdcglnopoocaa
/- The second package's SendOut: where no end can be mapped. -/
namespace Go.Proofs.Ytppdcglnopoocaa
set_option linter.unusedVariables false
set_option linter.unusedSimpArgs false
open Go.RowKit

set_option maxHeartbeats 1000000 in
theorem spec_send_none (g : GateD) (p : PktD) (ta : Option Addr) (tn tc : Nat) (ka : Option Addr) (kn kc : Nat) (a : Option Addr) (n c : Nat) (w : World) (ht : Sl encM 4 w ta tn tc g.table)
    (htn : tn ≤ 8) (h0 : 0 ≤ p.fr.port) (h1 : p.fr.port ≤ 65535) (hm : mapEnd g.table p.fr g.now = none) :
    Calls Try.prog 80 #[.agg #[.int .i64 g.net.base, .int .i64 g.net.bits, .int .i64 g.out, .slice ta tn tc, .slice ka kn kc, .int .i64 g.filter, .int .i64 g.hold, .int .i64 g.now], .agg #[.int .i64 p.kind, .int .i64 p.fr.addr, .int .i64 p.fr.port, .int .i64 p.to_.addr, .int .i64 p.to_.port, .slice a n c]] w fun e w' => e = .returned (.tuple #[.agg #[.int .i64 0, .int .i64 0, .int .i64 0, .int .i64 0, .int .i64 0, .slice none 0 0], .agg #[.int .i64 0, .int .i64 0, .int .i64 0, .slice none 0 0, .slice none 0 0, .int .i64 0, .int .i64 0, .int .i64 0], .bool false]) ∧ Ext w w' := by
  have hm := Lib.hid hm
  have e2 : w.heap.size ≤ w.heap.size + 1 + 1 := by omega
  have e3 : w.heap.size ≤ w.heap.size + 1 + 1 + 1 := by omega
  go_enter Try.func80, Try.ntmps80
  go_wp2_with fail
  refine (spec_mapEnd_none ta tn tc g.table p.fr g.now _ (by exact ht.ext (by repeat (first | (with_reducible exact Ext.refl _) | (with_reducible assumption) | (with_reducible refine Ext.alloc ?_ _) | (with_reducible refine Ext.drewN ?_ _) | (with_reducible refine Ext.drew ?_) | (with_reducible refine Ext.setCell ?_ ?_ _; rotate_left; (simp only []; omega)) | (with_reducible refine Ext.trans ?_ (by assumption))))) (by omega) h0 h1 hm.out).mono ?_
  rintro e w1 ⟨rfl, hx1⟩
  have hy1 := hx1.size
  (try simp at hy1)
  have eW1 := useE (fun (h : Ext _ w1) => ht.ext h) (by repeat (first | (with_reducible exact Ext.refl _) | (with_reducible assumption) | (with_reducible refine Ext.alloc ?_ _) | (with_reducible refine Ext.drewN ?_ _) | (with_reducible refine Ext.drew ?_) | (with_reducible refine Ext.setCell ?_ ?_ _; rotate_left; (simp only []; omega)) | (with_reducible refine Ext.trans ?_ (by assumption))))
  replace ht := ht.ext eW1
  have BQ : Blk w1 (w.heap.size+2) 33 #[.int .i64 0, .int .i64 0, .int .i64 0, .int .i64 0, .int .i64 0, .slice none 0 0] := by refine Blk.ext ?_ hx1; exact (by repeat (first | (with_reducible assumption) | (with_reducible exact Blk.new _ _ _) | exact Blk.newAt _ _ _ (by simp) | (with_reducible refine Blk.alloc ?_ _) | (with_reducible refine Blk.drew ?_) | (with_reducible refine Blk.drewN ?_ _) | refine Blk.far ?_ (by simp only []; omega) _ | refine Blk.rext ?_ (by assumption) (by omega) | refine Blk.ext ?_ (by assumption)))
  have BR : Blk w1 (w.heap.size+3) 28 #[.int .i64 0, .int .i64 0, .int .i64 0, .slice none 0 0, .slice none 0 0, .int .i64 0, .int .i64 0, .int .i64 0] := by refine Blk.ext ?_ hx1; exact (by repeat (first | (with_reducible assumption) | (with_reducible exact Blk.new _ _ _) | exact Blk.newAt _ _ _ (by simp) | (with_reducible refine Blk.alloc ?_ _) | (with_reducible refine Blk.drew ?_) | (with_reducible refine Blk.drewN ?_ _) | refine Blk.far ?_ (by simp only []; omega) _ | refine Blk.rext ?_ (by assumption) (by omega) | refine Blk.ext ?_ (by assumption)))
  have cBQ := BQ.cells
  have fBQ := BQ.frozens
  have zBQ := BQ.lt
  have cBR := BR.cells
  have fBR := BR.frozens
  have zBR := BR.lt
  have X1 : Ext w w1 := (by repeat (first | (with_reducible exact Ext.refl _) | (with_reducible assumption) | (with_reducible refine Ext.alloc ?_ _) | (with_reducible refine Ext.drewN ?_ _) | (with_reducible refine Ext.drew ?_) | (with_reducible refine Ext.setCell ?_ ?_ _; rotate_left; (simp only []; omega)) | (with_reducible refine Ext.trans ?_ (by assumption))))
  clear hx1
  go_wp2
  refine' bodyPost_ret (v := _) ?_ rfl ?_
  rotate_left
  · (simp only [results, Try.results80]
     go_simp
     rfl)
  refine ⟨rfl, ?_⟩
  refine (fun (h : Two (w.heap.size + 1 + 1) (w.heap.size + 1 + 1 + 1) w1 _) => h.ext X1 e2 e3) ?_
  clear e2 e3 cBQ fBQ cBR fBR
  generalize w.heap.size + 1 + 1 + 1 = b2
  generalize w.heap.size + 1 + 1 = b1
  repeat (first | (with_reducible exact Two.refl _ _ _) | (with_reducible refine Two.drew ?_) | (with_reducible refine Two.alloc ?_ _) | (with_reducible refine Two.set1 ?_ _ _) | (with_reducible refine Two.set2 ?_ _ _))
end Go.Proofs.Ytppdcglnopoocaa
/- The second package's SendOut. -/
namespace Go.Proofs.Ytppdcglnopoocaa
set_option linter.unusedVariables false
set_option linter.unusedSimpArgs false
open Go.RowKit

set_option maxHeartbeats 1000000 in
theorem spec_SendOut_not (g : GateD) (p : PktD) (ta : Option Addr) (tn tc : Nat) (ka : Option Addr) (kn kc : Nat) (a : Option Addr) (n c : Nat) (w : World) (ht : Sl encM 4 w ta tn tc g.table) (hk : Sl encC 3 w ka kn kc g.cons) (hs : Sl encI 1 w a n c p.data) (hg : goesOut g p = false) :
    Calls Try.prog 28 #[.agg #[.int .i64 g.net.base, .int .i64 g.net.bits, .int .i64 g.out, .slice ta tn tc, .slice ka kn kc, .int .i64 g.filter, .int .i64 g.hold, .int .i64 g.now], .agg #[.int .i64 p.kind, .int .i64 p.fr.addr, .int .i64 p.fr.port, .int .i64 p.to_.addr, .int .i64 p.to_.port, .slice a n c]] w fun e w' => e = .returned (.tuple #[.agg #[.int .i64 0, .int .i64 0, .int .i64 0, .int .i64 0, .int .i64 0, .slice none 0 0], .agg #[.int .i64 0, .int .i64 0, .int .i64 0, .slice none 0 0, .slice none 0 0, .int .i64 0, .int .i64 0, .int .i64 0], .bool false]) ∧ Ext w w' := by
  have c1 := fun W h1 h2 h3 => spec_goesOut g p ta tn tc ka kn kc a n c W h1 h2 h3
  rw [hg] at c1
  have c1 := Lib.hid c1
  have e2 : w.heap.size ≤ w.heap.size + 1 + 1 := by omega
  have e3 : w.heap.size ≤ w.heap.size + 1 + 1 + 1 := by omega
  go_enter Try.func28, Try.ntmps28
  go_wp2_with fail
  refine (c1.out _ (by exact ht.ext (by repeat (first | (with_reducible exact Ext.refl _) | (with_reducible assumption) | (with_reducible refine Ext.alloc ?_ _) | (with_reducible refine Ext.drewN ?_ _) | (with_reducible refine Ext.drew ?_) | (with_reducible refine Ext.setCell ?_ ?_ _; rotate_left; (simp only []; omega)) | (with_reducible refine Ext.trans ?_ (by assumption))))) (by exact hk.ext (by repeat (first | (with_reducible exact Ext.refl _) | (with_reducible assumption) | (with_reducible refine Ext.alloc ?_ _) | (with_reducible refine Ext.drewN ?_ _) | (with_reducible refine Ext.drew ?_) | (with_reducible refine Ext.setCell ?_ ?_ _; rotate_left; (simp only []; omega)) | (with_reducible refine Ext.trans ?_ (by assumption))))) (by exact hs.ext (by repeat (first | (with_reducible exact Ext.refl _) | (with_reducible assumption) | (with_reducible refine Ext.alloc ?_ _) | (with_reducible refine Ext.drewN ?_ _) | (with_reducible refine Ext.drew ?_) | (with_reducible refine Ext.setCell ?_ ?_ _; rotate_left; (simp only []; omega)) | (with_reducible refine Ext.trans ?_ (by assumption)))))).mono ?_
  rintro e w1 ⟨rfl, hx1⟩
  have hy1 := hx1.size
  (try simp at hy1)
  have eW1 := useE (fun (h : Ext _ w1) => ht.ext h) (by repeat (first | (with_reducible exact Ext.refl _) | (with_reducible assumption) | (with_reducible refine Ext.alloc ?_ _) | (with_reducible refine Ext.drewN ?_ _) | (with_reducible refine Ext.drew ?_) | (with_reducible refine Ext.setCell ?_ ?_ _; rotate_left; (simp only []; omega)) | (with_reducible refine Ext.trans ?_ (by assumption))))
  replace ht := ht.ext eW1
  replace hk := hk.ext eW1
  replace hs := hs.ext eW1
  have BQ : Blk w1 (w.heap.size+2) 33 #[.int .i64 0, .int .i64 0, .int .i64 0, .int .i64 0, .int .i64 0, .slice none 0 0] := by refine Blk.ext ?_ hx1; exact (by repeat (first | (with_reducible assumption) | (with_reducible exact Blk.new _ _ _) | exact Blk.newAt _ _ _ (by simp) | (with_reducible refine Blk.alloc ?_ _) | (with_reducible refine Blk.drew ?_) | (with_reducible refine Blk.drewN ?_ _) | refine Blk.far ?_ (by simp only []; omega) _ | refine Blk.rext ?_ (by assumption) (by omega) | refine Blk.ext ?_ (by assumption)))
  have BR : Blk w1 (w.heap.size+3) 28 #[.int .i64 0, .int .i64 0, .int .i64 0, .slice none 0 0, .slice none 0 0, .int .i64 0, .int .i64 0, .int .i64 0] := by refine Blk.ext ?_ hx1; exact (by repeat (first | (with_reducible assumption) | (with_reducible exact Blk.new _ _ _) | exact Blk.newAt _ _ _ (by simp) | (with_reducible refine Blk.alloc ?_ _) | (with_reducible refine Blk.drew ?_) | (with_reducible refine Blk.drewN ?_ _) | refine Blk.far ?_ (by simp only []; omega) _ | refine Blk.rext ?_ (by assumption) (by omega) | refine Blk.ext ?_ (by assumption)))
  have cBQ := BQ.cells
  have fBQ := BQ.frozens
  have zBQ := BQ.lt
  have cBR := BR.cells
  have fBR := BR.frozens
  have zBR := BR.lt
  have X1 : Ext w w1 := (by repeat (first | (with_reducible exact Ext.refl _) | (with_reducible assumption) | (with_reducible refine Ext.alloc ?_ _) | (with_reducible refine Ext.drewN ?_ _) | (with_reducible refine Ext.drew ?_) | (with_reducible refine Ext.setCell ?_ ?_ _; rotate_left; (simp only []; omega)) | (with_reducible refine Ext.trans ?_ (by assumption))))
  clear hx1
  go_wp2
  refine' bodyPost_ret (v := _) ?_ rfl ?_
  rotate_left
  · (simp only [results, Try.results28]
     go_simp
     rfl)
  refine ⟨rfl, ?_⟩
  refine (fun (h : Two (w.heap.size + 1 + 1) (w.heap.size + 1 + 1 + 1) w1 _) => h.ext X1 e2 e3) ?_
  clear e2 e3 cBQ fBQ cBR fBR
  generalize w.heap.size + 1 + 1 + 1 = b2
  generalize w.heap.size + 1 + 1 = b1
  repeat (first | (with_reducible exact Two.refl _ _ _) | (with_reducible refine Two.drew ?_) | (with_reducible refine Two.alloc ?_ _) | (with_reducible refine Two.set1 ?_ _ _) | (with_reducible refine Two.set2 ?_ _ _))
set_option maxHeartbeats 2000000 in
theorem spec_SendOut_some (g : GateD) (p : PktD) (ta : Option Addr) (tn tc : Nat) (ka : Option Addr) (kn kc : Nat) (a : Option Addr) (n c : Nat) (w : World) (ht : Sl encM 4 w ta tn tc g.table) (hk : Sl encC 3 w ka kn kc g.cons) (hs : Sl encI 1 w a n c p.data) (hg : goesOut g p = true)
    (htn : tn ≤ 8) (hkn : kn ≤ 10) (hn : n ≤ 12) (h0 : 0 ≤ p.fr.port) (h1 : p.fr.port ≤ 65535) (T : List MapD) (port : Int) (hm : mapEnd g.table p.fr g.now = some (T, port)) :
    Calls Try.prog 28 #[.agg #[.int .i64 g.net.base, .int .i64 g.net.bits, .int .i64 g.out, .slice ta tn tc, .slice ka kn kc, .int .i64 g.filter, .int .i64 g.hold, .int .i64 g.now], .agg #[.int .i64 p.kind, .int .i64 p.fr.addr, .int .i64 p.fr.port, .int .i64 p.to_.addr, .int .i64 p.to_.port, .slice a n c]] w fun e w' => ∃ A C sa sn sc qa qn qc, e = .returned (.tuple #[.agg #[.int .i64 p.kind, .int .i64 g.out, .int .i64 port, .int .i64 p.to_.addr, .int .i64 p.to_.port, .slice A n C],
      .agg #[.int .i64 g.net.base, .int .i64 g.net.bits, .int .i64 g.out, .slice sa sn sc, .slice qa qn qc, .int .i64 g.filter, .int .i64 g.hold, .int .i64 g.now], .bool true]) ∧
      Ow 3 encI 1 w.heap.size w' A n C p.data ∧ Ow 89 encM 4 w.heap.size w' sa sn sc T ∧ Ow 47 encC 3 w.heap.size w' qa qn qc (note g.cons ⟨port, p.to_⟩) ∧ Ext w w' := by
  have c1 := fun W h1 h2 h3 => spec_goesOut g p ta tn tc ka kn kc a n c W h1 h2 h3
  rw [hg] at c1
  have c1 := Lib.hid c1
  have hm := Lib.hid hm
  have e2 : w.heap.size ≤ w.heap.size + 1 + 1 := by omega
  have e3 : w.heap.size ≤ w.heap.size + 1 + 1 + 1 := by omega
  go_enter Try.func28, Try.ntmps28
  go_wp2_with fail
  refine (c1.out _ (by exact ht.ext (by repeat (first | (with_reducible exact Ext.refl _) | (with_reducible assumption) | (with_reducible refine Ext.alloc ?_ _) | (with_reducible refine Ext.drewN ?_ _) | (with_reducible refine Ext.drew ?_) | (with_reducible refine Ext.setCell ?_ ?_ _; rotate_left; (simp only []; omega)) | (with_reducible refine Ext.trans ?_ (by assumption))))) (by exact hk.ext (by repeat (first | (with_reducible exact Ext.refl _) | (with_reducible assumption) | (with_reducible refine Ext.alloc ?_ _) | (with_reducible refine Ext.drewN ?_ _) | (with_reducible refine Ext.drew ?_) | (with_reducible refine Ext.setCell ?_ ?_ _; rotate_left; (simp only []; omega)) | (with_reducible refine Ext.trans ?_ (by assumption))))) (by exact hs.ext (by repeat (first | (with_reducible exact Ext.refl _) | (with_reducible assumption) | (with_reducible refine Ext.alloc ?_ _) | (with_reducible refine Ext.drewN ?_ _) | (with_reducible refine Ext.drew ?_) | (with_reducible refine Ext.setCell ?_ ?_ _; rotate_left; (simp only []; omega)) | (with_reducible refine Ext.trans ?_ (by assumption)))))).mono ?_
  rintro e w1 ⟨rfl, hx1⟩
  have hy1 := hx1.size
  (try simp at hy1)
  have eW1 := useE (fun (h : Ext _ w1) => ht.ext h) (by repeat (first | (with_reducible exact Ext.refl _) | (with_reducible assumption) | (with_reducible refine Ext.alloc ?_ _) | (with_reducible refine Ext.drewN ?_ _) | (with_reducible refine Ext.drew ?_) | (with_reducible refine Ext.setCell ?_ ?_ _; rotate_left; (simp only []; omega)) | (with_reducible refine Ext.trans ?_ (by assumption))))
  replace ht := ht.ext eW1
  replace hk := hk.ext eW1
  replace hs := hs.ext eW1
  have BG : Blk w1 w.heap.size 28 (#[.int .i64 g.net.base, .int .i64 g.net.bits, .int .i64 g.out, .slice ta tn tc, .slice ka kn kc, .int .i64 g.filter, .int .i64 g.hold, .int .i64 g.now]) := by refine Blk.ext ?_ hx1; exact (by repeat (first | (with_reducible assumption) | (with_reducible exact Blk.new _ _ _) | exact Blk.newAt _ _ _ (by simp) | (with_reducible refine Blk.alloc ?_ _) | (with_reducible refine Blk.drew ?_) | (with_reducible refine Blk.drewN ?_ _) | refine Blk.far ?_ (by simp only []; omega) _ | refine Blk.rext ?_ (by assumption) (by omega) | refine Blk.ext ?_ (by assumption)))
  have BP : Blk w1 (w.heap.size+1) 33 (#[.int .i64 p.kind, .int .i64 p.fr.addr, .int .i64 p.fr.port, .int .i64 p.to_.addr, .int .i64 p.to_.port, .slice a n c]) := by refine Blk.ext ?_ hx1; exact (by repeat (first | (with_reducible assumption) | (with_reducible exact Blk.new _ _ _) | exact Blk.newAt _ _ _ (by simp) | (with_reducible refine Blk.alloc ?_ _) | (with_reducible refine Blk.drew ?_) | (with_reducible refine Blk.drewN ?_ _) | refine Blk.far ?_ (by simp only []; omega) _ | refine Blk.rext ?_ (by assumption) (by omega) | refine Blk.ext ?_ (by assumption)))
  have BQ : Blk w1 (w.heap.size+2) 33 #[.int .i64 0, .int .i64 0, .int .i64 0, .int .i64 0, .int .i64 0, .slice none 0 0] := by refine Blk.ext ?_ hx1; exact (by repeat (first | (with_reducible assumption) | (with_reducible exact Blk.new _ _ _) | exact Blk.newAt _ _ _ (by simp) | (with_reducible refine Blk.alloc ?_ _) | (with_reducible refine Blk.drew ?_) | (with_reducible refine Blk.drewN ?_ _) | refine Blk.far ?_ (by simp only []; omega) _ | refine Blk.rext ?_ (by assumption) (by omega) | refine Blk.ext ?_ (by assumption)))
  have BR : Blk w1 (w.heap.size+3) 28 #[.int .i64 0, .int .i64 0, .int .i64 0, .slice none 0 0, .slice none 0 0, .int .i64 0, .int .i64 0, .int .i64 0] := by refine Blk.ext ?_ hx1; exact (by repeat (first | (with_reducible assumption) | (with_reducible exact Blk.new _ _ _) | exact Blk.newAt _ _ _ (by simp) | (with_reducible refine Blk.alloc ?_ _) | (with_reducible refine Blk.drew ?_) | (with_reducible refine Blk.drewN ?_ _) | refine Blk.far ?_ (by simp only []; omega) _ | refine Blk.rext ?_ (by assumption) (by omega) | refine Blk.ext ?_ (by assumption)))
  have cBG := BG.cells
  have fBG := BG.frozens
  have zBG := BG.lt
  have cBP := BP.cells
  have fBP := BP.frozens
  have zBP := BP.lt
  have cBQ := BQ.cells
  have fBQ := BQ.frozens
  have zBQ := BQ.lt
  have cBR := BR.cells
  have fBR := BR.frozens
  have zBR := BR.lt
  have X1 : Ext w w1 := (by repeat (first | (with_reducible exact Ext.refl _) | (with_reducible assumption) | (with_reducible refine Ext.alloc ?_ _) | (with_reducible refine Ext.drewN ?_ _) | (with_reducible refine Ext.drew ?_) | (with_reducible refine Ext.setCell ?_ ?_ _; rotate_left; (simp only []; omega)) | (with_reducible refine Ext.trans ?_ (by assumption))))
  clear hx1
  go_wp2_with fail
  refine (spec_send_some g p ta tn tc ka kn kc a n c _ (by exact ht.ext (by repeat (first | (with_reducible exact Ext.refl _) | (with_reducible assumption) | (with_reducible refine Ext.alloc ?_ _) | (with_reducible refine Ext.drewN ?_ _) | (with_reducible refine Ext.drew ?_) | (with_reducible refine Ext.setCell ?_ ?_ _; rotate_left; (simp only []; omega)) | (with_reducible refine Ext.trans ?_ (by assumption))))) (by exact hk.ext (by repeat (first | (with_reducible exact Ext.refl _) | (with_reducible assumption) | (with_reducible refine Ext.alloc ?_ _) | (with_reducible refine Ext.drewN ?_ _) | (with_reducible refine Ext.drew ?_) | (with_reducible refine Ext.setCell ?_ ?_ _; rotate_left; (simp only []; omega)) | (with_reducible refine Ext.trans ?_ (by assumption))))) (by exact hs.ext (by repeat (first | (with_reducible exact Ext.refl _) | (with_reducible assumption) | (with_reducible refine Ext.alloc ?_ _) | (with_reducible refine Ext.drewN ?_ _) | (with_reducible refine Ext.drew ?_) | (with_reducible refine Ext.setCell ?_ ?_ _; rotate_left; (simp only []; omega)) | (with_reducible refine Ext.trans ?_ (by assumption))))) htn hkn hn h0 h1 T port hm.out).mono ?_
  rintro e w2 ⟨A, C, sa, sn, sc, qa, qn, qc, rfl, O1, O2, O3, hx2⟩
  have hy2 := hx2.size
  (try simp at hy2)
  have eW2 := useE (fun (h : Ext _ w2) => ht.ext h) (by repeat (first | (with_reducible exact Ext.refl _) | (with_reducible assumption) | (with_reducible refine Ext.alloc ?_ _) | (with_reducible refine Ext.drewN ?_ _) | (with_reducible refine Ext.drew ?_) | (with_reducible refine Ext.setCell ?_ ?_ _; rotate_left; (simp only []; omega)) | (with_reducible refine Ext.trans ?_ (by assumption))))
  replace ht := ht.ext eW2
  replace hk := hk.ext eW2
  replace hs := hs.ext eW2
  clear cBG fBG zBG
  replace BG := BG.ext eW2
  clear cBP fBP zBP
  replace BP := BP.ext eW2
  clear cBQ fBQ zBQ
  replace BQ := BQ.ext eW2
  clear cBR fBR zBR
  replace BR := BR.ext eW2
  have cBG := BG.cells
  have fBG := BG.frozens
  have zBG := BG.lt
  have cBP := BP.cells
  have fBP := BP.frozens
  have zBP := BP.lt
  have cBQ := BQ.cells
  have fBQ := BQ.frozens
  have zBQ := BQ.lt
  have cBR := BR.cells
  have fBR := BR.frozens
  have zBR := BR.lt
  have X2 : Ext w w2 := X1.trans (show Ext w1 w2 from (by repeat (first | (with_reducible exact Ext.refl _) | (with_reducible assumption) | (with_reducible refine Ext.alloc ?_ _) | (with_reducible refine Ext.drewN ?_ _) | (with_reducible refine Ext.drew ?_) | (with_reducible refine Ext.setCell ?_ ?_ _; rotate_left; (simp only []; omega)) | (with_reducible refine Ext.trans ?_ (by assumption)))))
  have z1 := X1.size
  have l1 := O1.lt
  have l2 := O2.lt
  have l3 := O3.lt
  have hz : w.heap.size + 4 ≤ w1.heap.size := by (try simp at hy1); omega
  have Y1 := Lib.hid (O1.rebase (b' := w.heap.size) (by (try simp); (try omega)))
  have Y2 := Lib.hid (O2.rebase (b' := w.heap.size) (by (try simp); (try omega)))
  have Y3 := Lib.hid (O3.rebase (b' := w.heap.size) (by (try simp); (try omega)))
  have n12 : ∀ x, A = some x → x.block ≠ w.heap.size + 1 + 1 := fun x e => by have := (l1 x e).1; (try simp at this); omega
  have n13 : ∀ x, A = some x → x.block ≠ w.heap.size + 1 + 1 + 1 := fun x e => by have := (l1 x e).1; (try simp at this); omega
  have n22 : ∀ x, sa = some x → x.block ≠ w.heap.size + 1 + 1 := fun x e => by have := (l2 x e).1; (try simp at this); omega
  have n23 : ∀ x, sa = some x → x.block ≠ w.heap.size + 1 + 1 + 1 := fun x e => by have := (l2 x e).1; (try simp at this); omega
  have n32 : ∀ x, qa = some x → x.block ≠ w.heap.size + 1 + 1 := fun x e => by have := (l3 x e).1; (try simp at this); omega
  have n33 : ∀ x, qa = some x → x.block ≠ w.heap.size + 1 + 1 + 1 := fun x e => by have := (l3 x e).1; (try simp at this); omega
  clear hx2 O1 O2 O3 l1 l2 l3
  go_wp2
  refine' bodyPost_ret (v := _) ?_ rfl ?_
  rotate_left
  · (simp only [results, Try.results28]
     go_simp
     rfl)
  refine ⟨A, C, sa, sn, sc, qa, qn, qc, rfl, ?_⟩
  refine (fun (h : Two (w.heap.size + 1 + 1) (w.heap.size + 1 + 1 + 1) w2 _) => ⟨h.ow Y1.out n12 n13, h.ow Y2.out n22 n23, h.ow Y3.out n32 n33, h.ext X2 e2 e3⟩) ?_
  clear n12 n13 n22 n23 n32 n33 e2 e3 cBG fBG cBP fBP cBQ fBQ cBR fBR
  generalize w.heap.size + 1 + 1 + 1 = b2
  generalize w.heap.size + 1 + 1 = b1
  repeat (first | (with_reducible exact Two.refl _ _ _) | (with_reducible refine Two.drew ?_) | (with_reducible refine Two.alloc ?_ _) | (with_reducible refine Two.set1 ?_ _ _) | (with_reducible refine Two.set2 ?_ _ _))
set_option maxHeartbeats 1000000 in
theorem spec_SendOut_none (g : GateD) (p : PktD) (ta : Option Addr) (tn tc : Nat) (ka : Option Addr) (kn kc : Nat) (a : Option Addr) (n c : Nat) (w : World) (ht : Sl encM 4 w ta tn tc g.table) (hk : Sl encC 3 w ka kn kc g.cons) (hs : Sl encI 1 w a n c p.data) (hg : goesOut g p = true) (htn : tn ≤ 8) (h0 : 0 ≤ p.fr.port) (h1 : p.fr.port ≤ 65535) (hm : mapEnd g.table p.fr g.now = none) :
    Calls Try.prog 28 #[.agg #[.int .i64 g.net.base, .int .i64 g.net.bits, .int .i64 g.out, .slice ta tn tc, .slice ka kn kc, .int .i64 g.filter, .int .i64 g.hold, .int .i64 g.now], .agg #[.int .i64 p.kind, .int .i64 p.fr.addr, .int .i64 p.fr.port, .int .i64 p.to_.addr, .int .i64 p.to_.port, .slice a n c]] w fun e w' => e = .returned (.tuple #[.agg #[.int .i64 0, .int .i64 0, .int .i64 0, .int .i64 0, .int .i64 0, .slice none 0 0], .agg #[.int .i64 0, .int .i64 0, .int .i64 0, .slice none 0 0, .slice none 0 0, .int .i64 0, .int .i64 0, .int .i64 0], .bool false]) ∧ Ext w w' := by
  have c1 := fun W h1 h2 h3 => spec_goesOut g p ta tn tc ka kn kc a n c W h1 h2 h3
  rw [hg] at c1
  have c1 := Lib.hid c1
  have hm := Lib.hid hm
  have e2 : w.heap.size ≤ w.heap.size + 1 + 1 := by omega
  have e3 : w.heap.size ≤ w.heap.size + 1 + 1 + 1 := by omega
  go_enter Try.func28, Try.ntmps28
  go_wp2_with fail
  refine (c1.out _ (by exact ht.ext (by repeat (first | (with_reducible exact Ext.refl _) | (with_reducible assumption) | (with_reducible refine Ext.alloc ?_ _) | (with_reducible refine Ext.drewN ?_ _) | (with_reducible refine Ext.drew ?_) | (with_reducible refine Ext.setCell ?_ ?_ _; rotate_left; (simp only []; omega)) | (with_reducible refine Ext.trans ?_ (by assumption))))) (by exact hk.ext (by repeat (first | (with_reducible exact Ext.refl _) | (with_reducible assumption) | (with_reducible refine Ext.alloc ?_ _) | (with_reducible refine Ext.drewN ?_ _) | (with_reducible refine Ext.drew ?_) | (with_reducible refine Ext.setCell ?_ ?_ _; rotate_left; (simp only []; omega)) | (with_reducible refine Ext.trans ?_ (by assumption))))) (by exact hs.ext (by repeat (first | (with_reducible exact Ext.refl _) | (with_reducible assumption) | (with_reducible refine Ext.alloc ?_ _) | (with_reducible refine Ext.drewN ?_ _) | (with_reducible refine Ext.drew ?_) | (with_reducible refine Ext.setCell ?_ ?_ _; rotate_left; (simp only []; omega)) | (with_reducible refine Ext.trans ?_ (by assumption)))))).mono ?_
  rintro e w1 ⟨rfl, hx1⟩
  have hy1 := hx1.size
  (try simp at hy1)
  have eW1 := useE (fun (h : Ext _ w1) => ht.ext h) (by repeat (first | (with_reducible exact Ext.refl _) | (with_reducible assumption) | (with_reducible refine Ext.alloc ?_ _) | (with_reducible refine Ext.drewN ?_ _) | (with_reducible refine Ext.drew ?_) | (with_reducible refine Ext.setCell ?_ ?_ _; rotate_left; (simp only []; omega)) | (with_reducible refine Ext.trans ?_ (by assumption))))
  replace ht := ht.ext eW1
  replace hk := hk.ext eW1
  replace hs := hs.ext eW1
  have BG : Blk w1 w.heap.size 28 (#[.int .i64 g.net.base, .int .i64 g.net.bits, .int .i64 g.out, .slice ta tn tc, .slice ka kn kc, .int .i64 g.filter, .int .i64 g.hold, .int .i64 g.now]) := by refine Blk.ext ?_ hx1; exact (by repeat (first | (with_reducible assumption) | (with_reducible exact Blk.new _ _ _) | exact Blk.newAt _ _ _ (by simp) | (with_reducible refine Blk.alloc ?_ _) | (with_reducible refine Blk.drew ?_) | (with_reducible refine Blk.drewN ?_ _) | refine Blk.far ?_ (by simp only []; omega) _ | refine Blk.rext ?_ (by assumption) (by omega) | refine Blk.ext ?_ (by assumption)))
  have BP : Blk w1 (w.heap.size+1) 33 (#[.int .i64 p.kind, .int .i64 p.fr.addr, .int .i64 p.fr.port, .int .i64 p.to_.addr, .int .i64 p.to_.port, .slice a n c]) := by refine Blk.ext ?_ hx1; exact (by repeat (first | (with_reducible assumption) | (with_reducible exact Blk.new _ _ _) | exact Blk.newAt _ _ _ (by simp) | (with_reducible refine Blk.alloc ?_ _) | (with_reducible refine Blk.drew ?_) | (with_reducible refine Blk.drewN ?_ _) | refine Blk.far ?_ (by simp only []; omega) _ | refine Blk.rext ?_ (by assumption) (by omega) | refine Blk.ext ?_ (by assumption)))
  have BQ : Blk w1 (w.heap.size+2) 33 #[.int .i64 0, .int .i64 0, .int .i64 0, .int .i64 0, .int .i64 0, .slice none 0 0] := by refine Blk.ext ?_ hx1; exact (by repeat (first | (with_reducible assumption) | (with_reducible exact Blk.new _ _ _) | exact Blk.newAt _ _ _ (by simp) | (with_reducible refine Blk.alloc ?_ _) | (with_reducible refine Blk.drew ?_) | (with_reducible refine Blk.drewN ?_ _) | refine Blk.far ?_ (by simp only []; omega) _ | refine Blk.rext ?_ (by assumption) (by omega) | refine Blk.ext ?_ (by assumption)))
  have BR : Blk w1 (w.heap.size+3) 28 #[.int .i64 0, .int .i64 0, .int .i64 0, .slice none 0 0, .slice none 0 0, .int .i64 0, .int .i64 0, .int .i64 0] := by refine Blk.ext ?_ hx1; exact (by repeat (first | (with_reducible assumption) | (with_reducible exact Blk.new _ _ _) | exact Blk.newAt _ _ _ (by simp) | (with_reducible refine Blk.alloc ?_ _) | (with_reducible refine Blk.drew ?_) | (with_reducible refine Blk.drewN ?_ _) | refine Blk.far ?_ (by simp only []; omega) _ | refine Blk.rext ?_ (by assumption) (by omega) | refine Blk.ext ?_ (by assumption)))
  have cBG := BG.cells
  have fBG := BG.frozens
  have zBG := BG.lt
  have cBP := BP.cells
  have fBP := BP.frozens
  have zBP := BP.lt
  have cBQ := BQ.cells
  have fBQ := BQ.frozens
  have zBQ := BQ.lt
  have cBR := BR.cells
  have fBR := BR.frozens
  have zBR := BR.lt
  have X1 : Ext w w1 := (by repeat (first | (with_reducible exact Ext.refl _) | (with_reducible assumption) | (with_reducible refine Ext.alloc ?_ _) | (with_reducible refine Ext.drewN ?_ _) | (with_reducible refine Ext.drew ?_) | (with_reducible refine Ext.setCell ?_ ?_ _; rotate_left; (simp only []; omega)) | (with_reducible refine Ext.trans ?_ (by assumption))))
  clear hx1
  go_wp2_with fail
  refine (spec_send_none g p ta tn tc ka kn kc a n c _ (by exact ht.ext (by repeat (first | (with_reducible exact Ext.refl _) | (with_reducible assumption) | (with_reducible refine Ext.alloc ?_ _) | (with_reducible refine Ext.drewN ?_ _) | (with_reducible refine Ext.drew ?_) | (with_reducible refine Ext.setCell ?_ ?_ _; rotate_left; (simp only []; omega)) | (with_reducible refine Ext.trans ?_ (by assumption))))) htn h0 h1 hm.out).mono ?_
  rintro e w2 ⟨rfl, hx2⟩
  have hy2 := hx2.size
  (try simp at hy2)
  have eW2 := useE (fun (h : Ext _ w2) => ht.ext h) (by repeat (first | (with_reducible exact Ext.refl _) | (with_reducible assumption) | (with_reducible refine Ext.alloc ?_ _) | (with_reducible refine Ext.drewN ?_ _) | (with_reducible refine Ext.drew ?_) | (with_reducible refine Ext.setCell ?_ ?_ _; rotate_left; (simp only []; omega)) | (with_reducible refine Ext.trans ?_ (by assumption))))
  replace ht := ht.ext eW2
  replace hk := hk.ext eW2
  replace hs := hs.ext eW2
  clear cBG fBG zBG
  replace BG := BG.ext eW2
  clear cBP fBP zBP
  replace BP := BP.ext eW2
  clear cBQ fBQ zBQ
  replace BQ := BQ.ext eW2
  clear cBR fBR zBR
  replace BR := BR.ext eW2
  have cBG := BG.cells
  have fBG := BG.frozens
  have zBG := BG.lt
  have cBP := BP.cells
  have fBP := BP.frozens
  have zBP := BP.lt
  have cBQ := BQ.cells
  have fBQ := BQ.frozens
  have zBQ := BQ.lt
  have cBR := BR.cells
  have fBR := BR.frozens
  have zBR := BR.lt
  have X2 : Ext w w2 := X1.trans (show Ext w1 w2 from (by repeat (first | (with_reducible exact Ext.refl _) | (with_reducible assumption) | (with_reducible refine Ext.alloc ?_ _) | (with_reducible refine Ext.drewN ?_ _) | (with_reducible refine Ext.drew ?_) | (with_reducible refine Ext.setCell ?_ ?_ _; rotate_left; (simp only []; omega)) | (with_reducible refine Ext.trans ?_ (by assumption)))))
  clear hx2
  go_wp2
  refine' bodyPost_ret (v := _) ?_ rfl ?_
  rotate_left
  · (simp only [results, Try.results28]
     go_simp
     rfl)
  refine ⟨rfl, ?_⟩
  refine (fun (h : Two (w.heap.size + 1 + 1) (w.heap.size + 1 + 1 + 1) w2 _) => h.ext X2 e2 e3) ?_
  clear e2 e3 cBG fBG cBP fBP cBQ fBQ cBR fBR
  generalize w.heap.size + 1 + 1 + 1 = b2
  generalize w.heap.size + 1 + 1 = b1
  repeat (first | (with_reducible exact Two.refl _ _ _) | (with_reducible refine Two.drew ?_) | (with_reducible refine Two.alloc ?_ _) | (with_reducible refine Two.set1 ?_ _ _) | (with_reducible refine Two.set2 ?_ _ _))
end Go.Proofs.Ytppdcglnopoocaa
/- What a step of a gate returns, in one form whether it succeeds or not: plain words. No condition. -/
namespace Go.Proofs.Ytppdcglnopoocaa
set_option linter.unusedVariables false
set_option linter.unusedSimpArgs false
open Go.RowKit

/-- The zero values. -/
def pkN : PktD := ⟨0, ⟨0, 0⟩, ⟨0, 0⟩, []⟩
def gtN : GateD := ⟨⟨0, 0⟩, 0, [], [], 0, 0, 0⟩
def rpN : RepD := ⟨0, 0, 0, ⟨0, ⟨0, 0⟩, ⟨0, 0⟩, []⟩⟩
def rP (r : Option (PktD × GateD)) : PktD := match r with
  | some x => x.1
  | none => pkN
def rG (r : Option (PktD × GateD)) : GateD := match r with
  | some x => x.2
  | none => gtN
def rT (r : Option GateD) : GateD := match r with
  | some x => x
  | none => gtN
def rR (r : Option RepD) : RepD := match r with
  | some x => x
  | none => rpN
theorem table_len {l : List MapD} (h : validTable l = true) : l.length ≤ 8 := (validTable_iff.1 h).2.2
theorem cons_len {l : List ConD} (h : validContacts l = true) : l.length ≤ 10 := (validContacts_iff.1 h).2.2
theorem validPkt_port {p : PktD} (h : validPkt p = true) : 0 ≤ p.fr.port ∧ p.fr.port ≤ 65535 := by
  have := (validPkt_iff.1 h).2.1
  simp only [validEnd, Bool.and_eq_true, word_iff] at this
  omega
theorem sendOut_facts {g : GateD} {p : PktD} {r : PktD × GateD} (e : sendOut g p = some r) : VGate r.2 ∧ r.2.now = g.now := by
  obtain ⟨q, h⟩ := r
  obtain ⟨a, b, c, _, _, s⟩ := sendOut_some e
  have S := send_ok a b c s
  exact ⟨S.valid, by rw [S.same]⟩
theorem tickGate_facts {g h : GateD} {now : Int} (e : tickGate g now = some h) : VGate h ∧ 0 ≤ h.now ∧ h.now ≤ 10000 := by
  unfold tickGate at e
  split at e
  case isTrue hc =>
    rw [Bool.and_eq_true, validGate_iff, inR_iff] at hc
    injection e with e
    subst e
    have h := tick_valid hc.1 hc.2.1 hc.2.2
    exact ⟨h, h.now0, h.now1⟩
  case isFalse => cases e
/-- The second package's SendOut. -/
theorem spec_SendOut (g : GateD) (p : PktD) (ta : Option Addr) (tn tc : Nat) (ka : Option Addr) (kn kc : Nat) (a : Option Addr) (n c : Nat) (w : World) (ht : Sl encM 4 w ta tn tc g.table) (hk : Sl encC 3 w ka kn kc g.cons) (hs : Sl encI 1 w a n c p.data) :
    Calls Try.prog 28 #[.agg #[.int .i64 g.net.base, .int .i64 g.net.bits, .int .i64 g.out, .slice ta tn tc, .slice ka kn kc, .int .i64 g.filter, .int .i64 g.hold, .int .i64 g.now], .agg #[.int .i64 p.kind, .int .i64 p.fr.addr, .int .i64 p.fr.port, .int .i64 p.to_.addr, .int .i64 p.to_.port, .slice a n c]] w fun e w' => ∃ A n C sa sn sc qa qn qc, e = .returned (.tuple #[.agg #[.int .i64 (rP (sendOut g p)).kind, .int .i64 (rP (sendOut g p)).fr.addr, .int .i64 (rP (sendOut g p)).fr.port, .int .i64 (rP (sendOut g p)).to_.addr, .int .i64 (rP (sendOut g p)).to_.port, .slice A n C], .agg #[.int .i64 (rG (sendOut g p)).net.base, .int .i64 (rG (sendOut g p)).net.bits, .int .i64 (rG (sendOut g p)).out, .slice sa sn sc, .slice qa qn qc, .int .i64 (rG (sendOut g p)).filter, .int .i64 (rG (sendOut g p)).hold, .int .i64 (rG (sendOut g p)).now], .bool (sendOut g p).isSome]) ∧
          Ow 3 encI 1 w.heap.size w' A n C (rP (sendOut g p)).data ∧ Ow 89 encM 4 w.heap.size w' sa sn sc (rG (sendOut g p)).table ∧ Ow 47 encC 3 w.heap.size w' qa qn qc (rG (sendOut g p)).cons ∧ Ext w w' := by
  cases hg : goesOut g p with
  | false =>
    have e : sendOut g p = none := by unfold sendOut; rw [hg]; rfl
    rw [e]
    exact (spec_SendOut_not g p ta tn tc ka kn kc a n c w ht hk hs hg).mono fun _ _ ⟨h1, h2⟩ => ⟨none, 0, 0, none, 0, 0, none, 0, 0, h1, Ow.nils _, Ow.nils _, Ow.nils _, h2⟩
  | true =>
    have e : sendOut g p = send g p := by unfold sendOut; rw [hg]; rfl
    have hv : VGate g ∧ validPkt p = true := by
      simp only [goesOut, fromIn, Bool.and_eq_true, validGate_iff] at hg
      exact hg.1.1.1
    have hp := validPkt_port hv.2
    have htn : tn ≤ 8 := by have := table_len hv.1.tab; have := ht.len; omega
    have hkn : kn ≤ 10 := by have := cons_len hv.1.con; have := hk.len; omega
    have hn : n ≤ 12 := by have := (validPkt_iff.1 hv.2).2.2.2.1; have := hs.len; omega
    cases hm : mapEnd g.table p.fr g.now with
    | none =>
      have e2 : send g p = none := by unfold send; rw [hm]
      rw [e, e2]
      exact (spec_SendOut_none g p ta tn tc ka kn kc a n c w ht hk hs hg htn hp.1 hp.2 hm).mono fun _ _ ⟨h1, h2⟩ => ⟨none, 0, 0, none, 0, 0, none, 0, 0, h1, Ow.nils _, Ow.nils _, Ow.nils _, h2⟩
    | some r =>
      obtain ⟨T, port⟩ := r
      have e2 : send g p = some ({ p with fr := ⟨g.out, port⟩ }, { g with table := T, cons := note g.cons ⟨port, p.to_⟩ }) := by unfold send; rw [hm]
      rw [e, e2]
      exact (spec_SendOut_some g p ta tn tc ka kn kc a n c w ht hk hs hg htn hkn hn hp.1 hp.2 T port hm).mono fun _ _ ⟨A, C, sa, sn, sc, qa, qn, qc, h1, h2, h3, h4, h5⟩ => ⟨A, n, C, sa, sn, sc, qa, qn, qc, h1, h2, h3, h4, h5⟩
/-- The second package's TickGate. -/
theorem spec_TickGate (g : GateD) (now : Int) (ta : Option Addr) (tn tc : Nat) (ka : Option Addr) (kn kc : Nat) (w : World) (ht : Sl encM 4 w ta tn tc g.table) (hk : Sl encC 3 w ka kn kc g.cons) :
    Calls Try.prog 153 #[.agg #[.int .i64 g.net.base, .int .i64 g.net.bits, .int .i64 g.out, .slice ta tn tc, .slice ka kn kc, .int .i64 g.filter, .int .i64 g.hold, .int .i64 g.now], .int .i64 now] w fun e w' => ∃ sa sn sc qa qn qc, e = .returned (.tuple #[.agg #[.int .i64 (rT (tickGate g now)).net.base, .int .i64 (rT (tickGate g now)).net.bits, .int .i64 (rT (tickGate g now)).out, .slice sa sn sc, .slice qa qn qc, .int .i64 (rT (tickGate g now)).filter, .int .i64 (rT (tickGate g now)).hold, .int .i64 (rT (tickGate g now)).now], .bool (tickGate g now).isSome]) ∧ Ow 89 encM 4 w.heap.size w' sa sn sc (rT (tickGate g now)).table ∧ Ow 47 encC 3 w.heap.size w' qa qn qc (rT (tickGate g now)).cons ∧ Ext w w' := by
  cases hv : (validGate g && inR now g.now 10000) with
  | false =>
    have e : tickGate g now = none := by unfold tickGate; rw [hv]; rfl
    rw [e]
    exact (spec_TickGate_no g now ta tn tc ka kn kc w ht hk hv).mono fun _ _ ⟨h1, h2⟩ => ⟨none, 0, 0, none, 0, 0, h1, Ow.nils _, Ow.nils _, h2⟩
  | true =>
    have e : tickGate g now = some (tick g now) := by unfold tickGate; rw [hv]; rfl
    rw [e]
    exact (spec_TickGate_ok g now ta tn tc ka kn kc w ht hk hv).mono fun _ _ ⟨sa, sn, sc, qa, qn, qc, h1, h2, h3, h4⟩ => ⟨sa, sn, sc, qa, qn, qc, h1, h2, h3, h4⟩
end Go.Proofs.Ytppdcglnopoocaa
