/- The words, laws and contracts that the claims of this seat share: group j. No condition. -/
import Derived.Deep.RegionLaw
import Derived.Test.YtppdcglnopoocaaKg
import Derived.Test.YtppdcglnopoocaaKf
import Derived.Test.YtppdcglnopoocaaKd
import Derived.Test.YtppdcglnopoocaaKb
/- Contracts: the first package's free ports. -/
namespace Go.Proofs.Ytppdcglnopoocaa
set_option linter.unusedVariables false
set_option linter.unusedSimpArgs false
open Go.RowKit

theorem firstOf_snoc (f : Int → Bool) : ∀ (n : Nat) (lo : Int), 0 ≤ lo → firstOf f lo (n + 1) = if firstOf f lo n < 0 then (if f (lo + n) then lo + n else -1) else firstOf f lo n
  | 0, lo, h => by
    rw [firstOf, firstOf, firstOf]
    simp
  | n + 1, lo, h => by
    rw [firstOf, firstOf_snoc f n (lo + 1) (by omega), firstOf]
    have e : lo + 1 + (n : Int) = lo + ((n + 1 : Nat) : Int) := by omega
    rw [e]
    cases hf : f lo with
    | true =>
      have hn : ¬ lo < 0 := by omega
      simp [hn]
    | false => simp
theorem clo_free (q : Int) (a : Option Addr) (n c : Nat) (L : List MapD) (G : Nat) (W : World) (hB : Blk W G 25 #[.slice a n c]) (hs : Sl encM 4 W a n c L) :
    Calls Try.prog 168 #[.int .i64 q, .pointer (some ⟨G, 0, none⟩)] W fun r w' => r = .returned (.bool (freeAt L q)) ∧ Ext W w' := by
  have h1 := hB.cells
  have h2 := hB.lt
  have H := Lib.hid (impl_byPort q a n c L W hs)
  unfold freeAt
  generalize byPort L q = r at *
  clear hB hs
  go_enter Try.func168, Try.ntmps168
  go_wp2_with fail
  refine (H.out).mono ?_
  rintro e w1 ⟨rfl, hx⟩
  go_wp2
  go_ret
  exact ⟨ret_bool (by simp), hx⟩
set_option maxHeartbeats 2000000 in
theorem impl_freePort (a : Option Addr) (n c : Nat) (L : List MapD) (want : Int) (w : World) (hs : Sl encM 4 w a n c L) (h0 : 0 ≤ want) (h1 : want ≤ 65535) :
    Calls Try.prog 163 #[.slice a n c, .int .i64 want] w fun e w' => e = .returned (.int .i64 (freePort L want)) ∧ Ext w w' := by
  have hC := Lib.hid (fun q W hB h => clo_free q a n c L w.heap.size W hB h)
  obtain ⟨R, hR⟩ : ∃ R, R = freePort L want := ⟨_, rfl⟩
  rw [← hR]
  have tw : want.tmod 2 = want % 2 := Int.tmod_eq_emod_of_nonneg h0
  have c1 := fun W => impl_isOutside want W
  cases hi : inR want 1000 1007 && freeAt L want with
  | true =>
    have e : R = want := by rw [hR]; unfold freePort; rw [if_pos hi]
    simp only [Bool.and_eq_true] at hi
    rw [hi.1] at c1
    have hC2 := fun W hB h => hC.out want W hB h
    rw [hi.2] at hC2
    replace hC2 := Lib.hid hC2
    replace c1 := Lib.hid c1
    clear hR tw hi
    subst e
    go_enter Try.func163, Try.ntmps163
    go_wp2_with (go_at_call 132; refine (c1.out _).mono ?_; rintro e w' ⟨rfl, rfl⟩)
    refine (hC2.out _ (by exact (by repeat (first | (with_reducible assumption) | (with_reducible exact Blk.new _ _ _) | exact Blk.newAt _ _ _ (by simp) | (with_reducible refine Blk.alloc ?_ _) | (with_reducible refine Blk.drew ?_) | (with_reducible refine Blk.drewN ?_ _) | refine Blk.far ?_ (by simp only []; omega) _ | refine Blk.rext ?_ (by assumption) (by omega) | refine Blk.ext ?_ (by assumption)))) (by exact hs.ext (by repeat (first | (with_reducible exact Ext.refl _) | (with_reducible assumption) | (with_reducible refine Ext.alloc ?_ _) | (with_reducible refine Ext.drewN ?_ _) | (with_reducible refine Ext.drew ?_) | (with_reducible refine Ext.setCell ?_ ?_ _; rotate_left; (simp only []; omega)) | (with_reducible refine Ext.trans ?_ (by assumption)))))).mono ?_
    rintro e w1 ⟨rfl, hx1⟩
    go_wp2
    go_ret
    exact ⟨rfl, (by repeat (first | (with_reducible exact Ext.refl _) | (with_reducible assumption) | (with_reducible refine Ext.alloc ?_ _) | (with_reducible refine Ext.drewN ?_ _) | (with_reducible refine Ext.drew ?_) | (with_reducible refine Ext.setCell ?_ ?_ _; rotate_left; (simp only []; omega)) | (with_reducible refine Ext.trans ?_ (by assumption))))⟩
  | false =>
    have e : R = if firstOf (fun n => decide (n % 2 = want % 2) && freeAt L n) 1000 8 < 0 then firstOf (freeAt L) 1000 8 else firstOf (fun n => decide (n % 2 = want % 2) && freeAt L n) 1000 8 := by rw [hR]; unfold freePort; rw [if_neg (by rw [hi]; simp)]
    have HE := Lib.hid e
    have hC2 := fun W hB h => hC.out want W hB h
    obtain ⟨x, hx⟩ : ∃ x, inR want 1000 1007 = x := ⟨_, rfl⟩
    obtain ⟨y, hy⟩ : ∃ y, freeAt L want = y := ⟨_, rfl⟩
    rw [hx] at c1 hi
    rw [hy] at hC2 hi
    replace c1 := Lib.hid c1
    replace hC2 := Lib.hid hC2
    clear hR e hx hy
    have HS := Lib.hid hs
    clear hs
    cases x with
    | true =>
      have hy0 : y = false := by simpa using hi
      subst hy0
      clear hi
      go_enter Try.func163, Try.ntmps163
      go_wp2_with (go_at_call 132; refine (c1.out _).mono ?_; rintro e w' ⟨rfl, rfl⟩)
      refine (hC2.out _ (by exact (by repeat (first | (with_reducible assumption) | (with_reducible exact Blk.new _ _ _) | exact Blk.newAt _ _ _ (by simp) | (with_reducible refine Blk.alloc ?_ _) | (with_reducible refine Blk.drew ?_) | (with_reducible refine Blk.drewN ?_ _) | refine Blk.far ?_ (by simp only []; omega) _ | refine Blk.rext ?_ (by assumption) (by omega) | refine Blk.ext ?_ (by assumption)))) (by exact HS.out.ext (by repeat (first | (with_reducible exact Ext.refl _) | (with_reducible assumption) | (with_reducible refine Ext.alloc ?_ _) | (with_reducible refine Ext.drewN ?_ _) | (with_reducible refine Ext.drew ?_) | (with_reducible refine Ext.setCell ?_ ?_ _; rotate_left; (simp only []; omega)) | (with_reducible refine Ext.trans ?_ (by assumption)))))).mono ?_
      rintro e w1 ⟨rfl, hx1⟩
      have B1 : Blk w1 w.heap.size 25 #[.slice a n c] := by refine Blk.ext ?_ hx1; exact (by repeat (first | (with_reducible assumption) | (with_reducible exact Blk.new _ _ _) | exact Blk.newAt _ _ _ (by simp) | (with_reducible refine Blk.alloc ?_ _) | (with_reducible refine Blk.drew ?_) | (with_reducible refine Blk.drewN ?_ _) | refine Blk.far ?_ (by simp only []; omega) _ | refine Blk.rext ?_ (by assumption) (by omega) | refine Blk.ext ?_ (by assumption)))
      have X1 : Ext w w1 := (by repeat (first | (with_reducible exact Ext.refl _) | (with_reducible assumption) | (with_reducible refine Ext.alloc ?_ _) | (with_reducible refine Ext.drewN ?_ _) | (with_reducible refine Ext.drew ?_) | (with_reducible refine Ext.setCell ?_ ?_ _; rotate_left; (simp only []; omega)) | (with_reducible refine Ext.trans ?_ (by assumption))))
      clear hx1 c1 hC2
      go_wp2
      go_loopw [6, 7] (fun v6 v7 wr => ∃ k : Nat, k ≤ 8 ∧ v7 = .int .i64 (1000 + k) ∧ v6 = .int .i64 (firstOf (freeAt L) 1000 k) ∧ (∀ j : Int, 1000 ≤ j → j < 1000 + k → (decide (j % 2 = want % 2) && freeAt L j) = false) ∧ Blk wr w.heap.size 25 #[.slice a n c] ∧ Ext w wr) (fun _ v7 _ => 8 - (intOf v7 - 1000).toNat)
      case atStart => exact ⟨0, by omega, by go_num, rfl, (fun j h1 h2 => by omega), B1, X1⟩
      case round =>
        clear B1 X1
        obtain ⟨k, hk, rfl, rfl, hall, B, X⟩ := hrel
        have HA := Lib.hid hall
        clear hall
        have t1 : (1000 + (k : Int)).tmod 2 = (1000 + (k : Int)) % 2 := Int.tmod_eq_emod_of_nonneg (by omega)
        have hsn := firstOf_snoc (freeAt L) k 1000 (by omega)
        by_cases hlt : k < 8
        · have hcl := fun W hB h => hC.out (1000 + k) W hB h
          have cB := B.cells
          have zB := B.lt
          cases hf : freeAt L (1000 + k) with
          | false =>
            rw [hf] at hcl hsn
            replace hcl := Lib.hid hcl
            have hfo := Lib.hid (show firstOf (freeAt L) 1000 (k + 1) = firstOf (freeAt L) 1000 k by
              rw [hsn]
              split
              · rcases firstOf_cases (freeAt L) k 1000 with ⟨h, _⟩ | ⟨h, _, _⟩
                · simp [h]
                · omega
              · rfl)
            replace hf := Lib.hid hf
            clear hsn
            generalize firstOf (freeAt L) 1000 k = o at *
            go_wp2_with fail
            refine (hcl.out _ (by exact (by repeat (first | (with_reducible assumption) | (with_reducible exact Blk.new _ _ _) | exact Blk.newAt _ _ _ (by simp) | (with_reducible refine Blk.alloc ?_ _) | (with_reducible refine Blk.drew ?_) | (with_reducible refine Blk.drewN ?_ _) | refine Blk.far ?_ (by simp only []; omega) _ | refine Blk.rext ?_ (by assumption) (by omega) | refine Blk.ext ?_ (by assumption)))) (by exact HS.out.ext (by repeat (first | (with_reducible exact Ext.refl _) | (with_reducible assumption) | (with_reducible refine Ext.alloc ?_ _) | (with_reducible refine Ext.drewN ?_ _) | (with_reducible refine Ext.drew ?_) | (with_reducible refine Ext.setCell ?_ ?_ _; rotate_left; (simp only []; omega)) | (with_reducible refine Ext.trans ?_ (by assumption)))))).mono ?_
            rintro e w2 ⟨rfl, hx2⟩
            have B2 : Blk w2 w.heap.size 25 #[.slice a n c] := by refine Blk.ext ?_ hx2; exact (by repeat (first | (with_reducible assumption) | (with_reducible exact Blk.new _ _ _) | exact Blk.newAt _ _ _ (by simp) | (with_reducible refine Blk.alloc ?_ _) | (with_reducible refine Blk.drew ?_) | (with_reducible refine Blk.drewN ?_ _) | refine Blk.far ?_ (by simp only []; omega) _ | refine Blk.rext ?_ (by assumption) (by omega) | refine Blk.ext ?_ (by assumption)))
            have X2 : Ext w w2 := X.trans (by repeat (first | (with_reducible exact Ext.refl _) | (with_reducible assumption) | (with_reducible refine Ext.alloc ?_ _) | (with_reducible refine Ext.drewN ?_ _) | (with_reducible refine Ext.drew ?_) | (with_reducible refine Ext.setCell ?_ ?_ _; rotate_left; (simp only []; omega)) | (with_reducible refine Ext.trans ?_ (by assumption))))
            clear hx2
            go_wp2
            go_roundw
            case rel => exact ⟨k + 1, by omega, by congr 1 <;> omega, by rw [hfo.out], (fun j h1 h2 => by
              rcases Int.lt_or_le j (1000 + k) with h | h
              · exact HA.out j h1 h
              · have e : j = 1000 + k := by omega
                rw [e, hf.out]; simp), B2, X2⟩
            case measure => simp [intOf]; omega
          | true =>
            rw [hf] at hcl hsn
            replace hcl := Lib.hid hcl
            by_cases hp : (1000 + (k : Int)) % 2 = want % 2
            · have hfin := Lib.hid (show R = 1000 + k by
                have h := firstOf_some (f := fun n => decide (n % 2 = want % 2) && freeAt L n) 8 1000 (1000 + k) (by omega) (by omega) HA.out (by simp [hf, hp])
                rw [HE.out, h, if_neg (by omega)])
              clear hsn
              generalize firstOf (freeAt L) 1000 k = o at *
              go_wp2_with fail
              refine (hcl.out _ (by exact (by repeat (first | (with_reducible assumption) | (with_reducible exact Blk.new _ _ _) | exact Blk.newAt _ _ _ (by simp) | (with_reducible refine Blk.alloc ?_ _) | (with_reducible refine Blk.drew ?_) | (with_reducible refine Blk.drewN ?_ _) | refine Blk.far ?_ (by simp only []; omega) _ | refine Blk.rext ?_ (by assumption) (by omega) | refine Blk.ext ?_ (by assumption)))) (by exact HS.out.ext (by repeat (first | (with_reducible exact Ext.refl _) | (with_reducible assumption) | (with_reducible refine Ext.alloc ?_ _) | (with_reducible refine Ext.drewN ?_ _) | (with_reducible refine Ext.drew ?_) | (with_reducible refine Ext.setCell ?_ ?_ _; rotate_left; (simp only []; omega)) | (with_reducible refine Ext.trans ?_ (by assumption)))))).mono ?_
              rintro e w2 ⟨rfl, hx2⟩
              have X2 : Ext w w2 := X.trans (by repeat (first | (with_reducible exact Ext.refl _) | (with_reducible assumption) | (with_reducible refine Ext.alloc ?_ _) | (with_reducible refine Ext.drewN ?_ _) | (with_reducible refine Ext.drew ?_) | (with_reducible refine Ext.setCell ?_ ?_ _; rotate_left; (simp only []; omega)) | (with_reducible refine Ext.trans ?_ (by assumption))))
              clear hx2
              go_wp2
              go_ret
              exact ⟨ret_int hfin.out.symm, X2⟩
            · have hfo := Lib.hid hsn
              replace hf := Lib.hid hf
              clear hsn
              generalize firstOf (freeAt L) 1000 k = o at *
              by_cases ho : o < 0
              · go_wp2_with fail
                refine (hcl.out _ (by exact (by repeat (first | (with_reducible assumption) | (with_reducible exact Blk.new _ _ _) | exact Blk.newAt _ _ _ (by simp) | (with_reducible refine Blk.alloc ?_ _) | (with_reducible refine Blk.drew ?_) | (with_reducible refine Blk.drewN ?_ _) | refine Blk.far ?_ (by simp only []; omega) _ | refine Blk.rext ?_ (by assumption) (by omega) | refine Blk.ext ?_ (by assumption)))) (by exact HS.out.ext (by repeat (first | (with_reducible exact Ext.refl _) | (with_reducible assumption) | (with_reducible refine Ext.alloc ?_ _) | (with_reducible refine Ext.drewN ?_ _) | (with_reducible refine Ext.drew ?_) | (with_reducible refine Ext.setCell ?_ ?_ _; rotate_left; (simp only []; omega)) | (with_reducible refine Ext.trans ?_ (by assumption)))))).mono ?_
                rintro e w2 ⟨rfl, hx2⟩
                have B2 : Blk w2 w.heap.size 25 #[.slice a n c] := by refine Blk.ext ?_ hx2; exact (by repeat (first | (with_reducible assumption) | (with_reducible exact Blk.new _ _ _) | exact Blk.newAt _ _ _ (by simp) | (with_reducible refine Blk.alloc ?_ _) | (with_reducible refine Blk.drew ?_) | (with_reducible refine Blk.drewN ?_ _) | refine Blk.far ?_ (by simp only []; omega) _ | refine Blk.rext ?_ (by assumption) (by omega) | refine Blk.ext ?_ (by assumption)))
                have X2 : Ext w w2 := X.trans (by repeat (first | (with_reducible exact Ext.refl _) | (with_reducible assumption) | (with_reducible refine Ext.alloc ?_ _) | (with_reducible refine Ext.drewN ?_ _) | (with_reducible refine Ext.drew ?_) | (with_reducible refine Ext.setCell ?_ ?_ _; rotate_left; (simp only []; omega)) | (with_reducible refine Ext.trans ?_ (by assumption))))
                clear hx2
                go_wp2
                go_roundw
                case rel => exact ⟨k + 1, by omega, by congr 1 <;> omega, by rw [hfo.out, if_pos ho]; simp, (fun j h1 h2 => by
                  rcases Int.lt_or_le j (1000 + k) with h | h
                  · exact HA.out j h1 h
                  · have e : j = 1000 + k := by omega
                    rw [e]; simp [hp]), B2, X2⟩
                case measure => simp [intOf]; omega
              · go_wp2_with fail
                refine (hcl.out _ (by exact (by repeat (first | (with_reducible assumption) | (with_reducible exact Blk.new _ _ _) | exact Blk.newAt _ _ _ (by simp) | (with_reducible refine Blk.alloc ?_ _) | (with_reducible refine Blk.drew ?_) | (with_reducible refine Blk.drewN ?_ _) | refine Blk.far ?_ (by simp only []; omega) _ | refine Blk.rext ?_ (by assumption) (by omega) | refine Blk.ext ?_ (by assumption)))) (by exact HS.out.ext (by repeat (first | (with_reducible exact Ext.refl _) | (with_reducible assumption) | (with_reducible refine Ext.alloc ?_ _) | (with_reducible refine Ext.drewN ?_ _) | (with_reducible refine Ext.drew ?_) | (with_reducible refine Ext.setCell ?_ ?_ _; rotate_left; (simp only []; omega)) | (with_reducible refine Ext.trans ?_ (by assumption)))))).mono ?_
                rintro e w2 ⟨rfl, hx2⟩
                have B2 : Blk w2 w.heap.size 25 #[.slice a n c] := by refine Blk.ext ?_ hx2; exact (by repeat (first | (with_reducible assumption) | (with_reducible exact Blk.new _ _ _) | exact Blk.newAt _ _ _ (by simp) | (with_reducible refine Blk.alloc ?_ _) | (with_reducible refine Blk.drew ?_) | (with_reducible refine Blk.drewN ?_ _) | refine Blk.far ?_ (by simp only []; omega) _ | refine Blk.rext ?_ (by assumption) (by omega) | refine Blk.ext ?_ (by assumption)))
                have X2 : Ext w w2 := X.trans (by repeat (first | (with_reducible exact Ext.refl _) | (with_reducible assumption) | (with_reducible refine Ext.alloc ?_ _) | (with_reducible refine Ext.drewN ?_ _) | (with_reducible refine Ext.drew ?_) | (with_reducible refine Ext.setCell ?_ ?_ _; rotate_left; (simp only []; omega)) | (with_reducible refine Ext.trans ?_ (by assumption))))
                clear hx2
                go_wp2
                go_roundw
                case rel => exact ⟨k + 1, by omega, by congr 1 <;> omega, by rw [hfo.out, if_neg (by omega)], (fun j h1 h2 => by
                  rcases Int.lt_or_le j (1000 + k) with h | h
                  · exact HA.out j h1 h
                  · have e : j = 1000 + k := by omega
                    rw [e]; simp [hp]), B2, X2⟩
                case measure => simp [intOf]; omega
        · have e : k = 8 := by omega
          subst e
          have hfin := Lib.hid (show R = firstOf (freeAt L) 1000 8 by
            have h := firstOf_none (f := fun n => decide (n % 2 = want % 2) && freeAt L n) 8 1000 (fun j h1 h2 => HA.out j h1 (by omega))
            rw [HE.out, h, if_pos (by omega)])
          clear hsn t1 HE HA
          go_wp2
          go_ret
          exact ⟨ret_int hfin.out.symm, X⟩
    | false =>
      clear hi
      have B1 : Blk (w.alloc (.cells #[.slice a n c] 25)) w.heap.size 25 #[.slice a n c] := Blk.new _ _ _
      have X1 : Ext w (w.alloc (.cells #[.slice a n c] 25)) := (by repeat (first | (with_reducible exact Ext.refl _) | (with_reducible assumption) | (with_reducible refine Ext.alloc ?_ _) | (with_reducible refine Ext.drewN ?_ _) | (with_reducible refine Ext.drew ?_) | (with_reducible refine Ext.setCell ?_ ?_ _; rotate_left; (simp only []; omega)) | (with_reducible refine Ext.trans ?_ (by assumption))))
      go_enter Try.func163, Try.ntmps163
      go_wp2_with (go_at_call 132; refine (c1.out _).mono ?_; rintro e w' ⟨rfl, rfl⟩)
      clear c1 hC2
      go_loopw [6, 7] (fun v6 v7 wr => ∃ k : Nat, k ≤ 8 ∧ v7 = .int .i64 (1000 + k) ∧ v6 = .int .i64 (firstOf (freeAt L) 1000 k) ∧ (∀ j : Int, 1000 ≤ j → j < 1000 + k → (decide (j % 2 = want % 2) && freeAt L j) = false) ∧ Blk wr w.heap.size 25 #[.slice a n c] ∧ Ext w wr) (fun _ v7 _ => 8 - (intOf v7 - 1000).toNat)
      case atStart => exact ⟨0, by omega, by go_num, rfl, (fun j h1 h2 => by omega), B1, X1⟩
      case round =>
        clear B1 X1
        obtain ⟨k, hk, rfl, rfl, hall, B, X⟩ := hrel
        have HA := Lib.hid hall
        clear hall
        have t1 : (1000 + (k : Int)).tmod 2 = (1000 + (k : Int)) % 2 := Int.tmod_eq_emod_of_nonneg (by omega)
        have hsn := firstOf_snoc (freeAt L) k 1000 (by omega)
        by_cases hlt : k < 8
        · have hcl := fun W hB h => hC.out (1000 + k) W hB h
          have cB := B.cells
          have zB := B.lt
          cases hf : freeAt L (1000 + k) with
          | false =>
            rw [hf] at hcl hsn
            replace hcl := Lib.hid hcl
            have hfo := Lib.hid (show firstOf (freeAt L) 1000 (k + 1) = firstOf (freeAt L) 1000 k by
              rw [hsn]
              split
              · rcases firstOf_cases (freeAt L) k 1000 with ⟨h, _⟩ | ⟨h, _, _⟩
                · simp [h]
                · omega
              · rfl)
            replace hf := Lib.hid hf
            clear hsn
            generalize firstOf (freeAt L) 1000 k = o at *
            go_wp2_with fail
            refine (hcl.out _ (by exact (by repeat (first | (with_reducible assumption) | (with_reducible exact Blk.new _ _ _) | exact Blk.newAt _ _ _ (by simp) | (with_reducible refine Blk.alloc ?_ _) | (with_reducible refine Blk.drew ?_) | (with_reducible refine Blk.drewN ?_ _) | refine Blk.far ?_ (by simp only []; omega) _ | refine Blk.rext ?_ (by assumption) (by omega) | refine Blk.ext ?_ (by assumption)))) (by exact HS.out.ext (by repeat (first | (with_reducible exact Ext.refl _) | (with_reducible assumption) | (with_reducible refine Ext.alloc ?_ _) | (with_reducible refine Ext.drewN ?_ _) | (with_reducible refine Ext.drew ?_) | (with_reducible refine Ext.setCell ?_ ?_ _; rotate_left; (simp only []; omega)) | (with_reducible refine Ext.trans ?_ (by assumption)))))).mono ?_
            rintro e w2 ⟨rfl, hx2⟩
            have B2 : Blk w2 w.heap.size 25 #[.slice a n c] := by refine Blk.ext ?_ hx2; exact (by repeat (first | (with_reducible assumption) | (with_reducible exact Blk.new _ _ _) | exact Blk.newAt _ _ _ (by simp) | (with_reducible refine Blk.alloc ?_ _) | (with_reducible refine Blk.drew ?_) | (with_reducible refine Blk.drewN ?_ _) | refine Blk.far ?_ (by simp only []; omega) _ | refine Blk.rext ?_ (by assumption) (by omega) | refine Blk.ext ?_ (by assumption)))
            have X2 : Ext w w2 := X.trans (by repeat (first | (with_reducible exact Ext.refl _) | (with_reducible assumption) | (with_reducible refine Ext.alloc ?_ _) | (with_reducible refine Ext.drewN ?_ _) | (with_reducible refine Ext.drew ?_) | (with_reducible refine Ext.setCell ?_ ?_ _; rotate_left; (simp only []; omega)) | (with_reducible refine Ext.trans ?_ (by assumption))))
            clear hx2
            go_wp2
            go_roundw
            case rel => exact ⟨k + 1, by omega, by congr 1 <;> omega, by rw [hfo.out], (fun j h1 h2 => by
              rcases Int.lt_or_le j (1000 + k) with h | h
              · exact HA.out j h1 h
              · have e : j = 1000 + k := by omega
                rw [e, hf.out]; simp), B2, X2⟩
            case measure => simp [intOf]; omega
          | true =>
            rw [hf] at hcl hsn
            replace hcl := Lib.hid hcl
            by_cases hp : (1000 + (k : Int)) % 2 = want % 2
            · have hfin := Lib.hid (show R = 1000 + k by
                have h := firstOf_some (f := fun n => decide (n % 2 = want % 2) && freeAt L n) 8 1000 (1000 + k) (by omega) (by omega) HA.out (by simp [hf, hp])
                rw [HE.out, h, if_neg (by omega)])
              clear hsn
              generalize firstOf (freeAt L) 1000 k = o at *
              go_wp2_with fail
              refine (hcl.out _ (by exact (by repeat (first | (with_reducible assumption) | (with_reducible exact Blk.new _ _ _) | exact Blk.newAt _ _ _ (by simp) | (with_reducible refine Blk.alloc ?_ _) | (with_reducible refine Blk.drew ?_) | (with_reducible refine Blk.drewN ?_ _) | refine Blk.far ?_ (by simp only []; omega) _ | refine Blk.rext ?_ (by assumption) (by omega) | refine Blk.ext ?_ (by assumption)))) (by exact HS.out.ext (by repeat (first | (with_reducible exact Ext.refl _) | (with_reducible assumption) | (with_reducible refine Ext.alloc ?_ _) | (with_reducible refine Ext.drewN ?_ _) | (with_reducible refine Ext.drew ?_) | (with_reducible refine Ext.setCell ?_ ?_ _; rotate_left; (simp only []; omega)) | (with_reducible refine Ext.trans ?_ (by assumption)))))).mono ?_
              rintro e w2 ⟨rfl, hx2⟩
              have X2 : Ext w w2 := X.trans (by repeat (first | (with_reducible exact Ext.refl _) | (with_reducible assumption) | (with_reducible refine Ext.alloc ?_ _) | (with_reducible refine Ext.drewN ?_ _) | (with_reducible refine Ext.drew ?_) | (with_reducible refine Ext.setCell ?_ ?_ _; rotate_left; (simp only []; omega)) | (with_reducible refine Ext.trans ?_ (by assumption))))
              clear hx2
              go_wp2
              go_ret
              exact ⟨ret_int hfin.out.symm, X2⟩
            · have hfo := Lib.hid hsn
              replace hf := Lib.hid hf
              clear hsn
              generalize firstOf (freeAt L) 1000 k = o at *
              by_cases ho : o < 0
              · go_wp2_with fail
                refine (hcl.out _ (by exact (by repeat (first | (with_reducible assumption) | (with_reducible exact Blk.new _ _ _) | exact Blk.newAt _ _ _ (by simp) | (with_reducible refine Blk.alloc ?_ _) | (with_reducible refine Blk.drew ?_) | (with_reducible refine Blk.drewN ?_ _) | refine Blk.far ?_ (by simp only []; omega) _ | refine Blk.rext ?_ (by assumption) (by omega) | refine Blk.ext ?_ (by assumption)))) (by exact HS.out.ext (by repeat (first | (with_reducible exact Ext.refl _) | (with_reducible assumption) | (with_reducible refine Ext.alloc ?_ _) | (with_reducible refine Ext.drewN ?_ _) | (with_reducible refine Ext.drew ?_) | (with_reducible refine Ext.setCell ?_ ?_ _; rotate_left; (simp only []; omega)) | (with_reducible refine Ext.trans ?_ (by assumption)))))).mono ?_
                rintro e w2 ⟨rfl, hx2⟩
                have B2 : Blk w2 w.heap.size 25 #[.slice a n c] := by refine Blk.ext ?_ hx2; exact (by repeat (first | (with_reducible assumption) | (with_reducible exact Blk.new _ _ _) | exact Blk.newAt _ _ _ (by simp) | (with_reducible refine Blk.alloc ?_ _) | (with_reducible refine Blk.drew ?_) | (with_reducible refine Blk.drewN ?_ _) | refine Blk.far ?_ (by simp only []; omega) _ | refine Blk.rext ?_ (by assumption) (by omega) | refine Blk.ext ?_ (by assumption)))
                have X2 : Ext w w2 := X.trans (by repeat (first | (with_reducible exact Ext.refl _) | (with_reducible assumption) | (with_reducible refine Ext.alloc ?_ _) | (with_reducible refine Ext.drewN ?_ _) | (with_reducible refine Ext.drew ?_) | (with_reducible refine Ext.setCell ?_ ?_ _; rotate_left; (simp only []; omega)) | (with_reducible refine Ext.trans ?_ (by assumption))))
                clear hx2
                go_wp2
                go_roundw
                case rel => exact ⟨k + 1, by omega, by congr 1 <;> omega, by rw [hfo.out, if_pos ho]; simp, (fun j h1 h2 => by
                  rcases Int.lt_or_le j (1000 + k) with h | h
                  · exact HA.out j h1 h
                  · have e : j = 1000 + k := by omega
                    rw [e]; simp [hp]), B2, X2⟩
                case measure => simp [intOf]; omega
              · go_wp2_with fail
                refine (hcl.out _ (by exact (by repeat (first | (with_reducible assumption) | (with_reducible exact Blk.new _ _ _) | exact Blk.newAt _ _ _ (by simp) | (with_reducible refine Blk.alloc ?_ _) | (with_reducible refine Blk.drew ?_) | (with_reducible refine Blk.drewN ?_ _) | refine Blk.far ?_ (by simp only []; omega) _ | refine Blk.rext ?_ (by assumption) (by omega) | refine Blk.ext ?_ (by assumption)))) (by exact HS.out.ext (by repeat (first | (with_reducible exact Ext.refl _) | (with_reducible assumption) | (with_reducible refine Ext.alloc ?_ _) | (with_reducible refine Ext.drewN ?_ _) | (with_reducible refine Ext.drew ?_) | (with_reducible refine Ext.setCell ?_ ?_ _; rotate_left; (simp only []; omega)) | (with_reducible refine Ext.trans ?_ (by assumption)))))).mono ?_
                rintro e w2 ⟨rfl, hx2⟩
                have B2 : Blk w2 w.heap.size 25 #[.slice a n c] := by refine Blk.ext ?_ hx2; exact (by repeat (first | (with_reducible assumption) | (with_reducible exact Blk.new _ _ _) | exact Blk.newAt _ _ _ (by simp) | (with_reducible refine Blk.alloc ?_ _) | (with_reducible refine Blk.drew ?_) | (with_reducible refine Blk.drewN ?_ _) | refine Blk.far ?_ (by simp only []; omega) _ | refine Blk.rext ?_ (by assumption) (by omega) | refine Blk.ext ?_ (by assumption)))
                have X2 : Ext w w2 := X.trans (by repeat (first | (with_reducible exact Ext.refl _) | (with_reducible assumption) | (with_reducible refine Ext.alloc ?_ _) | (with_reducible refine Ext.drewN ?_ _) | (with_reducible refine Ext.drew ?_) | (with_reducible refine Ext.setCell ?_ ?_ _; rotate_left; (simp only []; omega)) | (with_reducible refine Ext.trans ?_ (by assumption))))
                clear hx2
                go_wp2
                go_roundw
                case rel => exact ⟨k + 1, by omega, by congr 1 <;> omega, by rw [hfo.out, if_neg (by omega)], (fun j h1 h2 => by
                  rcases Int.lt_or_le j (1000 + k) with h | h
                  · exact HA.out j h1 h
                  · have e : j = 1000 + k := by omega
                    rw [e]; simp [hp]), B2, X2⟩
                case measure => simp [intOf]; omega
        · have e : k = 8 := by omega
          subst e
          have hfin := Lib.hid (show R = firstOf (freeAt L) 1000 8 by
            have h := firstOf_none (f := fun n => decide (n % 2 = want % 2) && freeAt L n) 8 1000 (fun j h1 h2 => HA.out j h1 (by omega))
            rw [HE.out, h, if_pos (by omega)])
          clear hsn t1 HE HA
          go_wp2
          go_ret
          exact ⟨ret_int hfin.out.symm, X⟩
end Go.Proofs.Ytppdcglnopoocaa
/- Contracts: the first package's mapped ends. -/
namespace Go.Proofs.Ytppdcglnopoocaa
set_option linter.unusedVariables false
set_option linter.unusedSimpArgs false
open Go.RowKit

theorem wpList_append_full {P : Program} {t E : TypeId} {k bytes : Nat} {α : Type} {enc : α → List Value} {ops : Array Oper} {rest : List Oper} {o : Oper} {a : Act} {Q : Exit → Act → World → Prop} (w : World) (hgd : o.guard = none) (s x : Operand)
    (ho : o.op = .call { callee := .builtin .append, args := #[s, x], argTypes := #[t, t] }) (hE : EI P t E k bytes) (hk : ∀ x, (enc x).length = k) (hby : bytes ≤ 1024)
    (A : Option Addr) (n : Nat) (L : List α) (hs : a.eval s = .slice A n n) (hsl : Sl enc k w A n n L) (b : Nat) (y : α) (hx : a.eval x = .slice (some ⟨b, 0, none⟩) 1 1) (hy : Sl enc k w (some ⟨b, 0, none⟩) 1 1 [y]) (hn : n ≤ 1048576)
    (h : ∀ a' c' w', Ow E enc k w.heap.size w' a' (n + 1) c' (L ++ [y]) → Ext w w' → wpList P ops Q rest (a.put o.dst (.slice a' (n + 1) c')) w') : wpList P ops Q (o :: rest) a w := by
  obtain ⟨a', c', w', hr, h2, h3⟩ := run_append_full (P := P) w hE hk o.type A n L hsl y b (fun j u hu => by
    obtain ⟨b', off, e, _, hc⟩ := hy.at_ (by omega)
    injection e with e
    injection e with e1 e2
    subst e1; subst e2
    have := hc 0 y rfl j u hu
    rw [← this]
    congr 2
    omega) hn hby
  refine wpList_plain hgd fun _ hK => ?_
  unfold Oper.wp execOp
  simp only [ho, resolve, invoke, builtin, Sem.run_bind, Sem.run_pure, Result.andThen_ok, List.map_toArray, List.map_cons, List.map_nil, hs, hx, hr]
  exact hK _ _ (h a' c' w' h2 h3)
theorem Ow.form {α : Type} {E : TypeId} {enc : α → List Value} {k base : Nat} {w : World} {a : Option Addr} {n c : Nat} {L : List α} (h : Ow E enc k base w a n c L) (hn : 0 < n) : ∃ g, a = some ⟨g, 0, none⟩ := by
  rcases h.2 with ⟨_, e, _⟩ | ⟨g, cur, e, _⟩
  · omega
  · exact ⟨g, e⟩
theorem Ow.blk {α : Type} {E : TypeId} {enc : α → List Value} {k base : Nat} {w : World} {g n c : Nat} {L : List α} (h : Ow E enc k base w (some ⟨g, 0, none⟩) n c L) : ∃ cur, Blk w g E cur := by
  rcases h.2 with ⟨e, _⟩ | ⟨g', cur, e, hb, hg, _⟩
  · cases e
  · injection e with e1
    injection e1 with e1
    subst e1
    exact ⟨cur, hg⟩
theorem Ow.setLast {E : TypeId} {base : Nat} {w : World} {g n c : Nat} {L : List MapD} (h : Ow E encM 4 base w (some ⟨g, 0, none⟩) n c L) {k : Nat} (hk : k < n) (v : Int) :
    Ow E encM 4 base (w.setCell ⟨g, k * 4 + 3, none⟩ (.int .i64 v)) (some ⟨g, 0, none⟩) n c (L.set k { nth L k with last := v }) := by
  have hl := h.1
  rcases h.2 with ⟨e, _⟩ | ⟨g', cur, e, hb, hg, hnc, hcm, hcs, ht⟩
  · cases e
  · injection e with e1
    injection e1 with e1
    subst e1
    refine ⟨by simp [hl], .inr ⟨g, cur.setIfInBounds (k * 4 + 3) (.int .i64 v), rfl, hb, Blk.set (show Blk w g E cur from hg) _ _, hnc, hcm, by simpa using hcs, ?_⟩⟩
    rw [Array.toList_setIfInBounds, List.take_set, ht, flat_setLast v L k (by omega)]
set_option maxHeartbeats 1000000 in
theorem impl_MapEnd_some (a : Option Addr) (n c : Nat) (L : List MapD) (x : EndD) (now : Int) (w : World) (hs : Sl encM 4 w a n c L) (hn : n ≤ 1000) (hv : validTable L = true) (hx : validEnd x = true) (ht : inR now 0 10000 = true) (T : List MapD) (p : Int) (hm : mapEnd L x now = some (T, p)) :
    Calls Try.prog 135 #[.slice a n c, .agg #[.int .i64 x.addr, .int .i64 x.port], .int .i64 now] w fun r w' => ∃ a' m, r = .returned (.tuple #[.slice a' m m, .int .i64 p, .bool true]) ∧ Ow 89 encM 4 w.heap.size w' a' m m T ∧ Ext w w' := by
  have hlen := hs.len
  have cE := fun W h => impl_byEnd x a n c L W h
  have c1 := fun W h => impl_ValidTable a n c L W h
  have c2 := fun W => impl_End_valid' x W
  have c3 : ∀ W, Calls Try.prog 133 #[.int .i64 now] W fun e w' => e = .returned (.bool (inR now 0 10000)) ∧ Ext W w' := fun W => (impl_isTime now W).mono fun _ _ h => ⟨h.1, h.2 ▸ Ext.refl _⟩
  have hp : 0 ≤ x.port ∧ x.port ≤ 65535 := by
    simp only [validEnd, word, Bool.and_eq_true, inR_iff] at hx
    exact hx.2
  rw [hv] at c1
  rw [hx] at c2
  rw [ht] at c3
  replace c1 := Lib.hid c1
  replace c2 := Lib.hid c2
  replace c3 := Lib.hid c3
  have XU := Ext.refl w
  clear hv hx ht
  by_cases hb : 0 ≤ byEnd L x
  · obtain ⟨k, m, e1, e2, e3, e4⟩ := byEnd_some hb
    have hk : k < n := by have := (List.getElem?_eq_some_iff.1 e2).1; omega
    have hT : T = L.set k { nth L k with last := max (nth L k).last now } ∧ p = (nth L k).port := by
      unfold mapEnd at hm
      rw [if_pos hb, e1] at hm
      simp only [Int.toNat_natCast, Option.some.injEq, Prod.mk.injEq] at hm
      exact ⟨hm.1.symm, hm.2.symm⟩
    obtain ⟨rfl, rfl⟩ := hT
    rw [e1] at cE
    replace cE := Lib.hid cE
    have hmn := hs.max
    have hle := hs.le
    clear hm e1 e2 e3 e4 hb
    go_enter Try.func135, Try.ntmps135
    go_wp2_with fail
    refine (c1.out _ (by exact hs.ext (by repeat (first | (with_reducible exact Ext.refl _) | (with_reducible assumption) | (with_reducible refine Ext.alloc ?_ _) | (with_reducible refine Ext.drewN ?_ _) | (with_reducible refine Ext.drew ?_) | (with_reducible refine Ext.setCell ?_ ?_ _; rotate_left; (simp only []; omega)) | (with_reducible refine Ext.trans ?_ (by assumption)))))).mono ?_
    rintro e w1 ⟨rfl, hx1⟩
    have hy1 := hx1.size
    (try simp at hy1)
    have eW1 := useE (fun (h : Ext _ w1) => hs.ext h) (by repeat (first | (with_reducible exact Ext.refl _) | (with_reducible assumption) | (with_reducible refine Ext.alloc ?_ _) | (with_reducible refine Ext.drewN ?_ _) | (with_reducible refine Ext.drew ?_) | (with_reducible refine Ext.setCell ?_ ?_ _; rotate_left; (simp only []; omega)) | (with_reducible refine Ext.trans ?_ (by assumption))))
    replace hs := hs.ext eW1
    have BE : Blk w1 w.heap.size 30 #[.int .i64 x.addr, .int .i64 x.port] := by refine Blk.ext ?_ hx1; exact (by repeat (first | (with_reducible assumption) | (with_reducible exact Blk.new _ _ _) | exact Blk.newAt _ _ _ (by simp) | (with_reducible refine Blk.alloc ?_ _) | (with_reducible refine Blk.drew ?_) | (with_reducible refine Blk.drewN ?_ _) | refine Blk.far ?_ (by simp only []; omega) _ | refine Blk.rext ?_ (by assumption) (by omega) | refine Blk.ext ?_ (by assumption)))
    replace XU := XU.ext eW1
    have cBE := BE.cells
    have fBE := BE.frozens
    have zBE := BE.lt
    go_wp2_with fail
    refine (c2.out _).mono ?_
    rintro e w2 ⟨rfl, hx2⟩
    have hy2 := hx2.size
    (try simp at hy2)
    have eW2 := useE (fun (h : Ext _ w2) => hs.ext h) (by repeat (first | (with_reducible exact Ext.refl _) | (with_reducible assumption) | (with_reducible refine Ext.alloc ?_ _) | (with_reducible refine Ext.drewN ?_ _) | (with_reducible refine Ext.drew ?_) | (with_reducible refine Ext.setCell ?_ ?_ _; rotate_left; (simp only []; omega)) | (with_reducible refine Ext.trans ?_ (by assumption))))
    replace hs := hs.ext eW2
    clear cBE fBE zBE
    replace BE := BE.ext eW2
    replace XU := XU.ext eW2
    have cBE := BE.cells
    have fBE := BE.frozens
    have zBE := BE.lt
    go_wp2_with fail
    refine (c3.out _).mono ?_
    rintro e w3 ⟨rfl, hx3⟩
    have hy3 := hx3.size
    (try simp at hy3)
    have eW3 := useE (fun (h : Ext _ w3) => hs.ext h) (by repeat (first | (with_reducible exact Ext.refl _) | (with_reducible assumption) | (with_reducible refine Ext.alloc ?_ _) | (with_reducible refine Ext.drewN ?_ _) | (with_reducible refine Ext.drew ?_) | (with_reducible refine Ext.setCell ?_ ?_ _; rotate_left; (simp only []; omega)) | (with_reducible refine Ext.trans ?_ (by assumption))))
    replace hs := hs.ext eW3
    clear cBE fBE zBE
    replace BE := BE.ext eW3
    replace XU := XU.ext eW3
    have cBE := BE.cells
    have fBE := BE.frozens
    have zBE := BE.lt
    go_wp2_with fail
    refine (impl_clone_M a n c L _ (by exact hs.ext (by repeat (first | (with_reducible exact Ext.refl _) | (with_reducible assumption) | (with_reducible refine Ext.alloc ?_ _) | (with_reducible refine Ext.drewN ?_ _) | (with_reducible refine Ext.drew ?_) | (with_reducible refine Ext.setCell ?_ ?_ _; rotate_left; (simp only []; omega)) | (with_reducible refine Ext.trans ?_ (by assumption))))) (by omega)).mono ?_
    rintro e w4 ⟨a4, rfl, O4, hx4⟩
    have hy4 := hx4.size
    (try simp at hy4)
    have eW4 := useE (fun (h : Ext _ w4) => hs.ext h) (by repeat (first | (with_reducible exact Ext.refl _) | (with_reducible assumption) | (with_reducible refine Ext.alloc ?_ _) | (with_reducible refine Ext.drewN ?_ _) | (with_reducible refine Ext.drew ?_) | (with_reducible refine Ext.setCell ?_ ?_ _; rotate_left; (simp only []; omega)) | (with_reducible refine Ext.trans ?_ (by assumption))))
    replace hs := hs.ext eW4
    clear cBE fBE zBE
    replace BE := BE.ext eW4
    replace XU := XU.ext eW4
    have cBE := BE.cells
    have fBE := BE.frozens
    have zBE := BE.lt
    go_wp2_with fail
    refine (cE.out _ (by exact hs.ext (by repeat (first | (with_reducible exact Ext.refl _) | (with_reducible assumption) | (with_reducible refine Ext.alloc ?_ _) | (with_reducible refine Ext.drewN ?_ _) | (with_reducible refine Ext.drew ?_) | (with_reducible refine Ext.setCell ?_ ?_ _; rotate_left; (simp only []; omega)) | (with_reducible refine Ext.trans ?_ (by assumption)))))).mono ?_
    rintro e w5 ⟨rfl, hx5⟩
    have hy5 := hx5.size
    (try simp at hy5)
    have eW5 := useE (fun (h : Ext _ w5) => hs.ext h) (by repeat (first | (with_reducible exact Ext.refl _) | (with_reducible assumption) | (with_reducible refine Ext.alloc ?_ _) | (with_reducible refine Ext.drewN ?_ _) | (with_reducible refine Ext.drew ?_) | (with_reducible refine Ext.setCell ?_ ?_ _; rotate_left; (simp only []; omega)) | (with_reducible refine Ext.trans ?_ (by assumption))))
    replace hs := hs.ext eW5
    clear cBE fBE zBE
    replace BE := BE.ext eW5
    replace O4 := O4.ext eW5
    replace XU := XU.ext eW5
    have cBE := BE.cells
    have fBE := BE.frozens
    have zBE := BE.lt
    replace O4 := O4.rebase (b' := w.heap.size) (by (try simp); (try omega))
    obtain ⟨g3, rfl⟩ := O4.form (by omega)
    obtain ⟨cur, BR⟩ := O4.blk
    have fR := BR.frozens
    have zR := BR.lt
    obtain ⟨_, b, off, eab, hb, hc⟩ := ((O4.sl encM_len).maps).resolve_left (by omega)
    injection eab with eab
    injection eab with eb eo
    subst eb; subst eo
    simp only [Nat.zero_add] at hc
    obtain ⟨d0, d1, d2, d3⟩ := hc k hk
    have lR := (O4.lt _ rfl).1
    simp only [] at lR
    have hfin := Lib.hid (O4.setLast hk (max (nth L k).last now))
    have HX := Lib.hid XU
    clear hx1 hx2 hx3 hx4 hx5 O4 BR hc XU cBE fBE zBE BE
    go_wp2_with fail
    have hdrS : ∀ W : World, W.drew.heap.size = W.heap.size := fun _ => rfl
    refine wp_region_eager (R := Ext) [0, 1, 2, 3, 4, 5, 6, 7, 8] (by kernel_rfl) (by kernel_rfl) Ext.refl (fun _ _ _ => Ext.trans) ?_
    repeat' (first
      | (refine ChX.skip (by rfl) (by rfl) ?_
         (try simp only [Act.put, List.setIfInBounds_toArray, List.set_cons_zero, List.set_cons_succ]))
      | (refine' ChX.quiet (v := _) (by rfl) (by rfl) (by rfl) ?_ ?_
         rotate_left
         · (intro wS hS
            have hcS := Ext.cells hS
            go_simp
            with_reducible rfl)
         (try simp only [Act.put, List.setIfInBounds_toArray, List.set_cons_zero, List.set_cons_succ]))
      | (refine ChX.nil ?_)
      | (refine' ChX.guard (x := _) (by rfl) ?_ ?_ ?_
         rotate_left
         · (go_simp
            rfl)
         all_goals
           intro hg
           simp only [hg])
      | (refine' ChX.guardN (x := _) (by rfl) ?_ ?_ ?_
         rotate_left
         · (go_simp
            rfl)
         all_goals
           intro hg
           simp only [hg]))
    go_wp2
    refine' bodyPost_ret (v := _) ?_ rfl ?_
    rotate_left
    · (simp only [results, Try.results135]
       go_simp
       rfl)
    exact ⟨some ⟨g3, 0, none⟩, n, rfl, hfin.out.ext ((Ext.refl _).drew), ((HX.out).setCell (show w.heap.size ≤ g3 by omega) _).drew⟩
  · have hb2 := byEnd_neg hb
    have hq : ¬ freePort L x.port < 0 ∧ T = L ++ [⟨x, freePort L x.port, now⟩] ∧ p = freePort L x.port := by
      unfold mapEnd at hm
      rw [if_neg hb] at hm
      by_cases hf : freePort L x.port < 0
      · rw [if_pos hf] at hm; cases hm
      · rw [if_neg hf] at hm
        simp only [Option.some.injEq, Prod.mk.injEq] at hm
        exact ⟨hf, hm.1.symm, hm.2.symm⟩
    have cF := fun W h => impl_freePort a n c L x.port W h hp.1 hp.2
    rw [hb2.1] at cE
    obtain ⟨hq1, rfl, rfl⟩ := hq
    clear hm hb hb2
    generalize freePort L x.port = q at *
    replace cE := Lib.hid cE
    replace cF := Lib.hid cF
    have hmn := hs.max
    have hle := hs.le
    go_enter Try.func135, Try.ntmps135
    go_wp2_with fail
    refine (c1.out _ (by exact hs.ext (by repeat (first | (with_reducible exact Ext.refl _) | (with_reducible assumption) | (with_reducible refine Ext.alloc ?_ _) | (with_reducible refine Ext.drewN ?_ _) | (with_reducible refine Ext.drew ?_) | (with_reducible refine Ext.setCell ?_ ?_ _; rotate_left; (simp only []; omega)) | (with_reducible refine Ext.trans ?_ (by assumption)))))).mono ?_
    rintro e w1 ⟨rfl, hx1⟩
    have hy1 := hx1.size
    (try simp at hy1)
    have eW1 := useE (fun (h : Ext _ w1) => hs.ext h) (by repeat (first | (with_reducible exact Ext.refl _) | (with_reducible assumption) | (with_reducible refine Ext.alloc ?_ _) | (with_reducible refine Ext.drewN ?_ _) | (with_reducible refine Ext.drew ?_) | (with_reducible refine Ext.setCell ?_ ?_ _; rotate_left; (simp only []; omega)) | (with_reducible refine Ext.trans ?_ (by assumption))))
    replace hs := hs.ext eW1
    have BE : Blk w1 w.heap.size 30 #[.int .i64 x.addr, .int .i64 x.port] := by refine Blk.ext ?_ hx1; exact (by repeat (first | (with_reducible assumption) | (with_reducible exact Blk.new _ _ _) | exact Blk.newAt _ _ _ (by simp) | (with_reducible refine Blk.alloc ?_ _) | (with_reducible refine Blk.drew ?_) | (with_reducible refine Blk.drewN ?_ _) | refine Blk.far ?_ (by simp only []; omega) _ | refine Blk.rext ?_ (by assumption) (by omega) | refine Blk.ext ?_ (by assumption)))
    replace XU := XU.ext eW1
    have cBE := BE.cells
    have fBE := BE.frozens
    have zBE := BE.lt
    go_wp2_with fail
    refine (c2.out _).mono ?_
    rintro e w2 ⟨rfl, hx2⟩
    have hy2 := hx2.size
    (try simp at hy2)
    have eW2 := useE (fun (h : Ext _ w2) => hs.ext h) (by repeat (first | (with_reducible exact Ext.refl _) | (with_reducible assumption) | (with_reducible refine Ext.alloc ?_ _) | (with_reducible refine Ext.drewN ?_ _) | (with_reducible refine Ext.drew ?_) | (with_reducible refine Ext.setCell ?_ ?_ _; rotate_left; (simp only []; omega)) | (with_reducible refine Ext.trans ?_ (by assumption))))
    replace hs := hs.ext eW2
    clear cBE fBE zBE
    replace BE := BE.ext eW2
    replace XU := XU.ext eW2
    have cBE := BE.cells
    have fBE := BE.frozens
    have zBE := BE.lt
    go_wp2_with fail
    refine (c3.out _).mono ?_
    rintro e w3 ⟨rfl, hx3⟩
    have hy3 := hx3.size
    (try simp at hy3)
    have eW3 := useE (fun (h : Ext _ w3) => hs.ext h) (by repeat (first | (with_reducible exact Ext.refl _) | (with_reducible assumption) | (with_reducible refine Ext.alloc ?_ _) | (with_reducible refine Ext.drewN ?_ _) | (with_reducible refine Ext.drew ?_) | (with_reducible refine Ext.setCell ?_ ?_ _; rotate_left; (simp only []; omega)) | (with_reducible refine Ext.trans ?_ (by assumption))))
    replace hs := hs.ext eW3
    clear cBE fBE zBE
    replace BE := BE.ext eW3
    replace XU := XU.ext eW3
    have cBE := BE.cells
    have fBE := BE.frozens
    have zBE := BE.lt
    go_wp2_with fail
    refine (impl_clone_M a n c L _ (by exact hs.ext (by repeat (first | (with_reducible exact Ext.refl _) | (with_reducible assumption) | (with_reducible refine Ext.alloc ?_ _) | (with_reducible refine Ext.drewN ?_ _) | (with_reducible refine Ext.drew ?_) | (with_reducible refine Ext.setCell ?_ ?_ _; rotate_left; (simp only []; omega)) | (with_reducible refine Ext.trans ?_ (by assumption))))) (by omega)).mono ?_
    rintro e w4 ⟨a4, rfl, O4, hx4⟩
    have hy4 := hx4.size
    (try simp at hy4)
    have eW4 := useE (fun (h : Ext _ w4) => hs.ext h) (by repeat (first | (with_reducible exact Ext.refl _) | (with_reducible assumption) | (with_reducible refine Ext.alloc ?_ _) | (with_reducible refine Ext.drewN ?_ _) | (with_reducible refine Ext.drew ?_) | (with_reducible refine Ext.setCell ?_ ?_ _; rotate_left; (simp only []; omega)) | (with_reducible refine Ext.trans ?_ (by assumption))))
    replace hs := hs.ext eW4
    clear cBE fBE zBE
    replace BE := BE.ext eW4
    replace XU := XU.ext eW4
    have cBE := BE.cells
    have fBE := BE.frozens
    have zBE := BE.lt
    have z4 : w.heap.size ≤ w4.heap.size := by have := XU.size; omega
    go_wp2_with fail
    refine (cE.out _ (by exact hs.ext (by repeat (first | (with_reducible exact Ext.refl _) | (with_reducible assumption) | (with_reducible refine Ext.alloc ?_ _) | (with_reducible refine Ext.drewN ?_ _) | (with_reducible refine Ext.drew ?_) | (with_reducible refine Ext.setCell ?_ ?_ _; rotate_left; (simp only []; omega)) | (with_reducible refine Ext.trans ?_ (by assumption)))))).mono ?_
    rintro e w5 ⟨rfl, hx5⟩
    have hy5 := hx5.size
    (try simp at hy5)
    have eW5 := useE (fun (h : Ext _ w5) => hs.ext h) (by repeat (first | (with_reducible exact Ext.refl _) | (with_reducible assumption) | (with_reducible refine Ext.alloc ?_ _) | (with_reducible refine Ext.drewN ?_ _) | (with_reducible refine Ext.drew ?_) | (with_reducible refine Ext.setCell ?_ ?_ _; rotate_left; (simp only []; omega)) | (with_reducible refine Ext.trans ?_ (by assumption))))
    replace hs := hs.ext eW5
    clear cBE fBE zBE
    replace BE := BE.ext eW5
    replace O4 := O4.ext eW5
    replace XU := XU.ext eW5
    have cBE := BE.cells
    have fBE := BE.frozens
    have zBE := BE.lt
    go_wp2_with fail
    refine (cF.out _ (by exact hs.ext (by repeat (first | (with_reducible exact Ext.refl _) | (with_reducible assumption) | (with_reducible refine Ext.alloc ?_ _) | (with_reducible refine Ext.drewN ?_ _) | (with_reducible refine Ext.drew ?_) | (with_reducible refine Ext.setCell ?_ ?_ _; rotate_left; (simp only []; omega)) | (with_reducible refine Ext.trans ?_ (by assumption)))))).mono ?_
    rintro e w6 ⟨rfl, hx6⟩
    have hy6 := hx6.size
    (try simp at hy6)
    have eW6 := useE (fun (h : Ext _ w6) => hs.ext h) (by repeat (first | (with_reducible exact Ext.refl _) | (with_reducible assumption) | (with_reducible refine Ext.alloc ?_ _) | (with_reducible refine Ext.drewN ?_ _) | (with_reducible refine Ext.drew ?_) | (with_reducible refine Ext.setCell ?_ ?_ _; rotate_left; (simp only []; omega)) | (with_reducible refine Ext.trans ?_ (by assumption))))
    replace hs := hs.ext eW6
    clear cBE fBE zBE
    replace BE := BE.ext eW6
    replace O4 := O4.ext eW6
    replace XU := XU.ext eW6
    have cBE := BE.cells
    have fBE := BE.frozens
    have zBE := BE.lt
    have z6 := XU.size
    clear hx1 hx2 hx3 hx4 hx5 hx6
    go_wp2_with (at_builtin; refine wpList_append_full _ rfl _ _ rfl (by with_reducible exact eiM) encM_len (by omega) a4 n L rfl (by exact (O4.sl encM_len).ext (show Ext w6 _ from (by repeat (first | (with_reducible exact Ext.refl _) | (with_reducible assumption) | (with_reducible refine Ext.alloc ?_ _) | (with_reducible refine Ext.drewN ?_ _) | (with_reducible refine Ext.drew ?_) | (with_reducible refine Ext.setCell ?_ ?_ _; rotate_left; (simp only []; omega)) | (with_reducible refine Ext.trans ?_ (by assumption)))))) _ (⟨x, q, now⟩ : MapD) rfl (by first | exact Sl.lit1 _ _ (⟨x, q, now⟩ : MapD) _ rfl rfl | (refine Sl.ext ?_ ((Ext.refl _).drew); exact Sl.lit1 _ _ (⟨x, q, now⟩ : MapD) _ rfl rfl)) (by omega) ?_; intro a7 c7 w7 O7 hx7; (have X7 : Ext w w7 := XU.trans (show Ext w6 w7 from (by repeat (first | (with_reducible exact Ext.refl _) | (with_reducible assumption) | (with_reducible refine Ext.alloc ?_ _) | (with_reducible refine Ext.drewN ?_ _) | (with_reducible refine Ext.drew ?_) | (with_reducible refine Ext.setCell ?_ ?_ _; rotate_left; (simp only []; omega)) | (with_reducible refine Ext.trans ?_ (by assumption)))))); (replace O7 := O7.rebase (b' := w.heap.size) (by (try simp); (try omega))))
    refine (Clip_M a7 (n + 1) c7 _ _ _ O7 (by omega)).mono ?_
    rintro e w8 ⟨rfl, rfl⟩
    go_wp2
    refine' bodyPost_ret (v := _) ?_ rfl ?_
    rotate_left
    · (simp only [results, Try.results135]
       go_simp
       rfl)
    exact ⟨a7, n + 1, rfl, O7.clip, X7⟩
set_option maxHeartbeats 1000000 in
theorem impl_MapEnd_none (a : Option Addr) (n c : Nat) (L : List MapD) (x : EndD) (now : Int) (w : World) (hs : Sl encM 4 w a n c L) (hn : n ≤ 1000) (hv : validTable L = true) (hx : validEnd x = true) (ht : inR now 0 10000 = true) (hm : mapEnd L x now = none) :
    Calls Try.prog 135 #[.slice a n c, .agg #[.int .i64 x.addr, .int .i64 x.port], .int .i64 now] w fun r w' => r = .returned (.tuple #[.slice none 0 0, .int .i64 (-1), .bool false]) ∧ Ext w w' := by
  have hlen := hs.len
  have cE := fun W h => impl_byEnd x a n c L W h
  have c1 := fun W h => impl_ValidTable a n c L W h
  have c2 := fun W => impl_End_valid' x W
  have c3 : ∀ W, Calls Try.prog 133 #[.int .i64 now] W fun e w' => e = .returned (.bool (inR now 0 10000)) ∧ Ext W w' := fun W => (impl_isTime now W).mono fun _ _ h => ⟨h.1, h.2 ▸ Ext.refl _⟩
  have hp : 0 ≤ x.port ∧ x.port ≤ 65535 := by
    simp only [validEnd, word, Bool.and_eq_true, inR_iff] at hx
    exact hx.2
  rw [hv] at c1
  rw [hx] at c2
  rw [ht] at c3
  replace c1 := Lib.hid c1
  replace c2 := Lib.hid c2
  replace c3 := Lib.hid c3
  have XU := Ext.refl w
  clear hv hx ht
  have hb : ¬ 0 ≤ byEnd L x := by
    intro hb
    unfold mapEnd at hm
    rw [if_pos hb] at hm
    cases hm
  have hb2 := byEnd_neg hb
  have hq1 : freePort L x.port < 0 := by
    unfold mapEnd at hm
    rw [if_neg hb] at hm
    by_cases hf : freePort L x.port < 0
    · exact hf
    · rw [if_neg hf] at hm; cases hm
  have cF := fun W h => impl_freePort a n c L x.port W h hp.1 hp.2
  rw [hb2.1] at cE
  clear hm hb hb2
  generalize freePort L x.port = q at *
  replace cE := Lib.hid cE
  replace cF := Lib.hid cF
  have hmn := hs.max
  have hle := hs.le
  go_enter Try.func135, Try.ntmps135
  go_wp2_with fail
  refine (c1.out _ (by exact hs.ext (by repeat (first | (with_reducible exact Ext.refl _) | (with_reducible assumption) | (with_reducible refine Ext.alloc ?_ _) | (with_reducible refine Ext.drewN ?_ _) | (with_reducible refine Ext.drew ?_) | (with_reducible refine Ext.setCell ?_ ?_ _; rotate_left; (simp only []; omega)) | (with_reducible refine Ext.trans ?_ (by assumption)))))).mono ?_
  rintro e w1 ⟨rfl, hx1⟩
  have hy1 := hx1.size
  (try simp at hy1)
  have eW1 := useE (fun (h : Ext _ w1) => hs.ext h) (by repeat (first | (with_reducible exact Ext.refl _) | (with_reducible assumption) | (with_reducible refine Ext.alloc ?_ _) | (with_reducible refine Ext.drewN ?_ _) | (with_reducible refine Ext.drew ?_) | (with_reducible refine Ext.setCell ?_ ?_ _; rotate_left; (simp only []; omega)) | (with_reducible refine Ext.trans ?_ (by assumption))))
  replace hs := hs.ext eW1
  have BE : Blk w1 w.heap.size 30 #[.int .i64 x.addr, .int .i64 x.port] := by refine Blk.ext ?_ hx1; exact (by repeat (first | (with_reducible assumption) | (with_reducible exact Blk.new _ _ _) | exact Blk.newAt _ _ _ (by simp) | (with_reducible refine Blk.alloc ?_ _) | (with_reducible refine Blk.drew ?_) | (with_reducible refine Blk.drewN ?_ _) | refine Blk.far ?_ (by simp only []; omega) _ | refine Blk.rext ?_ (by assumption) (by omega) | refine Blk.ext ?_ (by assumption)))
  replace XU := XU.ext eW1
  have cBE := BE.cells
  have fBE := BE.frozens
  have zBE := BE.lt
  go_wp2_with fail
  refine (c2.out _).mono ?_
  rintro e w2 ⟨rfl, hx2⟩
  have hy2 := hx2.size
  (try simp at hy2)
  have eW2 := useE (fun (h : Ext _ w2) => hs.ext h) (by repeat (first | (with_reducible exact Ext.refl _) | (with_reducible assumption) | (with_reducible refine Ext.alloc ?_ _) | (with_reducible refine Ext.drewN ?_ _) | (with_reducible refine Ext.drew ?_) | (with_reducible refine Ext.setCell ?_ ?_ _; rotate_left; (simp only []; omega)) | (with_reducible refine Ext.trans ?_ (by assumption))))
  replace hs := hs.ext eW2
  clear cBE fBE zBE
  replace BE := BE.ext eW2
  replace XU := XU.ext eW2
  have cBE := BE.cells
  have fBE := BE.frozens
  have zBE := BE.lt
  go_wp2_with fail
  refine (c3.out _).mono ?_
  rintro e w3 ⟨rfl, hx3⟩
  have hy3 := hx3.size
  (try simp at hy3)
  have eW3 := useE (fun (h : Ext _ w3) => hs.ext h) (by repeat (first | (with_reducible exact Ext.refl _) | (with_reducible assumption) | (with_reducible refine Ext.alloc ?_ _) | (with_reducible refine Ext.drewN ?_ _) | (with_reducible refine Ext.drew ?_) | (with_reducible refine Ext.setCell ?_ ?_ _; rotate_left; (simp only []; omega)) | (with_reducible refine Ext.trans ?_ (by assumption))))
  replace hs := hs.ext eW3
  clear cBE fBE zBE
  replace BE := BE.ext eW3
  replace XU := XU.ext eW3
  have cBE := BE.cells
  have fBE := BE.frozens
  have zBE := BE.lt
  go_wp2_with fail
  refine (impl_clone_M a n c L _ (by exact hs.ext (by repeat (first | (with_reducible exact Ext.refl _) | (with_reducible assumption) | (with_reducible refine Ext.alloc ?_ _) | (with_reducible refine Ext.drewN ?_ _) | (with_reducible refine Ext.drew ?_) | (with_reducible refine Ext.setCell ?_ ?_ _; rotate_left; (simp only []; omega)) | (with_reducible refine Ext.trans ?_ (by assumption))))) (by omega)).mono ?_
  rintro e w4 ⟨a4, rfl, O4, hx4⟩
  have hy4 := hx4.size
  (try simp at hy4)
  have eW4 := useE (fun (h : Ext _ w4) => hs.ext h) (by repeat (first | (with_reducible exact Ext.refl _) | (with_reducible assumption) | (with_reducible refine Ext.alloc ?_ _) | (with_reducible refine Ext.drewN ?_ _) | (with_reducible refine Ext.drew ?_) | (with_reducible refine Ext.setCell ?_ ?_ _; rotate_left; (simp only []; omega)) | (with_reducible refine Ext.trans ?_ (by assumption))))
  replace hs := hs.ext eW4
  clear cBE fBE zBE
  replace BE := BE.ext eW4
  replace XU := XU.ext eW4
  have cBE := BE.cells
  have fBE := BE.frozens
  have zBE := BE.lt
  clear O4
  go_wp2_with fail
  refine (cE.out _ (by exact hs.ext (by repeat (first | (with_reducible exact Ext.refl _) | (with_reducible assumption) | (with_reducible refine Ext.alloc ?_ _) | (with_reducible refine Ext.drewN ?_ _) | (with_reducible refine Ext.drew ?_) | (with_reducible refine Ext.setCell ?_ ?_ _; rotate_left; (simp only []; omega)) | (with_reducible refine Ext.trans ?_ (by assumption)))))).mono ?_
  rintro e w5 ⟨rfl, hx5⟩
  have hy5 := hx5.size
  (try simp at hy5)
  have eW5 := useE (fun (h : Ext _ w5) => hs.ext h) (by repeat (first | (with_reducible exact Ext.refl _) | (with_reducible assumption) | (with_reducible refine Ext.alloc ?_ _) | (with_reducible refine Ext.drewN ?_ _) | (with_reducible refine Ext.drew ?_) | (with_reducible refine Ext.setCell ?_ ?_ _; rotate_left; (simp only []; omega)) | (with_reducible refine Ext.trans ?_ (by assumption))))
  replace hs := hs.ext eW5
  clear cBE fBE zBE
  replace BE := BE.ext eW5
  replace XU := XU.ext eW5
  have cBE := BE.cells
  have fBE := BE.frozens
  have zBE := BE.lt
  go_wp2_with fail
  refine (cF.out _ (by exact hs.ext (by repeat (first | (with_reducible exact Ext.refl _) | (with_reducible assumption) | (with_reducible refine Ext.alloc ?_ _) | (with_reducible refine Ext.drewN ?_ _) | (with_reducible refine Ext.drew ?_) | (with_reducible refine Ext.setCell ?_ ?_ _; rotate_left; (simp only []; omega)) | (with_reducible refine Ext.trans ?_ (by assumption)))))).mono ?_
  rintro e w6 ⟨rfl, hx6⟩
  have hy6 := hx6.size
  (try simp at hy6)
  have eW6 := useE (fun (h : Ext _ w6) => hs.ext h) (by repeat (first | (with_reducible exact Ext.refl _) | (with_reducible assumption) | (with_reducible refine Ext.alloc ?_ _) | (with_reducible refine Ext.drewN ?_ _) | (with_reducible refine Ext.drew ?_) | (with_reducible refine Ext.setCell ?_ ?_ _; rotate_left; (simp only []; omega)) | (with_reducible refine Ext.trans ?_ (by assumption))))
  replace hs := hs.ext eW6
  clear cBE fBE zBE
  replace BE := BE.ext eW6
  replace XU := XU.ext eW6
  have cBE := BE.cells
  have fBE := BE.frozens
  have zBE := BE.lt
  go_wp2
  refine' bodyPost_ret (v := _) ?_ rfl ?_
  rotate_left
  · (simp only [results, Try.results135]
     go_simp
     rfl)
  exact ⟨rfl, XU.trans (show Ext w6 _ from (by repeat (first | (with_reducible exact Ext.refl _) | (with_reducible assumption) | (with_reducible refine Ext.alloc ?_ _) | (with_reducible refine Ext.drewN ?_ _) | (with_reducible refine Ext.drew ?_) | (with_reducible refine Ext.setCell ?_ ?_ _; rotate_left; (simp only []; omega)) | (with_reducible refine Ext.trans ?_ (by assumption)))))⟩
end Go.Proofs.Ytppdcglnopoocaa
/- slices.DeleteFunc on contacts, on a slice with all of a new row behind it. -/
namespace Go.Proofs.Ytppdcglnopoocaa
set_option linter.unusedVariables false
set_option linter.unusedSimpArgs false
open Go.RowKit Go.Shelf

set_option maxHeartbeats 2000000 in
theorem DeleteFunc_CR (g0 : FuncId) (lb : Array Value) (eg : ∀ args w, (callFunc g0 args).run Try.prog w = .ok (.enter g0 args) w) (p : ConD → Bool) (a : Option Addr) (n c base : Nat) (L : List ConD) (w : World) (hoR : OwR 47 encC 3 base w a n c L) (hn : n ≤ 1000)
    (hcall : ∀ x, x ∈ L → ∀ W, w.grownBy W (a.map (·.block)) → Calls Try.prog g0 (#[.agg #[.int .i64 x.port, .int .i64 x.to_.addr, .int .i64 x.to_.port]] ++ lb) W fun e w' => e = .returned (.bool (p x)) ∧ Ext W w') :
    Calls Try.prog 164 #[.slice a n c, .func (.func g0) #[] lb] w fun e w' => ∃ m, e = .returned (.slice a m c) ∧ OwR 47 encC 3 base w' a m c (L.filter fun x => !p x) ∧ m ≤ n ∧ w.grownBy w' (a.map (·.block)) := by
  have ho := hoR.ow encC_len (by omega)
  have hs := ho.sl encC_len
  have hIF := Lib.hid (IndexFunc_C g0 lb eg p a n c L w hs (fun x hx W hW => hcall x hx W (by
    obtain ⟨h1, h2, h3, h4, h5⟩ := hW
    exact ⟨h1, h2, h3, h4, fun i hi _ => h5 i hi (by simp)⟩)))
  rcases ix_cases p L with ⟨e1, hall⟩ | ⟨k0, x0, e1, hx0, ht0, hall⟩
  · rw [e1] at hIF
    have hf : L.filter (fun x => !p x) = L := List.filter_eq_self.2 fun x hx => by simp [hall x hx]
    rw [hf]
    have HO := Lib.hid hoR
    clear hoR ho hs hcall hall
    go_enter Try.func164, Try.ntmps164
    go_wp2_with fail
    refine (hIF.out).mono ?_
    rintro e w1 ⟨rfl, hx⟩
    go_wp2
    go_ret
    exact ⟨n, rfl, HO.out.ext hx, Nat.le_refl _, ⟨World.grownBy.os hx, World.grownBy.tape hx, World.grownBy.output hx, hx.size, fun i hi _ => hx.block i hi⟩⟩
  · have hl := ho.1
    rcases hoR.2 with ⟨e, h0⟩ | ⟨g, c9, cur, e, hb, hg, hnc, hcm, hcs, ht⟩
    · have := (List.getElem?_eq_some_iff.1 hx0).1
      omega
    injection e with q1 q2 q3
    subst q1
    subst q3
    clear hoR ho
    have hk0 : k0 < n := by have := (List.getElem?_eq_some_iff.1 hx0).1; omega
    rw [e1] at hIF
    have hK0 : (L.take k0).filter (fun x => !p x) = L.take k0 := List.filter_eq_self.2 fun x hx => by simp [hall x hx]
    have hK1 : (L.take (k0 + 1)).filter (fun x => !p x) = L.take k0 := by rw [filt_drop (by omega) (by rw [nth_of hx0]; simp [ht0]), hK0]
    have hcs0 : ∀ j, j < n → cur[j * 3]? = some (.int .i64 (nth L j).port) ∧ cur[j * 3 + 1]? = some (.int .i64 (nth L j).to_.addr) ∧ cur[j * 3 + 2]? = some (.int .i64 (nth L j).to_.port) := by
      intro j hj
      have key : ∀ q u, (encC (nth L j))[q]? = some u → cur[j * 3 + q]? = some u := by
        intro q u hu
        have hq : q < 3 := by have := (List.getElem?_eq_some_iff.1 hu).1; simpa [encC] using this
        have h1 := flat_at encC_len L j _ (nth_some (by omega)) q u hu
        rw [← ht, List.getElem?_take, if_pos (by omega)] at h1
        simpa using h1
      exact ⟨key 0 _ rfl, key 1 _ rfl, key 2 _ rfl⟩
    have hfin0 : cur.toList.take (k0 * 3) = (L.take k0).flatMap encC := by
      have e : (L.take k0).flatMap encC = (L.flatMap encC).take (k0 * 3) := by
        have h1 : L.flatMap encC = (L.take k0).flatMap encC ++ (L.drop k0).flatMap encC := by rw [← List.flatMap_append, List.take_append_drop]
        rw [h1, List.take_left' (by rw [flat_len encC_len, List.length_take]; congr 1; omega)]
      rw [e, ← ht, List.take_take]
      congr 1
      omega
    have HC := Lib.hid hcall
    have HS := Lib.hid hcs0
    have HK := Lib.hid (show (L.take k0).length = k0 by rw [List.length_take]; omega)
    have HF := Lib.hid (And.intro hK1 hfin0)
    have HM := Lib.hid (show ∀ j, j < n → nth L j ∈ L from fun j hj => nth_mem (by omega))
    have HL := Lib.hid hl
    have HB := Lib.hid (show Blk w g 47 cur from hg)
    have hle := hs.le
    clear hs hcall hcs0 hx0 ht0 hall hK0 hK1 hfin0 hl ht hg e1
    go_enter Try.func164, Try.ntmps164
    go_wp2_with fail
    refine (hIF.out).mono ?_
    rintro e w1 ⟨rfl, hx1⟩
    have hne1 : ((k0 : Int) == -1) = false := beq_eq_false_iff_ne.2 (by omega)
    have X1 := RExt.of_ext hx1 g
    have B1 := (HB.out).ext hx1
    clear hx1
    go_wp2
    go_loopw [5, 6, 7] (fun v5 v6 _ wr => ∃ (i j : Nat) (ck : Array Value) (K : List ConD), v5 = .int .i64 i ∧ v6 = .int .i64 j ∧ i < j ∧ j ≤ n ∧ K.length = i ∧ K = (L.take j).filter (fun x => !p x) ∧ Blk wr g 47 ck ∧ ck.size = cur.size ∧ ck.toList.take (i * 3) = K.flatMap encC ∧ (∀ q, j * 3 ≤ q → ck[q]? = cur[q]?) ∧ RExt g w wr) (fun _ v6 _ _ => n - (intOf v6).toNat)
    case atStart => exact ⟨k0, k0 + 1, cur, L.take k0, rfl, by go_num, by omega, by omega, HK.out, HF.out.1.symm, B1, rfl, HF.out.2, fun _ _ => rfl, X1⟩
    case round =>
      clear X1 B1
      obtain ⟨i, j, ck, K, rfl, rfl, hij, hj, hKl, hK, B, hcz, hct, hcr, X⟩ := hrel
      by_cases hlt : j < n
      · obtain ⟨s0, s1, s2⟩ := HS.out j hlt
        have d0 : wr.cell? ⟨g, j * 3, none⟩ = some (.int .i64 (nth L j).port) := by rw [B.cells, hcr _ (Nat.le_refl _)]; exact s0
        have d1 : wr.cell? ⟨g, j * 3 + 1, none⟩ = some (.int .i64 (nth L j).to_.addr) := by rw [B.cells, hcr _ (by omega)]; exact s1
        have d2 : wr.cell? ⟨g, j * 3 + 2, none⟩ = some (.int .i64 (nth L j).to_.port) := by rw [B.cells, hcr _ (by omega)]; exact s2
        have zg := B.lt
        have hcl := fun W (hW : RExt g w W) => HC.out (nth L j) (HM.out j hlt) W hW
        have HCR := Lib.hid hcr
        have HCT := Lib.hid hct
        have HKK := Lib.hid hK
        have HCZ := Lib.hid hcz
        clear s0 s1 s2 hcr hct hK hcz
        cases hp : p (nth L j) with
        | true =>
          rw [hp] at hcl
          replace hcl := Lib.hid hcl
          replace hp := Lib.hid hp
          go_wp2_with fail
          refine (hcl.out _ (by repeat (first | (with_reducible exact RExt.refl _ _) | (with_reducible assumption) | (with_reducible refine RExt.alloc ?_ _) | (with_reducible refine RExt.drewN ?_ _) | (with_reducible refine RExt.drew ?_) | (with_reducible refine RExt.setCell ?_ (.inr ?_) _; rotate_left; (simp only []; omega)) | (with_reducible refine RExt.trans ?_ (by assumption)) | (with_reducible refine RExt.ext ?_ (by assumption))))).mono ?_
          rintro e w2 ⟨rfl, hx2⟩
          have X2 : RExt g w w2 := (by repeat (first | (with_reducible exact RExt.refl _ _) | (with_reducible assumption) | (with_reducible refine RExt.alloc ?_ _) | (with_reducible refine RExt.drewN ?_ _) | (with_reducible refine RExt.drew ?_) | (with_reducible refine RExt.setCell ?_ (.inr ?_) _; rotate_left; (simp only []; omega)) | (with_reducible refine RExt.trans ?_ (by assumption)) | (with_reducible refine RExt.ext ?_ (by assumption))))
          have B2 := Blk.ext (by exact (by repeat (first | (with_reducible assumption) | (with_reducible exact Blk.new _ _ _) | exact Blk.newAt _ _ _ (by simp) | (with_reducible refine Blk.alloc ?_ _) | (with_reducible refine Blk.drew ?_) | (with_reducible refine Blk.drewN ?_ _) | refine Blk.far ?_ (by simp only []; omega) _ | refine Blk.rext ?_ (by assumption) (by omega) | refine Blk.ext ?_ (by assumption)))) hx2 (T := 47) (b := g) (cs := ck)
          clear hx2
          go_wp2
          go_roundw
          case rel => exact ⟨i, j + 1, ck, K, rfl, by go_num, by omega, by omega, hKl, by rw [HKK.out, filt_drop (by rw [HL.out]; exact hlt) (by simp [hp.out])], B2, HCZ.out, HCT.out, fun q hq => HCR.out q (by omega), X2⟩
          case measure => simp [intOf]; omega
        | false =>
          rw [hp] at hcl
          replace hcl := Lib.hid hcl
          replace hp := Lib.hid hp
          go_wp2_with fail
          refine (hcl.out _ (by repeat (first | (with_reducible exact RExt.refl _ _) | (with_reducible assumption) | (with_reducible refine RExt.alloc ?_ _) | (with_reducible refine RExt.drewN ?_ _) | (with_reducible refine RExt.drew ?_) | (with_reducible refine RExt.setCell ?_ (.inr ?_) _; rotate_left; (simp only []; omega)) | (with_reducible refine RExt.trans ?_ (by assumption)) | (with_reducible refine RExt.ext ?_ (by assumption))))).mono ?_
          rintro e w2 ⟨rfl, hx2⟩
          have X2 : RExt g w w2 := (by repeat (first | (with_reducible exact RExt.refl _ _) | (with_reducible assumption) | (with_reducible refine RExt.alloc ?_ _) | (with_reducible refine RExt.drewN ?_ _) | (with_reducible refine RExt.drew ?_) | (with_reducible refine RExt.setCell ?_ (.inr ?_) _; rotate_left; (simp only []; omega)) | (with_reducible refine RExt.trans ?_ (by assumption)) | (with_reducible refine RExt.ext ?_ (by assumption))))
          have B2 := Blk.ext (by exact (by repeat (first | (with_reducible assumption) | (with_reducible exact Blk.new _ _ _) | exact Blk.newAt _ _ _ (by simp) | (with_reducible refine Blk.alloc ?_ _) | (with_reducible refine Blk.drew ?_) | (with_reducible refine Blk.drewN ?_ _) | refine Blk.far ?_ (by simp only []; omega) _ | refine Blk.rext ?_ (by assumption) (by omega) | refine Blk.ext ?_ (by assumption)))) hx2 (T := 47) (b := g) (cs := ck)
          have BT : Blk w2 wr.heap.size 47 #[.int .i64 (nth L j).port, .int .i64 (nth L j).to_.addr, .int .i64 (nth L j).to_.port] := by refine Blk.ext ?_ hx2; exact (by repeat (first | (with_reducible assumption) | (with_reducible exact Blk.new _ _ _) | exact Blk.newAt _ _ _ (by simp) | (with_reducible refine Blk.alloc ?_ _) | (with_reducible refine Blk.drew ?_) | (with_reducible refine Blk.drewN ?_ _) | refine Blk.far ?_ (by simp only []; omega) _ | refine Blk.rext ?_ (by assumption) (by omega) | refine Blk.ext ?_ (by assumption)))
          clear hx2
          have cT := BT.cells
          have fT := BT.frozens
          have zT := BT.lt
          obtain ⟨v0, c0⟩ : ∃ v, w2.cell? ⟨g, i * 3, none⟩ = some v := ⟨_, by rw [B2.cells]; exact Array.getElem?_eq_getElem (by rw [HCZ.out]; omega)⟩
          obtain ⟨v1, c1⟩ : ∃ v, w2.cell? ⟨g, i * 3 + 1, none⟩ = some v := ⟨_, by rw [B2.cells]; exact Array.getElem?_eq_getElem (by rw [HCZ.out]; omega)⟩
          obtain ⟨v2, c2⟩ : ∃ v, w2.cell? ⟨g, i * 3 + 2, none⟩ = some v := ⟨_, by rw [B2.cells]; exact Array.getElem?_eq_getElem (by rw [HCZ.out]; omega)⟩
          have fB := B2.frozens
          have zB := B2.lt
          go_wp2
          go_roundw
          case rel =>
            refine ⟨i + 1, j + 1, _, K ++ [nth L j], by go_num, by go_num, by omega, by omega, by simp [hKl], by rw [HKK.out, filt_keep (by rw [HL.out]; exact hlt) (by simp [hp.out])], ((B2.set _ _).set _ _).set _ _, by simpa using HCZ.out, put_three (by rw [HCZ.out]; omega) HCT.out, fun q hq => ?_, ?_⟩
            · rw [Array.getElem?_setIfInBounds_ne (by omega), Array.getElem?_setIfInBounds_ne (by omega), Array.getElem?_setIfInBounds_ne (by omega)]
              exact HCR.out q (by omega)
            · exact ((X2.setCell (.inl rfl) _).setCell (.inl rfl) _).setCell (.inl rfl) _
          case measure => simp [intOf]; omega
      · have e : j = n := by omega
        subst e
        obtain ⟨W', cur', hclr, B', hz', hlow, X'⟩ := run_clear_blk eiC zero1_C wr g (i * 3) (j - i) (c - i) ck B (by omega) (by omega)
        have hdr := run_drop_C g j c i hij hnc
        have htk := run_take_C (some ⟨g, 0, none⟩) j c i (by omega)
        have HR := Lib.hid (X.trans X')
        have HOW := Lib.hid (show OwR 47 encC 3 base W' (some ⟨g, 0, none⟩) i c K by
          refine ⟨by rw [flat_len encC_len, hKl], .inr ⟨g, c, cur', rfl, hb, B', by omega, hcm, by omega, ?_⟩⟩
          rw [← hct]
          apply List.ext_getElem?
          intro q
          rw [List.getElem?_take, List.getElem?_take]
          split
          · have := hlow q (by omega)
            simpa using this
          · rfl)
        rw [List.take_of_length_le (by rw [HL.out]; omega)] at hK
        clear B' hz' hlow X' hcr hct X B hcz
        go_wp2
        go_ret
        exact ⟨i, rfl, hK ▸ HOW.out, by omega, HR.out⟩
end Go.Proofs.Ytppdcglnopoocaa
/- Contracts: the first package's noted contacts. -/
namespace Go.Proofs.Ytppdcglnopoocaa
set_option linter.unusedVariables false
set_option linter.unusedSimpArgs false
open Go.RowKit Go.Shelf

theorem Sl.past {α : Type} {enc : α → List Value} {k : Nat} {w w' : World} {A a : Option Addr} {n c : Nat} {L : List α} (h : Sl enc k w A n c L) (hg : w.grownBy w' (a.map (·.block)))
    (hne : 0 < n → ∀ x y, A = some x → a = some y → x.block ≠ y.block) : Sl enc k w' A n c L :=
  h.keep hg.size fun _ _ hn e hb => hg.block _ hb (row_ne fun y hy => hne hn _ y e hy)
theorem step_append_ow {P : Program} {t E : TypeId} {k bytes : Nat} {α : Type} {enc : α → List Value} {ops : Array Oper} {o : Oper} {a : Act} {K : Act → World → Prop} {Q : Exit → Act → World → Prop} {F : Prop} (w : World) (hgd : o.guard = none) (s x : Operand)
    (ho : o.op = .call { callee := .builtin .append, args := #[s, x], argTypes := #[t, t] }) (hE : EI P t E k bytes) (hk : ∀ x, (enc x).length = k) (h1 : ∀ x, ∀ u ∈ enc x, u.oneCell' = true) (hby : bytes ≤ 1024)
    (base : Nat) (a0 : Option Addr) (n c0 : Nat) (L0 : List α) (hs : a.eval s = .slice a0 n c0) (hown : OwR E enc k base w a0 n c0 L0)
    (A : Option Addr) (m c : Nat) (L : List α) (hx : a.eval x = .slice A m c) (hsl : Sl enc k w A m c L) (hn : n + m ≤ 2000000) (hbase : base ≤ w.heap.size)
    (h : ∀ a' c' w', OwR E enc k base w' a' (n + m) c' (L0 ++ L) → (∀ u, Ext u w → u.heap.size ≤ base → Ext u w') → w.grownBy w' (a0.map (·.block)) → K (a.put o.dst (.slice a' (n + m) c')) w') :
    if Region.wanted o (yielded ops a.tmps) = true then Oper.wp P o a w K Q else F := by
  have hw : Region.wanted o (yielded ops a.tmps) = true := by simp [Region.wanted, hgd]
  rw [if_pos hw]
  obtain ⟨a', c', w', hr, h2, h3, _⟩ := run_append_sl (P := P) w hE hk h1 o.type base (.slice a0 n c0) n (L0.flatMap enc) hown A m c L hsl (by simp only [maxLen]; omega) (Nat.le_trans (Nat.mul_le_mul hn hby) (by omega)) hbase
  unfold Oper.wp execOp
  simp only [ho, resolve, invoke, builtin, Sem.run_bind, Sem.run_pure, Result.andThen_ok, List.map_toArray, List.map_cons, List.map_nil, hs, hx, hr]
  refine h a' c' w' (by unfold OwR; rw [List.flatMap_append]; exact h2) (fun u hu hb => hu.grown h3 fun g e => ?_) (by cases a0 <;> exact h3)
  have := (World.ownsRow.lt hown g e).1
  omega
theorem clo_note (x d : ConD) (G : Nat) (W : World) (hB : Blk W G 47 #[.int .i64 x.port, .int .i64 x.to_.addr, .int .i64 x.to_.port]) :
    Calls Try.prog 165 (#[.agg #[.int .i64 d.port, .int .i64 d.to_.addr, .int .i64 d.to_.port]] ++ #[.pointer (some ⟨G, 0, none⟩)]) W fun r w' => r = .returned (.bool (decide (d = x))) ∧ Ext W w' := by
  show Calls Try.prog 165 #[.agg #[.int .i64 d.port, .int .i64 d.to_.addr, .int .i64 d.to_.port], .pointer (some ⟨G, 0, none⟩)] W _
  have hcB := hB.cells
  have hzB := hB.lt
  have heq := fun V => run_eql_C d x V
  generalize decide (d = x) = q at *
  clear hB
  go_enter Try.func165, Try.ntmps165
  go_wp2
  go_ret
  exact ⟨rfl, (by repeat (first | (with_reducible exact Ext.refl _) | (with_reducible assumption) | (with_reducible refine Ext.alloc ?_ _) | (with_reducible refine Ext.drewN ?_ _) | (with_reducible refine Ext.drew ?_) | (with_reducible refine Ext.setCell ?_ ?_ _; rotate_left; (simp only []; omega)) | (with_reducible refine Ext.trans ?_ (by assumption))))⟩
set_option maxHeartbeats 4000000 in
theorem impl_NoteContact (a : Option Addr) (n c : Nat) (L : List ConD) (x : ConD) (w : World) (hs : Sl encC 3 w a n c L) (hn : n ≤ 10) (hv : validContacts L = true) (hx : okCon x = true) :
    Calls Try.prog 136 #[.slice a n c, .agg #[.int .i64 x.port, .int .i64 x.to_.addr, .int .i64 x.to_.port]] w fun r w' => ∃ a' m, r = .returned (.tuple #[.slice a' m m, .bool true]) ∧ Ow 47 encC 3 w.heap.size w' a' m m (note L x) ∧ Ext w w' := by
  have e1 : ∀ args w, (callFunc 165 args).run Try.prog w = .ok (.enter 165 args) w := enters_of Try.func165 (by kernel_rfl) rfl
  have c1 := fun W h => impl_ValidContacts a n c L W h
  have c2 := fun W => impl_Contact_valid x W
  rw [hv] at c1
  rw [hx] at c2
  replace c1 := Lib.hid c1
  replace c2 := Lib.hid c2
  have XU := Ext.refl w
  clear hv hx
  go_enter Try.func136, Try.ntmps136
  go_wp2_with fail
  refine (c1.out _ (by exact hs.ext (by repeat (first | (with_reducible exact Ext.refl _) | (with_reducible assumption) | (with_reducible refine Ext.alloc ?_ _) | (with_reducible refine Ext.drewN ?_ _) | (with_reducible refine Ext.drew ?_) | (with_reducible refine Ext.setCell ?_ ?_ _; rotate_left; (simp only []; omega)) | (with_reducible refine Ext.trans ?_ (by assumption)))))).mono ?_
  rintro e w1 ⟨rfl, hx1⟩
  have hy1 := hx1.size
  (try simp at hy1)
  have eW1 := useE (fun (h : Ext _ w1) => hs.ext h) (by repeat (first | (with_reducible exact Ext.refl _) | (with_reducible assumption) | (with_reducible refine Ext.alloc ?_ _) | (with_reducible refine Ext.drewN ?_ _) | (with_reducible refine Ext.drew ?_) | (with_reducible refine Ext.setCell ?_ ?_ _; rotate_left; (simp only []; omega)) | (with_reducible refine Ext.trans ?_ (by assumption))))
  replace hs := hs.ext eW1
  have BX : Blk w1 w.heap.size 47 #[.int .i64 x.port, .int .i64 x.to_.addr, .int .i64 x.to_.port] := by refine Blk.ext ?_ hx1; exact (by repeat (first | (with_reducible assumption) | (with_reducible exact Blk.new _ _ _) | exact Blk.newAt _ _ _ (by simp) | (with_reducible refine Blk.alloc ?_ _) | (with_reducible refine Blk.drew ?_) | (with_reducible refine Blk.drewN ?_ _) | refine Blk.far ?_ (by simp only []; omega) _ | refine Blk.rext ?_ (by assumption) (by omega) | refine Blk.ext ?_ (by assumption)))
  replace XU := XU.ext eW1
  have cBX := BX.cells
  have fBX := BX.frozens
  have zBX := BX.lt
  go_wp2_with fail
  refine (c2.out _).mono ?_
  rintro e w2 ⟨rfl, hx2⟩
  have hy2 := hx2.size
  (try simp at hy2)
  have eW2 := useE (fun (h : Ext _ w2) => hs.ext h) (by repeat (first | (with_reducible exact Ext.refl _) | (with_reducible assumption) | (with_reducible refine Ext.alloc ?_ _) | (with_reducible refine Ext.drewN ?_ _) | (with_reducible refine Ext.drew ?_) | (with_reducible refine Ext.setCell ?_ ?_ _; rotate_left; (simp only []; omega)) | (with_reducible refine Ext.trans ?_ (by assumption))))
  replace hs := hs.ext eW2
  clear cBX fBX zBX
  replace BX := BX.ext eW2
  replace XU := XU.ext eW2
  have cBX := BX.cells
  have fBX := BX.frozens
  have zBX := BX.lt
  clear hx1 hx2
  replace e1 := Lib.hid e1
  have z2 := BX.lt
  have B2 := Lib.hid BX
  have S2 := Lib.hid hs
  have X2 := Lib.hid XU
  clear BX hs XU
  go_wp2_with fail
  go_region_law (first
    | (have hgd := S5; clear hgd; refine step_append_ow _ rfl _ _ rfl (by with_reducible exact eiC) encC_len encC_one (by omega) (w.heap.size + 1) a3 m c3 _ (by rfl) (by exact OwR.ext O5.out (by repeat (first | (with_reducible exact Ext.refl _) | (with_reducible assumption) | (with_reducible refine Ext.alloc ?_ _) | (with_reducible refine Ext.drewN ?_ _) | (with_reducible refine Ext.drew ?_) | (with_reducible refine Ext.setCell ?_ ?_ _; rotate_left; (simp only []; omega)) | (with_reducible refine Ext.trans ?_ (by assumption))))) (some ⟨w2.heap.size, 0, none⟩) 1 1 [x] (by rfl) (by exact S5.out) (by omega) (by (try simp); omega) ?_; intro a6 c6 w6 hown6 hX6 _; have O6 := Lib.hid hown6; have X6 := Lib.hid (hX6 w (X2.out.trans (E5.out.trans (show Ext w5 _ from (by repeat (first | (with_reducible exact Ext.refl _) | (with_reducible assumption) | (with_reducible refine Ext.alloc ?_ _) | (with_reducible refine Ext.drewN ?_ _) | (with_reducible refine Ext.drew ?_) | (with_reducible refine Ext.setCell ?_ ?_ _; rotate_left; (simp only []; omega)) | (with_reducible refine Ext.trans ?_ (by assumption))))))) (by omega)); clear hown6 hX6)
    | (have hgd := S6; clear hgd; refine step_append_ow _ rfl _ _ rfl (by with_reducible exact eiC) encC_len encC_one (by omega) (w.heap.size + 1) a3 m c3 _ (by rfl) (by exact OwR.ext O5.out (by repeat (first | (with_reducible exact Ext.refl _) | (with_reducible assumption) | (with_reducible refine Ext.alloc ?_ _) | (with_reducible refine Ext.drewN ?_ _) | (with_reducible refine Ext.drew ?_) | (with_reducible refine Ext.setCell ?_ ?_ _; rotate_left; (simp only []; omega)) | (with_reducible refine Ext.trans ?_ (by assumption))))) (some ⟨w3.heap.size, 0, none⟩) 1 1 [x] (by rfl) (by exact S6.out) (by omega) (by (try simp); omega) ?_; intro a6 c6 w6 hown6 hX6 _; have O6 := Lib.hid hown6; have X6 := Lib.hid (hX6 w (X2.out.trans (E5.out.trans (show Ext w5 _ from (by repeat (first | (with_reducible exact Ext.refl _) | (with_reducible assumption) | (with_reducible refine Ext.alloc ?_ _) | (with_reducible refine Ext.drewN ?_ _) | (with_reducible refine Ext.drew ?_) | (with_reducible refine Ext.setCell ?_ ?_ _; rotate_left; (simp only []; omega)) | (with_reducible refine Ext.trans ?_ (by assumption))))))) (by omega)); clear hown6 hX6)
    | (have hgd := O5; clear hgd; refine step_append_ow _ rfl _ _ rfl (by with_reducible exact eiC) encC_len encC_one (by omega) (w.heap.size + 1) a3 m c3 _ (by rfl) (by exact OwR.ext O5.out (by repeat (first | (with_reducible exact Ext.refl _) | (with_reducible assumption) | (with_reducible refine Ext.alloc ?_ _) | (with_reducible refine Ext.drewN ?_ _) | (with_reducible refine Ext.drew ?_) | (with_reducible refine Ext.setCell ?_ ?_ _; rotate_left; (simp only []; omega)) | (with_reducible refine Ext.trans ?_ (by assumption))))) (some ⟨w5.heap.size, 0, none⟩) 1 1 [x] (by rfl) (by exact Sl.lit1 _ _ x _ rfl rfl) (by omega) (by (try simp); omega) ?_; intro a6 c6 w6 hown6 hX6 _; have O6 := Lib.hid hown6; have X6 := Lib.hid (hX6 w (X2.out.trans (E5.out.trans (show Ext w5 _ from (by repeat (first | (with_reducible exact Ext.refl _) | (with_reducible assumption) | (with_reducible refine Ext.alloc ?_ _) | (with_reducible refine Ext.drewN ?_ _) | (with_reducible refine Ext.drew ?_) | (with_reducible refine Ext.setCell ?_ ?_ _; rotate_left; (simp only []; omega)) | (with_reducible refine Ext.trans ?_ (by assumption))))))) (by omega)); clear hown6 hX6)
    | (go_simp; go_wp2_with (first
      | (go_at_call 159; refine (Clone_C a n c L _ (by exact S2.out.ext (show Ext w2 _ from (by repeat (first | (with_reducible exact Ext.refl _) | (with_reducible assumption) | (with_reducible refine Ext.alloc ?_ _) | (with_reducible refine Ext.drewN ?_ _) | (with_reducible refine Ext.drew ?_) | (with_reducible refine Ext.setCell ?_ ?_ _; rotate_left; (simp only []; omega)) | (with_reducible refine Ext.trans ?_ (by assumption)))))) (by omega)).mono ?_; rintro e w3 ⟨a3, c3, rfl, hown, hx3⟩; have O3 : OwR 47 encC 3 (w.heap.size + 1) w3 a3 n c3 L := OwR.rebase hown (by (try simp); omega); have E3 : Ext w2 w3 := (by repeat (first | (with_reducible exact Ext.refl _) | (with_reducible assumption) | (with_reducible refine Ext.alloc ?_ _) | (with_reducible refine Ext.drewN ?_ _) | (with_reducible refine Ext.drew ?_) | (with_reducible refine Ext.setCell ?_ ?_ _; rotate_left; (simp only []; omega)) | (with_reducible refine Ext.trans ?_ (by assumption)))); have l3 : ∀ y, a3 = some y → w2.heap.size ≤ y.block ∧ y.block < w3.heap.size := (fun y e => by have := OwR.lt hown y e; (try simp at this); omega); (try (have S3 : Sl encC 3 w3 (some ⟨w2.heap.size, 0, none⟩) 1 1 [x] := Sl.ext (by first | exact Sl.lit1 _ _ x _ rfl rfl | (refine Sl.ext ?_ ((Ext.refl _).drew); exact Sl.lit1 _ _ x _ rfl rfl)) hx3)); (try (have l3' : ∀ y, a3 = some y → w2.heap.size < y.block := (fun y e => by have := OwR.lt hown y e; (try simp at this); omega))); (have cX3 := (Blk.ext B2.out E3).cells); (have zX3 := (Blk.ext B2.out E3).lt); clear hx3 hown; replace E3 := Lib.hid E3; replace O3 := Lib.hid O3)
      | (go_at_call 164; refine (DeleteFunc_CR 165 _ e1.out (fun d => decide (d = x)) a3 n c3 (w.heap.size + 1) L _ (by exact O3.out.ext (show Ext w3 _ from (by repeat (first | (with_reducible exact Ext.refl _) | (with_reducible assumption) | (with_reducible refine Ext.alloc ?_ _) | (with_reducible refine Ext.drewN ?_ _) | (with_reducible refine Ext.drew ?_) | (with_reducible refine Ext.setCell ?_ ?_ _; rotate_left; (simp only []; omega)) | (with_reducible refine Ext.trans ?_ (by assumption)))))) (by omega) (fun d _ W hW => clo_note x d w.heap.size W (Blk.grown (Blk.ext B2.out (E3.out.trans (show Ext w3 _ from (by repeat (first | (with_reducible exact Ext.refl _) | (with_reducible assumption) | (with_reducible refine Ext.alloc ?_ _) | (with_reducible refine Ext.drewN ?_ _) | (with_reducible refine Ext.drew ?_) | (with_reducible refine Ext.setCell ?_ ?_ _; rotate_left; (simp only []; omega)) | (with_reducible refine Ext.trans ?_ (by assumption))))))) hW (row_ne fun y e => by have := l3 y e; omega)))).mono ?_; rintro e w5 ⟨m, rfl, hown, hm, hg5⟩; have O5 := Lib.hid hown; have E5 := Lib.hid (Ext.grown (E3.out.trans (show Ext w3 _ from (by repeat (first | (with_reducible exact Ext.refl _) | (with_reducible assumption) | (with_reducible refine Ext.alloc ?_ _) | (with_reducible refine Ext.drewN ?_ _) | (with_reducible refine Ext.drew ?_) | (with_reducible refine Ext.setCell ?_ ?_ _; rotate_left; (simp only []; omega)) | (with_reducible refine Ext.trans ?_ (by assumption)))))) hg5 (fun g e => by (cases a3 with | none => cases e | some y => have := l3 y rfl; simp at e; omega))); (try (have S5 := Lib.hid (Sl.past (a := a3) (Sl.ext S3 (show Ext w3 _ from (by repeat (first | (with_reducible exact Ext.refl _) | (with_reducible assumption) | (with_reducible refine Ext.alloc ?_ _) | (with_reducible refine Ext.drewN ?_ _) | (with_reducible refine Ext.drew ?_) | (with_reducible refine Ext.setCell ?_ ?_ _; rotate_left; (simp only []; omega)) | (with_reducible refine Ext.trans ?_ (by assumption)))))) hg5 (fun _ y z ey ez => by cases ey; have := l3' z ez; simp only []; omega)))); (try (have S6 := Lib.hid (Sl.past (a := a3) (show Sl encC 3 _ (some ⟨w3.heap.size, 0, none⟩) 1 1 [x] by first | exact Sl.lit1 _ _ x _ rfl rfl | (refine Sl.ext ?_ ((Ext.refl _).drew); exact Sl.lit1 _ _ x _ rfl rfl)) hg5 (fun _ y z ey ez => by cases ey; have := l3 z ez; simp only []; omega)))); (have cX5 := (Blk.ext B2.out E5.out).cells); (have zX5 := (Blk.ext B2.out E5.out).lt); clear hg5 hown))))
  all_goals
    have S7 := (O6.out.ow encC_len (by omega)).sl encC_len
    have hl : (noteAll L x).length = m + 1 := S7.len
    have Z6 := X6.out.size
    clear e1
    by_cases h10 : 10 < m + 1
    · have hm10 : m = 10 := by omega
      subst hm10
      obtain ⟨g6, rfl⟩ := O6.out.form (by omega)
      have hdr := fun W => run_drop_C' g6 11 c6 1 (by omega) S7.le W
      have hc6 : ¬ c6 = 1 := by have := S7.le; omega
      have S8 := Lib.hid (S7.drop0 (j := 1) (by omega))
      have hN := Lib.hid (show note L x = (noteAll L x).drop 1 by unfold note; rw [hl])
      clear S7
      go_wp2_with fail
      refine (impl_clone_C _ _ _ _ _ (by exact S8.out.ext (by repeat (first | (with_reducible exact Ext.refl _) | (with_reducible assumption) | (with_reducible refine Ext.alloc ?_ _) | (with_reducible refine Ext.drewN ?_ _) | (with_reducible refine Ext.drew ?_) | (with_reducible refine Ext.setCell ?_ ?_ _; rotate_left; (simp only []; omega)) | (with_reducible refine Ext.trans ?_ (by assumption))))) (by omega)).mono ?_
      rintro e w7 ⟨a7, rfl, O7, hx7⟩
      have X7 : Ext w w7 := X6.out.trans (show Ext w6 w7 from (by repeat (first | (with_reducible exact Ext.refl _) | (with_reducible assumption) | (with_reducible refine Ext.alloc ?_ _) | (with_reducible refine Ext.drewN ?_ _) | (with_reducible refine Ext.drew ?_) | (with_reducible refine Ext.setCell ?_ ?_ _; rotate_left; (simp only []; omega)) | (with_reducible refine Ext.trans ?_ (by assumption)))))
      have O8 := Lib.hid (O7.rebase (b' := w.heap.size) (by (try simp); omega))
      clear O7 hx7
      go_wp2
      refine' bodyPost_ret (v := _) ?_ rfl ?_
      rotate_left
      · (simp only [results, Try.results136]
         go_simp
         rfl)
      refine ⟨a7, _, rfl, ?_, X7⟩
      rw [hN.out]
      exact O8.out
    · have S8 := Lib.hid S7
      have hN := Lib.hid (show note L x = noteAll L x by unfold note; rw [hl, show m + 1 - 10 = 0 by omega, List.drop_zero])
      clear S7
      go_wp2_with fail
      refine (impl_clone_C _ _ _ _ _ (by exact S8.out.ext (by repeat (first | (with_reducible exact Ext.refl _) | (with_reducible assumption) | (with_reducible refine Ext.alloc ?_ _) | (with_reducible refine Ext.drewN ?_ _) | (with_reducible refine Ext.drew ?_) | (with_reducible refine Ext.setCell ?_ ?_ _; rotate_left; (simp only []; omega)) | (with_reducible refine Ext.trans ?_ (by assumption))))) (by omega)).mono ?_
      rintro e w7 ⟨a7, rfl, O7, hx7⟩
      have X7 : Ext w w7 := X6.out.trans (show Ext w6 w7 from (by repeat (first | (with_reducible exact Ext.refl _) | (with_reducible assumption) | (with_reducible refine Ext.alloc ?_ _) | (with_reducible refine Ext.drewN ?_ _) | (with_reducible refine Ext.drew ?_) | (with_reducible refine Ext.setCell ?_ ?_ _; rotate_left; (simp only []; omega)) | (with_reducible refine Ext.trans ?_ (by assumption)))))
      have O8 := Lib.hid (O7.rebase (b' := w.heap.size) (by (try simp); omega))
      clear O7 hx7
      go_wp2
      refine' bodyPost_ret (v := _) ?_ rfl ?_
      rotate_left
      · (simp only [results, Try.results136]
         go_simp
         rfl)
      refine ⟨a7, _, rfl, ?_, X7⟩
      rw [hN.out]
      exact O8.out
end Go.Proofs.Ytppdcglnopoocaa
/- Contracts: the first package's send. -/
namespace Go.Proofs.Ytppdcglnopoocaa
set_option linter.unusedVariables false
set_option linter.unusedSimpArgs false
open Go.RowKit

theorem Ow.rx {α : Type} {E : TypeId} {enc : α → List Value} {k base : Nat} {p : Nat → Prop} {w w' : World} {a : Option Addr} {n c : Nat} {L : List α} (h : Ow E enc k base w a n c L) (hx : RX p w w') (hne : ∀ x, a = some x → ¬ p x.block) : Ow E enc k base w' a n c L :=
  h.keep fun x e hb => hx.block _ hb (hne x e)
theorem RX.putc {p : Nat → Prop} {a b : World} (h : RX p a b) {B : Nat} (hB : p B) (o : Nat) (u : Value) : RX p a (b.setCell ⟨B, o, none⟩ u) :=
  h.trans (RX.of_rext (B := B) ((RExt.refl B b).putc o u) hB)
set_option maxHeartbeats 1000000 in
theorem impl_send_none (g : GateD) (p : PktD) (ta : Option Addr) (tn tc : Nat) (ka : Option Addr) (kn kc : Nat) (a : Option Addr) (n c : Nat) (w : World) (ht : Sl encM 4 w ta tn tc g.table) (hk : Sl encC 3 w ka kn kc g.cons) (hs : Sl encI 1 w a n c p.data) (v1 : validGate g = true) (v2 : validPkt p = true) (hm : mapEnd g.table p.fr g.now = none) :
    Calls Try.prog 78 #[.agg #[.int .i64 g.net.base, .int .i64 g.net.bits, .int .i64 g.out, .slice ta tn tc, .slice ka kn kc, .int .i64 g.filter, .int .i64 g.hold, .int .i64 g.now], .agg #[.int .i64 p.kind, .int .i64 p.fr.addr, .int .i64 p.fr.port, .int .i64 p.to_.addr, .int .i64 p.to_.port, .slice a n c]] w fun e w' => e = .returned (.tuple #[.agg #[.int .i64 0, .int .i64 0, .int .i64 0, .int .i64 0, .int .i64 0, .slice none 0 0], .agg #[.int .i64 0, .int .i64 0, .int .i64 0, .slice none 0 0, .slice none 0 0, .int .i64 0, .int .i64 0, .int .i64 0], .bool false]) ∧ Ext w w' := by
  have hv := validGate_iff.1 v1
  have htn : tn ≤ 8 := by have h := table_len hv.tab; rw [ht.len] at h; exact h
  have hx : validEnd p.fr = true := (validPkt_iff.1 v2).2.1
  have hr : inR g.now 0 10000 = true := inR_iff.2 ⟨hv.now0, hv.now1⟩
  have c1 := fun W x => impl_MapEnd_none ta tn tc g.table p.fr g.now W x (by omega) hv.tab hx hr hm
  replace c1 := Lib.hid c1
  clear v1 v2 hm hv hx hr
  have e2 : w.heap.size ≤ w.heap.size + 1 + 1 := by omega
  have e3 : w.heap.size ≤ w.heap.size + 1 + 1 + 1 := by omega
  go_enter Try.func78, Try.ntmps78
  go_wp2_with fail
  refine (c1.out _ (by exact ht.ext (by repeat (first | (with_reducible exact Ext.refl _) | (with_reducible assumption) | (with_reducible refine Ext.alloc ?_ _) | (with_reducible refine Ext.drewN ?_ _) | (with_reducible refine Ext.drew ?_) | (with_reducible refine Ext.setCell ?_ ?_ _; rotate_left; (simp only []; omega)) | (with_reducible refine Ext.trans ?_ (by assumption)))))).mono ?_
  rintro e w1 ⟨rfl, hx1⟩
  have hy1 := hx1.size
  (try simp at hy1)
  have eW1 := useE (fun (h : Ext _ w1) => ht.ext h) (by repeat (first | (with_reducible exact Ext.refl _) | (with_reducible assumption) | (with_reducible refine Ext.alloc ?_ _) | (with_reducible refine Ext.drewN ?_ _) | (with_reducible refine Ext.drew ?_) | (with_reducible refine Ext.setCell ?_ ?_ _; rotate_left; (simp only []; omega)) | (with_reducible refine Ext.trans ?_ (by assumption))))
  replace ht := ht.ext eW1
  have BQ : Blk w1 (w.heap.size+2) 33 #[.int .i64 0, .int .i64 0, .int .i64 0, .int .i64 0, .int .i64 0, .slice none 0 0] := by refine Blk.ext ?_ hx1; exact (by repeat (first | (with_reducible assumption) | (with_reducible exact Blk.new _ _ _) | exact Blk.newAt _ _ _ (by simp) | (with_reducible refine Blk.alloc ?_ _) | (with_reducible refine Blk.drew ?_) | (with_reducible refine Blk.drewN ?_ _) | refine Blk.far ?_ (by simp only []; omega) _ | refine Blk.rext ?_ (by assumption) (by omega) | refine Blk.ext ?_ (by assumption)))
  have BR : Blk w1 (w.heap.size+3) 28 #[.int .i64 0, .int .i64 0, .int .i64 0, .slice none 0 0, .slice none 0 0, .int .i64 0, .int .i64 0, .int .i64 0] := by refine Blk.ext ?_ hx1; exact (by repeat (first | (with_reducible assumption) | (with_reducible exact Blk.new _ _ _) | exact Blk.newAt _ _ _ (by simp) | (with_reducible refine Blk.alloc ?_ _) | (with_reducible refine Blk.drew ?_) | (with_reducible refine Blk.drewN ?_ _) | refine Blk.far ?_ (by simp only []; omega) _ | refine Blk.rext ?_ (by assumption) (by omega) | refine Blk.ext ?_ (by assumption)))
  have cBQ := BQ.cells
  have fBQ := BQ.frozens
  have zBQ := BQ.lt
  have cBR := BR.cells
  have fBR := BR.frozens
  have zBR := BR.lt
  have X1 : Ext w w1 := (by repeat (first | (with_reducible exact Ext.refl _) | (with_reducible assumption) | (with_reducible refine Ext.alloc ?_ _) | (with_reducible refine Ext.drewN ?_ _) | (with_reducible refine Ext.drew ?_) | (with_reducible refine Ext.setCell ?_ ?_ _; rotate_left; (simp only []; omega)) | (with_reducible refine Ext.trans ?_ (by assumption))))
  clear hx1
  go_wp2
  refine' bodyPost_ret (v := _) ?_ rfl ?_
  rotate_left
  · (simp only [results, Try.results78]
     go_simp
     rfl)
  refine ⟨rfl, ?_⟩
  clear cBQ fBQ cBR fBR
  refine (fun (h : Two (w.heap.size + 1 + 1) (w.heap.size + 1 + 1 + 1) w1 _) => h.ext X1 e2 e3) ?_
  clear e2 e3
  generalize w.heap.size + 1 + 1 + 1 = b2
  generalize w.heap.size + 1 + 1 = b1
  repeat (first | (with_reducible exact Two.refl _ _ _) | (with_reducible refine Two.drew ?_) | (with_reducible refine Two.alloc ?_ _) | (with_reducible refine Two.set1 ?_ _ _) | (with_reducible refine Two.set2 ?_ _ _))
set_option maxHeartbeats 4000000 in
theorem impl_send_some (g : GateD) (p : PktD) (ta : Option Addr) (tn tc : Nat) (ka : Option Addr) (kn kc : Nat) (a : Option Addr) (n c : Nat) (w : World) (ht : Sl encM 4 w ta tn tc g.table) (hk : Sl encC 3 w ka kn kc g.cons) (hs : Sl encI 1 w a n c p.data) (v1 : validGate g = true) (v2 : validPkt p = true) (T : List MapD) (port : Int) (hm : mapEnd g.table p.fr g.now = some (T, port)) (hok : okCon ⟨port, p.to_⟩ = true) :
    Calls Try.prog 78 #[.agg #[.int .i64 g.net.base, .int .i64 g.net.bits, .int .i64 g.out, .slice ta tn tc, .slice ka kn kc, .int .i64 g.filter, .int .i64 g.hold, .int .i64 g.now], .agg #[.int .i64 p.kind, .int .i64 p.fr.addr, .int .i64 p.fr.port, .int .i64 p.to_.addr, .int .i64 p.to_.port, .slice a n c]] w fun e w' => ∃ A sa sn qa qn, e = .returned (.tuple #[.agg #[.int .i64 p.kind, .int .i64 g.out, .int .i64 port, .int .i64 p.to_.addr, .int .i64 p.to_.port, .slice A n n],
      .agg #[.int .i64 g.net.base, .int .i64 g.net.bits, .int .i64 g.out, .slice sa sn sn, .slice qa qn qn, .int .i64 g.filter, .int .i64 g.hold, .int .i64 g.now], .bool true]) ∧
      Ow 3 encI 1 w.heap.size w' A n n p.data ∧ Ow 89 encM 4 w.heap.size w' sa sn sn T ∧ Ow 47 encC 3 w.heap.size w' qa qn qn (note g.cons ⟨port, p.to_⟩) ∧ Ext w w' := by
  have hv := validGate_iff.1 v1
  have htn : tn ≤ 8 := by have h := table_len hv.tab; rw [ht.len] at h; exact h
  have hkn : kn ≤ 10 := by have h := cons_len hv.con; rw [hk.len] at h; exact h
  have hn12 : n ≤ 12 := by have h := (validPkt_iff.1 v2).2.2.2.1; rw [hs.len] at h; exact h
  have hx : validEnd p.fr = true := (validPkt_iff.1 v2).2.1
  have hr : inR g.now 0 10000 = true := inR_iff.2 ⟨hv.now0, hv.now1⟩
  have c1 := fun W x => impl_MapEnd_some ta tn tc g.table p.fr g.now W x (by omega) hv.tab hx hr T port hm
  replace c1 := Lib.hid c1
  have c2 := fun W x => impl_NoteContact ka kn kc g.cons ⟨port, p.to_⟩ W x hkn hv.con hok
  replace c2 := Lib.hid c2
  have lk := Lib.hid (fun (h : 0 < kn) => hk.lt h)
  clear v1 v2 hm hok hv hx hr
  go_enter Try.func78, Try.ntmps78
  go_wp2_with fail
  refine (c1.out _ (by exact ht.ext (by repeat (first | (with_reducible exact Ext.refl _) | (with_reducible assumption) | (with_reducible refine Ext.alloc ?_ _) | (with_reducible refine Ext.drewN ?_ _) | (with_reducible refine Ext.drew ?_) | (with_reducible refine Ext.setCell ?_ ?_ _; rotate_left; (simp only []; omega)) | (with_reducible refine Ext.trans ?_ (by assumption)))))).mono ?_
  rintro e w1 ⟨a1, m1, rfl, O1, hx1⟩
  have hy1 := hx1.size
  (try simp at hy1)
  have eW1 := useE (fun (h : Ext _ w1) => ht.ext h) (by repeat (first | (with_reducible exact Ext.refl _) | (with_reducible assumption) | (with_reducible refine Ext.alloc ?_ _) | (with_reducible refine Ext.drewN ?_ _) | (with_reducible refine Ext.drew ?_) | (with_reducible refine Ext.setCell ?_ ?_ _; rotate_left; (simp only []; omega)) | (with_reducible refine Ext.trans ?_ (by assumption))))
  replace ht := ht.ext eW1
  replace hk := hk.ext eW1
  replace hs := hs.ext eW1
  have BG : Blk w1 w.heap.size 28 (#[.int .i64 g.net.base, .int .i64 g.net.bits, .int .i64 g.out, .slice ta tn tc, .slice ka kn kc, .int .i64 g.filter, .int .i64 g.hold, .int .i64 g.now]) := by refine Blk.ext ?_ hx1; exact (by repeat (first | (with_reducible assumption) | (with_reducible exact Blk.new _ _ _) | exact Blk.newAt _ _ _ (by simp) | (with_reducible refine Blk.alloc ?_ _) | (with_reducible refine Blk.drew ?_) | (with_reducible refine Blk.drewN ?_ _) | refine Blk.far ?_ (by simp only []; omega) _ | refine Blk.rext ?_ (by assumption) (by omega) | refine Blk.ext ?_ (by assumption)))
  have BP : Blk w1 (w.heap.size+1) 33 (#[.int .i64 p.kind, .int .i64 p.fr.addr, .int .i64 p.fr.port, .int .i64 p.to_.addr, .int .i64 p.to_.port, .slice a n c]) := by refine Blk.ext ?_ hx1; exact (by repeat (first | (with_reducible assumption) | (with_reducible exact Blk.new _ _ _) | exact Blk.newAt _ _ _ (by simp) | (with_reducible refine Blk.alloc ?_ _) | (with_reducible refine Blk.drew ?_) | (with_reducible refine Blk.drewN ?_ _) | refine Blk.far ?_ (by simp only []; omega) _ | refine Blk.rext ?_ (by assumption) (by omega) | refine Blk.ext ?_ (by assumption)))
  have BQ : Blk w1 (w.heap.size+2) 33 #[.int .i64 0, .int .i64 0, .int .i64 0, .int .i64 0, .int .i64 0, .slice none 0 0] := by refine Blk.ext ?_ hx1; exact (by repeat (first | (with_reducible assumption) | (with_reducible exact Blk.new _ _ _) | exact Blk.newAt _ _ _ (by simp) | (with_reducible refine Blk.alloc ?_ _) | (with_reducible refine Blk.drew ?_) | (with_reducible refine Blk.drewN ?_ _) | refine Blk.far ?_ (by simp only []; omega) _ | refine Blk.rext ?_ (by assumption) (by omega) | refine Blk.ext ?_ (by assumption)))
  have BR : Blk w1 (w.heap.size+3) 28 #[.int .i64 0, .int .i64 0, .int .i64 0, .slice none 0 0, .slice none 0 0, .int .i64 0, .int .i64 0, .int .i64 0] := by refine Blk.ext ?_ hx1; exact (by repeat (first | (with_reducible assumption) | (with_reducible exact Blk.new _ _ _) | exact Blk.newAt _ _ _ (by simp) | (with_reducible refine Blk.alloc ?_ _) | (with_reducible refine Blk.drew ?_) | (with_reducible refine Blk.drewN ?_ _) | refine Blk.far ?_ (by simp only []; omega) _ | refine Blk.rext ?_ (by assumption) (by omega) | refine Blk.ext ?_ (by assumption)))
  have cBG := BG.cells
  have fBG := BG.frozens
  have zBG := BG.lt
  have cBP := BP.cells
  have fBP := BP.frozens
  have zBP := BP.lt
  have cBQ := BQ.cells
  have fBQ := BQ.frozens
  have zBQ := BQ.lt
  have cBR := BR.cells
  have fBR := BR.frozens
  have zBR := BR.lt
  have XU : Ext w w1 := (by repeat (first | (with_reducible exact Ext.refl _) | (with_reducible assumption) | (with_reducible refine Ext.alloc ?_ _) | (with_reducible refine Ext.drewN ?_ _) | (with_reducible refine Ext.drew ?_) | (with_reducible refine Ext.setCell ?_ ?_ _; rotate_left; (simp only []; omega)) | (with_reducible refine Ext.trans ?_ (by assumption))))
  have l1 := Lib.hid (show ∀ x, a1 = some x → w.heap.size + 3 < x.block ∧ x.block < w1.heap.size from fun x e => by have h := O1.lt x e; (try simp at h); omega)
  clear hx1
  go_wp2_with fail
  clear cBG fBG cBP fBP cBQ fBQ cBR fBR
  replace BG := BG.drew
  replace BP := BP.drew
  replace BQ := BQ.drew
  replace BR := BR.drew
  replace ht := ht.drew
  replace hk := hk.drew
  replace hs := hs.drew
  replace O1 := O1.ext ((Ext.refl _).drew)
  replace XU := XU.drew
  have hdrS : ∀ W : World, W.drew.heap.size = W.heap.size := fun _ => rfl
  refine wp_region_float (R := Ext) (base := w1.heap.size) (Ts := [(33, #[.int .i64 0, .int .i64 0, .int .i64 0, .int .i64 0, .int .i64 0, .slice none 0 0]), (28, #[.int .i64 0, .int .i64 0, .int .i64 0, .slice none 0 0, .slice none 0 0, .int .i64 0, .int .i64 0, .int .i64 0])]) [0, 2, 1, 3, 4, 5, 6, 7] (by kernel_rfl) (by kernel_rfl) Ext.refl (fun _ _ _ => Ext.trans) (fun _ _ h => h) (fun _ _ h => h.size) (fun _ _ b _ _ hb hB hR => hB.ext hR) (by intro x hx; simp only [List.mem_cons, List.not_mem_nil, or_false] at hx; rcases hx with rfl | rfl; all_goals (intro wS; kernel_rfl)) (by omega) ?_
  have hdrW := hdrS w1
  generalize w1.drew = vD at *
  repeat' (first
    | (refine' ChF.pure (v := _) (by rfl) (by rfl) (by rfl) ?_ ?_
       rotate_left
       · (intro wS
          go_simp
          with_reducible rfl)
       (try simp only [Act.put, List.setIfInBounds_toArray, List.set_cons_zero, List.set_cons_succ]))
    | (refine' ChF.quiet (v := _) (by rfl) (by rfl) (by rfl) (by rfl) ?_ ?_
       rotate_left
       · (intro wS hS
          have cP := (BP.ext hS).cells; have cG := (BG.ext hS).cells
          go_simp
          with_reducible rfl)
       (try simp only [Act.put, List.setIfInBounds_toArray, List.set_cons_zero, List.set_cons_succ]))
    | fail)
  refine ChF.call (by rfl) (by rfl) (by rfl) (by rfl) (by rfl) (by intro wS; go_simp; (constructor <;> rfl)) ?_
  intro u1 eu1
  replace BG := BG.ext eu1
  replace BQ := BQ.ext eu1
  replace BP := BP.ext eu1
  replace BR := BR.ext eu1
  replace ht := ht.ext eu1
  replace hk := hk.ext eu1
  replace hs := hs.ext eu1
  replace O1 := O1.ext eu1
  replace XU := XU.trans eu1
  have su1 := eu1.size
  clear eu1
  refine (impl_pcopyOf p a n c u1 hs (by omega)).mono ?_
  rintro e v1 ⟨A, rfl, O5, h5⟩
  refine ⟨_, rfl, h5, ?_⟩
  (try simp only [Act.put, List.setIfInBounds_toArray, List.set_cons_zero, List.set_cons_succ])
  have lA := Lib.hid (show ∀ x, A = some x → w.heap.size + 3 < x.block ∧ x.block < v1.heap.size from fun x e => by have h := O5.lt x e; (try simp at h); omega)
  replace BG := BG.ext h5
  replace BQ := BQ.ext h5
  replace BP := BP.ext h5
  replace BR := BR.ext h5
  replace ht := ht.ext h5
  replace hk := hk.ext h5
  replace O1 := O1.ext h5
  replace XU := XU.trans h5
  have sv1 := h5.size
  clear h5 hs
  repeat' (first
    | (refine' ChF.pure (v := _) (by rfl) (by rfl) (by rfl) ?_ ?_
       rotate_left
       · (intro wS
          go_simp
          with_reducible rfl)
       (try simp only [Act.put, List.setIfInBounds_toArray, List.set_cons_zero, List.set_cons_succ]))
    | (refine' ChF.quiet (v := _) (by rfl) (by rfl) (by rfl) (by rfl) ?_ ?_
       rotate_left
       · (intro wS hS
          have cG := (BG.ext hS).cells
          go_simp
          with_reducible rfl)
       (try simp only [Act.put, List.setIfInBounds_toArray, List.set_cons_zero, List.set_cons_succ]))
    | fail)
  refine ChF.call (by rfl) (by rfl) (by rfl) (by rfl) (by rfl) (by intro wS; go_simp; (constructor <;> rfl)) ?_
  intro u2 eu2
  replace BG := BG.ext eu2
  replace BQ := BQ.ext eu2
  replace BP := BP.ext eu2
  replace BR := BR.ext eu2
  replace ht := ht.ext eu2
  replace hk := hk.ext eu2
  replace O1 := O1.ext eu2
  replace O5 := O5.ext eu2
  replace XU := XU.trans eu2
  have su2 := eu2.size
  clear eu2
  refine (impl_copyOf g ta tn tc ka kn kc u2 ht hk (by omega) (by omega)).mono ?_
  rintro e v2 ⟨sa, qa, rfl, _, _, h6⟩
  refine ⟨_, rfl, h6, ?_⟩
  (try simp only [Act.put, List.setIfInBounds_toArray, List.set_cons_zero, List.set_cons_succ])
  replace BG := BG.ext h6
  replace BQ := BQ.ext h6
  replace BP := BP.ext h6
  replace BR := BR.ext h6
  replace hk := hk.ext h6
  replace O1 := O1.ext h6
  replace O5 := O5.ext h6
  replace XU := XU.trans h6
  have sv2 := h6.size
  clear h6 ht
  repeat' (first
    | (refine' ChF.pure (v := _) (by rfl) (by rfl) (by rfl) ?_ ?_
       rotate_left
       · (intro wS
          go_simp
          with_reducible rfl)
       (try simp only [Act.put, List.setIfInBounds_toArray, List.set_cons_zero, List.set_cons_succ]))
    | (refine' ChF.quiet (v := _) (by rfl) (by rfl) (by rfl) (by rfl) ?_ ?_
       rotate_left
       · (intro wS hS
          skip
          go_simp
          with_reducible rfl)
       (try simp only [Act.put, List.setIfInBounds_toArray, List.set_cons_zero, List.set_cons_succ]))
    | fail)
  refine ChF.box (by rfl) (by rfl) (by rfl) ?_
  intro v3 b1 h3 hb1 B1
  replace B1 : Blk v3 b1 33 #[.int .i64 0, .int .i64 0, .int .i64 0, .int .i64 0, .int .i64 0, .slice none 0 0] := B1
  (try simp only [Act.put, List.setIfInBounds_toArray, List.set_cons_zero, List.set_cons_succ])
  replace BG := BG.ext h3
  replace BQ := BQ.ext h3
  replace BP := BP.ext h3
  replace BR := BR.ext h3
  replace hk := hk.ext h3
  replace O1 := O1.ext h3
  replace O5 := O5.ext h3
  replace XU := XU.trans h3
  have sv3 := h3.size
  clear h3
  repeat' (first
    | (refine' ChF.pure (v := _) (by rfl) (by rfl) (by rfl) ?_ ?_
       rotate_left
       · (intro wS
          go_simp
          with_reducible rfl)
       (try simp only [Act.put, List.setIfInBounds_toArray, List.set_cons_zero, List.set_cons_succ]))
    | (refine' ChF.quiet (v := _) (by rfl) (by rfl) (by rfl) (by rfl) ?_ ?_
       rotate_left
       · (intro wS hS
          skip
          go_simp
          with_reducible rfl)
       (try simp only [Act.put, List.setIfInBounds_toArray, List.set_cons_zero, List.set_cons_succ]))
    | fail)
  refine ChF.box (by rfl) (by rfl) (by rfl) ?_
  intro v4 b2 h4 hb2 B2
  replace B2 : Blk v4 b2 28 #[.int .i64 0, .int .i64 0, .int .i64 0, .slice none 0 0, .slice none 0 0, .int .i64 0, .int .i64 0, .int .i64 0] := B2
  (try simp only [Act.put, List.setIfInBounds_toArray, List.set_cons_zero, List.set_cons_succ])
  replace BG := BG.ext h4
  replace BQ := BQ.ext h4
  replace BP := BP.ext h4
  replace BR := BR.ext h4
  replace B1 := B1.ext h4
  replace hk := hk.ext h4
  replace O1 := O1.ext h4
  replace O5 := O5.ext h4
  replace XU := XU.trans h4
  have sv4 := h4.size
  clear h4
  have n12 : b1 ≠ b2 := B1.apart B2 (by decide)
  have o11 := O1.apartB B1 (by decide)
  have o12 := O1.apartB B2 (by decide)
  have o51 := O5.apartB B1 (by decide)
  have o52 := O5.apartB B2 (by decide)
  repeat' (first
    | (refine' ChF.pure (v := _) (by rfl) (by rfl) (by rfl) ?_ ?_
       rotate_left
       · (intro wS
          go_simp
          with_reducible rfl)
       (try simp only [Act.put, List.setIfInBounds_toArray, List.set_cons_zero, List.set_cons_succ]))
    | (refine' ChF.quiet (v := _) (by rfl) (by rfl) (by rfl) (by rfl) ?_ ?_
       rotate_left
       · (intro wS hS
          skip
          go_simp
          with_reducible rfl)
       (try simp only [Act.put, List.setIfInBounds_toArray, List.set_cons_zero, List.set_cons_succ]))
    | fail)
  have cB1 := B1.cells
  have fB1 := B1.frozens
  refine ChF.storeP (fun W => RExt b1 v4 W ∧ Blk W b1 33 (#[.int .i64 p.kind, .int .i64 p.fr.addr, .int .i64 p.fr.port, .int .i64 p.to_.addr, .int .i64 p.to_.port, .slice A n n])) (by rfl) (by rfl) (by rfl) ⟨_, (by go_simp; rfl), (by simp [World.setCell]), (by repeat (first | (with_reducible exact RExt.refl _ _) | (with_reducible refine RExt.putc ?_ _ _))), (by exact B1.put6 _ _ _ _ _ _)⟩ ?_
  (try simp only [Act.put, List.setIfInBounds_toArray, List.set_cons_zero, List.set_cons_succ])
  rintro v5 s5 ⟨x5, B1'⟩
  clear cB1 fB1 B1
  replace BG := BG.rext x5 (by omega)
  replace BQ := BQ.rext x5 (by omega)
  replace BP := BP.rext x5 (by omega)
  replace BR := BR.rext x5 (by omega)
  replace B2 := B2.rext x5 (by omega)
  replace hk := hk.rextFar x5 (fun hn x e => by have := lk.out hn x e; omega)
  replace O1 := O1.rext x5 o11
  replace O5 := O5.rext x5 o51
  replace XU := RExt.new XU x5 (by omega)
  clear x5
  have cB2 := B2.cells
  have fB2 := B2.frozens
  repeat' (first
    | (refine' ChF.pure (v := _) (by rfl) (by rfl) (by rfl) ?_ ?_
       rotate_left
       · (intro wS
          go_simp
          with_reducible rfl)
       (try simp only [Act.put, List.setIfInBounds_toArray, List.set_cons_zero, List.set_cons_succ]))
    | (refine' ChF.quiet (v := _) (by rfl) (by rfl) (by rfl) (by rfl) ?_ ?_
       rotate_left
       · (intro wS hS
          skip
          go_simp
          with_reducible rfl)
       (try simp only [Act.put, List.setIfInBounds_toArray, List.set_cons_zero, List.set_cons_succ]))
    | fail)
  refine ChF.storeP (fun W => RExt b2 v5 W ∧ Blk W b2 28 (#[.int .i64 g.net.base, .int .i64 g.net.bits, .int .i64 g.out, .slice sa tn tn, .slice qa kn kn, .int .i64 g.filter, .int .i64 g.hold, .int .i64 g.now])) (by rfl) (by rfl) (by rfl) ⟨_, (by go_simp; rfl), (by simp [World.setCell]), (by repeat (first | (with_reducible exact RExt.refl _ _) | (with_reducible refine RExt.putc ?_ _ _))), (by exact B2.put8 _ _ _ _ _ _ _ _)⟩ ?_
  (try simp only [Act.put, List.setIfInBounds_toArray, List.set_cons_zero, List.set_cons_succ])
  rintro v6 s6 ⟨x6, B2'⟩
  clear cB2 fB2 B2
  replace BG := BG.rext x6 (by omega)
  replace BQ := BQ.rext x6 (by omega)
  replace BP := BP.rext x6 (by omega)
  replace BR := BR.rext x6 (by omega)
  replace B1' := B1'.rext x6 (by omega)
  replace hk := hk.rextFar x6 (fun hn x e => by have := lk.out hn x e; omega)
  replace O1 := O1.rext x6 o12
  replace O5 := O5.rext x6 o52
  replace XU := RExt.new XU x6 (by omega)
  clear x6
  refine ChF.nil ?_
  have cG := BG.cells
  have cP := BP.cells
  have c2' := B2'.cells
  have f2' := B2'.frozens
  have zG := BG.lt
  have zP := BP.lt
  have z1' := B1'.lt
  have z2' := B2'.lt
  have zQ := BQ.lt
  have zR := BR.lt
  have g1 : ¬ w.heap.size = b2 := by omega
  have g2 : ¬ w.heap.size + 1 = b2 := by omega
  go_wp2_with fail
  refine (c2.out _ (by exact hk.setFar (fun hn x e => by have := lk.out hn x e; simp only []; omega) _)).mono ?_
  rintro e v7 ⟨a7, m7, rfl, O7, h7⟩
  clear cG cP c2' f2' g1 g2
  have l7 := Lib.hid (show ∀ x, a7 = some x → v6.heap.size ≤ x.block ∧ x.block < v7.heap.size from fun x e => by have h := O7.lt x e; (try simp at h); omega)
  have sv7 := h7.size
  (try simp at sv7)
  replace B2' := (show Blk (v6.setCell ⟨b2, 3, none⟩ (.slice a1 m1 m1)) b2 28 (#[.int .i64 g.net.base, .int .i64 g.net.bits, .int .i64 g.out, .slice a1 m1 m1, .slice qa kn kn, .int .i64 g.filter, .int .i64 g.hold, .int .i64 g.now]) from B2'.set 3 _).ext h7
  replace BG := (BG.far (by simp only []; omega) _).ext h7
  replace BQ := (BQ.far (by simp only []; omega) _).ext h7
  replace BR := (BR.far (by simp only []; omega) _).ext h7
  replace B1' := (B1'.far (by simp only []; omega) _).ext h7
  replace O1 := (O1.setC (fun x e => o12 x e) _).ext h7
  replace O5 := (O5.setC (fun x e => o52 x e) _).ext h7
  replace XU := (XU.setCell (p := ⟨b2, 3, none⟩) (by simp only []; omega) (.slice a1 m1 m1)).trans h7
  clear h7 hk
  have cG := BG.cells
  have fG := BG.frozens
  have c1' := B1'.cells
  have f1' := B1'.frozens
  have c2' := B2'.cells
  have f2' := B2'.frozens
  have g1 : ¬ w.heap.size = b2 := by omega
  have g2 : ¬ w.heap.size = b1 := by omega
  have g3 : ¬ b1 = b2 := n12
  have g4 : ¬ b2 = b1 := fun e => n12 e.symm
  have z7 : b1 < v7.heap.size := B1'.lt
  have z8 : b2 < v7.heap.size := B2'.lt
  have z9 : w.heap.size < v7.heap.size := BG.lt
  go_wp2_with fail
  refine wp_gen (fun W => RX (fun i => i = b1 ∨ i = b2) v7 W ∧ Blk W b1 33 #[.int .i64 p.kind, .int .i64 g.out, .int .i64 port, .int .i64 p.to_.addr, .int .i64 p.to_.port, .slice A n n] ∧ Blk W b2 28 (#[.int .i64 g.net.base, .int .i64 g.net.bits, .int .i64 g.out, .slice a1 m1 m1, .slice a7 m7 m7, .int .i64 g.filter, .int .i64 g.hold, .int .i64 g.now])) ⟨(by repeat (first | (with_reducible exact RX.refl _ _) | (refine RX.putc ?_ (.inl rfl) _ _) | (refine RX.putc ?_ (.inr rfl) _ _))), (by simpa using ((B1'.far (p := ⟨b2, 4, none⟩) n12 (.slice a7 m7 m7)).set 1 (.int .i64 g.out)).set 2 (.int .i64 port)), (by simpa using ((B2'.set 4 (.slice a7 m7 m7)).far (p := ⟨b1, 1, none⟩) g4 (.int .i64 g.out)).far (p := ⟨b1, 2, none⟩) g4 (.int .i64 port))⟩ ?_
  rintro v8 ⟨x8, B1, B2⟩
  clear cG fG c1' f1' c2' f2' g1 g2 g3 z7 z8 z9 B1' B2'
  have sv8 := x8.size
  replace BQ := BQ.rx x8 (by omega)
  replace BR := BR.rx x8 (by omega)
  replace O1 := O1.rx x8 (fun x e h => h.elim (o11 x e) (o12 x e))
  replace O5 := O5.rx x8 (fun x e h => h.elim (o51 x e) (o52 x e))
  replace O7 := O7.rx x8 (fun x e h => by have := l7.out x e; omega)
  replace XU := RX.new XU x8 (fun i h => by omega)
  clear x8
  replace BQ := BQ.drew
  replace BR := BR.drew
  replace B1 := B1.drew
  replace B2 := B2.drew
  replace O1 := O1.ext ((Ext.refl _).drew)
  replace O5 := O5.ext ((Ext.refl _).drew)
  replace O7 := O7.ext ((Ext.refl _).drew)
  replace XU := XU.drew
  refine wp_region_eager (R := RX (fun i => i = w.heap.size + 1 + 1 ∨ i = w.heap.size + 1 + 1 + 1)) [0, 1, 2, 3, 4] (by kernel_rfl) (by kernel_rfl) (RX.refl _) (fun _ _ _ => RX.trans) ?_
  have hdrV := hdrS v8
  generalize v8.drew = v9 at *
  repeat' (first
    | (refine ChX.skip (by rfl) (by rfl) ?_
       (try simp only [Act.put, List.setIfInBounds_toArray, List.set_cons_zero, List.set_cons_succ]))
    | (refine' ChX.quiet (v := _) (by rfl) (by rfl) (by rfl) ?_ ?_
       rotate_left
       · (intro wS hS
          have c1 := (B1.rx hS (by omega)).cells; have c2 := (B2.rx hS (by omega)).cells
          go_simp
          with_reducible rfl)
       (try simp only [Act.put, List.setIfInBounds_toArray, List.set_cons_zero, List.set_cons_succ]))
    | (refine ChX.nil ?_)
    | (refine' ChX.guard (x := _) (by rfl) ?_ ?_ ?_
       rotate_left
       · (go_simp
          rfl)
       all_goals
         intro hg
         simp only [hg])
    | (refine' ChX.guardN (x := _) (by rfl) ?_ ?_ ?_
       rotate_left
       · (go_simp
          rfl)
       all_goals
         intro hg
         simp only [hg]))
  have cQ := BQ.cells
  have fQ := BQ.frozens
  refine ChX.storeP (fun W => RExt (w.heap.size + 1 + 1) v9 W ∧ Blk W (w.heap.size + 1 + 1) 33 #[.int .i64 p.kind, .int .i64 g.out, .int .i64 port, .int .i64 p.to_.addr, .int .i64 p.to_.port, .slice A n n]) (by rfl) (by rfl) (by rfl) ⟨_, (by go_simp; rfl), RX.of_rext (B := w.heap.size + 1 + 1) (by repeat (first | (with_reducible exact RExt.refl _ _) | (with_reducible refine RExt.putc ?_ _ _))) (.inl rfl), (by repeat (first | (with_reducible exact RExt.refl _ _) | (with_reducible refine RExt.putc ?_ _ _))), (by exact BQ.put6 _ _ _ _ _ _)⟩ ?_
  (try simp only [Act.put, List.setIfInBounds_toArray, List.set_cons_zero, List.set_cons_succ])
  rintro y1 _ ⟨z1, BQ1⟩
  clear cQ fQ
  have BR1 := BR.rext z1 (by omega)
  have cR := BR1.cells
  have fR := BR1.frozens
  refine ChX.storeP (fun W => RExt (w.heap.size + 1 + 1 + 1) y1 W ∧ Blk W (w.heap.size + 1 + 1 + 1) 28 (#[.int .i64 g.net.base, .int .i64 g.net.bits, .int .i64 g.out, .slice a1 m1 m1, .slice a7 m7 m7, .int .i64 g.filter, .int .i64 g.hold, .int .i64 g.now])) (by rfl) (by rfl) (by rfl) ⟨_, (by go_simp; rfl), RX.of_rext (B := w.heap.size + 1 + 1 + 1) (by repeat (first | (with_reducible exact RExt.refl _ _) | (with_reducible refine RExt.putc ?_ _ _))) (.inr rfl), (by repeat (first | (with_reducible exact RExt.refl _ _) | (with_reducible refine RExt.putc ?_ _ _))), (by exact BR1.put8 _ _ _ _ _ _ _ _)⟩ ?_
  (try simp only [Act.put, List.setIfInBounds_toArray, List.set_cons_zero, List.set_cons_succ])
  rintro y2 _ ⟨z2, BR2⟩
  clear cR fR BR1
  have BQ2 := BQ1.rext z2 (by omega)
  repeat' (first
    | (refine ChX.skip (by rfl) (by rfl) ?_
       (try simp only [Act.put, List.setIfInBounds_toArray, List.set_cons_zero, List.set_cons_succ]))
    | (refine' ChX.quiet (v := _) (by rfl) (by rfl) (by rfl) ?_ ?_
       rotate_left
       · (intro wS hS
          skip
          go_simp
          with_reducible rfl)
       (try simp only [Act.put, List.setIfInBounds_toArray, List.set_cons_zero, List.set_cons_succ]))
    | (refine ChX.nil ?_)
    | (refine' ChX.guard (x := _) (by rfl) ?_ ?_ ?_
       rotate_left
       · (go_simp
          rfl)
       all_goals
         intro hg
         simp only [hg])
    | (refine' ChX.guardN (x := _) (by rfl) ?_ ?_ ?_
       rotate_left
       · (go_simp
          rfl)
       all_goals
         intro hg
         simp only [hg]))
  have cQ := BQ2.cells
  have zQ2 := BQ2.lt
  have cR := BR2.cells
  have zR2 := BR2.lt
  go_wp2
  refine' bodyPost_ret (v := _) ?_ rfl ?_
  rotate_left
  · (simp only [results, Try.results78]
     go_simp
     rfl)
  refine ⟨A, a1, m1, a7, m7, rfl, ?_, ?_, ?_, ?_⟩
  · exact ((O5.rext z1 (fun x e => by have := lA.out x e; omega)).rext z2 (fun x e => by have := lA.out x e; omega)).rebase (by (try simp); (try omega))
  · exact ((O1.rext z1 (fun x e => by have := l1.out x e; omega)).rext z2 (fun x e => by have := l1.out x e; omega)).rebase (by (try simp); (try omega))
  · exact ((O7.rext z1 (fun x e => by have := l7.out x e; omega)).rext z2 (fun x e => by have := l7.out x e; omega)).rebase (by (try simp); (try omega))
  · exact RExt.new (RExt.new XU z1 (by omega)) z2 (by omega)
/-- The first package's send, in one form. -/
theorem impl_send_u (g : GateD) (p : PktD) (ta : Option Addr) (tn tc : Nat) (ka : Option Addr) (kn kc : Nat) (a : Option Addr) (n c : Nat) (w : World) (ht : Sl encM 4 w ta tn tc g.table) (hk : Sl encC 3 w ka kn kc g.cons) (hs : Sl encI 1 w a n c p.data) (v1 : validGate g = true) (v2 : validPkt p = true) (v3 : has g.net p.fr.addr = true) :
    Calls Try.prog 78 #[.agg #[.int .i64 g.net.base, .int .i64 g.net.bits, .int .i64 g.out, .slice ta tn tc, .slice ka kn kc, .int .i64 g.filter, .int .i64 g.hold, .int .i64 g.now], .agg #[.int .i64 p.kind, .int .i64 p.fr.addr, .int .i64 p.fr.port, .int .i64 p.to_.addr, .int .i64 p.to_.port, .slice a n c]] w fun e w' => ∃ A n C sa sn sc qa qn qc, e = .returned (.tuple #[.agg #[.int .i64 (rP (send g p)).kind, .int .i64 (rP (send g p)).fr.addr, .int .i64 (rP (send g p)).fr.port, .int .i64 (rP (send g p)).to_.addr, .int .i64 (rP (send g p)).to_.port, .slice A n C], .agg #[.int .i64 (rG (send g p)).net.base, .int .i64 (rG (send g p)).net.bits, .int .i64 (rG (send g p)).out, .slice sa sn sc, .slice qa qn qc, .int .i64 (rG (send g p)).filter, .int .i64 (rG (send g p)).hold, .int .i64 (rG (send g p)).now], .bool (send g p).isSome]) ∧
          Ow 3 encI 1 w.heap.size w' A n C (rP (send g p)).data ∧ Ow 89 encM 4 w.heap.size w' sa sn sc (rG (send g p)).table ∧ Ow 47 encC 3 w.heap.size w' qa qn qc (rG (send g p)).cons ∧ Ext w w' := by
  cases hm : mapEnd g.table p.fr g.now with
  | none =>
    have e2 : send g p = none := by unfold send; rw [hm]
    rw [e2]
    exact (impl_send_none g p ta tn tc ka kn kc a n c w ht hk hs v1 v2 hm).mono fun _ _ ⟨h1, h2⟩ => ⟨none, 0, 0, none, 0, 0, none, 0, 0, h1, Ow.nils _, Ow.nils _, Ow.nils _, h2⟩
  | some r =>
    obtain ⟨T, port⟩ := r
    have e2 : send g p = some ({ p with fr := ⟨g.out, port⟩ }, { g with table := T, cons := note g.cons ⟨port, p.to_⟩ }) := by unfold send; rw [hm]
    have S := send_ok (validGate_iff.1 v1) v2 v3 e2
    have hok : okCon ⟨port, p.to_⟩ = true := (validContacts_iff.1 S.valid.con).1 _ (note_mem _ _)
    rw [e2]
    exact (impl_send_some g p ta tn tc ka kn kc a n c w ht hk hs v1 v2 T port hm hok).mono fun _ _ ⟨A, sa, sn, qa, qn, h1, h2, h3, h4, h5⟩ => ⟨A, n, n, sa, sn, sn, qa, qn, qn, h1, h2, h3, h4, h5⟩
end Go.Proofs.Ytppdcglnopoocaa
