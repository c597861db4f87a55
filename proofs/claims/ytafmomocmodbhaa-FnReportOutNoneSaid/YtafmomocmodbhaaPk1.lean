/- Part 1 of the words, laws and contracts that the claims of this seat share, joined from their texts. No condition. -/
import Derived.Laws.MakeOwn
import Derived.Test.YtafmomocmodbhaaPk0
/- Contracts: finding in slices of contacts; valid contacts, of both packages. -/
namespace Go.Proofs.Ytafmomocmodbhaa
set_option linter.unusedVariables false
set_option linter.unusedSimpArgs false
open Go.RowKit Go.Shelf

theorem IndexFunc_C (g : FuncId) (lb : Array Value) (eg : ∀ args w, (callFunc g args).run Try.prog w = .ok (.enter g args) w) (p : ConD → Bool) (a : Option Addr) (n c : Nat) (L : List ConD) (w : World) (hs : Sl encC 3 w a n c L)
    (hcall : ∀ x, x ∈ L → ∀ W, Ext w W → Calls Try.prog g (#[.agg #[.int .i64 x.port, .int .i64 x.to_.addr, .int .i64 x.to_.port]] ++ lb) W fun e w' => e = .returned (.bool (p x)) ∧ Ext W w') :
    Calls Try.prog 147 #[.slice a n c, .func (.func g) #[] lb] w fun e w' => e = .returned (.int .i64 (ix p L)) ∧ Ext w w' := by
  have hle := hs.le
  have hmax := hs.max
  have hlen := Lib.hid hs.len
  rcases hs.cons with ⟨h0, hL⟩ | ⟨h0, b, off, ha, hb, hc⟩
  · subst h0
    subst hL
    clear hs hcall hlen
    go_enter Try.func147, Try.ntmps147
    go_wp2
    go_loop [5, 8] (fun _ i => i = .int .i64 0) (fun _ _ => 0)
    case atStart => rfl
    case round =>
      subst hrel
      go_wp2
      go_ret
      exact ⟨rfl, Ext.refl _⟩
  · subst ha
    have HC := Lib.hid hcall
    have HC2 := Lib.hid hc
    clear hs hcall hc
    go_enter Try.func147, Try.ntmps147
    go_wp2
    go_loopw [5, 8] (fun _ i wr => ∃ k : Nat, k ≤ n ∧ i = .int .i64 k ∧ (∀ j, j < k → p (nth L j) = false) ∧ Ext w wr) (fun _ i _ => n - (intOf i).toNat)
    case atStart => exact ⟨0, Nat.zero_le _, rfl, by omega, Ext.refl _⟩
    case round =>
      obtain ⟨k, hk, rfl, hall, hX⟩ := hrel
      have HA := Lib.hid hall
      clear hall
      by_cases hlt : k < n
      · obtain ⟨d0, d1, d2⟩ := HC2.out k hlt
        rw [← hX.cells _ _ hb] at d0 d1 d2
        have hmem : nth L k ∈ L := nth_mem (by rw [hlen.out]; exact hlt)
        have hcall := HC.out (nth L k) hmem wr hX
        cases hp : p (nth L k) with
        | true =>
          rw [hp] at hcall
          replace hcall := Lib.hid hcall
          replace hp := Lib.hid hp
          go_wp2_with fail
          refine (hcall.out).mono ?_
          rintro e w1 ⟨rfl, hx⟩
          go_wp2
          go_ret
          refine ⟨ret_int (ix_some (k := k) (x := nth L k) ?_ (nth_some (by rw [hlen.out]; exact hlt)) hp.out).symm, hX.trans hx⟩
          intro y hy
          obtain ⟨j, hj, rfl⟩ := List.mem_take_iff_getElem.1 hy
          have h1 := HA.out j (by omega)
          rwa [nth_of (List.getElem?_eq_getElem (by omega))] at h1
        | false =>
          rw [hp] at hcall
          replace hcall := Lib.hid hcall
          replace hp := Lib.hid hp
          go_wp2_with fail
          refine (hcall.out).mono ?_
          rintro e w1 ⟨rfl, hx⟩
          have HX := Lib.hid (hX.trans hx)
          clear hX hx
          go_wp2
          go_roundw
          case rel => exact ⟨k + 1, hlt, by go_num, fun j hj => by
            rcases Nat.lt_or_ge j k with h | h
            · exact HA.out j h
            · have e : j = k := by omega
              rw [e]; exact hp.out, HX.out⟩
          case measure => simp [intOf]; omega
      · have e : k = n := by omega
        have HX := Lib.hid hX
        clear hX
        subst e
        go_wp2
        go_ret
        refine ⟨ret_int (ix_none fun x hx => ?_).symm, HX.out⟩
        obtain ⟨j, hj, rfl⟩ := List.mem_iff_getElem.1 hx
        have h1 := HA.out j (by rw [← hlen.out]; exact hj)
        rwa [nth_of (List.getElem?_eq_getElem hj)] at h1
theorem ContainsFunc_C (g : FuncId) (lb : Array Value) (eg : ∀ args w, (callFunc g args).run Try.prog w = .ok (.enter g args) w) (p : ConD → Bool) (a : Option Addr) (n c : Nat) (L : List ConD) (w : World) (hs : Sl encC 3 w a n c L)
    (hcall : ∀ x, x ∈ L → ∀ W, Ext w W → Calls Try.prog g (#[.agg #[.int .i64 x.port, .int .i64 x.to_.addr, .int .i64 x.to_.port]] ++ lb) W fun e w' => e = .returned (.bool (p x)) ∧ Ext W w') :
    Calls Try.prog 111 #[.slice a n c, .func (.func g) #[] lb] w fun e w' => e = .returned (.bool (L.any p)) ∧ Ext w w' := by
  have H := Lib.hid (IndexFunc_C g lb eg p a n c L w hs hcall)
  rw [← ix_any]
  have hge := ix_ge p L
  clear hs hcall eg
  generalize ix p L = r at *
  go_enter Try.func111, Try.ntmps111
  go_wp2_with fail
  refine (H.out).mono ?_
  rintro e w1 ⟨rfl, hx⟩
  go_wp2
  go_ret
  exact ⟨rfl, hx⟩
theorem Index_C (x : ConD) (a : Option Addr) (n c : Nat) (L : List ConD) (w : World) (hs : Sl encC 3 w a n c L) :
    Calls Try.prog 152 #[.slice a n c, .agg #[.int .i64 x.port, .int .i64 x.to_.addr, .int .i64 x.to_.port]] w fun e w' => e = .returned (.int .i64 (ix (fun q => decide (q = x)) L)) ∧ Ext w w' := by
  have hle := hs.le
  have hmax := hs.max
  have hlen := Lib.hid hs.len
  rcases hs.cons with ⟨h0, hL⟩ | ⟨h0, b, off, ha, hb, hc⟩
  · subst h0
    subst hL
    clear hs hlen
    go_enter Try.func152, Try.ntmps152
    go_wp2
    go_loop [5, 8] (fun _ i => i = .int .i64 0) (fun _ _ => 0)
    case atStart => rfl
    case round =>
      subst hrel
      go_wp2
      go_ret
      exact ⟨rfl, (by repeat (first | (with_reducible exact Ext.refl _) | (with_reducible assumption) | (with_reducible refine Ext.alloc ?_ _) | (with_reducible refine Ext.drewN ?_ _) | (with_reducible refine Ext.drew ?_) | (with_reducible refine Ext.setCell ?_ ?_ _; rotate_left; (simp only []; omega)) | (with_reducible refine Ext.trans ?_ (by assumption))))⟩
  · subst ha
    have HC2 := Lib.hid hc
    clear hs hc
    go_enter Try.func152, Try.ntmps152
    go_wp2
    go_loopw [5, 8] (fun _ i wr => ∃ k : Nat, k ≤ n ∧ i = .int .i64 k ∧ (∀ j, j < k → nth L j ≠ x) ∧ Blk wr w.heap.size 115 #[.int .i64 x.port, .int .i64 x.to_.addr, .int .i64 x.to_.port] ∧ Ext w wr) (fun _ i _ => n - (intOf i).toNat)
    case atStart => exact ⟨0, Nat.zero_le _, rfl, by omega, Blk.new _ _ _, (by repeat (first | (with_reducible exact Ext.refl _) | (with_reducible assumption) | (with_reducible refine Ext.alloc ?_ _) | (with_reducible refine Ext.drewN ?_ _) | (with_reducible refine Ext.drew ?_) | (with_reducible refine Ext.setCell ?_ ?_ _; rotate_left; (simp only []; omega)) | (with_reducible refine Ext.trans ?_ (by assumption))))⟩
    case round =>
      obtain ⟨k, hk, rfl, hall, hB, hX⟩ := hrel
      have HA := Lib.hid hall
      clear hall
      by_cases hlt : k < n
      · obtain ⟨d0, d1, d2⟩ := HC2.out k hlt
        rw [← hX.cells _ _ hb] at d0 d1 d2
        have hcB := hB.cells
        have hzB := hB.lt
        have hbr : b < wr.heap.size := by have := hX.size; omega
        by_cases hq : nth L k = x
        · rw [hq] at d0 d1 d2
          have HX := Lib.hid hX
          replace hq := Lib.hid hq
          clear hX
          go_wp2_with fail
          have hdrS : ∀ W : World, W.drew.heap.size = W.heap.size := fun _ => rfl
          refine wp_region_eager (R := Ext) [0, 1, 2, 3, 4, 5] (by kernel_rfl) (by kernel_rfl) Ext.refl (fun _ _ _ => Ext.trans) ?_
          repeat' (first
            | (refine ChX.skip (by rfl) (by rfl) ?_
               (try simp only [Act.put, List.setIfInBounds_toArray, List.set_cons_zero, List.set_cons_succ]))
            | (refine' ChX.quiet (v := _) (by rfl) (by rfl) (by rfl) ?_ ?_
               rotate_left
               · (intro wS hS
                  have hcS := Ext.cells hS
                  go_simp
                  with_reducible rfl)
               (try simp only [Act.put, List.setIfInBounds_toArray, List.set_cons_zero, List.set_cons_succ]))
            | (refine ChX.nil ?_)
            | (refine' ChX.guard (x := _) (by rfl) ?_ ?_ ?_
               rotate_left
               · (go_simp
                  rfl)
               all_goals
                 intro hg
                 simp only [hg])
            | (refine' ChX.guardN (x := _) (by rfl) ?_ ?_ ?_
               rotate_left
               · (go_simp
                  rfl)
               all_goals
                 intro hg
                 simp only [hg]))
          go_wp2
          go_ret
          refine ⟨ret_int (ix_some (k := k) (x := nth L k) ?_ (nth_some (by rw [hlen.out]; exact hlt)) (by simpa using hq.out)).symm, (show Ext w wr from HX.out).trans (by repeat (first | (with_reducible exact Ext.refl _) | (with_reducible assumption) | (with_reducible refine Ext.alloc ?_ _) | (with_reducible refine Ext.drewN ?_ _) | (with_reducible refine Ext.drew ?_) | (with_reducible refine Ext.setCell ?_ ?_ _; rotate_left; (simp only []; omega)) | (with_reducible refine Ext.trans ?_ (by assumption))))⟩
          intro y hy
          obtain ⟨j, hj, rfl⟩ := List.mem_take_iff_getElem.1 hy
          have h1 := HA.out j (by omega)
          rw [nth_of (List.getElem?_eq_getElem (by omega))] at h1
          simpa using h1
        · have HX := Lib.hid hX
          have hqf : decide (x = nth L k) = false := by simpa using fun e => hq e.symm
          have heq : ∀ W : World, (Go.binOp .eql 115 (.agg #[.int .i64 x.port, .int .i64 x.to_.addr, .int .i64 x.to_.port]) (.agg #[.int .i64 (nth L k).port, .int .i64 (nth L k).to_.addr, .int .i64 (nth L k).to_.port])).run Try.prog W = .ok (.bool false) W := fun W => by rw [run_eql_C, hqf]
          replace hq := Lib.hid hq
          clear hX hqf
          go_wp2_with fail
          have hdrS : ∀ W : World, W.drew.heap.size = W.heap.size := fun _ => rfl
          refine wp_region_eager (R := Ext) [0, 1, 2, 3, 4, 5] (by kernel_rfl) (by kernel_rfl) Ext.refl (fun _ _ _ => Ext.trans) ?_
          repeat' (first
            | (refine ChX.skip (by rfl) (by rfl) ?_
               (try simp only [Act.put, List.setIfInBounds_toArray, List.set_cons_zero, List.set_cons_succ]))
            | (refine' ChX.quiet (v := _) (by rfl) (by rfl) (by rfl) ?_ ?_
               rotate_left
               · (intro wS hS
                  have hcS := Ext.cells hS
                  go_simp
                  with_reducible rfl)
               (try simp only [Act.put, List.setIfInBounds_toArray, List.set_cons_zero, List.set_cons_succ]))
            | (refine ChX.nil ?_)
            | (refine' ChX.guard (x := _) (by rfl) ?_ ?_ ?_
               rotate_left
               · (go_simp
                  rfl)
               all_goals
                 intro hg
                 simp only [hg])
            | (refine' ChX.guardN (x := _) (by rfl) ?_ ?_ ?_
               rotate_left
               · (go_simp
                  rfl)
               all_goals
                 intro hg
                 simp only [hg]))
          go_wp2
          go_roundw
          case rel => exact ⟨k + 1, hlt, by go_num, fun j hj => by
            rcases Nat.lt_or_ge j k with h | h
            · exact HA.out j h
            · have e : j = k := by omega
              rw [e]; exact hq.out, hB.ext (by repeat (first | (with_reducible exact Ext.refl _) | (with_reducible assumption) | (with_reducible refine Ext.alloc ?_ _) | (with_reducible refine Ext.drewN ?_ _) | (with_reducible refine Ext.drew ?_) | (with_reducible refine Ext.setCell ?_ ?_ _; rotate_left; (simp only []; omega)) | (with_reducible refine Ext.trans ?_ (by assumption)))), (show Ext w wr from HX.out).trans (by repeat (first | (with_reducible exact Ext.refl _) | (with_reducible assumption) | (with_reducible refine Ext.alloc ?_ _) | (with_reducible refine Ext.drewN ?_ _) | (with_reducible refine Ext.drew ?_) | (with_reducible refine Ext.setCell ?_ ?_ _; rotate_left; (simp only []; omega)) | (with_reducible refine Ext.trans ?_ (by assumption))))⟩
          case measure => simp [intOf]; omega
      · have e : k = n := by omega
        have HX := Lib.hid hX
        clear hX
        subst e
        go_wp2
        go_ret
        refine ⟨ret_int (ix_none fun y hy => ?_).symm, HX.out⟩
        obtain ⟨j, hj, rfl⟩ := List.mem_iff_getElem.1 hy
        have h1 := HA.out j (by rw [← hlen.out]; exact hj)
        rw [nth_of (List.getElem?_eq_getElem hj)] at h1
        simpa using h1
theorem Contains_C (x : ConD) (a : Option Addr) (n c : Nat) (L : List ConD) (w : World) (hs : Sl encC 3 w a n c L) :
    Calls Try.prog 146 #[.slice a n c, .agg #[.int .i64 x.port, .int .i64 x.to_.addr, .int .i64 x.to_.port]] w fun e w' => e = .returned (.bool (L.any fun q => decide (q = x))) ∧ Ext w w' := by
  have H := Lib.hid (fun W hW => Index_C x a n c L W hW)
  rw [← ix_any]
  generalize ix (fun q => decide (q = x)) L = r at *
  go_enter Try.func146, Try.ntmps146
  go_wp2_with fail
  refine (H.out _ (by exact hs.ext (by repeat (first | (with_reducible exact Ext.refl _) | (with_reducible assumption) | (with_reducible refine Ext.alloc ?_ _) | (with_reducible refine Ext.drewN ?_ _) | (with_reducible refine Ext.drew ?_) | (with_reducible refine Ext.setCell ?_ ?_ _; rotate_left; (simp only []; omega)) | (with_reducible refine Ext.trans ?_ (by assumption)))))).mono ?_
  rintro e w1 ⟨rfl, hx⟩
  go_wp2
  go_ret
  exact ⟨rfl, (by repeat (first | (with_reducible exact Ext.refl _) | (with_reducible assumption) | (with_reducible refine Ext.alloc ?_ _) | (with_reducible refine Ext.drewN ?_ _) | (with_reducible refine Ext.drew ?_) | (with_reducible refine Ext.setCell ?_ ?_ _; rotate_left; (simp only []; omega)) | (with_reducible refine Ext.trans ?_ (by assumption))))⟩
theorem impl_Contact_valid (x : ConD) (w : World) : Calls Try.prog 145 #[.agg #[.int .i64 x.port, .int .i64 x.to_.addr, .int .i64 x.to_.port]] w fun r w' => r = .returned (.bool (okCon x)) ∧ Ext w w' := by
  unfold okCon
  go_enter Try.func145, Try.ntmps145
  go_wp2_with (first | (go_at_call 143; refine (impl_isOutside _ _).mono ?_; rintro e w' ⟨rfl, rfl⟩) | (go_at_call 113; refine (impl_End_valid' x.to_ _).mono ?_; rintro e w1 ⟨rfl, hx⟩; have hc := hx.cells; have hf := hx.frozens; have hy := hx.size; (try simp at hy); have hz : w.heap.size < w1.heap.size := (by omega)))
  all_goals (go_ret; exact ⟨ret_bool (by simp [*]), (by repeat (first | (with_reducible exact Ext.refl _) | (with_reducible assumption) | (with_reducible refine Ext.alloc ?_ _) | (with_reducible refine Ext.drewN ?_ _) | (with_reducible refine Ext.drew ?_) | (with_reducible refine Ext.setCell ?_ ?_ _; rotate_left; (simp only []; omega)) | (with_reducible refine Ext.trans ?_ (by assumption))))⟩)
theorem run_take_C (a : Option Addr) (n c m : Nat) (h : m ≤ c) (W : World) : (Instr.slice 38 (.slice a n c) none (some (.int .i64 m)) none).run Try.prog W = .ok (.slice a m c) W := by
  have h2 : (m : Int) ≤ (c : Int) := by omega
  have e : ∀ s : Nat, a.map (·.add (0 * s)) = a := by intro s; rw [Nat.zero_mul]; exact add_zero' a
  rw [run_slice_h (P := Try.prog) W 38 a n c (by kernel_rfl) .i64 (m : Int) (by omega) h2]
  go_simp
theorem okConAt_impl (L : List ConD) (k : Nat) : okConAt L k = (okCon (nth L k) && !((L.take k).any fun q => decide (q = nth L k))) := by
  unfold okConAt
  congr 1
  generalize L.take k = l
  induction l with
  | nil => rfl
  | cons y l ih => rw [List.all_cons, List.any_cons, ih]; simp
set_option maxHeartbeats 1000000 in
theorem impl_ValidContacts (a : Option Addr) (n c : Nat) (L : List ConD) (w : World) (hs : Sl encC 3 w a n c L) :
    Calls Try.prog 107 #[.slice a n c] w fun e w' => e = .returned (.bool (validContacts L)) ∧ Ext w w' := by
  have hle := hs.le
  have hmax := hs.max
  have hfin : validContacts L = (upTo (okConAt L) n && decide (n ≤ 10)) := by rw [← hs.len]; rfl
  rw [hfin]
  clear hfin
  rcases hs.cons with ⟨h0, hL⟩ | ⟨h0, b, off, ha, hb, hc⟩
  · subst h0
    subst hL
    clear hs
    go_enter Try.func107, Try.ntmps107
    go_wp2
    go_loop [3, 4, 7] (fun _ _ i => i = .int .i64 0) (fun _ _ _ => 0)
    case atStart => rfl
    case round =>
      subst hrel
      go_wp2
      go_ret
      exact ⟨rfl, Ext.refl _⟩
  · subst ha
    have HC2 := Lib.hid hc
    clear hc
    go_enter Try.func107, Try.ntmps107
    go_wp2
    go_loopw [3, 4, 7] (fun _ _ i wr => ∃ k : Nat, k ≤ n ∧ i = .int .i64 k ∧ (∀ j, j < k → okConAt L j = true) ∧ Ext w wr) (fun _ _ i _ => n - (intOf i).toNat)
    case atStart => exact ⟨0, Nat.zero_le _, rfl, by omega, Ext.refl _⟩
    case round =>
      obtain ⟨k, hk, rfl, hall, hX⟩ := hrel
      have HA := Lib.hid hall
      clear hall
      have hsk := hs.ext hX
      by_cases hlt : k < n
      · obtain ⟨d0, d1, d2⟩ := HC2.out k hlt
        rw [← hX.cells _ _ hb] at d0 d1 d2
        have hbr : b < wr.heap.size := by have := hX.size; omega
        have hok := Lib.hid (okConAt_impl L k)
        have hcut := hsk.cut (m := k) (by omega)
        have hsl := run_take_C (some ⟨b, off, none⟩) n c k (by omega)
        go_wp2_with fail
        refine wp_region_ext (by kernel_rfl) (by kernel_rfl) ?_
        repeat' (first
          | (refine ChL.skip (by rfl) ?_
             (try simp only [Act.put, List.setIfInBounds_toArray, List.set_cons_zero, List.set_cons_succ]))
          | (refine' ChL.val (v := _) (by rfl) ?_ ?_
             rotate_left
             · (intro wS hS
                have hcS := Ext.cells hS
                go_simp
                with_reducible rfl)
             (try simp only [Act.put, List.setIfInBounds_toArray, List.set_cons_zero, List.set_cons_succ]))
          | (refine' ChL.call (v := _) (f := _) (args := _) (by rfl) ?_ ?_ ?_
             rotate_left 3
             · (intro wS
                go_simp
                (constructor <;> rfl))
             · (intro wS hS
                first | (go_at_call 145; refine (impl_Contact_valid (nth L k) _).mono ?_; rintro e w1 ⟨rfl, hx⟩; refine ⟨?_, Ext.trans hS hx⟩; rfl) | (go_at_call 146; refine (Contains_C (nth L k) (some ⟨b, off, none⟩) k c (L.take k) _ (by exact (hcut.ext (show Ext wr _ from (by repeat (first | (with_reducible exact Ext.refl _) | (with_reducible assumption) | (with_reducible refine Ext.alloc ?_ _) | (with_reducible refine Ext.drewN ?_ _) | (with_reducible refine Ext.drew ?_) | (with_reducible refine Ext.setCell ?_ ?_ _; rotate_left; (simp only []; omega)) | (with_reducible refine Ext.trans ?_ (by assumption)))))).ext hS)).mono ?_; rintro e w1 ⟨rfl, hx⟩; refine ⟨?_, Ext.trans hS hx⟩; rfl))
             (try simp only [Act.put, List.setIfInBounds_toArray, List.set_cons_zero, List.set_cons_succ]))
          | (refine ChL.nil ?_)
          | (refine' ChL.guard (x := _) ?_ ?_ ?_
             rotate_left
             · (go_simp
                rfl)
             all_goals
               intro hg
               simp only [hg])
          | (refine' ChL.guardN (x := _) ?_ ?_ ?_
             rotate_left
             · (go_simp
                rfl)
             all_goals
               intro hg
               simp only [hg]))
        all_goals
          intro w' hw'
          have HX : Ext w w' := hX.trans (Ext.trans (show Ext wr _ from (by repeat (first | (with_reducible exact Ext.refl _) | (with_reducible assumption) | (with_reducible refine Ext.alloc ?_ _) | (with_reducible refine Ext.drewN ?_ _) | (with_reducible refine Ext.drew ?_) | (with_reducible refine Ext.setCell ?_ ?_ _; rotate_left; (simp only []; omega)) | (with_reducible refine Ext.trans ?_ (by assumption))))) hw')
          clear hX hw' hsk hcut hsl
          go_wp2
        all_goals first
          | (go_ret
             exact ⟨ret_bool (by rw [upTo_f hlt (by rw [hok.out]; simp [*])]; rfl), HX⟩)
          | (go_roundw
             case rel =>
               exact ⟨k + 1, hlt, by go_num, fun j hj => by
                 rcases Nat.lt_or_ge j k with h | h
                 · exact HA.out j h
                 · have e : j = k := by omega
                   rw [e, hok.out]; simp [*], HX⟩
             case measure => simp [intOf]; omega)
      · have e : k = n := by omega
        subst e
        clear hsk
        have HX := Lib.hid hX
        clear hX
        go_wp2
        go_ret
        exact ⟨ret_bool (by rw [upTo_iff.2 HA.out, Bool.eq_iff_iff]; simp; omega), HX.out⟩
end Go.Proofs.Ytafmomocmodbhaa
/- Contracts: places, valid tables, valid contacts, of the reference. -/
namespace Go.Proofs.Ytafmomocmodbhaa
set_option linter.unusedVariables false
set_option linter.unusedSimpArgs false
open Go.RowKit Go.Shelf

theorem spec_byPort (q : Int) (a : Option Addr) (n c : Nat) (L : List MapD) (w : World) (hs : Sl encM 4 w a n c L) :
    Calls Try.prog 90 #[.slice a n c, .int .i64 q] w fun r w' => r = .returned (.int .i64 (byPort L q)) ∧ w = w' := by
  have hle := hs.le
  have hmax := hs.max
  have hlen := Lib.hid hs.len
  unfold byPort
  rcases hs.maps with ⟨h0, hL⟩ | ⟨h0, b, off, ha, hb, hc⟩
  · subst h0
    subst hL
    clear hs hlen
    go_enter Try.func90, Try.ntmps90
    go_wp2
    go_loop [5] (fun i => i = .int .i64 0) (fun _ => 0)
    case atStart => rfl
    case round =>
      subst hrel
      go_wp2
      go_ret
      exact ⟨rfl, rfl⟩
  · subst ha
    have HC2 := Lib.hid hc
    clear hs hc
    go_enter Try.func90, Try.ntmps90
    go_wp2
    go_loop [5] (fun i => ∃ k : Nat, k ≤ n ∧ i = .int .i64 k ∧ (∀ j, j < k → (nth L j).port ≠ q)) (fun i => n - (intOf i).toNat)
    case atStart => exact ⟨0, Nat.zero_le _, rfl, by omega⟩
    case round =>
      obtain ⟨k, hk, rfl, hall⟩ := hrel
      have HA := Lib.hid hall
      clear hall
      by_cases hlt : k < n
      · obtain ⟨_, _, d2, _⟩ := HC2.out k hlt
        by_cases hq : (nth L k).port = q
        · rw [hq] at d2
          replace hq := Lib.hid hq
          go_wp2
          go_ret
          refine ⟨ret_int (ix_some (k := k) (x := nth L k) ?_ (nth_some (by rw [hlen.out]; exact hlt)) (by simpa using hq.out)).symm, rfl⟩
          intro y hy
          obtain ⟨j, hj, rfl⟩ := List.mem_take_iff_getElem.1 hy
          have h1 := HA.out j (by omega)
          rw [nth_of (List.getElem?_eq_getElem (by omega))] at h1
          simpa using h1
        · have hqf : ((nth L k).port == q) = false := by simpa using hq
          replace hq := Lib.hid hq
          go_wp2
          go_round
          case rel => exact ⟨k + 1, hlt, by go_num, fun j hj => by
            rcases Nat.lt_or_ge j k with h | h
            · exact HA.out j h
            · have e : j = k := by omega
              rw [e]; exact hq.out⟩
          case measure => simp [intOf]; omega
      · have e : k = n := by omega
        subst e
        go_wp2
        go_ret
        refine ⟨ret_int (ix_none fun y hy => ?_).symm, rfl⟩
        obtain ⟨j, hj, rfl⟩ := List.mem_iff_getElem.1 hy
        have h1 := HA.out j (by rw [← hlen.out]; exact hj)
        rw [nth_of (List.getElem?_eq_getElem hj)] at h1
        simpa using h1
theorem spec_byInside (x : EndD) (a : Option Addr) (n c : Nat) (L : List MapD) (w : World) (hs : Sl encM 4 w a n c L) :
    Calls Try.prog 79 #[.slice a n c, .agg #[.int .i64 x.addr, .int .i64 x.port]] w fun r w' => r = .returned (.int .i64 (byEnd L x)) ∧ Ext w w' := by
  have hle := hs.le
  have hmax := hs.max
  have hlen := Lib.hid hs.len
  unfold byEnd
  rcases hs.maps with ⟨h0, hL⟩ | ⟨h0, b, off, ha, hb, hc⟩
  · subst h0
    subst hL
    clear hs hlen
    go_enter Try.func79, Try.ntmps79
    go_wp2
    go_loop [5] (fun i => i = .int .i64 0) (fun _ => 0)
    case atStart => rfl
    case round =>
      subst hrel
      go_wp2
      go_ret
      exact ⟨rfl, (by repeat (first | (with_reducible exact Ext.refl _) | (with_reducible assumption) | (with_reducible refine Ext.alloc ?_ _) | (with_reducible refine Ext.drewN ?_ _) | (with_reducible refine Ext.drew ?_) | (with_reducible refine Ext.setCell ?_ ?_ _; rotate_left; (simp only []; omega)) | (with_reducible refine Ext.trans ?_ (by assumption))))⟩
  · subst ha
    have HC2 := Lib.hid hc
    clear hs hc
    go_enter Try.func79, Try.ntmps79
    go_wp2
    go_loopw [5] (fun i wr => ∃ k : Nat, k ≤ n ∧ i = .int .i64 k ∧ (∀ j, j < k → (nth L j).ins ≠ x) ∧ Blk wr w.heap.size 42 #[.int .i64 x.addr, .int .i64 x.port] ∧ Ext w wr) (fun i _ => n - (intOf i).toNat)
    case atStart => exact ⟨0, Nat.zero_le _, rfl, by omega, Blk.new _ _ _, (by repeat (first | (with_reducible exact Ext.refl _) | (with_reducible assumption) | (with_reducible refine Ext.alloc ?_ _) | (with_reducible refine Ext.drewN ?_ _) | (with_reducible refine Ext.drew ?_) | (with_reducible refine Ext.setCell ?_ ?_ _; rotate_left; (simp only []; omega)) | (with_reducible refine Ext.trans ?_ (by assumption))))⟩
    case round =>
      obtain ⟨k, hk, rfl, hall, hB, hX⟩ := hrel
      have HA := Lib.hid hall
      clear hall
      by_cases hlt : k < n
      · obtain ⟨d0, d1, _, _⟩ := HC2.out k hlt
        rw [← hX.cells _ _ hb] at d0 d1
        have hcB := hB.cells
        have hzB := hB.lt
        have hbr : b < wr.heap.size := by have := hX.size; omega
        have HX := Lib.hid hX
        clear hX
        by_cases hq : (nth L k).ins = x
        · have heq : ∀ W : World, (Go.binOp .eql 42 (.agg #[.int .i64 (nth L k).ins.addr, .int .i64 (nth L k).ins.port]) (.agg #[.int .i64 x.addr, .int .i64 x.port])).run Try.prog W = .ok (.bool true) W := fun W => by rw [run_eql_E (nth L k).ins x, decide_eq_true hq]
          replace hq := Lib.hid hq
          go_wp2_with fail
          have hdrS : ∀ W : World, W.drew.heap.size = W.heap.size := fun _ => rfl
          refine wp_region_eager (R := Ext) [0, 1, 2, 3, 4, 5, 6] (by kernel_rfl) (by kernel_rfl) Ext.refl (fun _ _ _ => Ext.trans) ?_
          repeat' (first
            | (refine ChX.skip (by rfl) (by rfl) ?_
               (try simp only [Act.put, List.setIfInBounds_toArray, List.set_cons_zero, List.set_cons_succ]))
            | (refine' ChX.quiet (v := _) (by rfl) (by rfl) (by rfl) ?_ ?_
               rotate_left
               · (intro wS hS
                  have hcS := Ext.cells hS
                  go_simp
                  with_reducible rfl)
               (try simp only [Act.put, List.setIfInBounds_toArray, List.set_cons_zero, List.set_cons_succ]))
            | (refine ChX.nil ?_)
            | (refine' ChX.guard (x := _) (by rfl) ?_ ?_ ?_
               rotate_left
               · (go_simp
                  rfl)
               all_goals
                 intro hg
                 simp only [hg])
            | (refine' ChX.guardN (x := _) (by rfl) ?_ ?_ ?_
               rotate_left
               · (go_simp
                  rfl)
               all_goals
                 intro hg
                 simp only [hg]))
          go_wp2
          go_ret
          refine ⟨ret_int (ix_some (k := k) (x := nth L k) ?_ (nth_some (by rw [hlen.out]; exact hlt)) (by simpa using hq.out)).symm, (show Ext w wr from HX.out).trans (by repeat (first | (with_reducible exact Ext.refl _) | (with_reducible assumption) | (with_reducible refine Ext.alloc ?_ _) | (with_reducible refine Ext.drewN ?_ _) | (with_reducible refine Ext.drew ?_) | (with_reducible refine Ext.setCell ?_ ?_ _; rotate_left; (simp only []; omega)) | (with_reducible refine Ext.trans ?_ (by assumption))))⟩
          intro y hy
          obtain ⟨j, hj, rfl⟩ := List.mem_take_iff_getElem.1 hy
          have h1 := HA.out j (by omega)
          rw [nth_of (List.getElem?_eq_getElem (by omega))] at h1
          simpa using h1
        · have heq : ∀ W : World, (Go.binOp .eql 42 (.agg #[.int .i64 (nth L k).ins.addr, .int .i64 (nth L k).ins.port]) (.agg #[.int .i64 x.addr, .int .i64 x.port])).run Try.prog W = .ok (.bool false) W := fun W => by rw [run_eql_E (nth L k).ins x, decide_eq_false hq]
          replace hq := Lib.hid hq
          go_wp2_with fail
          have hdrS : ∀ W : World, W.drew.heap.size = W.heap.size := fun _ => rfl
          refine wp_region_eager (R := Ext) [0, 1, 2, 3, 4, 5, 6] (by kernel_rfl) (by kernel_rfl) Ext.refl (fun _ _ _ => Ext.trans) ?_
          repeat' (first
            | (refine ChX.skip (by rfl) (by rfl) ?_
               (try simp only [Act.put, List.setIfInBounds_toArray, List.set_cons_zero, List.set_cons_succ]))
            | (refine' ChX.quiet (v := _) (by rfl) (by rfl) (by rfl) ?_ ?_
               rotate_left
               · (intro wS hS
                  have hcS := Ext.cells hS
                  go_simp
                  with_reducible rfl)
               (try simp only [Act.put, List.setIfInBounds_toArray, List.set_cons_zero, List.set_cons_succ]))
            | (refine ChX.nil ?_)
            | (refine' ChX.guard (x := _) (by rfl) ?_ ?_ ?_
               rotate_left
               · (go_simp
                  rfl)
               all_goals
                 intro hg
                 simp only [hg])
            | (refine' ChX.guardN (x := _) (by rfl) ?_ ?_ ?_
               rotate_left
               · (go_simp
                  rfl)
               all_goals
                 intro hg
                 simp only [hg]))
          go_wp2
          go_roundw
          case rel => exact ⟨k + 1, hlt, by go_num, fun j hj => by
            rcases Nat.lt_or_ge j k with h | h
            · exact HA.out j h
            · have e : j = k := by omega
              rw [e]; exact hq.out, hB.ext (by repeat (first | (with_reducible exact Ext.refl _) | (with_reducible assumption) | (with_reducible refine Ext.alloc ?_ _) | (with_reducible refine Ext.drewN ?_ _) | (with_reducible refine Ext.drew ?_) | (with_reducible refine Ext.setCell ?_ ?_ _; rotate_left; (simp only []; omega)) | (with_reducible refine Ext.trans ?_ (by assumption)))), (show Ext w wr from HX.out).trans (by repeat (first | (with_reducible exact Ext.refl _) | (with_reducible assumption) | (with_reducible refine Ext.alloc ?_ _) | (with_reducible refine Ext.drewN ?_ _) | (with_reducible refine Ext.drew ?_) | (with_reducible refine Ext.setCell ?_ ?_ _; rotate_left; (simp only []; omega)) | (with_reducible refine Ext.trans ?_ (by assumption))))⟩
          case measure => simp [intOf]; omega
      · have e : k = n := by omega
        have HX := Lib.hid hX
        clear hX
        subst e
        go_wp2
        go_ret
        refine ⟨ret_int (ix_none fun y hy => ?_).symm, HX.out⟩
        obtain ⟨j, hj, rfl⟩ := List.mem_iff_getElem.1 hy
        have h1 := HA.out j (by rw [← hlen.out]; exact hj)
        rw [nth_of (List.getElem?_eq_getElem hj)] at h1
        simpa using h1
theorem spec_expired (m : MapD) (now hold : Int) (w : World) (h0 : 0 ≤ m.last) (h1 : m.last ≤ 10000) (h2 : 0 ≤ now) (h3 : now ≤ 10000) :
    Calls Try.prog 100 #[.agg #[.int .i64 m.ins.addr, .int .i64 m.ins.port, .int .i64 m.port, .int .i64 m.last], .int .i64 now, .int .i64 hold] w fun e w' => e = .returned (.bool (expired m now hold)) ∧ Ext w w' := by
  unfold expired
  go_enter Try.func100, Try.ntmps100
  go_wp2
  go_ret
  exact ⟨rfl, (by repeat (first | (with_reducible exact Ext.refl _) | (with_reducible assumption) | (with_reducible refine Ext.alloc ?_ _) | (with_reducible refine Ext.drewN ?_ _) | (with_reducible refine Ext.drew ?_) | (with_reducible refine Ext.setCell ?_ ?_ _; rotate_left; (simp only []; omega)) | (with_reducible refine Ext.trans ?_ (by assumption))))⟩
theorem spec_validTimer (now hold : Int) (w : World) : Calls Try.prog 149 #[.int .i64 now, .int .i64 hold] w fun e w' => e = .returned (.bool (timer now hold)) ∧ w = w' := by
  unfold timer
  go_enter Try.func149, Try.ntmps149
  go_wp2_with (go_at_call 68; refine (spec_inRange _ _ _ _).mono ?_; rintro e w' ⟨rfl, rfl⟩)
  all_goals (go_ret; exact ⟨ret_bool (by simp [*]), rfl⟩)
theorem okMapAt_spec {L : List MapD} {k : Nat} (hk : k < L.length) (h : okMap (nth L k) = true) (hall : ∀ j, j < k → (nth L j).ins ≠ (nth L k).ins ∧ (nth L j).port ≠ (nth L k).port) : okMapAt L k = true := by
  unfold okMapAt
  rw [h, Bool.true_and, List.all_eq_true]
  intro y hy
  obtain ⟨j, hj, rfl⟩ := List.mem_take_iff_getElem.1 hy
  have h1 := hall j (by omega)
  rw [nth_of (List.getElem?_eq_getElem (show j < L.length by omega))] at h1
  simpa using h1
theorem okMapAt_no {L : List MapD} {k j : Nat} (hk : k < L.length) (hj : j < k) (h : (nth L j).ins = (nth L k).ins ∨ (nth L j).port = (nth L k).port) : okMapAt L k = false := by
  have hm : nth L j ∈ L.take k := by
    rw [← nth_take hj]
    exact nth_mem (by simp; omega)
  unfold okMapAt
  rw [Bool.and_eq_false_iff]
  right
  rw [List.all_eq_false]
  refine ⟨_, hm, ?_⟩
  rcases h with h | h <;> simp [h]
theorem spec_validEnd' (e : EndD) (w : World) : Calls Try.prog 101 #[.agg #[.int .i64 e.addr, .int .i64 e.port]] w fun r w' => r = .returned (.bool (validEnd e)) ∧ Ext w w' := spec_validEnd e.addr e.port w
set_option maxHeartbeats 2000000 in
theorem spec_validTable (a : Option Addr) (n c : Nat) (L : List MapD) (w : World) (hs : Sl encM 4 w a n c L) :
    Calls Try.prog 98 #[.slice a n c] w fun e w' => e = .returned (.bool (validTable L)) ∧ Ext w w' := by
  have hle := hs.le
  have hmax := hs.max
  have hlen := Lib.hid hs.len
  have hfin : validTable L = (upTo (okMapAt L) n && decide (n ≤ 8)) := by rw [← hs.len]; rfl
  rw [hfin]
  clear hfin
  rcases hs.maps with ⟨h0, hL⟩ | ⟨h0, b, off, ha, hb, hc⟩
  · subst h0
    subst hL
    clear hs hlen
    go_enter Try.func98, Try.ntmps98
    go_wp2
    go_loop [3, 4, 5] (fun i _ _ => i = .int .i64 0) (fun _ _ _ => 0)
    case atStart => rfl
    case round =>
      subst hrel
      go_wp2
      go_ret
      exact ⟨rfl, Ext.refl _⟩
  · subst ha
    have HC2 := Lib.hid hc
    clear hc hs
    go_enter Try.func98, Try.ntmps98
    go_wp2
    go_loopw [3, 4, 5] (fun i _ _ wr => ∃ k : Nat, k ≤ n ∧ i = .int .i64 k ∧ (∀ j, j < k → okMapAt L j = true) ∧ Ext w wr) (fun i _ _ _ => n - (intOf i).toNat)
    case atStart => exact ⟨0, Nat.zero_le _, rfl, by omega, Ext.refl _⟩
    case round =>
      obtain ⟨k, hk, rfl, hall, hX⟩ := hrel
      have HA := Lib.hid hall
      clear hall
      obtain ⟨wo, rfl⟩ : ∃ wo : World, wo = wr := ⟨_, rfl⟩
      by_cases hlt : k < n
      · obtain ⟨d0, d1, d2, d3⟩ := HC2.out k hlt
        rw [← hX.cells _ _ hb] at d0 d1 d2 d3
        have hbr : b < wo.heap.size := by have := hX.size; omega
        cases h1 : validEnd (nth L k).ins with
        | false =>
          have hno := Lib.hid (show okMapAt L k = false by unfold okMapAt okMap; rw [h1]; rfl)
          go_wp2_with (go_at_call 101; refine (spec_validEnd' (nth L k).ins _).mono ?_; rintro e w1 ⟨rfl, hx⟩; have hc := hx.cells; have hf := hx.frozens; have hy := hx.size; (try simp at hy); have hz : wo.heap.size < w1.heap.size := (by omega))
          go_ret
          exact ⟨ret_bool (by rw [upTo_f hlt hno.out]; rfl), hX.trans (by repeat (first | (with_reducible exact Ext.refl _) | (with_reducible assumption) | (with_reducible refine Ext.alloc ?_ _) | (with_reducible refine Ext.drewN ?_ _) | (with_reducible refine Ext.drew ?_) | (with_reducible refine Ext.setCell ?_ ?_ _; rotate_left; (simp only []; omega)) | (with_reducible refine Ext.trans ?_ (by assumption))))⟩
        | true =>
        cases h2 : inR (nth L k).port 1000 1007 with
        | false =>
          have hno := Lib.hid (show okMapAt L k = false by unfold okMapAt okMap; rw [h1, h2]; rfl)
          go_wp2_with (first | (go_at_call 101; refine (spec_validEnd' (nth L k).ins _).mono ?_; rintro e w1 ⟨rfl, hx⟩; have hc := hx.cells; have hf := hx.frozens; have hy := hx.size; (try simp at hy); have hz : wo.heap.size < w1.heap.size := (by omega)) | (go_at_call 68; refine (spec_inRange _ _ _ _).mono ?_; rintro e w' ⟨rfl, rfl⟩))
          go_ret
          exact ⟨ret_bool (by rw [upTo_f hlt hno.out]; rfl), hX.trans (by repeat (first | (with_reducible exact Ext.refl _) | (with_reducible assumption) | (with_reducible refine Ext.alloc ?_ _) | (with_reducible refine Ext.drewN ?_ _) | (with_reducible refine Ext.drew ?_) | (with_reducible refine Ext.setCell ?_ ?_ _; rotate_left; (simp only []; omega)) | (with_reducible refine Ext.trans ?_ (by assumption))))⟩
        | true =>
        cases h3 : inR (nth L k).last 0 10000 with
        | false =>
          have hno := Lib.hid (show okMapAt L k = false by unfold okMapAt okMap; rw [h1, h2, h3]; rfl)
          go_wp2_with (first | (go_at_call 101; refine (spec_validEnd' (nth L k).ins _).mono ?_; rintro e w1 ⟨rfl, hx⟩; have hc := hx.cells; have hf := hx.frozens; have hy := hx.size; (try simp at hy); have hz : wo.heap.size < w1.heap.size := (by omega)) | (go_at_call 68; refine (spec_inRange _ _ _ _).mono ?_; rintro e w' ⟨rfl, rfl⟩))
          go_ret
          exact ⟨ret_bool (by rw [upTo_f hlt hno.out]; rfl), hX.trans (by repeat (first | (with_reducible exact Ext.refl _) | (with_reducible assumption) | (with_reducible refine Ext.alloc ?_ _) | (with_reducible refine Ext.drewN ?_ _) | (with_reducible refine Ext.drew ?_) | (with_reducible refine Ext.setCell ?_ ?_ _; rotate_left; (simp only []; omega)) | (with_reducible refine Ext.trans ?_ (by assumption))))⟩
        | true =>
          have hokm := Lib.hid (show okMap (nth L k) = true by unfold okMap; rw [h1, h2, h3]; rfl)
          go_wp2_with fail
          refine (spec_validEnd' (nth L k).ins _).mono ?_
          rintro e w1 ⟨rfl, hx1⟩
          have hB1 : Blk w1 wo.heap.size 102 #[.int .i64 (nth L k).ins.addr, .int .i64 (nth L k).ins.port, .int .i64 (nth L k).port, .int .i64 (nth L k).last] := by refine Blk.ext ?_ hx1; exact (by repeat (first | (with_reducible assumption) | (with_reducible exact Blk.new _ _ _) | exact Blk.newAt _ _ _ (by simp) | (with_reducible refine Blk.alloc ?_ _) | (with_reducible refine Blk.drew ?_) | (with_reducible refine Blk.drewN ?_ _) | refine Blk.far ?_ (by simp only []; omega) _ | refine Blk.rext ?_ (by assumption) (by omega) | refine Blk.ext ?_ (by assumption)))
          have hX1 : Ext w w1 := hX.trans (Ext.trans (show Ext wo _ from (by repeat (first | (with_reducible exact Ext.refl _) | (with_reducible assumption) | (with_reducible refine Ext.alloc ?_ _) | (with_reducible refine Ext.drewN ?_ _) | (with_reducible refine Ext.drew ?_) | (with_reducible refine Ext.setCell ?_ ?_ _; rotate_left; (simp only []; omega)) | (with_reducible refine Ext.trans ?_ (by assumption))))) hx1)
          have hcB := hB1.cells
          clear hx1
          go_wp2_with (go_at_call 68; refine (spec_inRange _ _ _ _).mono ?_; rintro e w' ⟨rfl, rfl⟩)
          obtain ⟨M, hM⟩ : ∃ M, M = wo.heap.size := ⟨_, rfl⟩
          rw [← hM] at hB1 ⊢
          clear hcB hM hX d0 d1 d2 d3 h1 h2 h3
          go_loopw [5] (fun i2 w2 => ∃ k2 : Nat, k2 ≤ k ∧ i2 = .int .i64 k2 ∧ (∀ j, j < k2 → (nth L j).ins ≠ (nth L k).ins ∧ (nth L j).port ≠ (nth L k).port) ∧ Blk w2 M 102 #[.int .i64 (nth L k).ins.addr, .int .i64 (nth L k).ins.port, .int .i64 (nth L k).port, .int .i64 (nth L k).last] ∧ Ext w w2) (fun i2 _ => k - (intOf i2).toNat)
          case atStart => exact ⟨0, Nat.zero_le _, rfl, by omega, hB1, hX1⟩
          case round =>
            obtain ⟨k2, hk2, rfl, hall2, hB, hX2⟩ := hrel
            have HA2 := Lib.hid hall2
            clear hall2 hB1 hX1
            by_cases hlt2 : k2 < k
            · obtain ⟨e0, e1, e2, _⟩ := HC2.out k2 (by omega)
              rw [← hX2.cells _ _ hb] at e0 e1 e2
              have hcM := hB.cells
              have hzM := hB.lt
              have hbr2 : b < wr.heap.size := by have := hX2.size; omega
              have hk2n : k2 < n := by omega
              have HX2 := Lib.hid hX2
              clear hX2
              by_cases p1 : (nth L k2).ins = (nth L k).ins
              · have heq : ∀ W : World, (Go.binOp .eql 42 (.agg #[.int .i64 (nth L k2).ins.addr, .int .i64 (nth L k2).ins.port]) (.agg #[.int .i64 (nth L k).ins.addr, .int .i64 (nth L k).ins.port])).run Try.prog W = .ok (.bool true) W := fun W => by rw [run_eql_E (nth L k2).ins (nth L k).ins, decide_eq_true p1]
                have hno := Lib.hid (okMapAt_no (by rw [hlen.out]; exact hlt) hlt2 (.inl p1))
                clear p1
                go_wp2_with fail
                have hdrS : ∀ W : World, W.drew.heap.size = W.heap.size := fun _ => rfl
                refine wp_region_eager (R := Ext) [0, 1, 2, 3, 4, 5, 6, 7, 8, 9, 10, 11, 12, 13, 14, 15, 16, 17] (by kernel_rfl) (by kernel_rfl) Ext.refl (fun _ _ _ => Ext.trans) ?_
                repeat' (first
                  | (refine ChX.skip (by rfl) (by rfl) ?_
                     (try simp only [Act.put, List.setIfInBounds_toArray, List.set_cons_zero, List.set_cons_succ]))
                  | (refine' ChX.quiet (v := _) (by rfl) (by rfl) (by rfl) ?_ ?_
                     rotate_left
                     · (intro wS hS
                        have hcS := Ext.cells hS
                        go_simp
                        with_reducible rfl)
                     (try simp only [Act.put, List.setIfInBounds_toArray, List.set_cons_zero, List.set_cons_succ]))
                  | (refine ChX.nil ?_)
                  | (refine' ChX.guard (x := _) (by rfl) ?_ ?_ ?_
                     rotate_left
                     · (go_simp
                        rfl)
                     all_goals
                       intro hg
                       simp only [hg])
                  | (refine' ChX.guardN (x := _) (by rfl) ?_ ?_ ?_
                     rotate_left
                     · (go_simp
                        rfl)
                     all_goals
                       intro hg
                       simp only [hg]))
                go_wp2
                go_ret
                exact ⟨ret_bool (by rw [upTo_f hlt hno.out]; rfl), (show Ext w wr from HX2.out).trans (by repeat (first | (with_reducible exact Ext.refl _) | (with_reducible assumption) | (with_reducible refine Ext.alloc ?_ _) | (with_reducible refine Ext.drewN ?_ _) | (with_reducible refine Ext.drew ?_) | (with_reducible refine Ext.setCell ?_ ?_ _; rotate_left; (simp only []; omega)) | (with_reducible refine Ext.trans ?_ (by assumption))))⟩
              · have heq : ∀ W : World, (Go.binOp .eql 42 (.agg #[.int .i64 (nth L k2).ins.addr, .int .i64 (nth L k2).ins.port]) (.agg #[.int .i64 (nth L k).ins.addr, .int .i64 (nth L k).ins.port])).run Try.prog W = .ok (.bool false) W := fun W => by rw [run_eql_E (nth L k2).ins (nth L k).ins, decide_eq_false p1]
                by_cases p2 : (nth L k2).port = (nth L k).port
                · have hno := Lib.hid (okMapAt_no (by rw [hlen.out]; exact hlt) hlt2 (.inr p2))
                  rw [p2] at e2
                  clear p1 p2
                  go_wp2_with fail
                  have hdrS : ∀ W : World, W.drew.heap.size = W.heap.size := fun _ => rfl
                  refine wp_region_eager (R := Ext) [0, 1, 2, 3, 4, 5, 6, 7, 8, 9, 10, 11, 12, 13, 14, 15, 16, 17] (by kernel_rfl) (by kernel_rfl) Ext.refl (fun _ _ _ => Ext.trans) ?_
                  repeat' (first
                    | (refine ChX.skip (by rfl) (by rfl) ?_
                       (try simp only [Act.put, List.setIfInBounds_toArray, List.set_cons_zero, List.set_cons_succ]))
                    | (refine' ChX.quiet (v := _) (by rfl) (by rfl) (by rfl) ?_ ?_
                       rotate_left
                       · (intro wS hS
                          have hcS := Ext.cells hS
                          go_simp
                          with_reducible rfl)
                       (try simp only [Act.put, List.setIfInBounds_toArray, List.set_cons_zero, List.set_cons_succ]))
                    | (refine ChX.nil ?_)
                    | (refine' ChX.guard (x := _) (by rfl) ?_ ?_ ?_
                       rotate_left
                       · (go_simp
                          rfl)
                       all_goals
                         intro hg
                         simp only [hg])
                    | (refine' ChX.guardN (x := _) (by rfl) ?_ ?_ ?_
                       rotate_left
                       · (go_simp
                          rfl)
                       all_goals
                         intro hg
                         simp only [hg]))
                  go_wp2
                  go_ret
                  exact ⟨ret_bool (by rw [upTo_f hlt hno.out]; rfl), (show Ext w wr from HX2.out).trans (by repeat (first | (with_reducible exact Ext.refl _) | (with_reducible assumption) | (with_reducible refine Ext.alloc ?_ _) | (with_reducible refine Ext.drewN ?_ _) | (with_reducible refine Ext.drew ?_) | (with_reducible refine Ext.setCell ?_ ?_ _; rotate_left; (simp only []; omega)) | (with_reducible refine Ext.trans ?_ (by assumption))))⟩
                · have hqf : ((nth L k2).port == (nth L k).port) = false := by simpa using p2
                  replace p1 := Lib.hid p1
                  replace p2 := Lib.hid p2
                  go_wp2_with fail
                  have hdrS : ∀ W : World, W.drew.heap.size = W.heap.size := fun _ => rfl
                  refine wp_region_eager (R := Ext) [0, 1, 2, 3, 4, 5, 6, 7, 8, 9, 10, 11, 12, 13, 14, 15, 16, 17] (by kernel_rfl) (by kernel_rfl) Ext.refl (fun _ _ _ => Ext.trans) ?_
                  repeat' (first
                    | (refine ChX.skip (by rfl) (by rfl) ?_
                       (try simp only [Act.put, List.setIfInBounds_toArray, List.set_cons_zero, List.set_cons_succ]))
                    | (refine' ChX.quiet (v := _) (by rfl) (by rfl) (by rfl) ?_ ?_
                       rotate_left
                       · (intro wS hS
                          have hcS := Ext.cells hS
                          go_simp
                          with_reducible rfl)
                       (try simp only [Act.put, List.setIfInBounds_toArray, List.set_cons_zero, List.set_cons_succ]))
                    | (refine ChX.nil ?_)
                    | (refine' ChX.guard (x := _) (by rfl) ?_ ?_ ?_
                       rotate_left
                       · (go_simp
                          rfl)
                       all_goals
                         intro hg
                         simp only [hg])
                    | (refine' ChX.guardN (x := _) (by rfl) ?_ ?_ ?_
                       rotate_left
                       · (go_simp
                          rfl)
                       all_goals
                         intro hg
                         simp only [hg]))
                  go_wp2
                  go_roundw
                  case rel => exact ⟨k2 + 1, hlt2, by go_num, fun j hj => by
                    rcases Nat.lt_or_ge j k2 with h | h
                    · exact HA2.out j h
                    · have e : j = k2 := by omega
                      rw [e]; exact ⟨p1.out, p2.out⟩, hB.ext (by repeat (first | (with_reducible exact Ext.refl _) | (with_reducible assumption) | (with_reducible refine Ext.alloc ?_ _) | (with_reducible refine Ext.drewN ?_ _) | (with_reducible refine Ext.drew ?_) | (with_reducible refine Ext.setCell ?_ ?_ _; rotate_left; (simp only []; omega)) | (with_reducible refine Ext.trans ?_ (by assumption)))), (show Ext w wr from HX2.out).trans (by repeat (first | (with_reducible exact Ext.refl _) | (with_reducible assumption) | (with_reducible refine Ext.alloc ?_ _) | (with_reducible refine Ext.drewN ?_ _) | (with_reducible refine Ext.drew ?_) | (with_reducible refine Ext.setCell ?_ ?_ _; rotate_left; (simp only []; omega)) | (with_reducible refine Ext.trans ?_ (by assumption))))⟩
                  case measure => simp [intOf]; omega
            · have e : k2 = k := by omega
              subst e
              have HX2 := Lib.hid hX2
              clear hX2
              go_wp2
              go_roundw
              case rel => exact ⟨k2 + 1, hlt, by go_num, fun j hj => by
                rcases Nat.lt_or_ge j k2 with h | h
                · exact HA.out j h
                · have e : j = k2 := by omega
                  rw [e]; exact okMapAt_spec (by rw [hlen.out]; exact hlt) hokm.out HA2.out, HX2.out⟩
              case measure => simp [intOf]; omega
      · have e : k = n := by omega
        subst e
        have HX := Lib.hid hX
        clear hX
        go_wp2
        go_ret
        exact ⟨ret_bool (by rw [upTo_iff.2 HA.out, Bool.eq_iff_iff]; simp; omega), HX.out⟩
theorem okConAt_spec {L : List ConD} {k : Nat} (hk : k < L.length) (h : okCon (nth L k) = true) (hall : ∀ j, j < k → nth L j ≠ nth L k) : okConAt L k = true := by
  unfold okConAt
  rw [h, Bool.true_and, List.all_eq_true]
  intro y hy
  obtain ⟨j, hj, rfl⟩ := List.mem_take_iff_getElem.1 hy
  have h1 := hall j (by omega)
  rw [nth_of (List.getElem?_eq_getElem (show j < L.length by omega))] at h1
  simpa using h1
theorem okConAt_no {L : List ConD} {k j : Nat} (hk : k < L.length) (hj : j < k) (h : nth L j = nth L k) : okConAt L k = false := by
  have hm : nth L j ∈ L.take k := by
    rw [← nth_take hj]
    exact nth_mem (by simp; omega)
  unfold okConAt
  rw [Bool.and_eq_false_iff]
  right
  rw [List.all_eq_false]
  exact ⟨_, hm, by simp [h]⟩
set_option maxHeartbeats 2000000 in
theorem spec_validContacts (a : Option Addr) (n c : Nat) (L : List ConD) (w : World) (hs : Sl encC 3 w a n c L) :
    Calls Try.prog 99 #[.slice a n c] w fun e w' => e = .returned (.bool (validContacts L)) ∧ Ext w w' := by
  have hle := hs.le
  have hmax := hs.max
  have hlen := Lib.hid hs.len
  have hfin : validContacts L = (upTo (okConAt L) n && decide (n ≤ 10)) := by rw [← hs.len]; rfl
  rw [hfin]
  clear hfin
  rcases hs.cons with ⟨h0, hL⟩ | ⟨h0, b, off, ha, hb, hc⟩
  · subst h0
    subst hL
    clear hs hlen
    go_enter Try.func99, Try.ntmps99
    go_wp2
    go_loop [3, 4] (fun i _ => i = .int .i64 0) (fun _ _ => 0)
    case atStart => rfl
    case round =>
      subst hrel
      go_wp2
      go_ret
      exact ⟨rfl, Ext.refl _⟩
  · subst ha
    have HC2 := Lib.hid hc
    clear hc hs
    go_enter Try.func99, Try.ntmps99
    go_wp2
    go_loopw [3, 4] (fun i _ wr => ∃ k : Nat, k ≤ n ∧ i = .int .i64 k ∧ (∀ j, j < k → okConAt L j = true) ∧ Ext w wr) (fun i _ _ => n - (intOf i).toNat)
    case atStart => exact ⟨0, Nat.zero_le _, rfl, by omega, Ext.refl _⟩
    case round =>
      obtain ⟨k, hk, rfl, hall, hX⟩ := hrel
      have HA := Lib.hid hall
      clear hall
      obtain ⟨wo, rfl⟩ : ∃ wo : World, wo = wr := ⟨_, rfl⟩
      by_cases hlt : k < n
      · obtain ⟨d0, d1, d2⟩ := HC2.out k hlt
        rw [← hX.cells _ _ hb] at d0 d1 d2
        have hbr : b < wo.heap.size := by have := hX.size; omega
        cases h1 : inR (nth L k).port 1000 1007 with
        | false =>
          have hno := Lib.hid (show okConAt L k = false by unfold okConAt okCon; rw [h1]; rfl)
          go_wp2_with (go_at_call 68; refine (spec_inRange _ _ _ _).mono ?_; rintro e w' ⟨rfl, rfl⟩)
          go_ret
          exact ⟨ret_bool (by rw [upTo_f hlt hno.out]; rfl), hX.trans (by repeat (first | (with_reducible exact Ext.refl _) | (with_reducible assumption) | (with_reducible refine Ext.alloc ?_ _) | (with_reducible refine Ext.drewN ?_ _) | (with_reducible refine Ext.drew ?_) | (with_reducible refine Ext.setCell ?_ ?_ _; rotate_left; (simp only []; omega)) | (with_reducible refine Ext.trans ?_ (by assumption))))⟩
        | true =>
        cases h2 : validEnd (nth L k).to_ with
        | false =>
          have hno := Lib.hid (show okConAt L k = false by unfold okConAt okCon; rw [h1, h2]; rfl)
          go_wp2_with (first | (go_at_call 101; refine (spec_validEnd' (nth L k).to_ _).mono ?_; rintro e w1 ⟨rfl, hx⟩; have hc := hx.cells; have hf := hx.frozens; have hy := hx.size; (try simp at hy); have hz : b < w1.heap.size := (by omega)) | (go_at_call 68; refine (spec_inRange _ _ _ _).mono ?_; rintro e w' ⟨rfl, rfl⟩))
          go_ret
          exact ⟨ret_bool (by rw [upTo_f hlt hno.out]; rfl), hX.trans (by repeat (first | (with_reducible exact Ext.refl _) | (with_reducible assumption) | (with_reducible refine Ext.alloc ?_ _) | (with_reducible refine Ext.drewN ?_ _) | (with_reducible refine Ext.drew ?_) | (with_reducible refine Ext.setCell ?_ ?_ _; rotate_left; (simp only []; omega)) | (with_reducible refine Ext.trans ?_ (by assumption))))⟩
        | true =>
          have hokm := Lib.hid (show okCon (nth L k) = true by unfold okCon; rw [h1, h2]; rfl)
          go_wp2_with (go_at_call 68; refine (spec_inRange _ _ _ _).mono ?_; rintro e w' ⟨rfl, rfl⟩)
          refine (spec_validEnd' (nth L k).to_ _).mono ?_
          rintro e w1 ⟨rfl, hx1⟩
          have hX1 : Ext w w1 := hX.trans (Ext.trans (show Ext wo _ from (by repeat (first | (with_reducible exact Ext.refl _) | (with_reducible assumption) | (with_reducible refine Ext.alloc ?_ _) | (with_reducible refine Ext.drewN ?_ _) | (with_reducible refine Ext.drew ?_) | (with_reducible refine Ext.setCell ?_ ?_ _; rotate_left; (simp only []; omega)) | (with_reducible refine Ext.trans ?_ (by assumption))))) hx1)
          clear hx1 d0 d1 d2 hX
          go_wp2
          clear h1 h2
          go_loopw [4] (fun i2 w2 => ∃ k2 : Nat, k2 ≤ k ∧ i2 = .int .i64 k2 ∧ (∀ j, j < k2 → nth L j ≠ nth L k) ∧ Ext w w2) (fun i2 _ => k - (intOf i2).toNat)
          case atStart => exact ⟨0, Nat.zero_le _, rfl, by omega, hX1⟩
          case round =>
            obtain ⟨k2, hk2, rfl, hall2, hX2⟩ := hrel
            have HA2 := Lib.hid hall2
            clear hall2 hX1
            by_cases hlt2 : k2 < k
            · obtain ⟨e0, e1, e2⟩ := HC2.out k2 (by omega)
              obtain ⟨d0, d1, d2⟩ := HC2.out k (by omega)
              rw [← hX2.cells _ _ hb] at e0 e1 e2 d0 d1 d2
              have hbr2 : b < wr.heap.size := by have := hX2.size; omega
              have hk2n : k2 < n := by omega
              have HX2 := Lib.hid hX2
              clear hX2
              by_cases p1 : nth L k2 = nth L k
              · have heq : ∀ W : World, (Go.binOp .eql 115 (.agg #[.int .i64 (nth L k2).port, .int .i64 (nth L k2).to_.addr, .int .i64 (nth L k2).to_.port]) (.agg #[.int .i64 (nth L k).port, .int .i64 (nth L k).to_.addr, .int .i64 (nth L k).to_.port])).run Try.prog W = .ok (.bool true) W := fun W => by rw [run_eql_C (nth L k2) (nth L k), decide_eq_true p1]
                have hno := Lib.hid (okConAt_no (by rw [hlen.out]; exact hlt) hlt2 p1)
                clear p1
                go_wp2_with fail
                have hdrS : ∀ W : World, W.drew.heap.size = W.heap.size := fun _ => rfl
                refine wp_region_eager (R := Ext) [0, 1, 2, 3, 4, 5, 6, 7, 8] (by kernel_rfl) (by kernel_rfl) Ext.refl (fun _ _ _ => Ext.trans) ?_
                repeat' (first
                  | (refine ChX.skip (by rfl) (by rfl) ?_
                     (try simp only [Act.put, List.setIfInBounds_toArray, List.set_cons_zero, List.set_cons_succ]))
                  | (refine' ChX.quiet (v := _) (by rfl) (by rfl) (by rfl) ?_ ?_
                     rotate_left
                     · (intro wS hS
                        have hcS := Ext.cells hS
                        go_simp
                        with_reducible rfl)
                     (try simp only [Act.put, List.setIfInBounds_toArray, List.set_cons_zero, List.set_cons_succ]))
                  | (refine ChX.nil ?_)
                  | (refine' ChX.guard (x := _) (by rfl) ?_ ?_ ?_
                     rotate_left
                     · (go_simp
                        rfl)
                     all_goals
                       intro hg
                       simp only [hg])
                  | (refine' ChX.guardN (x := _) (by rfl) ?_ ?_ ?_
                     rotate_left
                     · (go_simp
                        rfl)
                     all_goals
                       intro hg
                       simp only [hg]))
                go_wp2
                go_ret
                exact ⟨ret_bool (by rw [upTo_f hlt hno.out]; rfl), (show Ext w wr from HX2.out).trans (by repeat (first | (with_reducible exact Ext.refl _) | (with_reducible assumption) | (with_reducible refine Ext.alloc ?_ _) | (with_reducible refine Ext.drewN ?_ _) | (with_reducible refine Ext.drew ?_) | (with_reducible refine Ext.setCell ?_ ?_ _; rotate_left; (simp only []; omega)) | (with_reducible refine Ext.trans ?_ (by assumption))))⟩
              · have heq : ∀ W : World, (Go.binOp .eql 115 (.agg #[.int .i64 (nth L k2).port, .int .i64 (nth L k2).to_.addr, .int .i64 (nth L k2).to_.port]) (.agg #[.int .i64 (nth L k).port, .int .i64 (nth L k).to_.addr, .int .i64 (nth L k).to_.port])).run Try.prog W = .ok (.bool false) W := fun W => by rw [run_eql_C (nth L k2) (nth L k), decide_eq_false p1]
                replace p1 := Lib.hid p1
                go_wp2_with fail
                have hdrS : ∀ W : World, W.drew.heap.size = W.heap.size := fun _ => rfl
                refine wp_region_eager (R := Ext) [0, 1, 2, 3, 4, 5, 6, 7, 8] (by kernel_rfl) (by kernel_rfl) Ext.refl (fun _ _ _ => Ext.trans) ?_
                repeat' (first
                  | (refine ChX.skip (by rfl) (by rfl) ?_
                     (try simp only [Act.put, List.setIfInBounds_toArray, List.set_cons_zero, List.set_cons_succ]))
                  | (refine' ChX.quiet (v := _) (by rfl) (by rfl) (by rfl) ?_ ?_
                     rotate_left
                     · (intro wS hS
                        have hcS := Ext.cells hS
                        go_simp
                        with_reducible rfl)
                     (try simp only [Act.put, List.setIfInBounds_toArray, List.set_cons_zero, List.set_cons_succ]))
                  | (refine ChX.nil ?_)
                  | (refine' ChX.guard (x := _) (by rfl) ?_ ?_ ?_
                     rotate_left
                     · (go_simp
                        rfl)
                     all_goals
                       intro hg
                       simp only [hg])
                  | (refine' ChX.guardN (x := _) (by rfl) ?_ ?_ ?_
                     rotate_left
                     · (go_simp
                        rfl)
                     all_goals
                       intro hg
                       simp only [hg]))
                go_wp2
                go_roundw
                case rel => exact ⟨k2 + 1, hlt2, by go_num, fun j hj => by
                  rcases Nat.lt_or_ge j k2 with h | h
                  · exact HA2.out j h
                  · have e : j = k2 := by omega
                    rw [e]; exact p1.out, (show Ext w wr from HX2.out).trans (by repeat (first | (with_reducible exact Ext.refl _) | (with_reducible assumption) | (with_reducible refine Ext.alloc ?_ _) | (with_reducible refine Ext.drewN ?_ _) | (with_reducible refine Ext.drew ?_) | (with_reducible refine Ext.setCell ?_ ?_ _; rotate_left; (simp only []; omega)) | (with_reducible refine Ext.trans ?_ (by assumption))))⟩
                case measure => simp [intOf]; omega
            · have e : k2 = k := by omega
              subst e
              have HX2 := Lib.hid hX2
              clear hX2
              go_wp2
              go_roundw
              case rel => exact ⟨k2 + 1, hlt, by go_num, fun j hj => by
                rcases Nat.lt_or_ge j k2 with h | h
                · exact HA.out j h
                · have e : j = k2 := by omega
                  rw [e]; exact okConAt_spec (by rw [hlen.out]; exact hlt) hokm.out HA2.out, HX2.out⟩
              case measure => simp [intOf]; omega
      · have e : k = n := by omega
        subst e
        have HX := Lib.hid hX
        clear hX
        go_wp2
        go_ret
        exact ⟨ret_bool (by rw [upTo_iff.2 HA.out, Bool.eq_iff_iff]; simp; omega), HX.out⟩
end Go.Proofs.Ytafmomocmodbhaa
/- Contracts: valid gates, of the program. -/
namespace Go.Proofs.Ytafmomocmodbhaa
set_option linter.unusedVariables false
set_option linter.unusedSimpArgs false
open Go.RowKit Go.Shelf

theorem any_not {α : Type} (f : α → Bool) (l : List α) : (l.any fun x => !f x) = !l.all f := by
  induction l with
  | nil => rfl
  | cons x l ih => rw [List.any_cons, List.all_cons, ih]; cases f x <;> rfl
theorem impl_ValidNet' (n : NetD) (w : World) : Calls Try.prog 82 #[.agg #[.int .i64 n.base, .int .i64 n.bits]] w fun e w' => e = .returned (.bool (validNet n)) ∧ Ext w w' := impl_ValidNet n.base n.bits w
theorem impl_has' (n : NetD) (a : Int) (w : World) (h : validNet n = true) : Calls Try.prog 75 #[.agg #[.int .i64 n.base, .int .i64 n.bits], .int .i64 a] w fun e w' => e = .returned (.bool (has n a)) ∧ Ext w w' := impl_has n.base n.bits a w h
theorem impl_timed (a : Option Addr) (n c : Nat) (L : List MapD) (now hold : Int) (w : World) (hs : Sl encM 4 w a n c L) :
    Calls Try.prog 106 #[.slice a n c, .int .i64 now, .int .i64 hold] w fun e w' => e = .returned (.bool (validTable L && timer now hold)) ∧ Ext w w' := by
  unfold timer
  go_enter Try.func106, Try.ntmps106
  go_wp2_with (first | (go_at_call 91; refine (impl_ValidTable _ _ _ L _ (by exact hs.ext (by repeat (first | (with_reducible exact Ext.refl _) | (with_reducible assumption) | (with_reducible refine Ext.alloc ?_ _) | (with_reducible refine Ext.drewN ?_ _) | (with_reducible refine Ext.drew ?_) | (with_reducible refine Ext.setCell ?_ ?_ _; rotate_left; (simp only []; omega)) | (with_reducible refine Ext.trans ?_ (by assumption)))))).mono ?_; rintro e w1 ⟨rfl, hx⟩; have hc := hx.cells; have hf := hx.frozens; have hy := hx.size; (try simp at hy); have hz : w.heap.size ≤ w1.heap.size := (by omega)) | (go_at_call 144; refine (impl_isTime _ _).mono ?_; rintro e w' ⟨rfl, rfl⟩) | (go_at_call 63; refine (impl_in _ _ _ _).mono ?_; rintro e w' ⟨rfl, rfl⟩))
  all_goals (go_ret; exact ⟨ret_bool (by simp [*]), (by repeat (first | (with_reducible exact Ext.refl _) | (with_reducible assumption) | (with_reducible refine Ext.alloc ?_ _) | (with_reducible refine Ext.drewN ?_ _) | (with_reducible refine Ext.drew ?_) | (with_reducible refine Ext.setCell ?_ ?_ _; rotate_left; (simp only []; omega)) | (with_reducible refine Ext.trans ?_ (by assumption))))⟩)
theorem impl_expired (m : MapD) (now hold : Int) (w : World) (h0 : 0 ≤ m.last) (h1 : m.last ≤ 10000) (h2 : 0 ≤ now) (h3 : now ≤ 10000) :
    Calls Try.prog 110 #[.agg #[.int .i64 m.ins.addr, .int .i64 m.ins.port, .int .i64 m.port, .int .i64 m.last], .int .i64 now, .int .i64 hold] w fun e w' => e = .returned (.bool (expired m now hold)) ∧ Ext w w' := by
  unfold expired
  go_enter Try.func110, Try.ntmps110
  go_wp2
  go_ret
  exact ⟨rfl, (by repeat (first | (with_reducible exact Ext.refl _) | (with_reducible assumption) | (with_reducible refine Ext.alloc ?_ _) | (with_reducible refine Ext.drewN ?_ _) | (with_reducible refine Ext.drew ?_) | (with_reducible refine Ext.setCell ?_ ?_ _; rotate_left; (simp only []; omega)) | (with_reducible refine Ext.trans ?_ (by assumption))))⟩
theorem clo_gate1 (g : GateD) (m : MapD) (s t : Value) (G : Nat) (W : World) (hB : Blk W G 40 #[.int .i64 g.net.base, .int .i64 g.net.bits, .int .i64 g.out, s, t, .int .i64 g.filter, .int .i64 g.hold, .int .i64 g.now])
    (hv : validNet g.net = true) (n0 : 0 ≤ g.now) (n1 : g.now ≤ 10000) (l0 : 0 ≤ m.last) (l1 : m.last ≤ 10000) :
    Calls Try.prog 109 (#[.agg #[.int .i64 m.ins.addr, .int .i64 m.ins.port, .int .i64 m.port, .int .i64 m.last]] ++ #[.pointer (some ⟨G, 0, none⟩)]) W fun r w' => r = .returned (.bool (!okGateMap g m)) ∧ Ext W w' := by
  show Calls Try.prog 109 #[.agg #[.int .i64 m.ins.addr, .int .i64 m.ins.port, .int .i64 m.port, .int .i64 m.last], .pointer (some ⟨G, 0, none⟩)] W _
  have hcB := hB.cells
  have hzB := hB.lt
  clear hB
  cases hh : has g.net m.ins.addr with
  | false =>
    rw [show (!okGateMap g m) = true by simp [okGateMap, hh]]
    go_enter Try.func109, Try.ntmps109
    go_wp2_with (go_at_call 75; refine (impl_has' g.net _ _ hv).mono ?_; rintro e w1 ⟨rfl, hx⟩; have hc := hx.cells; have hf := hx.frozens; have hy := hx.size; (try simp at hy); have hz : W.heap.size < w1.heap.size ∧ G < w1.heap.size := (by omega))
    go_ret
    exact ⟨rfl, (by repeat (first | (with_reducible exact Ext.refl _) | (with_reducible assumption) | (with_reducible refine Ext.alloc ?_ _) | (with_reducible refine Ext.drewN ?_ _) | (with_reducible refine Ext.drew ?_) | (with_reducible refine Ext.setCell ?_ ?_ _; rotate_left; (simp only []; omega)) | (with_reducible refine Ext.trans ?_ (by assumption))))⟩
  | true =>
    by_cases hl : g.now < m.last
    · rw [show (!okGateMap g m) = true by simp [okGateMap]; omega]
      go_enter Try.func109, Try.ntmps109
      go_wp2_with (go_at_call 75; refine (impl_has' g.net _ _ hv).mono ?_; rintro e w1 ⟨rfl, hx⟩; have hc := hx.cells; have hf := hx.frozens; have hy := hx.size; (try simp at hy); have hz : W.heap.size < w1.heap.size ∧ G < w1.heap.size := (by omega))
      go_ret
      exact ⟨rfl, (by repeat (first | (with_reducible exact Ext.refl _) | (with_reducible assumption) | (with_reducible refine Ext.alloc ?_ _) | (with_reducible refine Ext.drewN ?_ _) | (with_reducible refine Ext.drew ?_) | (with_reducible refine Ext.setCell ?_ ?_ _; rotate_left; (simp only []; omega)) | (with_reducible refine Ext.trans ?_ (by assumption))))⟩
    · rw [show (!okGateMap g m) = expired m g.now g.hold by
        have : m.last ≤ g.now := by omega
        simp [okGateMap, hh, this]]
      go_enter Try.func109, Try.ntmps109
      go_wp2_with (first | (go_at_call 75; refine (impl_has' g.net _ _ hv).mono ?_; rintro e w1 ⟨rfl, hx⟩; have hc := hx.cells; have hf := hx.frozens; have hy := hx.size; (try simp at hy); have hz : W.heap.size < w1.heap.size ∧ G < w1.heap.size := (by omega)) | (go_at_call 110; refine (impl_expired m _ _ _ l0 l1 n0 n1).mono ?_; rintro e w1 ⟨rfl, hx⟩; have hc := hx.cells; have hf := hx.frozens; have hy := hx.size; (try simp at hy); have hz : W.heap.size < w1.heap.size := (by omega)))
      go_ret
      exact ⟨ret_bool (by have hl' : ¬ g.now < m.last := (by omega); rw [decide_eq_false hl']; rfl), (by repeat (first | (with_reducible exact Ext.refl _) | (with_reducible assumption) | (with_reducible refine Ext.alloc ?_ _) | (with_reducible refine Ext.drewN ?_ _) | (with_reducible refine Ext.drew ?_) | (with_reducible refine Ext.setCell ?_ ?_ _; rotate_left; (simp only []; omega)) | (with_reducible refine Ext.trans ?_ (by assumption))))⟩
theorem clo_gate2 (g : GateD) (x : ConD) (a : Option Addr) (n c : Nat) (t : Value) (G : Nat) (W : World) (hB : Blk W G 40 #[.int .i64 g.net.base, .int .i64 g.net.bits, .int .i64 g.out, .slice a n c, t, .int .i64 g.filter, .int .i64 g.hold, .int .i64 g.now])
    (hs : Sl encM 4 W a n c g.table) :
    Calls Try.prog 112 (#[.agg #[.int .i64 x.port, .int .i64 x.to_.addr, .int .i64 x.to_.port]] ++ #[.pointer (some ⟨G, 0, none⟩)]) W fun r w' => r = .returned (.bool (!okGateCon g x)) ∧ Ext W w' := by
  show Calls Try.prog 112 #[.agg #[.int .i64 x.port, .int .i64 x.to_.addr, .int .i64 x.to_.port], .pointer (some ⟨G, 0, none⟩)] W _
  rw [show (!okGateCon g x) = decide (byPort g.table x.port < 0) by
    unfold okGateCon
    rw [Bool.eq_iff_iff]
    simp]
  have hcB := hB.cells
  have hzB := hB.lt
  clear hB
  go_enter Try.func112, Try.ntmps112
  go_wp2_with (go_at_call 89; refine (impl_byPort _ _ _ _ g.table _ (by exact hs.ext (by repeat (first | (with_reducible exact Ext.refl _) | (with_reducible assumption) | (with_reducible refine Ext.alloc ?_ _) | (with_reducible refine Ext.drewN ?_ _) | (with_reducible refine Ext.drew ?_) | (with_reducible refine Ext.setCell ?_ ?_ _; rotate_left; (simp only []; omega)) | (with_reducible refine Ext.trans ?_ (by assumption)))))).mono ?_; rintro e w1 ⟨rfl, hx⟩; have hc := hx.cells; have hf := hx.frozens; have hy := hx.size; (try simp at hy); have hz : W.heap.size < w1.heap.size := (by omega))
  go_ret
  exact ⟨rfl, (by repeat (first | (with_reducible exact Ext.refl _) | (with_reducible assumption) | (with_reducible refine Ext.alloc ?_ _) | (with_reducible refine Ext.drewN ?_ _) | (with_reducible refine Ext.drew ?_) | (with_reducible refine Ext.setCell ?_ ?_ _; rotate_left; (simp only []; omega)) | (with_reducible refine Ext.trans ?_ (by assumption))))⟩
set_option maxHeartbeats 1000000 in
theorem impl_ValidGate (g : GateD) (ta : Option Addr) (tn tc : Nat) (ka : Option Addr) (kn kc : Nat) (w : World) (ht : Sl encM 4 w ta tn tc g.table) (hk : Sl encC 3 w ka kn kc g.cons) :
    Calls Try.prog 52 #[.agg #[.int .i64 g.net.base, .int .i64 g.net.bits, .int .i64 g.out, .slice ta tn tc, .slice ka kn kc, .int .i64 g.filter, .int .i64 g.hold, .int .i64 g.now]] w fun r w' => r = .returned (.bool (validGate g)) ∧ Ext w w' := by
  cases h1 : validNet g.net with
  | false =>
    go_enter Try.func52, Try.ntmps52
    go_wp2_with (first | (go_at_call 82; refine (impl_ValidNet' g.net _).mono ?_; rintro e w1 ⟨rfl, hx⟩; have hc := hx.cells; have hf := hx.frozens; have hy := hx.size; (try simp at hy); have hz : w.heap.size < w1.heap.size := (by omega)) | (go_at_call 83; refine (impl_isWord _ _).mono ?_; rintro e w' ⟨rfl, rfl⟩) | (go_at_call 75; refine (impl_has' g.net _ _ (by assumption)).mono ?_; rintro e w1 ⟨rfl, hx⟩; have hc := hx.cells; have hf := hx.frozens; have hy := hx.size; (try simp at hy); have hz : w.heap.size < w1.heap.size := (by omega)) | (go_at_call 106; refine (impl_timed _ _ _ g.table _ _ _ (by exact ht.ext (by repeat (first | (with_reducible exact Ext.refl _) | (with_reducible assumption) | (with_reducible refine Ext.alloc ?_ _) | (with_reducible refine Ext.drewN ?_ _) | (with_reducible refine Ext.drew ?_) | (with_reducible refine Ext.setCell ?_ ?_ _; rotate_left; (simp only []; omega)) | (with_reducible refine Ext.trans ?_ (by assumption)))))).mono ?_; rintro e w1 ⟨rfl, hx⟩; have hc := hx.cells; have hf := hx.frozens; have hy := hx.size; (try simp at hy); have hz : w.heap.size < w1.heap.size := (by omega)) | (go_at_call 107; refine (impl_ValidContacts _ _ _ g.cons _ (by exact hk.ext (by repeat (first | (with_reducible exact Ext.refl _) | (with_reducible assumption) | (with_reducible refine Ext.alloc ?_ _) | (with_reducible refine Ext.drewN ?_ _) | (with_reducible refine Ext.drew ?_) | (with_reducible refine Ext.setCell ?_ ?_ _; rotate_left; (simp only []; omega)) | (with_reducible refine Ext.trans ?_ (by assumption)))))).mono ?_; rintro e w1 ⟨rfl, hx⟩; have hc := hx.cells; have hf := hx.frozens; have hy := hx.size; (try simp at hy); have hz : w.heap.size < w1.heap.size := (by omega)) | (go_at_call 63; refine (impl_in _ _ _ _).mono ?_; rintro e w' ⟨rfl, rfl⟩))
    go_ret
    exact ⟨ret_bool (by have hh : validTable g.table = true → timer g.now g.hold = false → validGate g = false := (by intro a b; simp [validGate, a, b]); simp_all [validGate]), (by repeat (first | (with_reducible exact Ext.refl _) | (with_reducible assumption) | (with_reducible refine Ext.alloc ?_ _) | (with_reducible refine Ext.drewN ?_ _) | (with_reducible refine Ext.drew ?_) | (with_reducible refine Ext.setCell ?_ ?_ _; rotate_left; (simp only []; omega)) | (with_reducible refine Ext.trans ?_ (by assumption))))⟩
  | true =>
  cases h2 : word g.out with
  | false =>
    go_enter Try.func52, Try.ntmps52
    go_wp2_with (first | (go_at_call 82; refine (impl_ValidNet' g.net _).mono ?_; rintro e w1 ⟨rfl, hx⟩; have hc := hx.cells; have hf := hx.frozens; have hy := hx.size; (try simp at hy); have hz : w.heap.size < w1.heap.size := (by omega)) | (go_at_call 83; refine (impl_isWord _ _).mono ?_; rintro e w' ⟨rfl, rfl⟩) | (go_at_call 75; refine (impl_has' g.net _ _ (by assumption)).mono ?_; rintro e w1 ⟨rfl, hx⟩; have hc := hx.cells; have hf := hx.frozens; have hy := hx.size; (try simp at hy); have hz : w.heap.size < w1.heap.size := (by omega)) | (go_at_call 106; refine (impl_timed _ _ _ g.table _ _ _ (by exact ht.ext (by repeat (first | (with_reducible exact Ext.refl _) | (with_reducible assumption) | (with_reducible refine Ext.alloc ?_ _) | (with_reducible refine Ext.drewN ?_ _) | (with_reducible refine Ext.drew ?_) | (with_reducible refine Ext.setCell ?_ ?_ _; rotate_left; (simp only []; omega)) | (with_reducible refine Ext.trans ?_ (by assumption)))))).mono ?_; rintro e w1 ⟨rfl, hx⟩; have hc := hx.cells; have hf := hx.frozens; have hy := hx.size; (try simp at hy); have hz : w.heap.size < w1.heap.size := (by omega)) | (go_at_call 107; refine (impl_ValidContacts _ _ _ g.cons _ (by exact hk.ext (by repeat (first | (with_reducible exact Ext.refl _) | (with_reducible assumption) | (with_reducible refine Ext.alloc ?_ _) | (with_reducible refine Ext.drewN ?_ _) | (with_reducible refine Ext.drew ?_) | (with_reducible refine Ext.setCell ?_ ?_ _; rotate_left; (simp only []; omega)) | (with_reducible refine Ext.trans ?_ (by assumption)))))).mono ?_; rintro e w1 ⟨rfl, hx⟩; have hc := hx.cells; have hf := hx.frozens; have hy := hx.size; (try simp at hy); have hz : w.heap.size < w1.heap.size := (by omega)) | (go_at_call 63; refine (impl_in _ _ _ _).mono ?_; rintro e w' ⟨rfl, rfl⟩))
    go_ret
    exact ⟨ret_bool (by have hh : validTable g.table = true → timer g.now g.hold = false → validGate g = false := (by intro a b; simp [validGate, a, b]); simp_all [validGate]), (by repeat (first | (with_reducible exact Ext.refl _) | (with_reducible assumption) | (with_reducible refine Ext.alloc ?_ _) | (with_reducible refine Ext.drewN ?_ _) | (with_reducible refine Ext.drew ?_) | (with_reducible refine Ext.setCell ?_ ?_ _; rotate_left; (simp only []; omega)) | (with_reducible refine Ext.trans ?_ (by assumption))))⟩
  | true =>
  cases h3 : has g.net g.out with
  | true =>
    go_enter Try.func52, Try.ntmps52
    go_wp2_with (first | (go_at_call 82; refine (impl_ValidNet' g.net _).mono ?_; rintro e w1 ⟨rfl, hx⟩; have hc := hx.cells; have hf := hx.frozens; have hy := hx.size; (try simp at hy); have hz : w.heap.size < w1.heap.size := (by omega)) | (go_at_call 83; refine (impl_isWord _ _).mono ?_; rintro e w' ⟨rfl, rfl⟩) | (go_at_call 75; refine (impl_has' g.net _ _ (by assumption)).mono ?_; rintro e w1 ⟨rfl, hx⟩; have hc := hx.cells; have hf := hx.frozens; have hy := hx.size; (try simp at hy); have hz : w.heap.size < w1.heap.size := (by omega)) | (go_at_call 106; refine (impl_timed _ _ _ g.table _ _ _ (by exact ht.ext (by repeat (first | (with_reducible exact Ext.refl _) | (with_reducible assumption) | (with_reducible refine Ext.alloc ?_ _) | (with_reducible refine Ext.drewN ?_ _) | (with_reducible refine Ext.drew ?_) | (with_reducible refine Ext.setCell ?_ ?_ _; rotate_left; (simp only []; omega)) | (with_reducible refine Ext.trans ?_ (by assumption)))))).mono ?_; rintro e w1 ⟨rfl, hx⟩; have hc := hx.cells; have hf := hx.frozens; have hy := hx.size; (try simp at hy); have hz : w.heap.size < w1.heap.size := (by omega)) | (go_at_call 107; refine (impl_ValidContacts _ _ _ g.cons _ (by exact hk.ext (by repeat (first | (with_reducible exact Ext.refl _) | (with_reducible assumption) | (with_reducible refine Ext.alloc ?_ _) | (with_reducible refine Ext.drewN ?_ _) | (with_reducible refine Ext.drew ?_) | (with_reducible refine Ext.setCell ?_ ?_ _; rotate_left; (simp only []; omega)) | (with_reducible refine Ext.trans ?_ (by assumption)))))).mono ?_; rintro e w1 ⟨rfl, hx⟩; have hc := hx.cells; have hf := hx.frozens; have hy := hx.size; (try simp at hy); have hz : w.heap.size < w1.heap.size := (by omega)) | (go_at_call 63; refine (impl_in _ _ _ _).mono ?_; rintro e w' ⟨rfl, rfl⟩))
    go_ret
    exact ⟨ret_bool (by have hh : validTable g.table = true → timer g.now g.hold = false → validGate g = false := (by intro a b; simp [validGate, a, b]); simp_all [validGate]), (by repeat (first | (with_reducible exact Ext.refl _) | (with_reducible assumption) | (with_reducible refine Ext.alloc ?_ _) | (with_reducible refine Ext.drewN ?_ _) | (with_reducible refine Ext.drew ?_) | (with_reducible refine Ext.setCell ?_ ?_ _; rotate_left; (simp only []; omega)) | (with_reducible refine Ext.trans ?_ (by assumption))))⟩
  | false =>
  cases h4 : (validTable g.table && timer g.now g.hold) with
  | false =>
    go_enter Try.func52, Try.ntmps52
    go_wp2_with (first | (go_at_call 82; refine (impl_ValidNet' g.net _).mono ?_; rintro e w1 ⟨rfl, hx⟩; have hc := hx.cells; have hf := hx.frozens; have hy := hx.size; (try simp at hy); have hz : w.heap.size < w1.heap.size := (by omega)) | (go_at_call 83; refine (impl_isWord _ _).mono ?_; rintro e w' ⟨rfl, rfl⟩) | (go_at_call 75; refine (impl_has' g.net _ _ (by assumption)).mono ?_; rintro e w1 ⟨rfl, hx⟩; have hc := hx.cells; have hf := hx.frozens; have hy := hx.size; (try simp at hy); have hz : w.heap.size < w1.heap.size := (by omega)) | (go_at_call 106; refine (impl_timed _ _ _ g.table _ _ _ (by exact ht.ext (by repeat (first | (with_reducible exact Ext.refl _) | (with_reducible assumption) | (with_reducible refine Ext.alloc ?_ _) | (with_reducible refine Ext.drewN ?_ _) | (with_reducible refine Ext.drew ?_) | (with_reducible refine Ext.setCell ?_ ?_ _; rotate_left; (simp only []; omega)) | (with_reducible refine Ext.trans ?_ (by assumption)))))).mono ?_; rintro e w1 ⟨rfl, hx⟩; have hc := hx.cells; have hf := hx.frozens; have hy := hx.size; (try simp at hy); have hz : w.heap.size < w1.heap.size := (by omega)) | (go_at_call 107; refine (impl_ValidContacts _ _ _ g.cons _ (by exact hk.ext (by repeat (first | (with_reducible exact Ext.refl _) | (with_reducible assumption) | (with_reducible refine Ext.alloc ?_ _) | (with_reducible refine Ext.drewN ?_ _) | (with_reducible refine Ext.drew ?_) | (with_reducible refine Ext.setCell ?_ ?_ _; rotate_left; (simp only []; omega)) | (with_reducible refine Ext.trans ?_ (by assumption)))))).mono ?_; rintro e w1 ⟨rfl, hx⟩; have hc := hx.cells; have hf := hx.frozens; have hy := hx.size; (try simp at hy); have hz : w.heap.size < w1.heap.size := (by omega)) | (go_at_call 63; refine (impl_in _ _ _ _).mono ?_; rintro e w' ⟨rfl, rfl⟩))
    go_ret
    exact ⟨ret_bool (by have hh : validTable g.table = true → timer g.now g.hold = false → validGate g = false := (by intro a b; simp [validGate, a, b]); simp_all [validGate]), (by repeat (first | (with_reducible exact Ext.refl _) | (with_reducible assumption) | (with_reducible refine Ext.alloc ?_ _) | (with_reducible refine Ext.drewN ?_ _) | (with_reducible refine Ext.drew ?_) | (with_reducible refine Ext.setCell ?_ ?_ _; rotate_left; (simp only []; omega)) | (with_reducible refine Ext.trans ?_ (by assumption))))⟩
  | true =>
  cases h5 : validContacts g.cons with
  | false =>
    go_enter Try.func52, Try.ntmps52
    go_wp2_with (first | (go_at_call 82; refine (impl_ValidNet' g.net _).mono ?_; rintro e w1 ⟨rfl, hx⟩; have hc := hx.cells; have hf := hx.frozens; have hy := hx.size; (try simp at hy); have hz : w.heap.size < w1.heap.size := (by omega)) | (go_at_call 83; refine (impl_isWord _ _).mono ?_; rintro e w' ⟨rfl, rfl⟩) | (go_at_call 75; refine (impl_has' g.net _ _ (by assumption)).mono ?_; rintro e w1 ⟨rfl, hx⟩; have hc := hx.cells; have hf := hx.frozens; have hy := hx.size; (try simp at hy); have hz : w.heap.size < w1.heap.size := (by omega)) | (go_at_call 106; refine (impl_timed _ _ _ g.table _ _ _ (by exact ht.ext (by repeat (first | (with_reducible exact Ext.refl _) | (with_reducible assumption) | (with_reducible refine Ext.alloc ?_ _) | (with_reducible refine Ext.drewN ?_ _) | (with_reducible refine Ext.drew ?_) | (with_reducible refine Ext.setCell ?_ ?_ _; rotate_left; (simp only []; omega)) | (with_reducible refine Ext.trans ?_ (by assumption)))))).mono ?_; rintro e w1 ⟨rfl, hx⟩; have hc := hx.cells; have hf := hx.frozens; have hy := hx.size; (try simp at hy); have hz : w.heap.size < w1.heap.size := (by omega)) | (go_at_call 107; refine (impl_ValidContacts _ _ _ g.cons _ (by exact hk.ext (by repeat (first | (with_reducible exact Ext.refl _) | (with_reducible assumption) | (with_reducible refine Ext.alloc ?_ _) | (with_reducible refine Ext.drewN ?_ _) | (with_reducible refine Ext.drew ?_) | (with_reducible refine Ext.setCell ?_ ?_ _; rotate_left; (simp only []; omega)) | (with_reducible refine Ext.trans ?_ (by assumption)))))).mono ?_; rintro e w1 ⟨rfl, hx⟩; have hc := hx.cells; have hf := hx.frozens; have hy := hx.size; (try simp at hy); have hz : w.heap.size < w1.heap.size := (by omega)) | (go_at_call 63; refine (impl_in _ _ _ _).mono ?_; rintro e w' ⟨rfl, rfl⟩))
    go_ret
    exact ⟨ret_bool (by have hh : validTable g.table = true → timer g.now g.hold = false → validGate g = false := (by intro a b; simp [validGate, a, b]); simp_all [validGate]), (by repeat (first | (with_reducible exact Ext.refl _) | (with_reducible assumption) | (with_reducible refine Ext.alloc ?_ _) | (with_reducible refine Ext.drewN ?_ _) | (with_reducible refine Ext.drew ?_) | (with_reducible refine Ext.setCell ?_ ?_ _; rotate_left; (simp only []; omega)) | (with_reducible refine Ext.trans ?_ (by assumption))))⟩
  | true =>
  cases h6 : inR g.filter 0 2 with
  | false =>
    go_enter Try.func52, Try.ntmps52
    go_wp2_with (first | (go_at_call 82; refine (impl_ValidNet' g.net _).mono ?_; rintro e w1 ⟨rfl, hx⟩; have hc := hx.cells; have hf := hx.frozens; have hy := hx.size; (try simp at hy); have hz : w.heap.size < w1.heap.size := (by omega)) | (go_at_call 83; refine (impl_isWord _ _).mono ?_; rintro e w' ⟨rfl, rfl⟩) | (go_at_call 75; refine (impl_has' g.net _ _ (by assumption)).mono ?_; rintro e w1 ⟨rfl, hx⟩; have hc := hx.cells; have hf := hx.frozens; have hy := hx.size; (try simp at hy); have hz : w.heap.size < w1.heap.size := (by omega)) | (go_at_call 106; refine (impl_timed _ _ _ g.table _ _ _ (by exact ht.ext (by repeat (first | (with_reducible exact Ext.refl _) | (with_reducible assumption) | (with_reducible refine Ext.alloc ?_ _) | (with_reducible refine Ext.drewN ?_ _) | (with_reducible refine Ext.drew ?_) | (with_reducible refine Ext.setCell ?_ ?_ _; rotate_left; (simp only []; omega)) | (with_reducible refine Ext.trans ?_ (by assumption)))))).mono ?_; rintro e w1 ⟨rfl, hx⟩; have hc := hx.cells; have hf := hx.frozens; have hy := hx.size; (try simp at hy); have hz : w.heap.size < w1.heap.size := (by omega)) | (go_at_call 107; refine (impl_ValidContacts _ _ _ g.cons _ (by exact hk.ext (by repeat (first | (with_reducible exact Ext.refl _) | (with_reducible assumption) | (with_reducible refine Ext.alloc ?_ _) | (with_reducible refine Ext.drewN ?_ _) | (with_reducible refine Ext.drew ?_) | (with_reducible refine Ext.setCell ?_ ?_ _; rotate_left; (simp only []; omega)) | (with_reducible refine Ext.trans ?_ (by assumption)))))).mono ?_; rintro e w1 ⟨rfl, hx⟩; have hc := hx.cells; have hf := hx.frozens; have hy := hx.size; (try simp at hy); have hz : w.heap.size < w1.heap.size := (by omega)) | (go_at_call 63; refine (impl_in _ _ _ _).mono ?_; rintro e w' ⟨rfl, rfl⟩))
    go_ret
    exact ⟨ret_bool (by have hh : validTable g.table = true → timer g.now g.hold = false → validGate g = false := (by intro a b; simp [validGate, a, b]); simp_all [validGate]), (by repeat (first | (with_reducible exact Ext.refl _) | (with_reducible assumption) | (with_reducible refine Ext.alloc ?_ _) | (with_reducible refine Ext.drewN ?_ _) | (with_reducible refine Ext.drew ?_) | (with_reducible refine Ext.setCell ?_ ?_ _; rotate_left; (simp only []; omega)) | (with_reducible refine Ext.trans ?_ (by assumption))))⟩
  | true =>
    have h4' := h4
    simp only [Bool.and_eq_true, timer, inR_iff] at h4'
    obtain ⟨t1, ⟨t2, t3⟩, t4, t5⟩ := h4'
    have e1 : ∀ args w, (callFunc 109 args).run Try.prog w = .ok (.enter 109 args) w := enters_of Try.func109 (by kernel_rfl) rfl
    have e2 : ∀ args w, (callFunc 112 args).run Try.prog w = .ok (.enter 112 args) w := enters_of Try.func112 (by kernel_rfl) rfl
    have C1 : ∀ W : World, Ext (w.alloc (.cells #[.int .i64 g.net.base, .int .i64 g.net.bits, .int .i64 g.out, .slice ta tn tc, .slice ka kn kc, .int .i64 g.filter, .int .i64 g.hold, .int .i64 g.now] 40)) W → Calls Try.prog 108 #[.slice ta tn tc, .func (.func 109) #[] #[.pointer (some ⟨w.heap.size, 0, none⟩)]] W fun e w' => e = .returned (.bool (!g.table.all (okGateMap g))) ∧ Ext W w' := by
      intro W hW
      rw [← any_not]
      refine ContainsFunc_M 109 _ e1 _ ta tn tc g.table W ((ht.alloc _).ext hW) fun x hx W' hW' => ?_
      have hx2 := (validTable_iff.1 t1).1 x hx
      simp only [okMap, Bool.and_eq_true, inR_iff] at hx2
      exact clo_gate1 g x _ _ w.heap.size W' (((Blk.new w _ _).ext hW).ext hW') h1 t2 t3 hx2.2.1 hx2.2.2
    have C2 : ∀ W : World, Ext (w.alloc (.cells #[.int .i64 g.net.base, .int .i64 g.net.bits, .int .i64 g.out, .slice ta tn tc, .slice ka kn kc, .int .i64 g.filter, .int .i64 g.hold, .int .i64 g.now] 40)) W → Calls Try.prog 111 #[.slice ka kn kc, .func (.func 112) #[] #[.pointer (some ⟨w.heap.size, 0, none⟩)]] W fun e w' => e = .returned (.bool (!g.cons.all (okGateCon g))) ∧ Ext W w' := by
      intro W hW
      rw [← any_not]
      refine ContainsFunc_C 112 _ e2 _ ka kn kc g.cons W ((hk.alloc _).ext hW) fun x hx W' hW' => ?_
      exact clo_gate2 g x ta tn tc _ w.heap.size W' (((Blk.new w _ _).ext hW).ext hW') (((ht.alloc _).ext hW).ext hW')
    replace C1 := Lib.hid C1
    replace C2 := Lib.hid C2
    have hfin := Lib.hid (show validGate g = (g.table.all (okGateMap g) && g.cons.all (okGateCon g)) by
      have h4'' := h4
      rw [Bool.and_eq_true] at h4''
      unfold validGate
      simp [h1, h2, h3, h4''.1, h4''.2, h5, h6])
    clear e1 e2 t1 t2 t3 t4 t5
    generalize g.table.all (okGateMap g) = q1 at *
    generalize g.cons.all (okGateCon g) = q2 at *
    go_enter Try.func52, Try.ntmps52
    go_wp2_with (first | (go_at_call 82; refine (impl_ValidNet' g.net _).mono ?_; rintro e w1 ⟨rfl, hx⟩; have hc := hx.cells; have hf := hx.frozens; have hy := hx.size; (try simp at hy); have hz : w.heap.size < w1.heap.size := (by omega)) | (go_at_call 83; refine (impl_isWord _ _).mono ?_; rintro e w' ⟨rfl, rfl⟩) | (go_at_call 75; refine (impl_has' g.net _ _ (by assumption)).mono ?_; rintro e w1 ⟨rfl, hx⟩; have hc := hx.cells; have hf := hx.frozens; have hy := hx.size; (try simp at hy); have hz : w.heap.size < w1.heap.size := (by omega)) | (go_at_call 106; refine (impl_timed _ _ _ g.table _ _ _ (by exact ht.ext (by repeat (first | (with_reducible exact Ext.refl _) | (with_reducible assumption) | (with_reducible refine Ext.alloc ?_ _) | (with_reducible refine Ext.drewN ?_ _) | (with_reducible refine Ext.drew ?_) | (with_reducible refine Ext.setCell ?_ ?_ _; rotate_left; (simp only []; omega)) | (with_reducible refine Ext.trans ?_ (by assumption)))))).mono ?_; rintro e w1 ⟨rfl, hx⟩; have hc := hx.cells; have hf := hx.frozens; have hy := hx.size; (try simp at hy); have hz : w.heap.size < w1.heap.size := (by omega)) | (go_at_call 107; refine (impl_ValidContacts _ _ _ g.cons _ (by exact hk.ext (by repeat (first | (with_reducible exact Ext.refl _) | (with_reducible assumption) | (with_reducible refine Ext.alloc ?_ _) | (with_reducible refine Ext.drewN ?_ _) | (with_reducible refine Ext.drew ?_) | (with_reducible refine Ext.setCell ?_ ?_ _; rotate_left; (simp only []; omega)) | (with_reducible refine Ext.trans ?_ (by assumption)))))).mono ?_; rintro e w1 ⟨rfl, hx⟩; have hc := hx.cells; have hf := hx.frozens; have hy := hx.size; (try simp at hy); have hz : w.heap.size < w1.heap.size := (by omega)) | (go_at_call 63; refine (impl_in _ _ _ _).mono ?_; rintro e w' ⟨rfl, rfl⟩) | (go_at_call 108; refine (C1.out _ (by exact (by repeat (first | (with_reducible exact Ext.refl _) | (with_reducible assumption) | (with_reducible refine Ext.alloc ?_ _) | (with_reducible refine Ext.drewN ?_ _) | (with_reducible refine Ext.drew ?_) | (with_reducible refine Ext.setCell ?_ ?_ _; rotate_left; (simp only []; omega)) | (with_reducible refine Ext.trans ?_ (by assumption)))))).mono ?_; rintro e w1 ⟨rfl, hx⟩; have hc := hx.cells; have hf := hx.frozens; have hy := hx.size; (try simp at hy); have hz : w.heap.size < w1.heap.size := (by omega)) | (go_at_call 111; refine (C2.out _ (by exact (by repeat (first | (with_reducible exact Ext.refl _) | (with_reducible assumption) | (with_reducible refine Ext.alloc ?_ _) | (with_reducible refine Ext.drewN ?_ _) | (with_reducible refine Ext.drew ?_) | (with_reducible refine Ext.setCell ?_ ?_ _; rotate_left; (simp only []; omega)) | (with_reducible refine Ext.trans ?_ (by assumption)))))).mono ?_; rintro e w1 ⟨rfl, hx⟩; have hc := hx.cells; have hf := hx.frozens; have hy := hx.size; (try simp at hy); have hz : w.heap.size < w1.heap.size := (by omega)))
    all_goals (go_ret; exact ⟨ret_bool (by rw [hfin.out]; simp [*]), (by repeat (first | (with_reducible exact Ext.refl _) | (with_reducible assumption) | (with_reducible refine Ext.alloc ?_ _) | (with_reducible refine Ext.drewN ?_ _) | (with_reducible refine Ext.drew ?_) | (with_reducible refine Ext.setCell ?_ ?_ _; rotate_left; (simp only []; omega)) | (with_reducible refine Ext.trans ?_ (by assumption))))⟩)
end Go.Proofs.Ytafmomocmodbhaa
/- Contracts: valid gates of the reference; ways of packets, of both. -/
namespace Go.Proofs.Ytafmomocmodbhaa
set_option linter.unusedVariables false
set_option linter.unusedSimpArgs false
open Go.RowKit Go.Shelf

theorem spec_validNet' (n : NetD) (w : World) : Calls Try.prog 96 #[.agg #[.int .i64 n.base, .int .i64 n.bits]] w fun e w' => e = .returned (.bool (validNet n)) ∧ Ext w w' := spec_validNet n.base n.bits w
theorem spec_inNet' (n : NetD) (a : Int) (w : World) (h : validNet n = true) : Calls Try.prog 46 #[.agg #[.int .i64 n.base, .int .i64 n.bits], .int .i64 a] w fun e w' => e = .returned (.bool (has n a)) ∧ Ext w w' := spec_inNet n.base n.bits a w h
set_option maxHeartbeats 2000000 in
theorem spec_validGate (g : GateD) (ta : Option Addr) (tn tc : Nat) (ka : Option Addr) (kn kc : Nat) (w : World) (ht : Sl encM 4 w ta tn tc g.table) (hk : Sl encC 3 w ka kn kc g.cons) :
    Calls Try.prog 42 #[.agg #[.int .i64 g.net.base, .int .i64 g.net.bits, .int .i64 g.out, .slice ta tn tc, .slice ka kn kc, .int .i64 g.filter, .int .i64 g.hold, .int .i64 g.now]] w fun r w' => r = .returned (.bool (validGate g)) ∧ Ext w w' := by
  have hmx1 := ht.max
  have hmx2 := hk.max
  have hle1 := ht.le
  have hle2 := hk.le
  cases h1 : validNet g.net with
  | false =>
    go_enter Try.func42, Try.ntmps42
    go_wp2_with (first | (go_at_call 96; refine (spec_validNet' g.net _).mono ?_; rintro e w1 ⟨rfl, hx⟩; have hc := hx.cells; have hf := hx.frozens; have hy := hx.size; (try simp at hy); have hz : w.heap.size < w1.heap.size := (by omega)) | (go_at_call 97; refine (spec_validAddr _ _).mono ?_; rintro e w' ⟨rfl, rfl⟩) | (go_at_call 46; refine (spec_inNet' g.net _ _ (by assumption)).mono ?_; rintro e w1 ⟨rfl, hx⟩; have hc := hx.cells; have hf := hx.frozens; have hy := hx.size; (try simp at hy); have hz : w.heap.size < w1.heap.size := (by omega)) | (go_at_call 98; refine (spec_validTable _ _ _ g.table _ (by exact ht.ext (by repeat (first | (with_reducible exact Ext.refl _) | (with_reducible assumption) | (with_reducible refine Ext.alloc ?_ _) | (with_reducible refine Ext.drewN ?_ _) | (with_reducible refine Ext.drew ?_) | (with_reducible refine Ext.setCell ?_ ?_ _; rotate_left; (simp only []; omega)) | (with_reducible refine Ext.trans ?_ (by assumption)))))).mono ?_; rintro e w1 ⟨rfl, hx⟩; have hc := hx.cells; have hf := hx.frozens; have hy := hx.size; (try simp at hy); have hz : w.heap.size < w1.heap.size := (by omega)) | (go_at_call 99; refine (spec_validContacts _ _ _ g.cons _ (by exact hk.ext (by repeat (first | (with_reducible exact Ext.refl _) | (with_reducible assumption) | (with_reducible refine Ext.alloc ?_ _) | (with_reducible refine Ext.drewN ?_ _) | (with_reducible refine Ext.drew ?_) | (with_reducible refine Ext.setCell ?_ ?_ _; rotate_left; (simp only []; omega)) | (with_reducible refine Ext.trans ?_ (by assumption)))))).mono ?_; rintro e w1 ⟨rfl, hx⟩; have hc := hx.cells; have hf := hx.frozens; have hy := hx.size; (try simp at hy); have hz : w.heap.size < w1.heap.size := (by omega)) | (go_at_call 68; refine (spec_inRange _ _ _ _).mono ?_; rintro e w' ⟨rfl, rfl⟩))
    go_ret
    exact ⟨ret_bool (by simp [validGate, timer, *]), (by repeat (first | (with_reducible exact Ext.refl _) | (with_reducible assumption) | (with_reducible refine Ext.alloc ?_ _) | (with_reducible refine Ext.drewN ?_ _) | (with_reducible refine Ext.drew ?_) | (with_reducible refine Ext.setCell ?_ ?_ _; rotate_left; (simp only []; omega)) | (with_reducible refine Ext.trans ?_ (by assumption))))⟩
  | true =>
  cases h2 : word g.out with
  | false =>
    go_enter Try.func42, Try.ntmps42
    go_wp2_with (first | (go_at_call 96; refine (spec_validNet' g.net _).mono ?_; rintro e w1 ⟨rfl, hx⟩; have hc := hx.cells; have hf := hx.frozens; have hy := hx.size; (try simp at hy); have hz : w.heap.size < w1.heap.size := (by omega)) | (go_at_call 97; refine (spec_validAddr _ _).mono ?_; rintro e w' ⟨rfl, rfl⟩) | (go_at_call 46; refine (spec_inNet' g.net _ _ (by assumption)).mono ?_; rintro e w1 ⟨rfl, hx⟩; have hc := hx.cells; have hf := hx.frozens; have hy := hx.size; (try simp at hy); have hz : w.heap.size < w1.heap.size := (by omega)) | (go_at_call 98; refine (spec_validTable _ _ _ g.table _ (by exact ht.ext (by repeat (first | (with_reducible exact Ext.refl _) | (with_reducible assumption) | (with_reducible refine Ext.alloc ?_ _) | (with_reducible refine Ext.drewN ?_ _) | (with_reducible refine Ext.drew ?_) | (with_reducible refine Ext.setCell ?_ ?_ _; rotate_left; (simp only []; omega)) | (with_reducible refine Ext.trans ?_ (by assumption)))))).mono ?_; rintro e w1 ⟨rfl, hx⟩; have hc := hx.cells; have hf := hx.frozens; have hy := hx.size; (try simp at hy); have hz : w.heap.size < w1.heap.size := (by omega)) | (go_at_call 99; refine (spec_validContacts _ _ _ g.cons _ (by exact hk.ext (by repeat (first | (with_reducible exact Ext.refl _) | (with_reducible assumption) | (with_reducible refine Ext.alloc ?_ _) | (with_reducible refine Ext.drewN ?_ _) | (with_reducible refine Ext.drew ?_) | (with_reducible refine Ext.setCell ?_ ?_ _; rotate_left; (simp only []; omega)) | (with_reducible refine Ext.trans ?_ (by assumption)))))).mono ?_; rintro e w1 ⟨rfl, hx⟩; have hc := hx.cells; have hf := hx.frozens; have hy := hx.size; (try simp at hy); have hz : w.heap.size < w1.heap.size := (by omega)) | (go_at_call 68; refine (spec_inRange _ _ _ _).mono ?_; rintro e w' ⟨rfl, rfl⟩))
    go_ret
    exact ⟨ret_bool (by simp [validGate, timer, *]), (by repeat (first | (with_reducible exact Ext.refl _) | (with_reducible assumption) | (with_reducible refine Ext.alloc ?_ _) | (with_reducible refine Ext.drewN ?_ _) | (with_reducible refine Ext.drew ?_) | (with_reducible refine Ext.setCell ?_ ?_ _; rotate_left; (simp only []; omega)) | (with_reducible refine Ext.trans ?_ (by assumption))))⟩
  | true =>
  cases h3 : has g.net g.out with
  | true =>
    go_enter Try.func42, Try.ntmps42
    go_wp2_with (first | (go_at_call 96; refine (spec_validNet' g.net _).mono ?_; rintro e w1 ⟨rfl, hx⟩; have hc := hx.cells; have hf := hx.frozens; have hy := hx.size; (try simp at hy); have hz : w.heap.size < w1.heap.size := (by omega)) | (go_at_call 97; refine (spec_validAddr _ _).mono ?_; rintro e w' ⟨rfl, rfl⟩) | (go_at_call 46; refine (spec_inNet' g.net _ _ (by assumption)).mono ?_; rintro e w1 ⟨rfl, hx⟩; have hc := hx.cells; have hf := hx.frozens; have hy := hx.size; (try simp at hy); have hz : w.heap.size < w1.heap.size := (by omega)) | (go_at_call 98; refine (spec_validTable _ _ _ g.table _ (by exact ht.ext (by repeat (first | (with_reducible exact Ext.refl _) | (with_reducible assumption) | (with_reducible refine Ext.alloc ?_ _) | (with_reducible refine Ext.drewN ?_ _) | (with_reducible refine Ext.drew ?_) | (with_reducible refine Ext.setCell ?_ ?_ _; rotate_left; (simp only []; omega)) | (with_reducible refine Ext.trans ?_ (by assumption)))))).mono ?_; rintro e w1 ⟨rfl, hx⟩; have hc := hx.cells; have hf := hx.frozens; have hy := hx.size; (try simp at hy); have hz : w.heap.size < w1.heap.size := (by omega)) | (go_at_call 99; refine (spec_validContacts _ _ _ g.cons _ (by exact hk.ext (by repeat (first | (with_reducible exact Ext.refl _) | (with_reducible assumption) | (with_reducible refine Ext.alloc ?_ _) | (with_reducible refine Ext.drewN ?_ _) | (with_reducible refine Ext.drew ?_) | (with_reducible refine Ext.setCell ?_ ?_ _; rotate_left; (simp only []; omega)) | (with_reducible refine Ext.trans ?_ (by assumption)))))).mono ?_; rintro e w1 ⟨rfl, hx⟩; have hc := hx.cells; have hf := hx.frozens; have hy := hx.size; (try simp at hy); have hz : w.heap.size < w1.heap.size := (by omega)) | (go_at_call 68; refine (spec_inRange _ _ _ _).mono ?_; rintro e w' ⟨rfl, rfl⟩))
    go_ret
    exact ⟨ret_bool (by simp [validGate, timer, *]), (by repeat (first | (with_reducible exact Ext.refl _) | (with_reducible assumption) | (with_reducible refine Ext.alloc ?_ _) | (with_reducible refine Ext.drewN ?_ _) | (with_reducible refine Ext.drew ?_) | (with_reducible refine Ext.setCell ?_ ?_ _; rotate_left; (simp only []; omega)) | (with_reducible refine Ext.trans ?_ (by assumption))))⟩
  | false =>
  cases h4 : validTable g.table with
  | false =>
    go_enter Try.func42, Try.ntmps42
    go_wp2_with (first | (go_at_call 96; refine (spec_validNet' g.net _).mono ?_; rintro e w1 ⟨rfl, hx⟩; have hc := hx.cells; have hf := hx.frozens; have hy := hx.size; (try simp at hy); have hz : w.heap.size < w1.heap.size := (by omega)) | (go_at_call 97; refine (spec_validAddr _ _).mono ?_; rintro e w' ⟨rfl, rfl⟩) | (go_at_call 46; refine (spec_inNet' g.net _ _ (by assumption)).mono ?_; rintro e w1 ⟨rfl, hx⟩; have hc := hx.cells; have hf := hx.frozens; have hy := hx.size; (try simp at hy); have hz : w.heap.size < w1.heap.size := (by omega)) | (go_at_call 98; refine (spec_validTable _ _ _ g.table _ (by exact ht.ext (by repeat (first | (with_reducible exact Ext.refl _) | (with_reducible assumption) | (with_reducible refine Ext.alloc ?_ _) | (with_reducible refine Ext.drewN ?_ _) | (with_reducible refine Ext.drew ?_) | (with_reducible refine Ext.setCell ?_ ?_ _; rotate_left; (simp only []; omega)) | (with_reducible refine Ext.trans ?_ (by assumption)))))).mono ?_; rintro e w1 ⟨rfl, hx⟩; have hc := hx.cells; have hf := hx.frozens; have hy := hx.size; (try simp at hy); have hz : w.heap.size < w1.heap.size := (by omega)) | (go_at_call 99; refine (spec_validContacts _ _ _ g.cons _ (by exact hk.ext (by repeat (first | (with_reducible exact Ext.refl _) | (with_reducible assumption) | (with_reducible refine Ext.alloc ?_ _) | (with_reducible refine Ext.drewN ?_ _) | (with_reducible refine Ext.drew ?_) | (with_reducible refine Ext.setCell ?_ ?_ _; rotate_left; (simp only []; omega)) | (with_reducible refine Ext.trans ?_ (by assumption)))))).mono ?_; rintro e w1 ⟨rfl, hx⟩; have hc := hx.cells; have hf := hx.frozens; have hy := hx.size; (try simp at hy); have hz : w.heap.size < w1.heap.size := (by omega)) | (go_at_call 68; refine (spec_inRange _ _ _ _).mono ?_; rintro e w' ⟨rfl, rfl⟩))
    go_ret
    exact ⟨ret_bool (by simp [validGate, timer, *]), (by repeat (first | (with_reducible exact Ext.refl _) | (with_reducible assumption) | (with_reducible refine Ext.alloc ?_ _) | (with_reducible refine Ext.drewN ?_ _) | (with_reducible refine Ext.drew ?_) | (with_reducible refine Ext.setCell ?_ ?_ _; rotate_left; (simp only []; omega)) | (with_reducible refine Ext.trans ?_ (by assumption))))⟩
  | true =>
  cases h5 : validContacts g.cons with
  | false =>
    go_enter Try.func42, Try.ntmps42
    go_wp2_with (first | (go_at_call 96; refine (spec_validNet' g.net _).mono ?_; rintro e w1 ⟨rfl, hx⟩; have hc := hx.cells; have hf := hx.frozens; have hy := hx.size; (try simp at hy); have hz : w.heap.size < w1.heap.size := (by omega)) | (go_at_call 97; refine (spec_validAddr _ _).mono ?_; rintro e w' ⟨rfl, rfl⟩) | (go_at_call 46; refine (spec_inNet' g.net _ _ (by assumption)).mono ?_; rintro e w1 ⟨rfl, hx⟩; have hc := hx.cells; have hf := hx.frozens; have hy := hx.size; (try simp at hy); have hz : w.heap.size < w1.heap.size := (by omega)) | (go_at_call 98; refine (spec_validTable _ _ _ g.table _ (by exact ht.ext (by repeat (first | (with_reducible exact Ext.refl _) | (with_reducible assumption) | (with_reducible refine Ext.alloc ?_ _) | (with_reducible refine Ext.drewN ?_ _) | (with_reducible refine Ext.drew ?_) | (with_reducible refine Ext.setCell ?_ ?_ _; rotate_left; (simp only []; omega)) | (with_reducible refine Ext.trans ?_ (by assumption)))))).mono ?_; rintro e w1 ⟨rfl, hx⟩; have hc := hx.cells; have hf := hx.frozens; have hy := hx.size; (try simp at hy); have hz : w.heap.size < w1.heap.size := (by omega)) | (go_at_call 99; refine (spec_validContacts _ _ _ g.cons _ (by exact hk.ext (by repeat (first | (with_reducible exact Ext.refl _) | (with_reducible assumption) | (with_reducible refine Ext.alloc ?_ _) | (with_reducible refine Ext.drewN ?_ _) | (with_reducible refine Ext.drew ?_) | (with_reducible refine Ext.setCell ?_ ?_ _; rotate_left; (simp only []; omega)) | (with_reducible refine Ext.trans ?_ (by assumption)))))).mono ?_; rintro e w1 ⟨rfl, hx⟩; have hc := hx.cells; have hf := hx.frozens; have hy := hx.size; (try simp at hy); have hz : w.heap.size < w1.heap.size := (by omega)) | (go_at_call 68; refine (spec_inRange _ _ _ _).mono ?_; rintro e w' ⟨rfl, rfl⟩))
    go_ret
    exact ⟨ret_bool (by simp [validGate, timer, *]), (by repeat (first | (with_reducible exact Ext.refl _) | (with_reducible assumption) | (with_reducible refine Ext.alloc ?_ _) | (with_reducible refine Ext.drewN ?_ _) | (with_reducible refine Ext.drew ?_) | (with_reducible refine Ext.setCell ?_ ?_ _; rotate_left; (simp only []; omega)) | (with_reducible refine Ext.trans ?_ (by assumption))))⟩
  | true =>
  cases h6 : inR g.filter 0 2 with
  | false =>
    go_enter Try.func42, Try.ntmps42
    go_wp2_with (first | (go_at_call 96; refine (spec_validNet' g.net _).mono ?_; rintro e w1 ⟨rfl, hx⟩; have hc := hx.cells; have hf := hx.frozens; have hy := hx.size; (try simp at hy); have hz : w.heap.size < w1.heap.size := (by omega)) | (go_at_call 97; refine (spec_validAddr _ _).mono ?_; rintro e w' ⟨rfl, rfl⟩) | (go_at_call 46; refine (spec_inNet' g.net _ _ (by assumption)).mono ?_; rintro e w1 ⟨rfl, hx⟩; have hc := hx.cells; have hf := hx.frozens; have hy := hx.size; (try simp at hy); have hz : w.heap.size < w1.heap.size := (by omega)) | (go_at_call 98; refine (spec_validTable _ _ _ g.table _ (by exact ht.ext (by repeat (first | (with_reducible exact Ext.refl _) | (with_reducible assumption) | (with_reducible refine Ext.alloc ?_ _) | (with_reducible refine Ext.drewN ?_ _) | (with_reducible refine Ext.drew ?_) | (with_reducible refine Ext.setCell ?_ ?_ _; rotate_left; (simp only []; omega)) | (with_reducible refine Ext.trans ?_ (by assumption)))))).mono ?_; rintro e w1 ⟨rfl, hx⟩; have hc := hx.cells; have hf := hx.frozens; have hy := hx.size; (try simp at hy); have hz : w.heap.size < w1.heap.size := (by omega)) | (go_at_call 99; refine (spec_validContacts _ _ _ g.cons _ (by exact hk.ext (by repeat (first | (with_reducible exact Ext.refl _) | (with_reducible assumption) | (with_reducible refine Ext.alloc ?_ _) | (with_reducible refine Ext.drewN ?_ _) | (with_reducible refine Ext.drew ?_) | (with_reducible refine Ext.setCell ?_ ?_ _; rotate_left; (simp only []; omega)) | (with_reducible refine Ext.trans ?_ (by assumption)))))).mono ?_; rintro e w1 ⟨rfl, hx⟩; have hc := hx.cells; have hf := hx.frozens; have hy := hx.size; (try simp at hy); have hz : w.heap.size < w1.heap.size := (by omega)) | (go_at_call 68; refine (spec_inRange _ _ _ _).mono ?_; rintro e w' ⟨rfl, rfl⟩))
    go_ret
    exact ⟨ret_bool (by simp [validGate, timer, *]), (by repeat (first | (with_reducible exact Ext.refl _) | (with_reducible assumption) | (with_reducible refine Ext.alloc ?_ _) | (with_reducible refine Ext.drewN ?_ _) | (with_reducible refine Ext.drew ?_) | (with_reducible refine Ext.setCell ?_ ?_ _; rotate_left; (simp only []; omega)) | (with_reducible refine Ext.trans ?_ (by assumption))))⟩
  | true =>
  cases h7 : inR g.hold 1 500 with
  | false =>
    go_enter Try.func42, Try.ntmps42
    go_wp2_with (first | (go_at_call 96; refine (spec_validNet' g.net _).mono ?_; rintro e w1 ⟨rfl, hx⟩; have hc := hx.cells; have hf := hx.frozens; have hy := hx.size; (try simp at hy); have hz : w.heap.size < w1.heap.size := (by omega)) | (go_at_call 97; refine (spec_validAddr _ _).mono ?_; rintro e w' ⟨rfl, rfl⟩) | (go_at_call 46; refine (spec_inNet' g.net _ _ (by assumption)).mono ?_; rintro e w1 ⟨rfl, hx⟩; have hc := hx.cells; have hf := hx.frozens; have hy := hx.size; (try simp at hy); have hz : w.heap.size < w1.heap.size := (by omega)) | (go_at_call 98; refine (spec_validTable _ _ _ g.table _ (by exact ht.ext (by repeat (first | (with_reducible exact Ext.refl _) | (with_reducible assumption) | (with_reducible refine Ext.alloc ?_ _) | (with_reducible refine Ext.drewN ?_ _) | (with_reducible refine Ext.drew ?_) | (with_reducible refine Ext.setCell ?_ ?_ _; rotate_left; (simp only []; omega)) | (with_reducible refine Ext.trans ?_ (by assumption)))))).mono ?_; rintro e w1 ⟨rfl, hx⟩; have hc := hx.cells; have hf := hx.frozens; have hy := hx.size; (try simp at hy); have hz : w.heap.size < w1.heap.size := (by omega)) | (go_at_call 99; refine (spec_validContacts _ _ _ g.cons _ (by exact hk.ext (by repeat (first | (with_reducible exact Ext.refl _) | (with_reducible assumption) | (with_reducible refine Ext.alloc ?_ _) | (with_reducible refine Ext.drewN ?_ _) | (with_reducible refine Ext.drew ?_) | (with_reducible refine Ext.setCell ?_ ?_ _; rotate_left; (simp only []; omega)) | (with_reducible refine Ext.trans ?_ (by assumption)))))).mono ?_; rintro e w1 ⟨rfl, hx⟩; have hc := hx.cells; have hf := hx.frozens; have hy := hx.size; (try simp at hy); have hz : w.heap.size < w1.heap.size := (by omega)) | (go_at_call 68; refine (spec_inRange _ _ _ _).mono ?_; rintro e w' ⟨rfl, rfl⟩))
    go_ret
    exact ⟨ret_bool (by simp [validGate, timer, *]), (by repeat (first | (with_reducible exact Ext.refl _) | (with_reducible assumption) | (with_reducible refine Ext.alloc ?_ _) | (with_reducible refine Ext.drewN ?_ _) | (with_reducible refine Ext.drew ?_) | (with_reducible refine Ext.setCell ?_ ?_ _; rotate_left; (simp only []; omega)) | (with_reducible refine Ext.trans ?_ (by assumption))))⟩
  | true =>
  cases h8 : inR g.now 0 10000 with
  | false =>
    go_enter Try.func42, Try.ntmps42
    go_wp2_with (first | (go_at_call 96; refine (spec_validNet' g.net _).mono ?_; rintro e w1 ⟨rfl, hx⟩; have hc := hx.cells; have hf := hx.frozens; have hy := hx.size; (try simp at hy); have hz : w.heap.size < w1.heap.size := (by omega)) | (go_at_call 97; refine (spec_validAddr _ _).mono ?_; rintro e w' ⟨rfl, rfl⟩) | (go_at_call 46; refine (spec_inNet' g.net _ _ (by assumption)).mono ?_; rintro e w1 ⟨rfl, hx⟩; have hc := hx.cells; have hf := hx.frozens; have hy := hx.size; (try simp at hy); have hz : w.heap.size < w1.heap.size := (by omega)) | (go_at_call 98; refine (spec_validTable _ _ _ g.table _ (by exact ht.ext (by repeat (first | (with_reducible exact Ext.refl _) | (with_reducible assumption) | (with_reducible refine Ext.alloc ?_ _) | (with_reducible refine Ext.drewN ?_ _) | (with_reducible refine Ext.drew ?_) | (with_reducible refine Ext.setCell ?_ ?_ _; rotate_left; (simp only []; omega)) | (with_reducible refine Ext.trans ?_ (by assumption)))))).mono ?_; rintro e w1 ⟨rfl, hx⟩; have hc := hx.cells; have hf := hx.frozens; have hy := hx.size; (try simp at hy); have hz : w.heap.size < w1.heap.size := (by omega)) | (go_at_call 99; refine (spec_validContacts _ _ _ g.cons _ (by exact hk.ext (by repeat (first | (with_reducible exact Ext.refl _) | (with_reducible assumption) | (with_reducible refine Ext.alloc ?_ _) | (with_reducible refine Ext.drewN ?_ _) | (with_reducible refine Ext.drew ?_) | (with_reducible refine Ext.setCell ?_ ?_ _; rotate_left; (simp only []; omega)) | (with_reducible refine Ext.trans ?_ (by assumption)))))).mono ?_; rintro e w1 ⟨rfl, hx⟩; have hc := hx.cells; have hf := hx.frozens; have hy := hx.size; (try simp at hy); have hz : w.heap.size < w1.heap.size := (by omega)) | (go_at_call 68; refine (spec_inRange _ _ _ _).mono ?_; rintro e w' ⟨rfl, rfl⟩))
    go_ret
    exact ⟨ret_bool (by simp [validGate, timer, *]), (by repeat (first | (with_reducible exact Ext.refl _) | (with_reducible assumption) | (with_reducible refine Ext.alloc ?_ _) | (with_reducible refine Ext.drewN ?_ _) | (with_reducible refine Ext.drew ?_) | (with_reducible refine Ext.setCell ?_ ?_ _; rotate_left; (simp only []; omega)) | (with_reducible refine Ext.trans ?_ (by assumption))))⟩
  | true =>
    obtain ⟨n0, n1⟩ := inR_iff.1 h8
    have hfin := Lib.hid (show validGate g = (g.table.all (okGateMap g) && g.cons.all (okGateCon g)) by
      unfold validGate timer
      simp [h1, h2, h3, h4, h5, h6, h7, h8])
    have hx2 := Lib.hid (fun k (hk : k < tn) => (validTable_iff.1 h4).1 (nth g.table k) (nth_mem (by rw [ht.len]; exact hk)))
    have HI := Lib.hid ht.maps
    have HJ := Lib.hid hk.cons
    have lT := Lib.hid ht.len
    have lK := Lib.hid hk.len
    have HTT := ht
    have hd1 := Lib.hid h1
    go_enter Try.func42, Try.ntmps42
    go_wp2_with (first | (go_at_call 96; refine (spec_validNet' g.net _).mono ?_; rintro e w1 ⟨rfl, hx⟩; have hc := hx.cells; have hf := hx.frozens; have hy := hx.size; (try simp at hy); have hz : w.heap.size < w1.heap.size := (by omega)) | (go_at_call 97; refine (spec_validAddr _ _).mono ?_; rintro e w' ⟨rfl, rfl⟩) | (go_at_call 46; refine (spec_inNet' g.net _ _ hd1.out).mono ?_; rintro e w1 ⟨rfl, hx⟩; have hc := hx.cells; have hf := hx.frozens; have hy := hx.size; (try simp at hy); have hz : w.heap.size < w1.heap.size := (by omega)) | (go_at_call 98; refine (spec_validTable _ _ _ g.table _ (by exact HTT.ext (by repeat (first | (with_reducible exact Ext.refl _) | (with_reducible assumption) | (with_reducible refine Ext.alloc ?_ _) | (with_reducible refine Ext.drewN ?_ _) | (with_reducible refine Ext.drew ?_) | (with_reducible refine Ext.setCell ?_ ?_ _; rotate_left; (simp only []; omega)) | (with_reducible refine Ext.trans ?_ (by assumption)))))).mono ?_; rintro e w1 ⟨rfl, hx⟩; have hc := hx.cells; have hf := hx.frozens; have hy := hx.size; (try simp at hy); have hz : w.heap.size < w1.heap.size := (by omega)))
    refine (spec_validContacts ka kn kc g.cons _ (by exact hk.ext (by repeat (first | (with_reducible exact Ext.refl _) | (with_reducible assumption) | (with_reducible refine Ext.alloc ?_ _) | (with_reducible refine Ext.drewN ?_ _) | (with_reducible refine Ext.drew ?_) | (with_reducible refine Ext.setCell ?_ ?_ _; rotate_left; (simp only []; omega)) | (with_reducible refine Ext.trans ?_ (by assumption)))))).mono ?_
    rintro e w5 ⟨rfl, hx5⟩
    have hX5 : Ext (w.alloc (.cells #[.int .i64 g.net.base, .int .i64 g.net.bits, .int .i64 g.out, .slice ta tn tc, .slice ka kn kc, .int .i64 g.filter, .int .i64 g.hold, .int .i64 g.now] 40)) w5 := (by repeat (first | (with_reducible exact Ext.refl _) | (with_reducible assumption) | (with_reducible refine Ext.alloc ?_ _) | (with_reducible refine Ext.drewN ?_ _) | (with_reducible refine Ext.drew ?_) | (with_reducible refine Ext.setCell ?_ ?_ _; rotate_left; (simp only []; omega)) | (with_reducible refine Ext.trans ?_ (by assumption))))
    have hB5 : Blk w5 w.heap.size 40 #[.int .i64 g.net.base, .int .i64 g.net.bits, .int .i64 g.out, .slice ta tn tc, .slice ka kn kc, .int .i64 g.filter, .int .i64 g.hold, .int .i64 g.now] := (Blk.new w _ _).ext hX5
    replace hX5 : Ext w w5 := Ext.trans ((Ext.refl w).alloc _) hX5
    have hcB := hB5.cells
    have hzB := hB5.lt
    clear hc hx hy hz hf hx5
    go_wp2_with (go_at_call 68; refine (spec_inRange _ _ _ _).mono ?_; rintro e w' ⟨rfl, rfl⟩)
    clear hcB hzB h2 h3 h4 h5 h6 h7 h8
    go_loopw [3] (fun i wr => ∃ k : Nat, k ≤ tn ∧ i = .int .i64 k ∧ (∀ j, j < k → okGateMap g (nth g.table j) = true) ∧ Blk wr w.heap.size 40 #[.int .i64 g.net.base, .int .i64 g.net.bits, .int .i64 g.out, .slice ta tn tc, .slice ka kn kc, .int .i64 g.filter, .int .i64 g.hold, .int .i64 g.now] ∧ Ext w wr) (fun i _ => tn - (intOf i).toNat)
    case atStart => exact ⟨0, Nat.zero_le _, rfl, by omega, hB5, hX5⟩
    case round =>
      obtain ⟨k, hkt, rfl, hall, hB, hX⟩ := hrel
      have HA := Lib.hid hall
      have hcB := hB.cells
      have hzB := hB.lt
      clear hall hB5 hX5
      by_cases hlt : k < tn
      · obtain ⟨_, b, off, rfl, hb, hc⟩ := (HI.out).resolve_left (by omega)
        obtain ⟨d0, d1, d2, d3⟩ := hc k hlt
        rw [← hX.cells _ _ hb] at d0 d1 d2 d3
        have hbr : b < wr.heap.size := by have := hX.size; omega
        have hkk := hx2.out k hlt
        simp only [okMap, Bool.and_eq_true, inR_iff] at hkk
        obtain ⟨_, l0, l1⟩ := hkk
        obtain ⟨B1, hB1⟩ : ∃ B1, decide (g.now < (nth g.table k).last) = B1 := ⟨_, rfl⟩
        have hok := Lib.hid (show okGateMap g (nth g.table k) = (has g.net (nth g.table k).ins.addr && !B1 && !expired (nth g.table k) g.now g.hold) by
          unfold okGateMap
          rw [← hB1]
          congr 2
          rw [Bool.eq_iff_iff]
          simp)
        clear hc
        go_wp2_with fail
        refine wp_region_ext (by kernel_rfl) (by kernel_rfl) ?_
        repeat' (first
          | (refine ChL.skip (by rfl) ?_
             (try simp only [Act.put, List.setIfInBounds_toArray, List.set_cons_zero, List.set_cons_succ]))
          | (refine' ChL.val (v := _) (by rfl) ?_ ?_
             rotate_left
             · (intro wS hS
                have hcS := Ext.cells hS
                go_simp
                with_reducible rfl)
             (try simp only [Act.put, List.setIfInBounds_toArray, List.set_cons_zero, List.set_cons_succ]))
          | (refine' ChL.call (v := _) (f := _) (args := _) (by rfl) ?_ ?_ ?_
             rotate_left 3
             · (intro wS
                go_simp
                (constructor <;> rfl))
             · (intro wS hS
                first | (go_at_call 46; refine (spec_inNet' g.net _ _ hd1.out).mono ?_; rintro e w1 ⟨rfl, hx⟩; refine ⟨?_, Ext.trans hS hx⟩; rfl) | (go_at_call 100; refine (spec_expired (nth g.table k) _ _ _ l0 l1 n0 n1).mono ?_; rintro e w1 ⟨rfl, hx⟩; refine ⟨?_, Ext.trans hS hx⟩; rfl))
             (try simp only [Act.put, List.setIfInBounds_toArray, List.set_cons_zero, List.set_cons_succ]))
          | (refine ChL.nil ?_)
          | (refine' ChL.guard (x := _) ?_ ?_ ?_
             rotate_left
             · (go_simp
                rfl)
             all_goals
               intro hg
               simp only [hg])
          | (refine' ChL.guardN (x := _) ?_ ?_ ?_
             rotate_left
             · (go_simp
                rfl)
             all_goals
               intro hg
               simp only [hg]))
        all_goals
          intro w' hw'
          have HX : Ext w w' := hX.trans hw'
          have HB := hB.ext hw'
          clear hX hw' hB hcB hzB d0 d1 d2 d3
          go_wp2
        all_goals first
          | (go_ret
             exact ⟨ret_bool (by
               have hno : okGateMap g (nth g.table k) = false := by rw [hok.out]; simp [*]
               rw [hfin.out]
               have : g.table.all (okGateMap g) = false := by
                 rw [List.all_eq_false]
                 exact ⟨_, nth_mem (by rw [lT.out]; exact hlt), by simp [hno]⟩
               rw [this]; rfl), HX⟩)
          | (go_roundw
             case rel =>
               exact ⟨k + 1, hlt, by go_num, fun j hj => by
                 rcases Nat.lt_or_ge j k with h | h
                 · exact HA.out j h
                 · have e : j = k := by omega
                   rw [e, hok.out]; simp [*], HB, HX⟩
             case measure => simp [intOf]; omega)
      · have e : k = tn := by omega
        have hall1 := Lib.hid (show g.table.all (okGateMap g) = true by
          rw [List.all_eq_true]
          intro x hx
          obtain ⟨j, hj, rfl⟩ := List.mem_iff_getElem.1 hx
          have h1 := HA.out j (by rw [e, ← lT.out]; exact hj)
          rwa [nth_of (List.getElem?_eq_getElem hj)] at h1)
        have HX0 := Lib.hid hX
        clear hX
        subst e
        go_wp2
        clear hcB hzB
        go_loopw [4] (fun i wr => ∃ k2 : Nat, k2 ≤ kn ∧ i = .int .i64 k2 ∧ (∀ j, j < k2 → okGateCon g (nth g.cons j) = true) ∧ Blk wr w.heap.size 40 #[.int .i64 g.net.base, .int .i64 g.net.bits, .int .i64 g.out, .slice ta k tc, .slice ka kn kc, .int .i64 g.filter, .int .i64 g.hold, .int .i64 g.now] ∧ Ext w wr) (fun i _ => kn - (intOf i).toNat)
        case atStart => exact ⟨0, Nat.zero_le _, rfl, by omega, hB, HX0.out⟩
        case round =>
          obtain ⟨j, hjk, rfl, hall2, hB2, hX2⟩ := hrel
          have HA2 := Lib.hid hall2
          have hcB := hB2.cells
          have hzB := hB2.lt
          clear hall2 hB HA
          by_cases hlt2 : j < kn
          · obtain ⟨_, b, off, rfl, hb, hc⟩ := (HJ.out).resolve_left (by omega)
            obtain ⟨d0, d1, d2⟩ := hc j hlt2
            rw [← hX2.cells _ _ hb] at d0 d1 d2
            have hbr : b < wr.heap.size := by have := hX2.size; omega
            obtain ⟨B1, hB1⟩ : ∃ B1, decide (byPort g.table (nth g.cons j).port < 0) = B1 := ⟨_, rfl⟩
            have hok := Lib.hid (show okGateCon g (nth g.cons j) = !B1 by
              unfold okGateCon
              rw [← hB1, Bool.eq_iff_iff]
              simp)
            have hST := HTT.ext hX2
            clear hc
            go_wp2_with fail
            refine wp_region_ext (by kernel_rfl) (by kernel_rfl) ?_
            repeat' (first
              | (refine ChL.skip (by rfl) ?_
                 (try simp only [Act.put, List.setIfInBounds_toArray, List.set_cons_zero, List.set_cons_succ]))
              | (refine' ChL.val (v := _) (by rfl) ?_ ?_
                 rotate_left
                 · (intro wS hS
                    have hcS := Ext.cells hS
                    go_simp
                    with_reducible rfl)
                 (try simp only [Act.put, List.setIfInBounds_toArray, List.set_cons_zero, List.set_cons_succ]))
              | (refine' ChL.call (v := _) (f := _) (args := _) (by rfl) ?_ ?_ ?_
                 rotate_left 3
                 · (intro wS
                    go_simp
                    (constructor <;> rfl))
                 · (intro wS hS
                    first | (go_at_call 90; refine (spec_byPort _ ta _ tc g.table _ (by exact hST.ext hS)).mono ?_; rintro e w1 ⟨rfl, hx⟩; subst hx; refine ⟨?_, hS⟩; rfl))
                 (try simp only [Act.put, List.setIfInBounds_toArray, List.set_cons_zero, List.set_cons_succ]))
              | (refine ChL.nil ?_)
              | (refine' ChL.guard (x := _) ?_ ?_ ?_
                 rotate_left
                 · (go_simp
                    rfl)
                 all_goals
                   intro hg
                   simp only [hg])
              | (refine' ChL.guardN (x := _) ?_ ?_ ?_
                 rotate_left
                 · (go_simp
                    rfl)
                 all_goals
                   intro hg
                   simp only [hg]))
            all_goals
              intro w' hw'
              have HX : Ext w w' := hX2.trans hw'
              have HB := hB2.ext hw'
              clear hX2 hw' hB2 hcB hzB d0 d1 d2 hST
              go_wp2
            all_goals first
              | (go_ret
                 exact ⟨ret_bool (by
                   have hno : okGateCon g (nth g.cons j) = false := by rw [hok.out]; simp [*]
                   rw [hfin.out]
                   have : g.cons.all (okGateCon g) = false := by
                     rw [List.all_eq_false]
                     exact ⟨_, nth_mem (by rw [lK.out]; exact hlt2), by simp [hno]⟩
                   rw [this, Bool.and_false]), HX⟩)
              | (go_roundw
                 case rel =>
                   exact ⟨j + 1, hlt2, by go_num, fun i hi => by
                     rcases Nat.lt_or_ge i j with h | h
                     · exact HA2.out i h
                     · have e : i = j := by omega
                       rw [e, hok.out]; simp [*], HB, HX⟩
                 case measure => simp [intOf]; omega)
          · have e : j = kn := by omega
            have hall3 := Lib.hid (show g.cons.all (okGateCon g) = true by
              rw [List.all_eq_true]
              intro x hx
              obtain ⟨i, hi, rfl⟩ := List.mem_iff_getElem.1 hx
              have h1 := HA2.out i (by rw [e, ← lK.out]; exact hi)
              rwa [nth_of (List.getElem?_eq_getElem hi)] at h1)
            have HX2 := Lib.hid hX2
            clear hX2
            subst e
            go_wp2
            go_ret
            exact ⟨ret_bool (by rw [hfin.out, hall1.out, hall3.out]; rfl), HX2.out⟩
end Go.Proofs.Ytafmomocmodbhaa
/- Contracts of the exact laws' own helpers on lists of integers: size, copy, comparison, marking, finding the marks. -/
namespace Go.Proofs.Ytafmomocmodbhaa
set_option linter.unusedVariables false
set_option linter.unusedSimpArgs false
open Go.RowKit

/-- The numbers from k on, n of them. -/
def marks (k : Int) : Nat → List Int
  | 0 => []
  | n + 1 => k :: marks (k + 1) n
theorem marks_len : ∀ (n : Nat) (k : Int), (marks k n).length = n
  | 0, _ => rfl
  | n + 1, k => by rw [marks, List.length_cons, marks_len]
theorem marks_at : ∀ (n i : Nat) (k : Int), i < n → (marks k n)[i]? = some (k + i)
  | 0, i, k, h => by omega
  | n + 1, 0, k, _ => by simp [marks]
  | n + 1, i + 1, k, h => by
    rw [marks, List.getElem?_cons_succ, marks_at n i (k + 1) (by omega)]
    congr 1
    omega
theorem marks_nth {k : Int} {n i : Nat} (h : i < n) : nth (marks k n) i = k + i := nth_of (marks_at n i k h)
theorem set_take {α : Type} {l : List α} {k : Nat} {x : α} (h : k < l.length) : (l.set k x).take (k + 1) = l.take k ++ [x] := by
  rw [List.take_add_one, List.getElem?_set_self h, List.take_set_of_le (Nat.le_refl k)]
  rfl
theorem fill_one {cur : Array Value} {n k : Nat} {M : List Int} (h1 : cur.size = n) (hk : k < n) (hM : M.length = n) (h2 : cur.toList.take k = (M.take k).flatMap encI) :
    (cur.setIfInBounds k (.int .i64 (nth M k))).size = n ∧ (cur.setIfInBounds k (.int .i64 (nth M k))).toList.take (k + 1) = (M.take (k + 1)).flatMap encI := by
  refine ⟨by simpa using h1, ?_⟩
  rw [Array.toList_setIfInBounds, set_take (by simpa [h1] using hk), h2, take_succ (by omega)]
  simp [encI]
/-- Making a row of n integers. -/
theorem make_ints (n : Nat) (hn : n ≤ 1048576) : ∃ Z : Array Value, Z.size = n ∧ ∀ W : World, (Instr.makeSlice 30 (.int .i64 (n : Int)) (.int .i64 (n : Int))).run Try.prog W = .ok (.slice (some ⟨W.heap.size, 0, none⟩) n n) (W.alloc (.cells Z 3)) := by
  obtain ⟨ht, i, z, hi, hz, hsz, hby, hzs, _⟩ := eiI
  refine ⟨madeCells z.cells (n * i.size), ?_, fun W => ?_⟩
  · simp [hsz, size_madeCells]
  · have := run_makeSlice (P := Try.prog) W 30 3 i z ht hi hz .i64 .i64 (n : Int) (n : Int) (by omega) (by omega) (by rw [hsz]; simp; omega) (by rw [hby]; omega) (by omega)
    simpa using this
theorem szIntS_any (a : Option Addr) (n c : Nat) (left : Int) (w : World) (h0 : 0 ≤ left) (h1 : left ≤ 1048576) (hn : (n : Int) ≤ 9223372036854775807) :
    Calls Try.prog 41 #[.slice a n c, .int .i64 left] w fun e w' => e = .returned (.int .i64 (if (n : Int) ≤ left then left - n else -1)) ∧ w = w' := by
  by_cases h : (n : Int) ≤ left
  · rw [if_pos h]
    go_enter Try.func41, Try.ntmps41
    go_wp2
    go_ret
    exact ⟨rfl, rfl⟩
  · rw [if_neg h]
    go_enter Try.func41, Try.ntmps41
    go_wp2
    go_ret
    exact ⟨rfl, rfl⟩
theorem toIntS_any (a : Option Addr) (n c : Nat) (L : List Int) (w : World) (hs : Sl encI 1 w a n c L) (hn : n ≤ 1048576) :
    Calls Try.prog 51 #[.slice a n c] w fun e w' => ∃ a', e = .returned (.slice a' n n) ∧ Ow 3 encI 1 w.heap.size w' a' n n L ∧ Ext w w' := by
  have hle := hs.le
  have hmax := hs.max
  have hlen := hs.len
  obtain ⟨Z, hZ, hmk⟩ := make_ints n hn
  have fin : ∀ (wr : World) (cur : Array Value), Blk wr w.heap.size 3 cur → cur.size = n → cur.toList.take n = (L.take n).flatMap encI → Ow 3 encI 1 w.heap.size wr (some ⟨w.heap.size, 0, none⟩) n n L := by
    intro wr cur h1 h2 h3
    rw [List.take_of_length_le (by simp; omega), List.take_of_length_le (by omega)] at h3
    exact ⟨hlen, .inr ⟨w.heap.size, cur, rfl, Nat.le_refl _, h1, Nat.le_refl _, by omega, by omega, by rw [Nat.mul_one, List.take_of_length_le (by simp; omega)]; exact h3⟩⟩
  have FIN := Lib.hid fin
  have HL := Lib.hid hlen
  have HZ := Lib.hid hZ
  have HI := Lib.hid hs.ints
  clear fin hlen hs hZ
  go_enter Try.func51, Try.ntmps51
  go_wp2
  go_loopw [4] (fun i wr => ∃ (k : Nat) (cur : Array Value), k ≤ n ∧ i = .int .i64 k ∧ Blk wr w.heap.size 3 cur ∧ cur.size = n ∧ cur.toList.take k = (L.take k).flatMap encI ∧ Ext w wr) (fun i _ => n - (intOf i).toNat)
  case atStart => exact ⟨0, Z, Nat.zero_le _, rfl, Blk.new _ _ _, HZ.out, by simp, (by repeat (first | (with_reducible exact Ext.refl _) | (with_reducible assumption) | (with_reducible refine Ext.alloc ?_ _) | (with_reducible refine Ext.drewN ?_ _) | (with_reducible refine Ext.drew ?_) | (with_reducible refine Ext.setCell ?_ ?_ _; rotate_left; (simp only []; omega)) | (with_reducible refine Ext.trans ?_ (by assumption))))⟩
  case round =>
    obtain ⟨k, cur, hk, rfl, hB, hcz, hct, hX⟩ := hrel
    by_cases hlt : k < n
    · obtain ⟨_, b, off, rfl, hb, hc⟩ := (HI.out).resolve_left (by omega)
      have c1 : wr.cell? ⟨b, off + k, none⟩ = some (.int .i64 (nth L k)) := (hX.cells _ _ hb).trans (hc k hlt)
      obtain ⟨v, c2⟩ : ∃ v, wr.cell? ⟨w.heap.size, k, none⟩ = some v := ⟨_, by rw [hB.cells k]; exact Array.getElem?_eq_getElem (by omega)⟩
      have c3 : wr.frozen? ⟨w.heap.size, k, none⟩ = false := hB.frozens k
      have st := fill_one hcz hlt HL.out hct
      have ST := Lib.hid st
      have HZ2 := Lib.hid hcz
      have HT := Lib.hid hct
      clear st hc hmk hcz hct
      go_wp2
      go_roundw
      case rel => exact ⟨k + 1, _, by omega, by go_num, hB.set k _, ST.out.1, ST.out.2, (by repeat (first | (with_reducible exact Ext.refl _) | (with_reducible assumption) | (with_reducible refine Ext.alloc ?_ _) | (with_reducible refine Ext.drewN ?_ _) | (with_reducible refine Ext.drew ?_) | (with_reducible refine Ext.setCell ?_ ?_ _; rotate_left; (simp only []; omega)) | (with_reducible refine Ext.trans ?_ (by assumption))))⟩
      case measure => simp [intOf]; omega
    · have e : k = n := by omega
      subst e
      have HF := Lib.hid (FIN.out wr cur hB hcz hct)
      clear hcz hct hmk
      go_wp2
      go_ret
      exact ⟨_, rfl, HF.out, hX⟩
theorem eqIntS_same (a a' : Option Addr) (n c c' : Nat) (L : List Int) (w : World) (hs : Sl encI 1 w a n c L) (hs' : Sl encI 1 w a' n c' L) :
    Calls Try.prog 59 #[.slice a n c, .slice a' n c'] w fun e w' => e = .returned (.bool true) ∧ Ext w w' := by
  have hle := hs.le
  have hmax := hs.max
  rcases hs.ints with ⟨h0, _⟩ | ⟨h0, b, off, ha, hb, hc⟩
  · subst h0
    clear hs hs'
    go_enter Try.func59, Try.ntmps59
    go_wp2
    go_loop [5] (fun i => i = .int .i64 0) (fun _ => 0)
    case atStart => rfl
    case round =>
      subst hrel
      go_wp2
      go_ret
      exact ⟨rfl, Ext.refl _⟩
  · obtain ⟨_, b', off', ha', hb', hc'⟩ := (hs'.ints).resolve_left (by omega)
    subst ha
    subst ha'
    clear hs hs'
    go_enter Try.func59, Try.ntmps59
    go_wp2
    go_loopw [5] (fun i wr => ∃ k : Nat, k ≤ n ∧ i = .int .i64 k ∧ Ext w wr) (fun i _ => n - (intOf i).toNat)
    case atStart => exact ⟨0, Nat.zero_le _, rfl, Ext.refl _⟩
    case round =>
      obtain ⟨k, hk, rfl, hX⟩ := hrel
      have hcX := hX.cells
      by_cases hlt : k < n
      · have c1 : wr.cell? ⟨b, off + k, none⟩ = some (.int .i64 (nth L k)) := (hcX _ _ hb).trans (hc k hlt)
        have c2 : wr.cell? ⟨b', off' + k, none⟩ = some (.int .i64 (nth L k)) := (hcX _ _ hb').trans (hc' k hlt)
        clear hcX hc hc'
        go_wp2
        go_region
        go_wp2
        go_roundw
        case rel => exact ⟨k + 1, hlt, by go_num, (by repeat (first | (with_reducible exact Ext.refl _) | (with_reducible assumption) | (with_reducible refine Ext.alloc ?_ _) | (with_reducible refine Ext.drewN ?_ _) | (with_reducible refine Ext.drew ?_) | (with_reducible refine Ext.setCell ?_ ?_ _; rotate_left; (simp only []; omega)) | (with_reducible refine Ext.trans ?_ (by assumption))))⟩
        case measure => simp [intOf]; omega
      · clear hcX hc hc'
        go_wp2
        go_ret
        exact ⟨rfl, hX⟩
end Go.Proofs.Ytafmomocmodbhaa
/- Contracts of the exact laws' own helpers on ends, packets, reports: size, copy, comparison, marking, finding the marks. -/
namespace Go.Proofs.Ytafmomocmodbhaa
set_option linter.unusedVariables false
set_option linter.unusedSimpArgs false
open Go.RowKit

theorem grown_ext {a b : World} {r : Option Nat} (h : Ext a b) : a.grownBy b r := ⟨World.grownBy.os h, World.grownBy.tape h, World.grownBy.output h, h.size, fun i hi _ => h.block i hi⟩
theorem Ow.setC {α : Type} {E : TypeId} {enc : α → List Value} {k base : Nat} {w : World} {a : Option Addr} {n c : Nat} {L : List α} (h : Ow E enc k base w a n c L) {p : Addr} (hp : ∀ x, a = some x → x.block ≠ p.block) (u : Value) :
    Ow E enc k base (w.setCell p u) a n c L := h.keep fun x e _ => Below.heap_setCell w p u x.block (hp x e)
theorem Ow.setBelow {α : Type} {E : TypeId} {enc : α → List Value} {k base : Nat} {w : World} {a : Option Addr} {n c : Nat} {L : List α} (h : Ow E enc k base w a n c L) {p : Addr} (hp : p.block < base) (u : Value) :
    Ow E enc k base (w.setCell p u) a n c L := h.setC (fun x e => by have := (h.lt x e).1; omega) u
theorem toEnd_any (x y : Int) (w : World) : Calls Try.prog 50 #[.agg #[.int .i64 x, .int .i64 y]] w fun e w' => e = .returned (.agg #[.int .i64 x, .int .i64 y]) ∧ Ext w w' := by
  go_enter Try.func50, Try.ntmps50
  go_wp2
  refine' bodyPost_ret (v := _) ?_ rfl ?_
  rotate_left
  · (simp only [results, Try.results50]
     go_simp
     rfl)
  exact ⟨rfl, (by repeat (first | (with_reducible exact Ext.refl _) | (with_reducible assumption) | (with_reducible refine Ext.alloc ?_ _) | (with_reducible refine Ext.drewN ?_ _) | (with_reducible refine Ext.drew ?_) | (with_reducible refine Ext.setCell ?_ ?_ _; rotate_left; (simp only []; omega)) | (with_reducible refine Ext.trans ?_ (by assumption))))⟩
theorem eqEnd_same (x y : Int) (w : World) : Calls Try.prog 58 #[.agg #[.int .i64 x, .int .i64 y], .agg #[.int .i64 x, .int .i64 y]] w fun e w' => e = .returned (.bool true) ∧ Ext w w' := by
  go_enter Try.func58, Try.ntmps58
  go_wp2
  go_ret
  exact ⟨rfl, (by repeat (first | (with_reducible exact Ext.refl _) | (with_reducible assumption) | (with_reducible refine Ext.alloc ?_ _) | (with_reducible refine Ext.drewN ?_ _) | (with_reducible refine Ext.drew ?_) | (with_reducible refine Ext.setCell ?_ ?_ _; rotate_left; (simp only []; omega)) | (with_reducible refine Ext.trans ?_ (by assumption))))⟩
theorem szPacket_any (k fa fp ta tp : Int) (a : Option Addr) (n c : Nat) (left : Int) (w : World) (h0 : 0 ≤ left) (h1 : left ≤ 1048576) (hn : (n : Int) ≤ 9223372036854775807) :
    Calls Try.prog 13 #[.agg #[.int .i64 k, .int .i64 fa, .int .i64 fp, .int .i64 ta, .int .i64 tp, .slice a n c], .int .i64 left] w fun e w' => e = .returned (.int .i64 (if (n : Int) ≤ left then left - n else -1)) ∧ Ext w w' := by
  by_cases h : (n : Int) ≤ left
  · have c1 := szIntS_any a n c left
    rw [if_pos h] at c1 ⊢
    go_enter Try.func13, Try.ntmps13
    go_wp2_with (go_at_call 41; refine (c1 _ h0 h1 hn).mono ?_; rintro e w' ⟨rfl, rfl⟩)
    go_ret
    exact ⟨rfl, (by repeat (first | (with_reducible exact Ext.refl _) | (with_reducible assumption) | (with_reducible refine Ext.alloc ?_ _) | (with_reducible refine Ext.drewN ?_ _) | (with_reducible refine Ext.drew ?_) | (with_reducible refine Ext.setCell ?_ ?_ _; rotate_left; (simp only []; omega)) | (with_reducible refine Ext.trans ?_ (by assumption))))⟩
  · have c1 := szIntS_any a n c left
    rw [if_neg h] at c1 ⊢
    go_enter Try.func13, Try.ntmps13
    go_wp2_with (go_at_call 41; refine (c1 _ h0 h1 hn).mono ?_; rintro e w' ⟨rfl, rfl⟩)
    go_ret
    exact ⟨rfl, (by repeat (first | (with_reducible exact Ext.refl _) | (with_reducible assumption) | (with_reducible refine Ext.alloc ?_ _) | (with_reducible refine Ext.drewN ?_ _) | (with_reducible refine Ext.drew ?_) | (with_reducible refine Ext.setCell ?_ ?_ _; rotate_left; (simp only []; omega)) | (with_reducible refine Ext.trans ?_ (by assumption))))⟩
set_option maxHeartbeats 1000000 in
theorem toPacket_any (k fa fp ta tp : Int) (a : Option Addr) (n c : Nat) (L : List Int) (w : World) (hs : Sl encI 1 w a n c L) (hn : n ≤ 1048576) :
    Calls Try.prog 16 #[.agg #[.int .i64 k, .int .i64 fa, .int .i64 fp, .int .i64 ta, .int .i64 tp, .slice a n c]] w fun e w' => ∃ a', e = .returned (.agg #[.int .i64 k, .int .i64 fa, .int .i64 fp, .int .i64 ta, .int .i64 tp, .slice a' n n]) ∧
      Ow 3 encI 1 w.heap.size w' a' n n L ∧ Ext w w' := by
  go_enter Try.func16, Try.ntmps16
  go_wp2_with fail
  refine (toEnd_any _ _ _).mono ?_
  rintro e w1 ⟨rfl, hx1⟩
  have hc1 := hx1.cells
  have hf1 := hx1.frozens
  have hy1 := hx1.size
  (try simp at hy1)
  have hz1 : w.heap.size < w1.heap.size ∧ w.heap.size + 1 < w1.heap.size ∧ w.heap.size + 2 < w1.heap.size := (by omega)
  go_wp2_with fail
  refine (toEnd_any _ _ _).mono ?_
  rintro e w2 ⟨rfl, hx2⟩
  have hc2 := hx2.cells
  have hf2 := hx2.frozens
  have hy2 := hx2.size
  (try simp at hy2)
  have hz2 : w.heap.size < w2.heap.size ∧ w.heap.size + 1 < w2.heap.size ∧ w.heap.size + 2 < w2.heap.size := (by omega)
  go_wp2_with fail
  refine (toIntS_any a n c L _ (by exact hs.ext (by repeat (first | (with_reducible exact Ext.refl _) | (with_reducible assumption) | (with_reducible refine Ext.alloc ?_ _) | (with_reducible refine Ext.drewN ?_ _) | (with_reducible refine Ext.drew ?_) | (with_reducible refine Ext.setCell ?_ ?_ _; rotate_left; (simp only []; omega)) | (with_reducible refine Ext.trans ?_ (by assumption))))) hn).mono ?_
  rintro e w3 ⟨a', rfl, how, hx3⟩
  have hc3 := hx3.cells
  have hf3 := hx3.frozens
  have hy3 := hx3.size
  (try simp at hy3)
  have hz3 : w.heap.size < w3.heap.size ∧ w.heap.size + 1 < w3.heap.size ∧ w.heap.size + 2 < w3.heap.size := (by omega)
  have HO := Lib.hid how
  clear how
  go_wp2
  refine' bodyPost_ret (v := _) ?_ rfl ?_
  rotate_left
  · (simp only [results, Try.results16]
     go_simp
     rfl)
  refine ⟨a', rfl, ?_, (by repeat (first | (with_reducible exact Ext.refl _) | (with_reducible assumption) | (with_reducible refine Ext.alloc ?_ _) | (with_reducible refine Ext.drewN ?_ _) | (with_reducible refine Ext.drew ?_) | (with_reducible refine Ext.setCell ?_ ?_ _; rotate_left; (simp only []; omega)) | (with_reducible refine Ext.trans ?_ (by assumption))))⟩
  refine Ow.rebase (base := w2.heap.size) ?_ (by omega)
  repeat (refine Ow.setBelow ?_ (by simp only []; omega) _)
  simpa using HO.out
set_option maxHeartbeats 1000000 in
theorem eqPacket_same (k fa fp ta tp : Int) (a a' : Option Addr) (n c c' : Nat) (L : List Int) (w : World) (hs : Sl encI 1 w a n c L) (hs' : Sl encI 1 w a' n c' L) :
    Calls Try.prog 19 #[.agg #[.int .i64 k, .int .i64 fa, .int .i64 fp, .int .i64 ta, .int .i64 tp, .slice a n c], .agg #[.int .i64 k, .int .i64 fa, .int .i64 fp, .int .i64 ta, .int .i64 tp, .slice a' n c']] w fun e w' => e = .returned (.bool true) ∧ Ext w w' := by
  go_enter Try.func19, Try.ntmps19
  go_wp2_with (first | (go_at_call 58; refine (eqEnd_same _ _ _).mono ?_; rintro e w1 ⟨rfl, hx⟩; have hc := hx.cells; have hf := hx.frozens; have hy := hx.size; (try simp at hy); have hz : w.heap.size < w1.heap.size ∧ w.heap.size + 1 < w1.heap.size := (by omega)) | (go_at_call 59; refine (eqIntS_same _ _ n c c' L _ (by exact hs.ext (by repeat (first | (with_reducible exact Ext.refl _) | (with_reducible assumption) | (with_reducible refine Ext.alloc ?_ _) | (with_reducible refine Ext.drewN ?_ _) | (with_reducible refine Ext.drew ?_) | (with_reducible refine Ext.setCell ?_ ?_ _; rotate_left; (simp only []; omega)) | (with_reducible refine Ext.trans ?_ (by assumption))))) (by exact hs'.ext (by repeat (first | (with_reducible exact Ext.refl _) | (with_reducible assumption) | (with_reducible refine Ext.alloc ?_ _) | (with_reducible refine Ext.drewN ?_ _) | (with_reducible refine Ext.drew ?_) | (with_reducible refine Ext.setCell ?_ ?_ _; rotate_left; (simp only []; omega)) | (with_reducible refine Ext.trans ?_ (by assumption)))))).mono ?_; rintro e w1 ⟨rfl, hx⟩; have hc := hx.cells; have hf := hx.frozens; have hy := hx.size; (try simp at hy); have hz : w.heap.size < w1.heap.size ∧ w.heap.size + 1 < w1.heap.size := (by omega)))
  go_ret
  exact ⟨rfl, (by repeat (first | (with_reducible exact Ext.refl _) | (with_reducible assumption) | (with_reducible refine Ext.alloc ?_ _) | (with_reducible refine Ext.drewN ?_ _) | (with_reducible refine Ext.drew ?_) | (with_reducible refine Ext.setCell ?_ ?_ _; rotate_left; (simp only []; omega)) | (with_reducible refine Ext.trans ?_ (by assumption))))⟩
end Go.Proofs.Ytafmomocmodbhaa
/- Contracts of the second package's time steps. -/
namespace Go.Proofs.Ytafmomocmodbhaa
set_option linter.unusedVariables false
set_option linter.unusedSimpArgs false
open Go.RowKit

theorem spec_expire (a : Option Addr) (n c : Nat) (L : List MapD) (now hold : Int) (w : World) (hs : Sl encM 4 w a n c L) (hn : n ≤ 1000) (hl : ∀ m ∈ L, 0 ≤ m.last ∧ m.last ≤ 10000) (h2 : 0 ≤ now) (h3 : now ≤ 10000) :
    Calls Try.prog 131 #[.slice a n c, .int .i64 now, .int .i64 hold] w fun e w' => ∃ a' m c', e = .returned (.slice a' m c') ∧ OwR 102 encM 4 w.heap.size w' a' m c' (expire L now hold) ∧ m ≤ n ∧ Ext w w' := by
  have hle := hs.le
  have hmax := hs.max
  have hlen := hs.len
  have HL := Lib.hid hlen
  have HI := Lib.hid hs.maps
  have HLL := Lib.hid hl
  clear hlen hs hl
  go_enter Try.func131, Try.ntmps131
  go_wp2
  go_loopw [7, 8] (fun v i wr => ∃ (k : Nat) (a' : Option Addr) (m c' : Nat) (M : List MapD), k ≤ n ∧ i = .int .i64 k ∧ v = .slice a' m c' ∧ m ≤ k ∧ M = expire (L.take k) now hold ∧ OwR 102 encM 4 w.heap.size wr a' m c' M ∧ Ext w wr) (fun _ i _ => n - (intOf i).toNat)
  case atStart => exact ⟨0, _, 0, 0, [], Nat.zero_le _, rfl, rfl, Nat.le_refl _, rfl, OwR.empty w _ rfl (Nat.le_refl _), (by repeat (first | (with_reducible exact Ext.refl _) | (with_reducible assumption) | (with_reducible refine Ext.alloc ?_ _) | (with_reducible refine Ext.drewN ?_ _) | (with_reducible refine Ext.drew ?_) | (with_reducible refine Ext.setCell ?_ ?_ _; rotate_left; (simp only []; omega)) | (with_reducible refine Ext.trans ?_ (by assumption))))⟩
  case round =>
    obtain ⟨k, a', m, c', M, hk, rfl, rfl, hmk, hM, hO, hX⟩ := hrel
    by_cases hlt : k < n
    · obtain ⟨_, b, off, rfl, hb, hc⟩ := (HI.out).resolve_left (by omega)
      obtain ⟨d0, d1, d2, d3⟩ := hc k hlt
      rw [← hX.cells _ _ hb] at d0 d1 d2 d3
      have hbr : b < wr.heap.size := by have := hX.size; omega
      have hbw : w.heap.size ≤ wr.heap.size := hX.size
      have hlk := HLL.out _ (nth_mem (l := L) (i := k) (by rw [HL.out]; exact hlt))
      have he := fun W => spec_expired (nth L k) now hold W hlk.1 hlk.2 h2 h3
      have HX := Lib.hid hX
      have HO := Lib.hid hO
      have HM := Lib.hid hM
      clear hc hX hO hM hlk
      cases hexp : expired (nth L k) now hold with
      | true =>
        rw [hexp] at he
        replace he := Lib.hid he
        go_wp2_with fail
        refine (he.out _).mono ?_
        rintro e w1 ⟨rfl, hx1⟩
        go_wp2
        go_roundw
        case rel => exact ⟨k + 1, a', m, c', M, hlt, by go_num, rfl, by omega, by rw [HM.out]; unfold expire; rw [filt_drop (by rw [HL.out]; exact hlt) (by simp [hexp])], HO.out.ext (show Ext wr _ from (by repeat (first | (with_reducible exact Ext.refl _) | (with_reducible assumption) | (with_reducible refine Ext.alloc ?_ _) | (with_reducible refine Ext.drewN ?_ _) | (with_reducible refine Ext.drew ?_) | (with_reducible refine Ext.setCell ?_ ?_ _; rotate_left; (simp only []; omega)) | (with_reducible refine Ext.trans ?_ (by assumption))))), (show Ext w wr from HX.out).trans (by repeat (first | (with_reducible exact Ext.refl _) | (with_reducible assumption) | (with_reducible refine Ext.alloc ?_ _) | (with_reducible refine Ext.drewN ?_ _) | (with_reducible refine Ext.drew ?_) | (with_reducible refine Ext.setCell ?_ ?_ _; rotate_left; (simp only []; omega)) | (with_reducible refine Ext.trans ?_ (by assumption))))⟩
        case measure => simp [intOf]; omega
      | false =>
        rw [hexp] at he
        replace he := Lib.hid he
        go_wp2_with fail
        refine (he.out _).mono ?_
        rintro e w1 ⟨rfl, hx1⟩
        rw [← hx1.cells _ _ (by simpa using hbr)] at d0 d1 d2 d3
        have hbr1 : b < w1.heap.size := by have := hx1.size; (try simp at this); omega
        have hbw1 : w.heap.size ≤ w1.heap.size := by have := hx1.size; (try simp at this); omega
        go_wp2_with (at_builtin; refine wpList_append_ow _ rfl _ _ rfl eiM encM_len encM_one (by omega) w.heap.size a' m c' M rfl (by exact HO.out.ext (show Ext wr _ from (by repeat (first | (with_reducible exact Ext.refl _) | (with_reducible assumption) | (with_reducible refine Ext.alloc ?_ _) | (with_reducible refine Ext.drewN ?_ _) | (with_reducible refine Ext.drew ?_) | (with_reducible refine Ext.setCell ?_ ?_ _; rotate_left; (simp only []; omega)) | (with_reducible refine Ext.trans ?_ (by assumption)))))) _ 1 1 [nth L k] rfl (by exact Sl.lit1 _ _ (nth L k) _ rfl rfl) (by omega) (by simp; omega) ?_; intro a3 c3 w3 hO3 hX3 _; replace hX3 := hX3 w ((show Ext w wr from HX.out).trans (by repeat (first | (with_reducible exact Ext.refl _) | (with_reducible assumption) | (with_reducible refine Ext.alloc ?_ _) | (with_reducible refine Ext.drewN ?_ _) | (with_reducible refine Ext.drew ?_) | (with_reducible refine Ext.setCell ?_ ?_ _; rotate_left; (simp only []; omega)) | (with_reducible refine Ext.trans ?_ (by assumption))))) (Nat.le_refl _))
        go_roundw
        case rel => exact ⟨k + 1, a3, m + 1, c3, _, hlt, by go_num, rfl, by omega, by rw [HM.out]; unfold expire; rw [filt_keep (by rw [HL.out]; exact hlt) (by simp [hexp])], hO3, hX3⟩
        case measure => simp [intOf]; omega
    · have e : k = n := by omega
      subst e
      rw [List.take_of_length_le (by rw [HL.out]; omega)] at hM
      subst hM
      have HX := Lib.hid hX
      have HO := Lib.hid hO
      clear hX hO
      go_wp2
      go_ret
      exact ⟨a', m, c', rfl, HO.out, hmk, HX.out⟩
theorem spec_ExpiredPorts (a : Option Addr) (n c : Nat) (L : List MapD) (now hold : Int) (w : World) (hs : Sl encM 4 w a n c L) (hn : n ≤ 1000) (hv : validTable L = true) (ht : timer now hold = true) (hl : ∀ m ∈ L, 0 ≤ m.last ∧ m.last ≤ 10000) (h2 : 0 ≤ now) (h3 : now ≤ 10000) :
    Calls Try.prog 129 #[.slice a n c, .int .i64 now, .int .i64 hold] w fun e w' => ∃ a' m c', e = .returned (.slice a' m c') ∧ OwR 3 encI 1 w.heap.size w' a' m c' (expPorts L now hold) ∧ m ≤ n ∧ Ext w w' := by
  have hle := hs.le
  have hmax := hs.max
  have hlen := hs.len
  have HL := Lib.hid hlen
  have HS := Lib.hid hs
  have HI := Lib.hid hs.maps
  have HLL := Lib.hid hl
  have hv1 := fun W h => spec_validTable a n c L W h
  rw [hv] at hv1
  have ht1 := fun W => spec_validTimer now hold W
  rw [ht] at ht1
  replace hv1 := Lib.hid hv1
  replace ht1 := Lib.hid ht1
  clear hlen hs hl hv ht
  go_enter Try.func129, Try.ntmps129
  go_wp2_with (first | (go_at_call 98; refine (hv1.out _ (by exact HS.out.ext (by repeat (first | (with_reducible exact Ext.refl _) | (with_reducible assumption) | (with_reducible refine Ext.alloc ?_ _) | (with_reducible refine Ext.drewN ?_ _) | (with_reducible refine Ext.drew ?_) | (with_reducible refine Ext.setCell ?_ ?_ _; rotate_left; (simp only []; omega)) | (with_reducible refine Ext.trans ?_ (by assumption)))))).mono ?_; rintro e w1 ⟨rfl, hx⟩; have hc := hx.cells; have hf := hx.frozens; have hy := hx.size; (try simp at hy); have hz : w.heap.size < w1.heap.size := (by omega)) | (go_at_call 149; refine (ht1.out _).mono ?_; rintro e w' ⟨rfl, rfl⟩))
  have hO1 : OwR 3 encI 1 w.heap.size w1 (some ⟨w.heap.size, 0, none⟩) 0 0 [] := by refine OwR.ext ?_ hx; exact OwR.empty w _ rfl (Nat.le_refl _)
  have HX1 := Lib.hid (show Ext w w1 from (by repeat (first | (with_reducible exact Ext.refl _) | (with_reducible assumption) | (with_reducible refine Ext.alloc ?_ _) | (with_reducible refine Ext.drewN ?_ _) | (with_reducible refine Ext.drew ?_) | (with_reducible refine Ext.setCell ?_ ?_ _; rotate_left; (simp only []; omega)) | (with_reducible refine Ext.trans ?_ (by assumption)))))
  clear hx hc hf hy hz
  go_loopw [7, 8] (fun v i wr => ∃ (k : Nat) (a' : Option Addr) (m c' : Nat) (M : List Int), k ≤ n ∧ i = .int .i64 k ∧ v = .slice a' m c' ∧ m ≤ k ∧ M = expPorts (L.take k) now hold ∧ OwR 3 encI 1 w.heap.size wr a' m c' M ∧ Ext w wr) (fun _ i _ => n - (intOf i).toNat)
  case atStart => exact ⟨0, _, 0, 0, [], Nat.zero_le _, rfl, rfl, Nat.le_refl _, rfl, hO1, HX1.out⟩
  case round =>
    clear hO1
    obtain ⟨k, a', m, c', M, hk, rfl, rfl, hmk, hM, hO, hX⟩ := hrel
    by_cases hlt : k < n
    · obtain ⟨_, b, off, rfl, hb, hc⟩ := (HI.out).resolve_left (by omega)
      obtain ⟨d0, d1, d2, d3⟩ := hc k hlt
      rw [← hX.cells _ _ hb] at d0 d1 d2 d3
      have hbr : b < wr.heap.size := by have := hX.size; omega
      have hbw : w.heap.size ≤ wr.heap.size := hX.size
      have hlk := HLL.out _ (nth_mem (l := L) (i := k) (by rw [HL.out]; exact hlt))
      have he := fun W => spec_expired (nth L k) now hold W hlk.1 hlk.2 h2 h3
      have HX := Lib.hid hX
      have HO := Lib.hid hO
      have HM := Lib.hid hM
      clear hc hX hO hM hlk
      cases hexp : expired (nth L k) now hold with
      | false =>
        rw [hexp] at he
        replace he := Lib.hid he
        go_wp2_with fail
        refine (he.out _).mono ?_
        rintro e w2 ⟨rfl, hx2⟩
        go_wp2
        go_roundw
        case rel => exact ⟨k + 1, a', m, c', M, hlt, by go_num, rfl, by omega, by rw [HM.out]; unfold expPorts; rw [filt_drop (by rw [HL.out]; exact hlt) hexp], HO.out.ext (show Ext wr _ from (by repeat (first | (with_reducible exact Ext.refl _) | (with_reducible assumption) | (with_reducible refine Ext.alloc ?_ _) | (with_reducible refine Ext.drewN ?_ _) | (with_reducible refine Ext.drew ?_) | (with_reducible refine Ext.setCell ?_ ?_ _; rotate_left; (simp only []; omega)) | (with_reducible refine Ext.trans ?_ (by assumption))))), (show Ext w wr from HX.out).trans (by repeat (first | (with_reducible exact Ext.refl _) | (with_reducible assumption) | (with_reducible refine Ext.alloc ?_ _) | (with_reducible refine Ext.drewN ?_ _) | (with_reducible refine Ext.drew ?_) | (with_reducible refine Ext.setCell ?_ ?_ _; rotate_left; (simp only []; omega)) | (with_reducible refine Ext.trans ?_ (by assumption))))⟩
        case measure => simp [intOf]; omega
      | true =>
        rw [hexp] at he
        replace he := Lib.hid he
        go_wp2_with fail
        refine (he.out _).mono ?_
        rintro e w2 ⟨rfl, hx2⟩
        rw [← hx2.cells _ _ (by simpa using hbr)] at d0 d1 d2 d3
        have hbr1 : b < w2.heap.size := by have := hx2.size; (try simp at this); omega
        have hbw1 : w.heap.size ≤ w2.heap.size := by have := hx2.size; (try simp at this); omega
        go_wp2_with (at_builtin; refine wpList_append_ow _ rfl _ _ rfl eiI encI_len encI_one (by omega) w.heap.size a' m c' M rfl (by exact HO.out.ext (show Ext wr _ from (by repeat (first | (with_reducible exact Ext.refl _) | (with_reducible assumption) | (with_reducible refine Ext.alloc ?_ _) | (with_reducible refine Ext.drewN ?_ _) | (with_reducible refine Ext.drew ?_) | (with_reducible refine Ext.setCell ?_ ?_ _; rotate_left; (simp only []; omega)) | (with_reducible refine Ext.trans ?_ (by assumption)))))) _ 1 1 [(nth L k).port] rfl (by exact Sl.lit1 _ _ (nth L k).port _ rfl rfl) (by omega) (by simp; omega) ?_; intro a3 c3 w3 hO3 hX3 _; replace hX3 := hX3 w ((show Ext w wr from HX.out).trans (by repeat (first | (with_reducible exact Ext.refl _) | (with_reducible assumption) | (with_reducible refine Ext.alloc ?_ _) | (with_reducible refine Ext.drewN ?_ _) | (with_reducible refine Ext.drew ?_) | (with_reducible refine Ext.setCell ?_ ?_ _; rotate_left; (simp only []; omega)) | (with_reducible refine Ext.trans ?_ (by assumption))))) (Nat.le_refl _))
        go_roundw
        case rel => exact ⟨k + 1, a3, m + 1, c3, _, hlt, by go_num, rfl, by omega, by rw [HM.out]; unfold expPorts; rw [filt_keep (by rw [HL.out]; exact hlt) hexp, List.map_append]; rfl, hO3, hX3⟩
        case measure => simp [intOf]; omega
    · have e : k = n := by omega
      subst e
      rw [List.take_of_length_le (by rw [HL.out]; omega)] at hM
      subst hM
      have HX := Lib.hid hX
      have HO := Lib.hid hO
      clear hX hO
      go_wp2
      go_ret
      exact ⟨a', m, c', rfl, HO.out, hmk, HX.out⟩
theorem spec_DropContacts (a : Option Addr) (n c : Nat) (L : List ConD) (q : Int) (w : World) (hs : Sl encC 3 w a n c L) (hn : n ≤ 1000) (hv : validContacts L = true) :
    Calls Try.prog 130 #[.slice a n c, .int .i64 q] w fun e w' => ∃ a' m c', e = .returned (.slice a' m c') ∧ OwR 115 encC 3 w.heap.size w' a' m c' (without L q) ∧ m ≤ n ∧ Ext w w' := by
  have hle := hs.le
  have hmax := hs.max
  have hlen := hs.len
  have HL := Lib.hid hlen
  have HS := Lib.hid hs
  have HI := Lib.hid hs.cons
  have hv1 := fun W h => spec_validContacts a n c L W h
  rw [hv] at hv1
  replace hv1 := Lib.hid hv1
  clear hlen hs hv
  go_enter Try.func130, Try.ntmps130
  go_wp2_with (go_at_call 99; refine (hv1.out _ (by exact HS.out.ext (by repeat (first | (with_reducible exact Ext.refl _) | (with_reducible assumption) | (with_reducible refine Ext.alloc ?_ _) | (with_reducible refine Ext.drewN ?_ _) | (with_reducible refine Ext.drew ?_) | (with_reducible refine Ext.setCell ?_ ?_ _; rotate_left; (simp only []; omega)) | (with_reducible refine Ext.trans ?_ (by assumption)))))).mono ?_; rintro e w1 ⟨rfl, hx⟩; have hc := hx.cells; have hf := hx.frozens; have hy := hx.size; (try simp at hy); have hz : w.heap.size < w1.heap.size := (by omega))
  have hO1 : OwR 115 encC 3 w.heap.size w1 (some ⟨w.heap.size, 0, none⟩) 0 0 [] := by refine OwR.ext ?_ hx; exact OwR.empty w _ rfl (Nat.le_refl _)
  have HX1 := Lib.hid (show Ext w w1 from (by repeat (first | (with_reducible exact Ext.refl _) | (with_reducible assumption) | (with_reducible refine Ext.alloc ?_ _) | (with_reducible refine Ext.drewN ?_ _) | (with_reducible refine Ext.drew ?_) | (with_reducible refine Ext.setCell ?_ ?_ _; rotate_left; (simp only []; omega)) | (with_reducible refine Ext.trans ?_ (by assumption)))))
  clear hx hc hf hy hz
  go_loopw [5, 6] (fun v i wr => ∃ (k : Nat) (a' : Option Addr) (m c' : Nat) (M : List ConD), k ≤ n ∧ i = .int .i64 k ∧ v = .slice a' m c' ∧ m ≤ k ∧ M = without (L.take k) q ∧ OwR 115 encC 3 w.heap.size wr a' m c' M ∧ Ext w wr) (fun _ i _ => n - (intOf i).toNat)
  case atStart => exact ⟨0, _, 0, 0, [], Nat.zero_le _, rfl, rfl, Nat.le_refl _, rfl, hO1, HX1.out⟩
  case round =>
    clear hO1
    obtain ⟨k, a', m, c', M, hk, rfl, rfl, hmk, hM, hO, hX⟩ := hrel
    by_cases hlt : k < n
    · obtain ⟨_, b, off, rfl, hb, hc⟩ := (HI.out).resolve_left (by omega)
      obtain ⟨d0, d1, d2⟩ := hc k hlt
      rw [← hX.cells _ _ hb] at d0 d1 d2
      have hbr : b < wr.heap.size := by have := hX.size; omega
      have hbw : w.heap.size ≤ wr.heap.size := hX.size
      have HX := Lib.hid hX
      have HO := Lib.hid hO
      have HM := Lib.hid hM
      clear hc hX hO hM
      by_cases hq : (nth L k).port = q
      · go_wp2
        go_roundw
        case rel => exact ⟨k + 1, a', m, c', M, hlt, by go_num, rfl, by omega, by rw [HM.out]; unfold without; rw [filt_drop (by rw [HL.out]; exact hlt) (by simp [hq])], HO.out.ext (show Ext wr _ from (by repeat (first | (with_reducible exact Ext.refl _) | (with_reducible assumption) | (with_reducible refine Ext.alloc ?_ _) | (with_reducible refine Ext.drewN ?_ _) | (with_reducible refine Ext.drew ?_) | (with_reducible refine Ext.setCell ?_ ?_ _; rotate_left; (simp only []; omega)) | (with_reducible refine Ext.trans ?_ (by assumption))))), (show Ext w wr from HX.out).trans (by repeat (first | (with_reducible exact Ext.refl _) | (with_reducible assumption) | (with_reducible refine Ext.alloc ?_ _) | (with_reducible refine Ext.drewN ?_ _) | (with_reducible refine Ext.drew ?_) | (with_reducible refine Ext.setCell ?_ ?_ _; rotate_left; (simp only []; omega)) | (with_reducible refine Ext.trans ?_ (by assumption))))⟩
        case measure => simp [intOf]; omega
      · go_wp2_with (at_builtin; refine wpList_append_ow _ rfl _ _ rfl eiC encC_len encC_one (by omega) w.heap.size a' m c' M rfl (by exact HO.out.ext (show Ext wr _ from (by repeat (first | (with_reducible exact Ext.refl _) | (with_reducible assumption) | (with_reducible refine Ext.alloc ?_ _) | (with_reducible refine Ext.drewN ?_ _) | (with_reducible refine Ext.drew ?_) | (with_reducible refine Ext.setCell ?_ ?_ _; rotate_left; (simp only []; omega)) | (with_reducible refine Ext.trans ?_ (by assumption)))))) _ 1 1 [nth L k] rfl (by exact Sl.lit1 _ _ (nth L k) _ rfl rfl) (by omega) (by simp; omega) ?_; intro a3 c3 w3 hO3 hX3 _; replace hX3 := hX3 w ((show Ext w wr from HX.out).trans (by repeat (first | (with_reducible exact Ext.refl _) | (with_reducible assumption) | (with_reducible refine Ext.alloc ?_ _) | (with_reducible refine Ext.drewN ?_ _) | (with_reducible refine Ext.drew ?_) | (with_reducible refine Ext.setCell ?_ ?_ _; rotate_left; (simp only []; omega)) | (with_reducible refine Ext.trans ?_ (by assumption))))) (Nat.le_refl _))
        go_roundw
        case rel => exact ⟨k + 1, a3, m + 1, c3, _, hlt, by go_num, rfl, by omega, by rw [HM.out]; unfold without; rw [filt_keep (by rw [HL.out]; exact hlt) (by simp [hq])], hO3, hX3⟩
        case measure => simp [intOf]; omega
    · have e : k = n := by omega
      subst e
      rw [List.take_of_length_le (by rw [HL.out]; omega)] at hM
      subst hM
      have HX := Lib.hid hX
      have HO := Lib.hid hO
      clear hX hO
      go_wp2
      go_ret
      exact ⟨a', m, c', rfl, HO.out, hmk, HX.out⟩
set_option maxHeartbeats 1000000 in
theorem spec_copyGate (g : GateD) (ta : Option Addr) (tn tc : Nat) (ka : Option Addr) (kn kc : Nat) (w : World) (ht : Sl encM 4 w ta tn tc g.table) (hk : Sl encC 3 w ka kn kc g.cons) (h1 : tn ≤ 1000) (h2 : kn ≤ 1000) :
    Calls Try.prog 128 #[.agg #[.int .i64 g.net.base, .int .i64 g.net.bits, .int .i64 g.out, .slice ta tn tc, .slice ka kn kc, .int .i64 g.filter, .int .i64 g.hold, .int .i64 g.now]] w fun e w' => ∃ sa sc qa qc, e = .returned (.agg #[.int .i64 g.net.base, .int .i64 g.net.bits, .int .i64 g.out, .slice sa tn sc, .slice qa kn qc, .int .i64 g.filter, .int .i64 g.hold, .int .i64 g.now]) ∧ OwR 102 encM 4 w.heap.size w' sa tn sc g.table ∧
      OwR 115 encC 3 w.heap.size w' qa kn qc g.cons ∧ Ext w w' := by
  go_enter Try.func128, Try.ntmps128
  go_wp2_with (first
    | (at_builtin; refine wpList_append_ow _ rfl _ _ rfl (by with_reducible exact eiM) encM_len encM_one (by omega) (w.heap.size + 2) (some ⟨w.heap.size + 2, 0, none⟩) 0 0 [] rfl (by exact OwR.empty _ _ (by simp) (by simp)) ta tn tc g.table rfl (by exact ht.ext (by repeat (first | (with_reducible exact Ext.refl _) | (with_reducible assumption) | (with_reducible refine Ext.alloc ?_ _) | (with_reducible refine Ext.drewN ?_ _) | (with_reducible refine Ext.drew ?_) | (with_reducible refine Ext.setCell ?_ ?_ _; rotate_left; (simp only []; omega)) | (with_reducible refine Ext.trans ?_ (by assumption))))) (by omega) (by simp) ?_; intro a3 c3 w3 hO3 hX3 hg3; (replace hX3 := hX3 w (by repeat (first | (with_reducible exact Ext.refl _) | (with_reducible assumption) | (with_reducible refine Ext.alloc ?_ _) | (with_reducible refine Ext.drewN ?_ _) | (with_reducible refine Ext.drew ?_) | (with_reducible refine Ext.setCell ?_ ?_ _; rotate_left; (simp only []; omega)) | (with_reducible refine Ext.trans ?_ (by assumption)))) (by omega)); (have hB3 : Blk w3 w.heap.size 40 (#[.int .i64 g.net.base, .int .i64 g.net.bits, .int .i64 g.out, .slice ta tn tc, .slice ka kn kc, .int .i64 g.filter, .int .i64 g.hold, .int .i64 g.now]) := Blk.grown (by repeat (first | (with_reducible assumption) | (with_reducible exact Blk.new _ _ _) | exact Blk.newAt _ _ _ (by simp) | (with_reducible refine Blk.alloc ?_ _) | (with_reducible refine Blk.drew ?_) | (with_reducible refine Blk.drewN ?_ _) | refine Blk.far ?_ (by simp only []; omega) _ | refine Blk.rext ?_ (by assumption) (by omega) | refine Blk.ext ?_ (by assumption))) hg3 (by simp)); (have hR3 : Blk w3 (w.heap.size + 1) 40 #[.int .i64 0, .int .i64 0, .int .i64 0, .slice none 0 0, .slice none 0 0, .int .i64 0, .int .i64 0, .int .i64 0] := Blk.grown (by repeat (first | (with_reducible assumption) | (with_reducible exact Blk.new _ _ _) | exact Blk.newAt _ _ _ (by simp) | (with_reducible refine Blk.alloc ?_ _) | (with_reducible refine Blk.drew ?_) | (with_reducible refine Blk.drewN ?_ _) | refine Blk.far ?_ (by simp only []; omega) _ | refine Blk.rext ?_ (by assumption) (by omega) | refine Blk.ext ?_ (by assumption))) hg3 (by simp)); have hc3 := hB3.cells; have hf3 := hB3.frozens; have hz3 := hB3.lt; have hc3' := hR3.cells; have hf3' := hR3.frozens; have hz3' := hR3.lt; simp only [Nat.zero_add, List.nil_append] at hO3)
    | (at_builtin; refine wpList_append_ow _ rfl _ _ rfl (by with_reducible exact eiC) encC_len encC_one (by omega) w3.heap.size (some ⟨w3.heap.size, 0, none⟩) 0 0 [] rfl (by exact OwR.empty _ _ (by simp) (by simp)) ka kn kc g.cons rfl (by exact hk.ext (by repeat (first | (with_reducible exact Ext.refl _) | (with_reducible assumption) | (with_reducible refine Ext.alloc ?_ _) | (with_reducible refine Ext.drewN ?_ _) | (with_reducible refine Ext.drew ?_) | (with_reducible refine Ext.setCell ?_ ?_ _; rotate_left; (simp only []; omega)) | (with_reducible refine Ext.trans ?_ (by assumption))))) (by omega) (by simp) ?_; intro a4 c4 w4 hO4 hX4 hg4; (replace hX4 := hX4 w (by repeat (first | (with_reducible exact Ext.refl _) | (with_reducible assumption) | (with_reducible refine Ext.alloc ?_ _) | (with_reducible refine Ext.drewN ?_ _) | (with_reducible refine Ext.drew ?_) | (with_reducible refine Ext.setCell ?_ ?_ _; rotate_left; (simp only []; omega)) | (with_reducible refine Ext.trans ?_ (by assumption)))) (by omega)); (have hB4 : Blk w4 w.heap.size 40 (#[.int .i64 g.net.base, .int .i64 g.net.bits, .int .i64 g.out, .slice a3 tn c3, .slice ka kn kc, .int .i64 g.filter, .int .i64 g.hold, .int .i64 g.now]) := Blk.grown (Blk.alloc (show Blk (w3.setCell ⟨w.heap.size, 3, none⟩ (.slice a3 tn c3)) w.heap.size 40 (#[.int .i64 g.net.base, .int .i64 g.net.bits, .int .i64 g.out, .slice a3 tn c3, .slice ka kn kc, .int .i64 g.filter, .int .i64 g.hold, .int .i64 g.now]) from hB3.set 3 _) _) hg4 (by simp; omega)); (have hR4 : Blk w4 (w.heap.size + 1) 40 #[.int .i64 0, .int .i64 0, .int .i64 0, .slice none 0 0, .slice none 0 0, .int .i64 0, .int .i64 0, .int .i64 0] := Blk.grown (by repeat (first | exact hR3 | refine Blk.alloc ?_ _ | refine Blk.far ?_ (by simp only []; omega) _)) hg4 (by simp; omega)); have hQ4 := ((hO3.setC (p := ⟨w.heap.size, 3, none⟩) (fun x e => by have := (hO3.lt x e).1; simp only []; omega) (.slice a3 tn c3)).ext ((Ext.refl _).alloc (.cells #[] 115))).keep hg4 (fun x e => by have := (hO3.lt x e).2; simp; omega); clear hc3 hf3 hz3 hc3' hf3' hB3 hR3 hO3 hg3 hX3; have hc4 := hB4.cells; have hf4 := hB4.frozens; have hz4 := hB4.lt; have hc4' := hR4.cells; have hf4' := hR4.frozens; have hz4' := hR4.lt; simp only [Nat.zero_add, List.nil_append] at hO4))
  refine' bodyPost_ret (v := _) ?_ rfl ?_
  rotate_left
  · (simp only [results, Try.results128]
     go_simp
     rfl)
  refine ⟨a3, c3, a4, c4, rfl, ?_, ?_, (by repeat (first | (with_reducible exact Ext.refl _) | (with_reducible assumption) | (with_reducible refine Ext.alloc ?_ _) | (with_reducible refine Ext.drewN ?_ _) | (with_reducible refine Ext.drew ?_) | (with_reducible refine Ext.setCell ?_ ?_ _; rotate_left; (simp only []; omega)) | (with_reducible refine Ext.trans ?_ (by assumption))))⟩
  · refine OwR.rebase (base := w.heap.size + 2) ?_ (by omega)
    repeat (refine OwR.setC ?_ (fun x e => by have := (hQ4.lt x e).1; simp only []; omega) _)
    exact hQ4
  · refine OwR.rebase (base := w3.heap.size) ?_ (by omega)
    repeat (refine OwR.setC ?_ (fun x e => by have := (hO4.lt x e).1; simp only []; omega) _)
    exact hO4
theorem foldl_sub (ps : List Int) (l : List ConD) : (ps.foldl without l).Sublist l := by rw [foldl_without]; exact List.filter_sublist
theorem lastOk {L : List MapD} (h : validTable L = true) : ∀ m ∈ L, 0 ≤ m.last ∧ m.last ≤ 10000 := by
  intro m hm
  have := (validTable_iff.1 h).1 m hm
  simp only [okMap, Bool.and_eq_true, inR_iff] at this
  omega
end Go.Proofs.Ytafmomocmodbhaa
/- The second package's TickGate. -/
namespace Go.Proofs.Ytafmomocmodbhaa
set_option linter.unusedVariables false
set_option linter.unusedSimpArgs false
open Go.RowKit

theorem foldl_take {ps : List Int} {l : List ConD} {k : Nat} (hk : k < ps.length) : (ps.take (k + 1)).foldl without l = without ((ps.take k).foldl without l) (nth ps k) := by
  rw [take_succ hk, List.foldl_append]
  rfl
theorem timer_ok {g : GateD} (hg : VGate g) {now : Int} (h0 : g.now ≤ now) (h1 : now ≤ 10000) : timer now g.hold = true := by
  have := hg.now0
  have := hg.hold0
  have := hg.hold1
  unfold timer
  simp only [Bool.and_eq_true, inR_iff]
  omega
set_option maxHeartbeats 4000000 in
theorem spec_tick (g : GateD) (now : Int) (ta : Option Addr) (tn tc : Nat) (ka : Option Addr) (kn kc : Nat) (w : World) (ht : Sl encM 4 w ta tn tc g.table) (hk : Sl encC 3 w ka kn kc g.cons) (hg : VGate g) (h0 : g.now ≤ now) (h1 : now ≤ 10000) :
    Calls Try.prog 69 #[.agg #[.int .i64 g.net.base, .int .i64 g.net.bits, .int .i64 g.out, .slice ta tn tc, .slice ka kn kc, .int .i64 g.filter, .int .i64 g.hold, .int .i64 g.now], .int .i64 now] w fun e w' => ∃ sa sn sc qa qn qc, e = .returned (.agg #[.int .i64 (tick g now).net.base, .int .i64 (tick g now).net.bits, .int .i64 (tick g now).out, .slice sa sn sc, .slice qa qn qc, .int .i64 (tick g now).filter, .int .i64 (tick g now).hold, .int .i64 (tick g now).now]) ∧ Ow 102 encM 4 w.heap.size w' sa sn sc (tick g now).table ∧
      Ow 115 encC 3 w.heap.size w' qa qn qc (tick g now).cons ∧ Ext w w' := by
  have htl := (validTable_iff.1 hg.tab).2.2
  have hkl := (validContacts_iff.1 hg.con).2.2
  have htn : tn ≤ 8 := by have := ht.len; omega
  have hkn : kn ≤ 10 := by have := hk.len; omega
  have htm := timer_ok hg h0 h1
  have n0 : 0 ≤ now := by have := hg.now0; omega
  have HLa := Lib.hid (lastOk hg.tab)
  have hvt := Lib.hid hg.tab
  have hvc := Lib.hid hg.con
  have T0l := Lib.hid (fun (h : 0 < tn) => ht.lt h)
  obtain ⟨P, hP⟩ : ∃ P, P = expPorts g.table now g.hold := ⟨_, rfl⟩
  replace hP := Lib.hid hP
  have T0 := ht
  have XU := Ext.refl w
  go_enter Try.func69, Try.ntmps69
  go_wp2_with fail
  refine (spec_copyGate g ta tn tc ka kn kc _ (by exact ht.ext (by repeat (first | (with_reducible exact Ext.refl _) | (with_reducible assumption) | (with_reducible refine Ext.alloc ?_ _) | (with_reducible refine Ext.drewN ?_ _) | (with_reducible refine Ext.drew ?_) | (with_reducible refine Ext.setCell ?_ ?_ _; rotate_left; (simp only []; omega)) | (with_reducible refine Ext.trans ?_ (by assumption))))) (by exact hk.ext (by repeat (first | (with_reducible exact Ext.refl _) | (with_reducible assumption) | (with_reducible refine Ext.alloc ?_ _) | (with_reducible refine Ext.drewN ?_ _) | (with_reducible refine Ext.drew ?_) | (with_reducible refine Ext.setCell ?_ ?_ _; rotate_left; (simp only []; omega)) | (with_reducible refine Ext.trans ?_ (by assumption))))) (by omega) (by omega)).mono ?_
  rintro e w1 ⟨sa, sc, qa, qc, rfl, RT, RK, hx1⟩
  have hy1 := hx1.size
  (try simp at hy1)
  replace T0 := T0.ext (show Ext _ w1 from (by repeat (first | (with_reducible exact Ext.refl _) | (with_reducible assumption) | (with_reducible refine Ext.alloc ?_ _) | (with_reducible refine Ext.drewN ?_ _) | (with_reducible refine Ext.drew ?_) | (with_reducible refine Ext.setCell ?_ ?_ _; rotate_left; (simp only []; omega)) | (with_reducible refine Ext.trans ?_ (by assumption)))))
  have BG : Blk w1 w.heap.size 40 (#[.int .i64 g.net.base, .int .i64 g.net.bits, .int .i64 g.out, .slice ta tn tc, .slice ka kn kc, .int .i64 g.filter, .int .i64 g.hold, .int .i64 g.now]) := by refine Blk.ext ?_ hx1; exact (by repeat (first | (with_reducible assumption) | (with_reducible exact Blk.new _ _ _) | exact Blk.newAt _ _ _ (by simp) | (with_reducible refine Blk.alloc ?_ _) | (with_reducible refine Blk.drew ?_) | (with_reducible refine Blk.drewN ?_ _) | refine Blk.far ?_ (by simp only []; omega) _ | refine Blk.rext ?_ (by assumption) (by omega) | refine Blk.ext ?_ (by assumption)))
  have BR : Blk w1 (w.heap.size+1) 40 #[.int .i64 0, .int .i64 0, .int .i64 0, .slice none 0 0, .slice none 0 0, .int .i64 0, .int .i64 0, .int .i64 0] := by refine Blk.ext ?_ hx1; exact (by repeat (first | (with_reducible assumption) | (with_reducible exact Blk.new _ _ _) | exact Blk.newAt _ _ _ (by simp) | (with_reducible refine Blk.alloc ?_ _) | (with_reducible refine Blk.drew ?_) | (with_reducible refine Blk.drewN ?_ _) | refine Blk.far ?_ (by simp only []; omega) _ | refine Blk.rext ?_ (by assumption) (by omega) | refine Blk.ext ?_ (by assumption)))
  replace XU := XU.ext (show Ext _ w1 from (by repeat (first | (with_reducible exact Ext.refl _) | (with_reducible assumption) | (with_reducible refine Ext.alloc ?_ _) | (with_reducible refine Ext.drewN ?_ _) | (with_reducible refine Ext.drew ?_) | (with_reducible refine Ext.setCell ?_ ?_ _; rotate_left; (simp only []; omega)) | (with_reducible refine Ext.trans ?_ (by assumption)))))
  have cBG := BG.cells
  have fBG := BG.frozens
  have zBG := BG.lt
  have cBR := BR.cells
  have fBR := BR.frozens
  have zBR := BR.lt
  have lK := Lib.hid (show ∀ x, qa = some x → x.block ≠ w1.heap.size from fun x e => by have := (RK.lt x e).2; omega)
  go_wp2_with fail
  refine (spec_ExpiredPorts ta tn tc g.table now g.hold _ (by exact T0.ext (by repeat (first | (with_reducible exact Ext.refl _) | (with_reducible assumption) | (with_reducible refine Ext.alloc ?_ _) | (with_reducible refine Ext.drewN ?_ _) | (with_reducible refine Ext.drew ?_) | (with_reducible refine Ext.setCell ?_ ?_ _; rotate_left; (simp only []; omega)) | (with_reducible refine Ext.trans ?_ (by assumption))))) (by omega) hvt.out htm HLa.out n0 h1).mono ?_
  rintro e w2 ⟨pa, pm, pc, rfl, RP, hpm, hx2⟩
  have hy2 := hx2.size
  (try simp at hy2)
  replace T0 := T0.ext (show Ext _ w2 from (by repeat (first | (with_reducible exact Ext.refl _) | (with_reducible assumption) | (with_reducible refine Ext.alloc ?_ _) | (with_reducible refine Ext.drewN ?_ _) | (with_reducible refine Ext.drew ?_) | (with_reducible refine Ext.setCell ?_ ?_ _; rotate_left; (simp only []; omega)) | (with_reducible refine Ext.trans ?_ (by assumption)))))
  clear cBG fBG zBG
  replace BG := BG.ext (show Ext _ w2 from (by repeat (first | (with_reducible exact Ext.refl _) | (with_reducible assumption) | (with_reducible refine Ext.alloc ?_ _) | (with_reducible refine Ext.drewN ?_ _) | (with_reducible refine Ext.drew ?_) | (with_reducible refine Ext.setCell ?_ ?_ _; rotate_left; (simp only []; omega)) | (with_reducible refine Ext.trans ?_ (by assumption)))))
  clear cBR fBR zBR
  replace BR := BR.ext (show Ext _ w2 from (by repeat (first | (with_reducible exact Ext.refl _) | (with_reducible assumption) | (with_reducible refine Ext.alloc ?_ _) | (with_reducible refine Ext.drewN ?_ _) | (with_reducible refine Ext.drew ?_) | (with_reducible refine Ext.setCell ?_ ?_ _; rotate_left; (simp only []; omega)) | (with_reducible refine Ext.trans ?_ (by assumption)))))
  replace RK := RK.ext (show Ext _ w2 from (by repeat (first | (with_reducible exact Ext.refl _) | (with_reducible assumption) | (with_reducible refine Ext.alloc ?_ _) | (with_reducible refine Ext.drewN ?_ _) | (with_reducible refine Ext.drew ?_) | (with_reducible refine Ext.setCell ?_ ?_ _; rotate_left; (simp only []; omega)) | (with_reducible refine Ext.trans ?_ (by assumption)))))
  have BX : Blk w2 w1.heap.size 40 (#[.int .i64 g.net.base, .int .i64 g.net.bits, .int .i64 g.out, .slice sa tn sc, .slice qa kn qc, .int .i64 g.filter, .int .i64 g.hold, .int .i64 g.now]) := by refine Blk.ext ?_ hx2; exact (by repeat (first | (with_reducible assumption) | (with_reducible exact Blk.new _ _ _) | exact Blk.newAt _ _ _ (by simp) | (with_reducible refine Blk.alloc ?_ _) | (with_reducible refine Blk.drew ?_) | (with_reducible refine Blk.drewN ?_ _) | refine Blk.far ?_ (by simp only []; omega) _ | refine Blk.rext ?_ (by assumption) (by omega) | refine Blk.ext ?_ (by assumption)))
  replace XU := XU.ext (show Ext _ w2 from (by repeat (first | (with_reducible exact Ext.refl _) | (with_reducible assumption) | (with_reducible refine Ext.alloc ?_ _) | (with_reducible refine Ext.drewN ?_ _) | (with_reducible refine Ext.drew ?_) | (with_reducible refine Ext.setCell ?_ ?_ _; rotate_left; (simp only []; omega)) | (with_reducible refine Ext.trans ?_ (by assumption)))))
  have cBG := BG.cells
  have fBG := BG.frozens
  have zBG := BG.lt
  have cBR := BR.cells
  have fBR := BR.frozens
  have zBR := BR.lt
  have cBX := BX.cells
  have fBX := BX.frozens
  have zBX := BX.lt
  replace RP := (RP.ow encI_len (by omega)).rebase (b' := w1.heap.size + 1) (by (try simp); (try omega))
  rw [← hP.out] at RP
  replace RK := (RK.ow encC_len (by omega)).rebase (b' := w.heap.size + 2) (by (try simp); (try omega))
  clear hx1 hx2 RT hk ht
  generalize w1.heap.size = G at *
  clear cBG cBR cBX fBG fBR fBX
  have hGw : w.heap.size + 1 < G := by omega
  go_wp2
  go_loopw [7] (fun i wr => ∃ (k : Nat) (a' : Option Addr) (m c' : Nat) (M : List ConD), k ≤ pm ∧ i = .int .i64 k ∧ m ≤ 10 ∧ M = (P.take k).foldl without g.cons ∧ Ow 115 encC 3 (w.heap.size + 2) wr a' m c' M ∧ (∀ x, a' = some x → x.block ≠ G) ∧
    Blk wr G 40 (#[.int .i64 g.net.base, .int .i64 g.net.bits, .int .i64 g.out, .slice sa tn sc, .slice a' m c', .int .i64 g.filter, .int .i64 g.hold, .int .i64 g.now]) ∧ Blk wr w.heap.size 40 (#[.int .i64 g.net.base, .int .i64 g.net.bits, .int .i64 g.out, .slice ta tn tc, .slice ka kn kc, .int .i64 g.filter, .int .i64 g.hold, .int .i64 g.now]) ∧ Blk wr (w.heap.size + 1) 40 #[.int .i64 0, .int .i64 0, .int .i64 0, .slice none 0 0, .slice none 0 0, .int .i64 0, .int .i64 0, .int .i64 0] ∧
    Ow 3 encI 1 (G + 1) wr pa pm pc P ∧ Sl encM 4 wr ta tn tc g.table ∧ Ext w wr) (fun i _ => pm - (intOf i).toNat)
  case atStart => exact ⟨0, qa, kn, qc, g.cons, Nat.zero_le _, rfl, hkn, rfl, RK, lK.out, BX, BG, BR, RP, T0, XU⟩
  case round =>
    clear RP RK BX BG BR T0 XU zBG zBR zBX lK
    obtain ⟨k, a', m, c', M, hk, rfl, hm, hM, OK, lK, BX, BG, BR, RP, T0, XU⟩ := hrel
    by_cases hlt : k < pm
    · obtain ⟨_, b, off, rfl, hb, hc⟩ := ((RP.sl encI_len).ints).resolve_left (by omega)
      have d0 := hc k hlt
      have hkl : k < P.length := by have := RP.1; omega
      have hMv : validContacts M = true := by rw [hM]; exact validContacts_sub hvc.out (foldl_sub _ _)
      have hM2 := Lib.hid (show without M (nth P k) = (P.take (k + 1)).foldl without g.cons by rw [foldl_take hkl, ← hM])
      have zG : G < wr.heap.size := BX.lt
      have hMv := Lib.hid hMv
      replace hM := Lib.hid hM
      clear hc hkl
      have cBX := BX.cells
      have fBX := BX.frozens
      have nG : b ≠ G := by have := (RP.lt _ rfl).1; simp at this; omega
      go_wp2_with fail
      go_region_with (go_at_call 130; refine (spec_DropContacts a' m c' M (nth P k) _ (by exact ((OK.sl encC_len).ext (by repeat (first | (with_reducible exact Ext.refl _) | (with_reducible assumption) | (with_reducible refine Ext.alloc ?_ _) | (with_reducible refine Ext.drewN ?_ _) | (with_reducible refine Ext.drew ?_) | (with_reducible refine Ext.setCell ?_ ?_ _; rotate_left; (simp only []; omega)) | (with_reducible refine Ext.trans ?_ (by assumption)))))) (by omega) hMv.out).mono ?_; rintro e w3 ⟨a2, m2, c2, rfl, hO2, hm2, hx3⟩; have BX3 := BX.ext (show Ext _ w3 from (by repeat (first | (with_reducible exact Ext.refl _) | (with_reducible assumption) | (with_reducible refine Ext.alloc ?_ _) | (with_reducible refine Ext.drewN ?_ _) | (with_reducible refine Ext.drew ?_) | (with_reducible refine Ext.setCell ?_ ?_ _; rotate_left; (simp only []; omega)) | (with_reducible refine Ext.trans ?_ (by assumption))))); have cBX3 := BX3.cells; have fBX3 := BX3.frozens; have zBX3 := BX3.lt)
      all_goals
        have BG3 := BG.ext (show Ext _ w3 from (by repeat (first | (with_reducible exact Ext.refl _) | (with_reducible assumption) | (with_reducible refine Ext.alloc ?_ _) | (with_reducible refine Ext.drewN ?_ _) | (with_reducible refine Ext.drew ?_) | (with_reducible refine Ext.setCell ?_ ?_ _; rotate_left; (simp only []; omega)) | (with_reducible refine Ext.trans ?_ (by assumption)))))
        have BR3 := BR.ext (show Ext _ w3 from (by repeat (first | (with_reducible exact Ext.refl _) | (with_reducible assumption) | (with_reducible refine Ext.alloc ?_ _) | (with_reducible refine Ext.drewN ?_ _) | (with_reducible refine Ext.drew ?_) | (with_reducible refine Ext.setCell ?_ ?_ _; rotate_left; (simp only []; omega)) | (with_reducible refine Ext.trans ?_ (by assumption)))))
        have RP3 := RP.ext (show Ext _ w3 from (by repeat (first | (with_reducible exact Ext.refl _) | (with_reducible assumption) | (with_reducible refine Ext.alloc ?_ _) | (with_reducible refine Ext.drewN ?_ _) | (with_reducible refine Ext.drew ?_) | (with_reducible refine Ext.setCell ?_ ?_ _; rotate_left; (simp only []; omega)) | (with_reducible refine Ext.trans ?_ (by assumption)))))
        have T3 := T0.ext (show Ext _ w3 from (by repeat (first | (with_reducible exact Ext.refl _) | (with_reducible assumption) | (with_reducible refine Ext.alloc ?_ _) | (with_reducible refine Ext.drewN ?_ _) | (with_reducible refine Ext.drew ?_) | (with_reducible refine Ext.setCell ?_ ?_ _; rotate_left; (simp only []; omega)) | (with_reducible refine Ext.trans ?_ (by assumption)))))
        have lO := hO2.lt
        have hX3 := XU.ext (show Ext _ w3 from (by repeat (first | (with_reducible exact Ext.refl _) | (with_reducible assumption) | (with_reducible refine Ext.alloc ?_ _) | (with_reducible refine Ext.drewN ?_ _) | (with_reducible refine Ext.drew ?_) | (with_reducible refine Ext.setCell ?_ ?_ _; rotate_left; (simp only []; omega)) | (with_reducible refine Ext.trans ?_ (by assumption)))))
        clear hx3
        go_wp2
        go_roundw
        case rel =>
          refine ⟨k + 1, a2, m2, c2, without M (nth P k), hlt, by go_num, by omega, hM2.out, ?_, ?_, (BX3.set 4 (.slice a2 m2 c2)), BG3.far (by simp only []; omega) _, BR3.far (by simp only []; omega) _, ?_, ?_, (by repeat (first | (with_reducible exact Ext.refl _) | (with_reducible assumption) | (with_reducible refine Ext.alloc ?_ _) | (with_reducible refine Ext.drewN ?_ _) | (with_reducible refine Ext.drew ?_) | (with_reducible refine Ext.setCell ?_ ?_ _; rotate_left; (simp only []; omega)) | (with_reducible refine Ext.trans ?_ (by assumption))))⟩
          · refine Ow.rebase (base := wr.heap.size) ?_ (by omega)
            refine Ow.setC ?_ (fun x e => by have := (lO x e).1; simp only []; (try simp at this); omega) _
            exact (hO2.ow encC_len (by omega))
          · intro x e
            have := (lO x e).1
            (try simp at this)
            omega
          · exact RP3.setC (fun x e => by have := (RP3.lt x e).1; simp only []; omega) _
          · exact T3.setFar (fun hn x e => by have := T0l.out hn x e; simp only []; omega) _
        case measure => simp [intOf]; omega
    · have e : k = pm := by omega
      subst e
      rw [List.take_of_length_le (by have := RP.1; omega)] at hM
      clear hlt hk RP
      have zG : G < wr.heap.size := BX.lt
      have cBX := BX.cells
      have fBX := BX.frozens
      have zBX := BX.lt
      have cBG := BG.cells
      have fBG := BG.frozens
      have zBG := BG.lt
      have cBR := BR.cells
      have fBR := BR.frozens
      have zBR := BR.lt
      go_wp2_with fail
      refine (spec_expire ta tn tc g.table now g.hold _ (by exact T0.ext (by repeat (first | (with_reducible exact Ext.refl _) | (with_reducible assumption) | (with_reducible refine Ext.alloc ?_ _) | (with_reducible refine Ext.drewN ?_ _) | (with_reducible refine Ext.drew ?_) | (with_reducible refine Ext.setCell ?_ ?_ _; rotate_left; (simp only []; omega)) | (with_reducible refine Ext.trans ?_ (by assumption))))) (by omega) HLa.out n0 h1).mono ?_
      rintro e w4 ⟨ea, em, ec, rfl, RE, hem, hx4⟩
      have hy4 := hx4.size
      (try simp at hy4)
      replace T0 := T0.ext (show Ext _ w4 from (by repeat (first | (with_reducible exact Ext.refl _) | (with_reducible assumption) | (with_reducible refine Ext.alloc ?_ _) | (with_reducible refine Ext.drewN ?_ _) | (with_reducible refine Ext.drew ?_) | (with_reducible refine Ext.setCell ?_ ?_ _; rotate_left; (simp only []; omega)) | (with_reducible refine Ext.trans ?_ (by assumption)))))
      replace OK := OK.ext (show Ext _ w4 from (by repeat (first | (with_reducible exact Ext.refl _) | (with_reducible assumption) | (with_reducible refine Ext.alloc ?_ _) | (with_reducible refine Ext.drewN ?_ _) | (with_reducible refine Ext.drew ?_) | (with_reducible refine Ext.setCell ?_ ?_ _; rotate_left; (simp only []; omega)) | (with_reducible refine Ext.trans ?_ (by assumption)))))
      clear cBX fBX zBX
      replace BX := BX.ext (show Ext _ w4 from (by repeat (first | (with_reducible exact Ext.refl _) | (with_reducible assumption) | (with_reducible refine Ext.alloc ?_ _) | (with_reducible refine Ext.drewN ?_ _) | (with_reducible refine Ext.drew ?_) | (with_reducible refine Ext.setCell ?_ ?_ _; rotate_left; (simp only []; omega)) | (with_reducible refine Ext.trans ?_ (by assumption)))))
      clear cBG fBG zBG
      replace BG := BG.ext (show Ext _ w4 from (by repeat (first | (with_reducible exact Ext.refl _) | (with_reducible assumption) | (with_reducible refine Ext.alloc ?_ _) | (with_reducible refine Ext.drewN ?_ _) | (with_reducible refine Ext.drew ?_) | (with_reducible refine Ext.setCell ?_ ?_ _; rotate_left; (simp only []; omega)) | (with_reducible refine Ext.trans ?_ (by assumption)))))
      clear cBR fBR zBR
      replace BR := BR.ext (show Ext _ w4 from (by repeat (first | (with_reducible exact Ext.refl _) | (with_reducible assumption) | (with_reducible refine Ext.alloc ?_ _) | (with_reducible refine Ext.drewN ?_ _) | (with_reducible refine Ext.drew ?_) | (with_reducible refine Ext.setCell ?_ ?_ _; rotate_left; (simp only []; omega)) | (with_reducible refine Ext.trans ?_ (by assumption)))))
      replace XU := XU.ext (show Ext _ w4 from (by repeat (first | (with_reducible exact Ext.refl _) | (with_reducible assumption) | (with_reducible refine Ext.alloc ?_ _) | (with_reducible refine Ext.drewN ?_ _) | (with_reducible refine Ext.drew ?_) | (with_reducible refine Ext.setCell ?_ ?_ _; rotate_left; (simp only []; omega)) | (with_reducible refine Ext.trans ?_ (by assumption)))))
      have cBX := BX.cells
      have fBX := BX.frozens
      have zBX := BX.lt
      have cBG := BG.cells
      have fBG := BG.frozens
      have zBG := BG.lt
      have cBR := BR.cells
      have fBR := BR.frozens
      have zBR := BR.lt
      have lE := RE.lt
      go_wp2
      refine' bodyPost_ret (v := _) ?_ rfl ?_
      rotate_left
      · (simp only [results, Try.results69]
         go_simp
         rfl)
      refine ⟨ea, em, ec, a', m, c', rfl, ?_, ?_, (by repeat (first | (with_reducible exact Ext.refl _) | (with_reducible assumption) | (with_reducible refine Ext.alloc ?_ _) | (with_reducible refine Ext.drewN ?_ _) | (with_reducible refine Ext.drew ?_) | (with_reducible refine Ext.setCell ?_ ?_ _; rotate_left; (simp only []; omega)) | (with_reducible refine Ext.trans ?_ (by assumption))))⟩
      · refine Ow.rebase (base := wr.heap.size) ?_ (by omega)
        repeat (refine Ow.setC ?_ (fun x e => by have := (lE x e).1; simp only []; (try simp at this); omega) _)
        exact (RE.ow encM_len (by omega))
      · refine Ow.rebase (base := w.heap.size + 2) ?_ (by omega)
        repeat (refine Ow.setC ?_ (fun x e => by have := (OK.lt x e).1; have := lK x e; simp only []; omega) _)
        rw [hM, hP.out] at OK
        exact OK
theorem spec_TickGate_no (g : GateD) (now : Int) (ta : Option Addr) (tn tc : Nat) (ka : Option Addr) (kn kc : Nat) (w : World) (ht : Sl encM 4 w ta tn tc g.table) (hk : Sl encC 3 w ka kn kc g.cons) (hv : (validGate g && inR now g.now 10000) = false) :
    Calls Try.prog 22 #[.agg #[.int .i64 g.net.base, .int .i64 g.net.bits, .int .i64 g.out, .slice ta tn tc, .slice ka kn kc, .int .i64 g.filter, .int .i64 g.hold, .int .i64 g.now], .int .i64 now] w fun e w' => e = .returned (.tuple #[.agg #[.int .i64 0, .int .i64 0, .int .i64 0, .slice none 0 0, .slice none 0 0, .int .i64 0, .int .i64 0, .int .i64 0], .bool false]) ∧ Ext w w' := by
  have c1 := fun W h1 h2 => spec_validGate g ta tn tc ka kn kc W h1 h2
  cases hg : validGate g with
  | false =>
    rw [hg] at c1
    go_enter Try.func22, Try.ntmps22
    go_wp2_with (first | (go_at_call 42; refine (c1 _ (by exact ht.ext (by repeat (first | (with_reducible exact Ext.refl _) | (with_reducible assumption) | (with_reducible refine Ext.alloc ?_ _) | (with_reducible refine Ext.drewN ?_ _) | (with_reducible refine Ext.drew ?_) | (with_reducible refine Ext.setCell ?_ ?_ _; rotate_left; (simp only []; omega)) | (with_reducible refine Ext.trans ?_ (by assumption))))) (by exact hk.ext (by repeat (first | (with_reducible exact Ext.refl _) | (with_reducible assumption) | (with_reducible refine Ext.alloc ?_ _) | (with_reducible refine Ext.drewN ?_ _) | (with_reducible refine Ext.drew ?_) | (with_reducible refine Ext.setCell ?_ ?_ _; rotate_left; (simp only []; omega)) | (with_reducible refine Ext.trans ?_ (by assumption)))))).mono ?_; rintro e w1 ⟨rfl, hx⟩; have hc := hx.cells; have hf := hx.frozens; have hy := hx.size; (try simp at hy); have hz : w.heap.size < w1.heap.size ∧ w.heap.size + 1 < w1.heap.size := (by omega)))
    refine' bodyPost_ret (v := _) ?_ rfl ?_
    rotate_left
    · (simp only [results, Try.results22]
       go_simp
       rfl)
    exact ⟨rfl, (by repeat (first | (with_reducible exact Ext.refl _) | (with_reducible assumption) | (with_reducible refine Ext.alloc ?_ _) | (with_reducible refine Ext.drewN ?_ _) | (with_reducible refine Ext.drew ?_) | (with_reducible refine Ext.setCell ?_ ?_ _; rotate_left; (simp only []; omega)) | (with_reducible refine Ext.trans ?_ (by assumption))))⟩
  | true =>
    have c2 := fun W => spec_inRange now g.now 10000 W
    have hi : inR now g.now 10000 = false := by simpa [hg] using hv
    rw [hg] at c1
    rw [hi] at c2
    go_enter Try.func22, Try.ntmps22
    go_wp2_with (first | (go_at_call 42; refine (c1 _ (by exact ht.ext (by repeat (first | (with_reducible exact Ext.refl _) | (with_reducible assumption) | (with_reducible refine Ext.alloc ?_ _) | (with_reducible refine Ext.drewN ?_ _) | (with_reducible refine Ext.drew ?_) | (with_reducible refine Ext.setCell ?_ ?_ _; rotate_left; (simp only []; omega)) | (with_reducible refine Ext.trans ?_ (by assumption))))) (by exact hk.ext (by repeat (first | (with_reducible exact Ext.refl _) | (with_reducible assumption) | (with_reducible refine Ext.alloc ?_ _) | (with_reducible refine Ext.drewN ?_ _) | (with_reducible refine Ext.drew ?_) | (with_reducible refine Ext.setCell ?_ ?_ _; rotate_left; (simp only []; omega)) | (with_reducible refine Ext.trans ?_ (by assumption)))))).mono ?_; rintro e w1 ⟨rfl, hx⟩; have hc := hx.cells; have hf := hx.frozens; have hy := hx.size; (try simp at hy); have hz : w.heap.size < w1.heap.size ∧ w.heap.size + 1 < w1.heap.size := (by omega)) | (go_at_call 68; refine (c2 _).mono ?_; rintro e w' ⟨rfl, rfl⟩))
    refine' bodyPost_ret (v := _) ?_ rfl ?_
    rotate_left
    · (simp only [results, Try.results22]
       go_simp
       rfl)
    exact ⟨rfl, (by repeat (first | (with_reducible exact Ext.refl _) | (with_reducible assumption) | (with_reducible refine Ext.alloc ?_ _) | (with_reducible refine Ext.drewN ?_ _) | (with_reducible refine Ext.drew ?_) | (with_reducible refine Ext.setCell ?_ ?_ _; rotate_left; (simp only []; omega)) | (with_reducible refine Ext.trans ?_ (by assumption))))⟩
set_option maxHeartbeats 1000000 in
theorem spec_TickGate_ok (g : GateD) (now : Int) (ta : Option Addr) (tn tc : Nat) (ka : Option Addr) (kn kc : Nat) (w : World) (ht : Sl encM 4 w ta tn tc g.table) (hk : Sl encC 3 w ka kn kc g.cons) (hv : (validGate g && inR now g.now 10000) = true) :
    Calls Try.prog 22 #[.agg #[.int .i64 g.net.base, .int .i64 g.net.bits, .int .i64 g.out, .slice ta tn tc, .slice ka kn kc, .int .i64 g.filter, .int .i64 g.hold, .int .i64 g.now], .int .i64 now] w fun e w' => ∃ sa sn sc qa qn qc, e = .returned (.tuple #[.agg #[.int .i64 (tick g now).net.base, .int .i64 (tick g now).net.bits, .int .i64 (tick g now).out, .slice sa sn sc, .slice qa qn qc, .int .i64 (tick g now).filter, .int .i64 (tick g now).hold, .int .i64 (tick g now).now], .bool true]) ∧ Ow 102 encM 4 w.heap.size w' sa sn sc (tick g now).table ∧
      Ow 115 encC 3 w.heap.size w' qa qn qc (tick g now).cons ∧ Ext w w' := by
  have c1 := fun W h1 h2 => spec_validGate g ta tn tc ka kn kc W h1 h2
  have c2 := fun W => spec_inRange now g.now 10000 W
  simp only [Bool.and_eq_true] at hv
  rw [hv.1] at c1
  rw [hv.2] at c2
  have hg := Lib.hid (validGate_iff.1 hv.1)
  have h0 := (inR_iff.1 hv.2).1
  have h1 := (inR_iff.1 hv.2).2
  obtain ⟨G, hG⟩ : ∃ G, G = tick g now := ⟨_, rfl⟩
  go_enter Try.func22, Try.ntmps22
  go_wp2_with fail
  refine (c1 _ (by exact ht.ext (by repeat (first | (with_reducible exact Ext.refl _) | (with_reducible assumption) | (with_reducible refine Ext.alloc ?_ _) | (with_reducible refine Ext.drewN ?_ _) | (with_reducible refine Ext.drew ?_) | (with_reducible refine Ext.setCell ?_ ?_ _; rotate_left; (simp only []; omega)) | (with_reducible refine Ext.trans ?_ (by assumption))))) (by exact hk.ext (by repeat (first | (with_reducible exact Ext.refl _) | (with_reducible assumption) | (with_reducible refine Ext.alloc ?_ _) | (with_reducible refine Ext.drewN ?_ _) | (with_reducible refine Ext.drew ?_) | (with_reducible refine Ext.setCell ?_ ?_ _; rotate_left; (simp only []; omega)) | (with_reducible refine Ext.trans ?_ (by assumption)))))).mono ?_
  rintro e w1 ⟨rfl, hx1⟩
  have hy1 := hx1.size
  (try simp at hy1)
  replace ht := ht.ext (show Ext _ w1 from (by repeat (first | (with_reducible exact Ext.refl _) | (with_reducible assumption) | (with_reducible refine Ext.alloc ?_ _) | (with_reducible refine Ext.drewN ?_ _) | (with_reducible refine Ext.drew ?_) | (with_reducible refine Ext.setCell ?_ ?_ _; rotate_left; (simp only []; omega)) | (with_reducible refine Ext.trans ?_ (by assumption)))))
  replace hk := hk.ext (show Ext _ w1 from (by repeat (first | (with_reducible exact Ext.refl _) | (with_reducible assumption) | (with_reducible refine Ext.alloc ?_ _) | (with_reducible refine Ext.drewN ?_ _) | (with_reducible refine Ext.drew ?_) | (with_reducible refine Ext.setCell ?_ ?_ _; rotate_left; (simp only []; omega)) | (with_reducible refine Ext.trans ?_ (by assumption)))))
  have BG : Blk w1 w.heap.size 40 (#[.int .i64 g.net.base, .int .i64 g.net.bits, .int .i64 g.out, .slice ta tn tc, .slice ka kn kc, .int .i64 g.filter, .int .i64 g.hold, .int .i64 g.now]) := by refine Blk.ext ?_ hx1; exact (by repeat (first | (with_reducible assumption) | (with_reducible exact Blk.new _ _ _) | exact Blk.newAt _ _ _ (by simp) | (with_reducible refine Blk.alloc ?_ _) | (with_reducible refine Blk.drew ?_) | (with_reducible refine Blk.drewN ?_ _) | refine Blk.far ?_ (by simp only []; omega) _ | refine Blk.rext ?_ (by assumption) (by omega) | refine Blk.ext ?_ (by assumption)))
  have BR : Blk w1 (w.heap.size+1) 40 #[.int .i64 0, .int .i64 0, .int .i64 0, .slice none 0 0, .slice none 0 0, .int .i64 0, .int .i64 0, .int .i64 0] := by refine Blk.ext ?_ hx1; exact (by repeat (first | (with_reducible assumption) | (with_reducible exact Blk.new _ _ _) | exact Blk.newAt _ _ _ (by simp) | (with_reducible refine Blk.alloc ?_ _) | (with_reducible refine Blk.drew ?_) | (with_reducible refine Blk.drewN ?_ _) | refine Blk.far ?_ (by simp only []; omega) _ | refine Blk.rext ?_ (by assumption) (by omega) | refine Blk.ext ?_ (by assumption)))
  have cBG := BG.cells
  have fBG := BG.frozens
  have zBG := BG.lt
  have cBR := BR.cells
  have fBR := BR.frozens
  have zBR := BR.lt
  have X1 : Ext w w1 := (by repeat (first | (with_reducible exact Ext.refl _) | (with_reducible assumption) | (with_reducible refine Ext.alloc ?_ _) | (with_reducible refine Ext.drewN ?_ _) | (with_reducible refine Ext.drew ?_) | (with_reducible refine Ext.setCell ?_ ?_ _; rotate_left; (simp only []; omega)) | (with_reducible refine Ext.trans ?_ (by assumption))))
  go_wp2_with (go_at_call 68; refine (c2 _).mono ?_; rintro e w' ⟨rfl, rfl⟩)
  refine (spec_tick g now ta tn tc ka kn kc _ (by exact ht.ext (by repeat (first | (with_reducible exact Ext.refl _) | (with_reducible assumption) | (with_reducible refine Ext.alloc ?_ _) | (with_reducible refine Ext.drewN ?_ _) | (with_reducible refine Ext.drew ?_) | (with_reducible refine Ext.setCell ?_ ?_ _; rotate_left; (simp only []; omega)) | (with_reducible refine Ext.trans ?_ (by assumption))))) (by exact hk.ext (by repeat (first | (with_reducible exact Ext.refl _) | (with_reducible assumption) | (with_reducible refine Ext.alloc ?_ _) | (with_reducible refine Ext.drewN ?_ _) | (with_reducible refine Ext.drew ?_) | (with_reducible refine Ext.setCell ?_ ?_ _; rotate_left; (simp only []; omega)) | (with_reducible refine Ext.trans ?_ (by assumption))))) hg.out h0 h1).mono ?_
  rintro e w3 ⟨sa, sn, sc, qa, qn, qc, rfl, OM, OC, hx3⟩
  have hy3 := hx3.size
  have lM := OM.lt
  have lC := OC.lt
  (try simp at hy3)
  have X3 : Ext w w3 := (by repeat (first | (with_reducible exact Ext.refl _) | (with_reducible assumption) | (with_reducible refine Ext.alloc ?_ _) | (with_reducible refine Ext.drewN ?_ _) | (with_reducible refine Ext.drew ?_) | (with_reducible refine Ext.setCell ?_ ?_ _; rotate_left; (simp only []; omega)) | (with_reducible refine Ext.trans ?_ (by assumption))))
  replace BR := BR.ext (show Ext w1 w3 from (by repeat (first | (with_reducible exact Ext.refl _) | (with_reducible assumption) | (with_reducible refine Ext.alloc ?_ _) | (with_reducible refine Ext.drewN ?_ _) | (with_reducible refine Ext.drew ?_) | (with_reducible refine Ext.setCell ?_ ?_ _; rotate_left; (simp only []; omega)) | (with_reducible refine Ext.trans ?_ (by assumption)))))
  clear cBR cBG fBR fBG zBR
  have cBR := BR.cells
  have fBR := BR.frozens
  have zBR := BR.lt
  have zw : w.heap.size + 1 < w1.heap.size := by (try simp at hy1); omega
  go_wp2
  refine' bodyPost_ret (v := _) ?_ rfl ?_
  rotate_left
  · (simp only [results, Try.results22]
     go_simp
     rfl)
  refine ⟨sa, sn, sc, qa, qn, qc, rfl, ?_, ?_, (by repeat (first | (with_reducible exact Ext.refl _) | (with_reducible assumption) | (with_reducible refine Ext.alloc ?_ _) | (with_reducible refine Ext.drewN ?_ _) | (with_reducible refine Ext.drew ?_) | (with_reducible refine Ext.setCell ?_ ?_ _; rotate_left; (simp only []; omega)) | (with_reducible refine Ext.trans ?_ (by assumption))))⟩
  · refine Ow.rebase (base := w1.heap.size) ?_ (by omega)
    repeat (refine Ow.setC ?_ (fun x e => by have := (lM x e).1; simp only []; (try simp at this); omega) _)
    exact OM
  · refine Ow.rebase (base := w1.heap.size) ?_ (by omega)
    repeat (refine Ow.setC ?_ (fun x e => by have := (lC x e).1; simp only []; (try simp at this); omega) _)
    exact OC
end Go.Proofs.Ytafmomocmodbhaa
/- Plain laws of the gate, one for each statement on sending, receiving, passing, forwarding, reports. No program in sight. No condition. -/
namespace Go.Proofs.Ytafmomocmodbhaa
set_option linter.unusedVariables false
set_option linter.unusedSimpArgs false

theorem sendOut_some {g : GateD} {p : PktD} {r : PktD × GateD} (h : sendOut g p = some r) :
    VGate g ∧ validPkt p = true ∧ has g.net p.fr.addr = true ∧ has g.net p.to_.addr = false ∧ p.to_.addr ≠ g.out ∧ send g p = some r := by
  unfold sendOut at h
  split at h
  case isTrue hc =>
    simp only [goesOut, fromIn, Bool.and_eq_true, Bool.not_eq_true', decide_eq_false_iff_not, validGate_iff] at hc
    obtain ⟨⟨⟨⟨a, b⟩, c⟩, d⟩, e⟩ := hc
    exact ⟨a, b, c, d, e, h⟩
  case isFalse => cases h
theorem sendOut_of {g : GateD} {p : PktD} (a : VGate g) (b : validPkt p = true) (c : has g.net p.fr.addr = true) (d : has g.net p.to_.addr = false) (e : p.to_.addr ≠ g.out) : sendOut g p = send g p := by
  unfold sendOut
  rw [if_pos]
  simp only [goesOut, fromIn, Bool.and_eq_true, Bool.not_eq_true', decide_eq_false_iff_not, validGate_iff]
  exact ⟨⟨⟨⟨a, b⟩, c⟩, d⟩, e⟩
theorem receiveIn_some {g : GateD} {p : PktD} {r : PktD × GateD} (h : receiveIn g p = some r) :
    VGate g ∧ validPkt p = true ∧ p.to_.addr = g.out ∧ has g.net p.fr.addr = false ∧ receive g p = some r := by
  unfold receiveIn at h
  split at h
  case isTrue hc =>
    simp only [comesIn, Bool.and_eq_true, Bool.not_eq_true', decide_eq_true_eq, validGate_iff] at hc
    obtain ⟨⟨⟨a, b⟩, c⟩, d⟩ := hc
    exact ⟨a, b, c, d, h⟩
  case isFalse => cases h
theorem receiveIn_of {g : GateD} {p : PktD} (a : VGate g) (b : validPkt p = true) (c : p.to_.addr = g.out) (d : has g.net p.fr.addr = false) : receiveIn g p = receive g p := by
  unfold receiveIn
  rw [if_pos]
  simp only [comesIn, Bool.and_eq_true, Bool.not_eq_true', decide_eq_true_eq, validGate_iff]
  exact ⟨⟨⟨a, b⟩, c⟩, d⟩
theorem receive_some {g h : GateD} {p q : PktD} (e : receive g p = some (q, h)) :
    ∃ m, m ∈ g.table ∧ m.port = p.to_.port ∧ lets g.filter g.cons p.to_.port p.fr = true ∧ q = { p with to_ := m.ins } ∧ h = g := by
  unfold receive at e
  split at e
  case isTrue hc =>
    rw [Bool.and_eq_true, decide_eq_true_eq] at hc
    obtain ⟨k, m, _, b2, b3, b4⟩ := byPort_some hc.1
    rw [b4] at e
    simp only [Option.some.injEq, Prod.mk.injEq] at e
    exact ⟨m, List.mem_of_getElem? b2, b3, hc.2, e.1.symm, e.2.symm⟩
  case isFalse => cases e
theorem receive_of {g : GateD} {p : PktD} (hg : validTable g.table = true) {m : MapD} (hm : m ∈ g.table) (hp : m.port = p.to_.port) (hl : lets g.filter g.cons p.to_.port p.fr = true) :
    receive g p = some ({ p with to_ := m.ins }, g) := by
  unfold receive
  have h0 := byPort_mem hm
  rw [hp] at h0
  rw [hl, if_pos (by simpa using h0)]
  obtain ⟨k, m', _, b2, b3, b4⟩ := byPort_some h0
  rw [b4]
  rw [table_one' hg (List.mem_of_getElem? b2) hm (b3.trans hp.symm)]
theorem passBetween_some {g : GateD} {p : PktD} {r : PktD × GateD} (h : passBetween g p = some r) :
    VGate g ∧ validPkt p = true ∧ has g.net p.fr.addr = true ∧ p.to_.addr = g.out ∧ ∃ q1 h1, send g p = some (q1, h1) ∧ receive h1 q1 = some r := by
  unfold passBetween at h
  split at h
  case isTrue hc =>
    simp only [between, fromIn, Bool.and_eq_true, decide_eq_true_eq, validGate_iff] at hc
    obtain ⟨⟨⟨a, b⟩, c⟩, d⟩ := hc
    cases hs : send g p with
    | none => rw [hs] at h; cases h
    | some x =>
      obtain ⟨q1, h1⟩ := x
      rw [hs] at h
      exact ⟨a, b, c, d, q1, h1, rfl, h⟩
  case isFalse => cases h
theorem passBetween_of {g : GateD} {p : PktD} {q1 : PktD} {h1 : GateD} (a : VGate g) (b : validPkt p = true) (c : has g.net p.fr.addr = true) (d : p.to_.addr = g.out) (e : send g p = some (q1, h1)) : passBetween g p = receive h1 q1 := by
  unfold passBetween
  rw [if_pos, e]
  simp only [between, fromIn, Bool.and_eq_true, decide_eq_true_eq, validGate_iff]
  exact ⟨⟨⟨a, b⟩, c⟩, d⟩
theorem reverse_of {p : PktD} (h : validPkt p = true) : reverse p = some { p with fr := p.to_, to_ := p.fr } := by unfold reverse; rw [if_pos h]
theorem validPkt_rev {p : PktD} (h : validPkt p = true) : validPkt { p with fr := p.to_, to_ := p.fr } = true := by
  obtain ⟨a, b, c, d, e⟩ := validPkt_iff.1 h
  exact validPkt_iff.2 ⟨a, c, b, d, e⟩
theorem validPkt_to {p : PktD} (h : validPkt p = true) {e : EndD} (he : validEnd e = true) : validPkt { p with to_ := e } = true := by
  obtain ⟨a, b, c, d, f⟩ := validPkt_iff.1 h
  exact validPkt_iff.2 ⟨a, b, he, d, f⟩
theorem validPkt_cut {p : PktD} (h : validPkt p = true) : validPkt { p with data := p.data.take 4 } = true := by
  obtain ⟨a, b, c, d, e⟩ := validPkt_iff.1 h
  refine validPkt_iff.2 ⟨a, b, c, by simp only [List.length_take]; omega, ?_⟩
  rw [List.all_eq_true] at e ⊢
  exact fun x hx => e x (List.mem_of_mem_take hx)
theorem table_end {l : List MapD} (hl : validTable l = true) {m : MapD} (hm : m ∈ l) : validEnd m.ins = true := by
  have := (validTable_iff.1 hl).1 m hm
  simp only [okMap, Bool.and_eq_true] at this
  exact this.1.1
theorem lets_mem {k : Int} {l : List ConD} {c : ConD} (h : c ∈ l) : lets k l c.port c.to_ = true := by
  unfold lets
  rw [Bool.or_eq_true, List.any_eq_true]
  exact .inr ⟨c, h, by simp⟩
/-- An end that is mapped sends by its port. -/
theorem send_known {g : GateD} {p : PktD} (hg : VGate g) {m : MapD} (hm : m ∈ g.table) (he : m.ins = p.fr) :
    ∃ t, send g p = some ({ p with fr := ⟨g.out, m.port⟩ }, { g with table := t, cons := note g.cons ⟨m.port, p.to_⟩ }) := by
  obtain ⟨i, hi⟩ := List.getElem?_of_mem hm
  have h1 := byEnd_of hg.tab hi
  rw [he] at h1
  unfold send mapEnd
  rw [if_pos (by omega), h1, Int.toNat_natCast, nth_of hi]
  exact ⟨_, rfl⟩

/-- FnSendOut -/
theorem law_send {g h : GateD} {p q : PktD} (e : sendOut g p = some (q, h)) :
    q.fr.addr = g.out ∧ outsidePort h.table p.fr = q.fr.port ∧ q.to_ = p.to_ ∧ q.kind = p.kind ∧ q.data = p.data ∧ validGate h = true := by
  obtain ⟨a, b, c, _, _, s⟩ := sendOut_some e
  have S := send_ok a b c s
  refine ⟨?_, S.mapped.out, ?_, ?_, ?_, validGate_iff.2 S.valid⟩ <;> rw [S.pkt]
/-- FnSendOutTwice -/
theorem law_sendTwice {g h : GateD} {p q : PktD} (e : sendOut g p = some (q, h)) : sendOut h p = some (q, h) := by
  obtain ⟨a, b, c, d, f, s⟩ := sendOut_some e
  have S := send_ok a b c s
  have hn : h.net = g.net := by rw [S.same]
  have ho : h.out = g.out := by rw [S.same]
  rw [sendOut_of S.valid b (by rw [hn]; exact c) (by rw [hn]; exact d) (by rw [ho]; exact f)]
  exact S.again
/-- FnSendOutEnds -/
theorem law_sendEnds {g h h' : GateD} {p q o : PktD} {x : EndD} (e : sendOut g p = some (q, h)) (hx : x ≠ p.fr) (e' : sendOut h { p with fr := x } = some (o, h')) : o.fr.port ≠ q.fr.port ∧ o.fr.addr = q.fr.addr := by
  obtain ⟨a, b, c, _, _, s⟩ := sendOut_some e
  have S := send_ok a b c s
  obtain ⟨a', b', c', _, _, s'⟩ := sendOut_some e'
  have S' := send_ok a' b' c' s'
  have ho : h.out = g.out := by rw [S.same]
  refine ⟨fun ep => ?_, ?_⟩
  · obtain ⟨k, hk⟩ := S.mapped.at_
    obtain ⟨m, hm, m1, m2⟩ := S'.mapped.all _ (List.mem_of_getElem? hk)
    obtain ⟨k', hk'⟩ := S'.mapped.at_
    have := table_one' S'.mapped.valid hm (List.mem_of_getElem? hk') (by rw [m1]; exact ep.symm)
    rw [this] at m2
    exact hx m2
  · rw [S'.pkt, S.pkt, ho]
/-- FnSendOutAnswer -/
theorem law_sendAnswer {g h : GateD} {p q : PktD} (e : sendOut g p = some (q, h)) :
    ∃ b i, reverse q = some b ∧ receiveIn h b = some (i, h) ∧ reverse i = some p := by
  obtain ⟨a, b, c, d, f, s⟩ := sendOut_some e
  have S := send_ok a b c s
  have hn : h.net = g.net := by rw [S.same]
  have ho : h.out = g.out := by rw [S.same]
  have hqf : q.fr = ⟨g.out, q.fr.port⟩ := congrArg PktD.fr S.pkt
  have hqt : q.to_ = p.to_ := by rw [S.pkt]
  obtain ⟨k, hk⟩ := S.mapped.at_
  have hv := validPkt_rev S.validq
  refine ⟨_, _, reverse_of S.validq, (receiveIn_of S.valid hv ?_ ?_).trans (receive_of S.valid.tab (List.mem_of_getElem? hk) rfl ?_), ?_⟩
  · show q.fr.addr = h.out
    rw [hqf, ho]
  · show has h.net q.to_.addr = false
    rw [hn, hqt]; exact d
  · show lets h.filter h.cons q.fr.port q.to_ = true
    refine lets_mem (c := ⟨q.fr.port, q.to_⟩) ?_
    rw [S.cons, hqt]
    exact note_mem _ _
  · rw [reverse_of (validPkt_to hv (validPkt_iff.1 b).2.1)]
    simp only [Option.some.injEq]
    rw [S.pkt]
/-- FnSendOutContact -/
theorem law_sendContact {g h : GateD} {p q : PktD} (e : sendOut g p = some (q, h)) : 0 < h.cons.length ∧ nth h.cons (h.cons.length - 1) = ⟨q.fr.port, p.to_⟩ ∧ h.cons.length ≤ 10 := by
  obtain ⟨a, b, c, _, _, s⟩ := sendOut_some e
  have S := send_ok a b c s
  rw [S.cons]
  exact ⟨(note_len _ _).1, note_last _ _, (note_len _ _).2⟩
/-- FnSendOutFull -/
theorem law_sendFull {g : GateD} {p : PktD} (hw : wayOf g p = 1) : (sendOut g p).isSome = (decide (0 ≤ outsidePort g.table p.fr) || decide (g.table.length < 8)) := by
  unfold wayOf at hw
  split at hw
  case isFalse => cases hw
  case isTrue hv =>
    rw [Bool.and_eq_true, validGate_iff] at hv
    obtain ⟨a, b⟩ := hv
    unfold way at hw
    split at hw
    · cases hw
    case isFalse h1 =>
      split at hw
      case isFalse => split at hw <;> cases hw
      case isTrue h2 =>
        simp only [Bool.and_eq_true, Bool.not_eq_true', decide_eq_true_eq, not_and] at h1 h2
        rw [sendOut_of a b h2.1 h2.2 (h1 h2.1)]
        have hn := send_none (p := p) a
        have hout : 0 ≤ outsidePort g.table p.fr ↔ 0 ≤ byEnd g.table p.fr := by
          constructor
          · intro h
            unfold outsidePort at h
            split at h
            case isTrue hc => rw [Bool.and_eq_true, decide_eq_true_eq] at hc; exact hc.2
            case isFalse => omega
          · intro h
            obtain ⟨k, m, _, b2, b3, _⟩ := byEnd_some h
            have hm : m ∈ g.table := List.mem_of_getElem? b2
            rw [← b3, outsidePort_mem a.tab hm]
            have := (validTable_iff.1 a.tab).1 m hm
            simp only [okMap, Bool.and_eq_true, inR_iff] at this
            omega
        cases hs : send g p with
        | none =>
          have := hn.1 hs
          simp [hout, this.1, this.2]
        | some r =>
          rw [hs] at hn
          have : 0 ≤ byEnd g.table p.fr ∨ g.table.length < 8 := by
            apply Classical.byContradiction
            intro hc
            rw [not_or] at hc
            exact absurd (hn.2 hc) (by simp)
          rcases this with h | h
          · simp [hout, h]
          · simp [h]
/-- FnSendOutTick -/
theorem law_sendTick {g h : GateD} {p q : PktD} (e : sendOut g p = some (q, h)) (hh : g.now + g.hold ≤ 10000) :
    tickGate h (g.now + g.hold - 1) = some (tick h (g.now + g.hold - 1)) ∧ tickGate h (g.now + g.hold) = some (tick h (g.now + g.hold)) ∧
      outsidePort (tick h (g.now + g.hold - 1)).table p.fr = q.fr.port ∧ outsidePort (tick h (g.now + g.hold)).table p.fr = -1 := by
  obtain ⟨a, b, c, _, _, s⟩ := sendOut_some e
  have S := send_ok a b c s
  have hn : h.now = g.now := by rw [S.same]
  have hd : h.hold = g.hold := by rw [S.same]
  have := a.hold0
  have := a.hold1
  have hv := validGate_iff.2 S.valid
  obtain ⟨k, hk⟩ := S.mapped.at_
  have hm := List.mem_of_getElem? hk
  refine ⟨?_, ?_, ?_, ?_⟩
  · unfold tickGate; rw [hv, inR_t (by omega) (by omega)]; rfl
  · unfold tickGate; rw [hv, inR_t (by omega) (by omega)]; rfl
  · have h1 : (⟨p.fr, q.fr.port, g.now⟩ : MapD) ∈ (tick h (g.now + g.hold - 1)).table := by
      simp only [tick]
      exact mem_expire.2 ⟨hm, by simp only [hd]; omega⟩
    exact outsidePort_mem (tick_valid S.valid (by omega) (by omega)).tab h1
  · refine outsidePort_none fun m hm' he => ?_
    simp only [tick] at hm'
    obtain ⟨m1, m2⟩ := mem_expire.1 hm'
    have := table_one S.mapped.valid m1 hm he
    rw [this] at m2
    simp only [hd] at m2
    omega
/-- FnReceiveIn -/
theorem law_receive {g h : GateD} {p q : PktD} (e : receiveIn g p = some (q, h)) :
    insideEnd g.table p.to_.port = some q.to_ ∧ q.fr = p.fr ∧ q.kind = p.kind ∧ q.data = p.data ∧ h = g ∧ validNet g.net = true ∧ word q.to_.addr = true ∧ has g.net q.to_.addr = true := by
  obtain ⟨a, b, c, d, r⟩ := receiveIn_some e
  obtain ⟨m, m1, m2, m3, rfl, rfl⟩ := receive_some r
  have h1 := table_end a.tab m1
  simp only [validEnd, Bool.and_eq_true] at h1
  exact ⟨by rw [← m2]; exact insideEnd_mem a.tab m1, rfl, rfl, rfl, rfl, a.net, h1.1, (a.maps m m1).1⟩
/-- FnReceiveInAnswer -/
theorem law_receiveAnswer {g h : GateD} {p q : PktD} (e : receiveIn g p = some (q, h)) (hne : p.fr.addr ≠ g.out) :
    ∃ b o k, reverse q = some b ∧ sendOut h b = some (o, k) ∧ o.fr = p.to_ ∧ o.to_ = p.fr := by
  obtain ⟨a, b, c, d, r⟩ := receiveIn_some e
  obtain ⟨m, m1, m2, m3, rfl, rfl⟩ := receive_some r
  have hv := validPkt_to b (table_end a.tab m1)
  obtain ⟨t, ht⟩ := send_known (p := { p with fr := m.ins, to_ := p.fr }) a m1 rfl
  refine ⟨_, _, _, reverse_of hv, (sendOut_of a (validPkt_rev hv) (a.maps m m1).1 d hne).trans ht, ?_, rfl⟩
  show (⟨h.out, m.port⟩ : EndD) = p.to_
  rw [m2, ← c]
/-- FnReceiveInFilter -/
theorem law_receiveFilter {g h : GateD} {p q : PktD} (e : receiveIn g p = some (q, h)) :
    receiveIn { g with filter := 0 } p = some (q, { g with filter := 0 }) ∧ letsIn g.filter g.cons p.to_.port p.fr = true := by
  obtain ⟨a, b, c, d, r⟩ := receiveIn_some e
  obtain ⟨m, m1, m2, m3, rfl, rfl⟩ := receive_some r
  have a' : VGate { h with filter := 0 } := ⟨a.net, a.out, a.nin, a.tab, a.con, rfl, a.now0, a.now1, a.hold0, a.hold1, a.maps, a.cons⟩
  refine ⟨(receiveIn_of a' b c d).trans (receive_of a'.tab m1 m2 (by simp [lets])), ?_⟩
  unfold letsIn
  rw [a.fil, a.con, m3]; rfl
/-- FnReceiveInNone -/
theorem law_receiveNone {g : GateD} {p : PktD} (hw : wayOf g p = 2) :
    (receiveIn g p).isSome = ((insideEnd g.table p.to_.port).isSome && letsIn g.filter g.cons p.to_.port p.fr) := by
  unfold wayOf at hw
  split at hw
  case isFalse => cases hw
  case isTrue hv =>
    rw [Bool.and_eq_true, validGate_iff] at hv
    obtain ⟨a, b⟩ := hv
    unfold way at hw
    split at hw
    · cases hw
    · split at hw
      · cases hw
      · split at hw
        case isFalse => cases hw
        case isTrue h3 =>
          simp only [Bool.and_eq_true, Bool.not_eq_true', decide_eq_true_eq] at h3
          rw [receiveIn_of a b h3.2 h3.1]
          unfold receive insideEnd letsIn
          rw [a.tab, a.fil, a.con]
          by_cases h4 : 0 ≤ byPort g.table p.to_.port
          · cases h5 : lets g.filter g.cons p.to_.port p.fr <;> simp [h4]
          · simp [h4]
/-- FnPassBetween, FnPassBetweenSend -/
theorem law_pass {g h : GateD} {p q : PktD} (e : passBetween g p = some (q, h)) :
    insideEnd h.table p.to_.port = some q.to_ ∧ q.fr = ⟨g.out, outsidePort h.table p.fr⟩ ∧ q.data = p.data ∧ q.kind = p.kind ∧ validGate h = true ∧ validPkt q = true ∧ h.table.length ≤ g.table.length + 1 ∧ wayOf g p = 3 := by
  obtain ⟨a, b, c, d, q1, h1, s, r⟩ := passBetween_some e
  have S := send_ok a b c s
  obtain ⟨m, m1, m2, m3, rfl, rfl⟩ := receive_some r
  have e1 : q1.to_ = p.to_ := by rw [S.pkt]
  have e2 : q1.fr = ⟨g.out, q1.fr.port⟩ := congrArg PktD.fr S.pkt
  refine ⟨?_, ?_, ?_, ?_, validGate_iff.2 S.valid, validPkt_to S.validq (table_end S.valid.tab m1), S.mapped.len1, ?_⟩
  · rw [← e1, ← m2]; exact insideEnd_mem S.valid.tab m1
  · rw [S.mapped.out]; exact e2
  · show q1.data = p.data
    rw [S.pkt]
  · show q1.kind = p.kind
    rw [S.pkt]
  · unfold wayOf way
    rw [validGate_iff.2 a, b, c]
    simp [d]
/-- FnPassBetweenBack -/
theorem law_passBack {g h : GateD} {p q : PktD} (e : passBetween g p = some (q, h)) :
    ∃ b o k, reverse q = some b ∧ passBetween { h with filter := 0 } b = some (o, k) ∧ o.fr = p.to_ ∧ o.to_ = p.fr := by
  obtain ⟨a, b, c, d, q1, h1, s, r⟩ := passBetween_some e
  have S := send_ok a b c s
  obtain ⟨m, m1, m2, m3, rfl, rfl⟩ := receive_some r
  have e1 : q1.to_ = p.to_ := by rw [S.pkt]
  have e2 : q1.fr = ⟨g.out, q1.fr.port⟩ := congrArg PktD.fr S.pkt
  have ho : h.out = g.out := by rw [S.same]
  have hn : h.net = g.net := by rw [S.same]
  have a' : VGate { h with filter := 0 } := ⟨S.valid.net, S.valid.out, S.valid.nin, S.valid.tab, S.valid.con, rfl, S.valid.now0, S.valid.now1, S.valid.hold0, S.valid.hold1, S.valid.maps, S.valid.cons⟩
  have hv := validPkt_to S.validq (table_end S.valid.tab m1)
  obtain ⟨t, ht⟩ := send_known (g := { h with filter := 0 }) (p := { q1 with fr := m.ins, to_ := q1.fr }) a' m1 rfl
  have S' := send_ok a' (validPkt_rev hv) (S.valid.maps m m1).1 ht
  obtain ⟨k, hk⟩ := S.mapped.at_
  obtain ⟨m', n1, n2, n3⟩ := S'.mapped.all _ (List.mem_of_getElem? hk)
  refine ⟨_, _, _, reverse_of hv, (passBetween_of a' (validPkt_rev hv) (S.valid.maps m m1).1 (by show q1.fr.addr = h.out; rw [e2, ho]) ht).trans (receive_of S'.valid.tab n1 n2 ?_), ?_, n3⟩
  · simp [lets]
  · show (⟨h.out, m.port⟩ : EndD) = p.to_
    rw [m2, e1, ho, ← d]
/-- FnForwardTwice -/
theorem law_forwardTwice {g h : GateD} {p q : PktD} (e : forward g p = some (q, h)) : forward h p = some (q, h) := by
  unfold forward at e
  have way_same : ∀ {h : GateD}, VGate h → VGate g → h.net = g.net → h.out = g.out → wayOf h p = wayOf g p := by
    intro h a b c d
    unfold wayOf way
    rw [validGate_iff.2 a, validGate_iff.2 b, c, d]
  split at e
  case isTrue h1 =>
    have hv : (validGate g && validPkt p) = true := by
      unfold wayOf at h1
      split at h1
      · assumption
      · cases h1
    rw [Bool.and_eq_true, validGate_iff] at hv
    have hin : has g.net p.fr.addr = true := by
      unfold wayOf way at h1
      rw [validGate_iff.2 hv.1, hv.2] at h1
      cases hc : has g.net p.fr.addr with
      | true => rfl
      | false => rw [hc] at h1; simp at h1; split at h1 <;> cases h1
    have S := send_ok hv.1 hv.2 hin e
    unfold forward
    rw [way_same S.valid hv.1 (by rw [S.same]) (by rw [S.same]), if_pos h1]
    exact S.again
  case isFalse h1 =>
    split at e
    case isTrue h2 =>
      obtain ⟨m, m1, m2, m3, rfl, rfl⟩ := receive_some e
      unfold forward
      rw [if_neg h1, if_pos h2]
      exact e
    case isFalse h2 =>
      split at e
      case isTrue h3 =>
        obtain ⟨a, b, c, d, q1, h1', s, r⟩ := passBetween_some e
        have S := send_ok a b c s
        obtain ⟨m, m1, m2, m3, rfl, rfl⟩ := receive_some r
        unfold forward
        have hw := way_same S.valid a (by rw [S.same]) (by rw [S.same])
        rw [hw, if_neg h1, if_neg h2, if_pos h3]
        rw [passBetween_of S.valid b (by rw [show h.net = g.net by rw [S.same]]; exact c) (by rw [show h.out = g.out by rw [S.same]]; exact d) S.again]
        exact r
      case isFalse => cases e
/-- The three ways of a packet. -/
theorem wayOf_one {g : GateD} {p : PktD} (h : wayOf g p = 1) : VGate g ∧ validPkt p = true ∧ has g.net p.fr.addr = true ∧ has g.net p.to_.addr = false ∧ p.to_.addr ≠ g.out := by
  unfold wayOf at h
  split at h
  case isFalse => cases h
  case isTrue hv =>
    rw [Bool.and_eq_true, validGate_iff] at hv
    unfold way at h
    split at h
    · cases h
    case isFalse h1 =>
      split at h
      case isFalse => split at h <;> cases h
      case isTrue h2 =>
        simp only [Bool.and_eq_true, Bool.not_eq_true', decide_eq_true_eq, not_and] at h1 h2
        exact ⟨hv.1, hv.2, h2.1, h2.2, h1 h2.1⟩
theorem wayOf_two {g : GateD} {p : PktD} (h : wayOf g p = 2) : VGate g ∧ validPkt p = true ∧ p.to_.addr = g.out ∧ has g.net p.fr.addr = false := by
  unfold wayOf at h
  split at h
  case isFalse => cases h
  case isTrue hv =>
    rw [Bool.and_eq_true, validGate_iff] at hv
    unfold way at h
    split at h
    · cases h
    · split at h
      · cases h
      · split at h
        case isFalse => cases h
        case isTrue h3 =>
          simp only [Bool.and_eq_true, Bool.not_eq_true', decide_eq_true_eq] at h3
          exact ⟨hv.1, hv.2, h3.2, h3.1⟩
/-- Forward is what its way's function does (FnForward). -/
theorem forward_one {g : GateD} {p : PktD} (h : wayOf g p = 1) : forward g p = sendOut g p := by
  obtain ⟨a, b, c, d, e⟩ := wayOf_one h
  unfold forward
  rw [if_pos h, sendOut_of a b c d e]
theorem forward_two {g : GateD} {p : PktD} (h : wayOf g p = 2) : forward g p = receiveIn g p := by
  obtain ⟨a, b, c, d⟩ := wayOf_two h
  unfold forward
  rw [if_neg (by omega), if_pos h, receiveIn_of a b c d]
theorem forward_three {g : GateD} {p : PktD} (h : wayOf g p = 3) : forward g p = passBetween g p := by
  unfold forward
  rw [if_neg (by omega), if_neg (by omega), if_pos h]
theorem forward_way {g : GateD} {p : PktD} {r : PktD × GateD} (h : forward g p = some r) : wayOf g p = 1 ∨ wayOf g p = 2 ∨ wayOf g p = 3 := by
  unfold forward at h
  split at h
  · exact .inl (by assumption)
  · split at h
    · exact .inr (.inl (by assumption))
    · split at h
      · exact .inr (.inr (by assumption))
      · cases h
/-- FnForwardValid -/
theorem law_forwardValid {g h : GateD} {p q : PktD} (e : forward g p = some (q, h)) :
    validGate h = true ∧ validPkt q = true ∧ q.data = p.data ∧ q.kind = p.kind ∧ has g.net q.fr.addr = false := by
  rcases forward_way e with hw | hw | hw
  · rw [forward_one hw] at e
    obtain ⟨a, b, c, d, f, s⟩ := sendOut_some e
    have S := send_ok a b c s
    have e2 : q.fr = ⟨g.out, q.fr.port⟩ := congrArg PktD.fr S.pkt
    refine ⟨validGate_iff.2 S.valid, S.validq, ?_, ?_, ?_⟩
    · rw [S.pkt]
    · rw [S.pkt]
    · rw [e2]; exact a.nin
  · rw [forward_two hw] at e
    obtain ⟨a, b, c, d, r⟩ := receiveIn_some e
    obtain ⟨m, m1, m2, m3, rfl, rfl⟩ := receive_some r
    exact ⟨validGate_iff.2 a, validPkt_to b (table_end a.tab m1), rfl, rfl, d⟩
  · rw [forward_three hw] at e
    have hp := law_pass e
    obtain ⟨a, _⟩ := passBetween_some e
    refine ⟨hp.2.2.2.2.1, hp.2.2.2.2.2.1, hp.2.2.1, hp.2.2.2.1, ?_⟩
    rw [hp.2.1]; exact a.nin
/-- FnReportIn, FnReportInNone -/
theorem reportIn_some {g : GateD} {e o : RepD} (h : reportIn g e = some o) :
    VGate g ∧ validRep e = true ∧ e.to_ = g.out ∧ e.about.fr.addr = g.out ∧ has g.net e.sender = false ∧ ∃ m, m ∈ g.table ∧ m.port = e.about.fr.port ∧ o = { e with to_ := m.ins.addr, about := { e.about with fr := m.ins } } := by
  unfold reportIn at h
  split at h
  case isFalse => cases h
  case isTrue hc =>
    simp only [Bool.and_eq_true, Bool.not_eq_true', decide_eq_true_eq, validGate_iff] at hc
    obtain ⟨⟨⟨⟨⟨a, b⟩, c⟩, d⟩, f⟩, k⟩ := hc
    obtain ⟨i, m, _, b2, b3, b4⟩ := byPort_some k
    rw [b4] at h
    exact ⟨a, b, c, d, f, m, List.mem_of_getElem? b2, b3, (Option.some.inj h).symm⟩
theorem reportIn_of {g : GateD} {e : RepD} {m : MapD} (a : VGate g) (b : validRep e = true) (c : e.to_ = g.out) (d : e.about.fr.addr = g.out) (f : has g.net e.sender = false) (hm : m ∈ g.table) (hp : m.port = e.about.fr.port) :
    reportIn g e = some { e with to_ := m.ins.addr, about := { e.about with fr := m.ins } } := by
  have h0 := byPort_mem hm
  rw [hp] at h0
  obtain ⟨k, m', _, b2, b3, b4⟩ := byPort_some h0
  have := table_one' a.tab (List.mem_of_getElem? b2) hm (b3.trans hp.symm)
  subst this
  unfold reportIn
  rw [if_pos, b4]
  simp only [Bool.and_eq_true, Bool.not_eq_true', decide_eq_true_eq, validGate_iff]
  exact ⟨⟨⟨⟨⟨a, b⟩, c⟩, d⟩, f⟩, h0⟩
theorem reportOut_some {g : GateD} {e o : RepD} (h : reportOut g e = some o) :
    VGate g ∧ validRep e = true ∧ has g.net e.sender = true ∧ has g.net e.to_ = false ∧ e.to_ ≠ g.out ∧ ∃ m, m ∈ g.table ∧ m.ins = e.about.to_ ∧ o = { e with sender := g.out, about := { e.about with to_ := ⟨g.out, m.port⟩ } } := by
  unfold reportOut at h
  split at h
  case isFalse => cases h
  case isTrue hc =>
    simp only [Bool.and_eq_true, Bool.not_eq_true', decide_eq_true_eq, decide_eq_false_iff_not, validGate_iff] at hc
    obtain ⟨⟨⟨⟨⟨a, b⟩, c⟩, d⟩, f⟩, k⟩ := hc
    obtain ⟨i, m, _, b2, b3, b4⟩ := byEnd_some k
    rw [b4] at h
    exact ⟨a, b, c, d, f, m, List.mem_of_getElem? b2, b3, (Option.some.inj h).symm⟩
theorem reportOut_of {g : GateD} {e : RepD} {m : MapD} (a : VGate g) (b : validRep e = true) (c : has g.net e.sender = true) (d : has g.net e.to_ = false) (f : e.to_ ≠ g.out) (hm : m ∈ g.table) (hp : m.ins = e.about.to_) :
    reportOut g e = some { e with sender := g.out, about := { e.about with to_ := ⟨g.out, m.port⟩ } } := by
  have h0 := byEnd_mem hm
  rw [hp] at h0
  obtain ⟨k, m', _, b2, b3, b4⟩ := byEnd_some h0
  have := table_one a.tab (List.mem_of_getElem? b2) hm (b3.trans hp.symm)
  subst this
  unfold reportOut
  rw [if_pos, b4]
  simp only [Bool.and_eq_true, Bool.not_eq_true', decide_eq_true_eq, decide_eq_false_iff_not, validGate_iff]
  exact ⟨⟨⟨⟨⟨a, b⟩, c⟩, d⟩, f⟩, h0⟩
theorem validRep_iff {e : RepD} : validRep e = true ↔ inR e.code 0 15 = true ∧ word e.sender = true ∧ word e.to_ = true ∧ validPkt e.about = true := by
  simp only [validRep, Bool.and_eq_true]
  constructor
  · rintro ⟨⟨⟨a, b⟩, c⟩, d⟩; exact ⟨a, b, c, d⟩
  · rintro ⟨a, b, c, d⟩; exact ⟨⟨⟨a, b⟩, c⟩, d⟩
theorem law_reportIn {g : GateD} {e o : RepD} (h : reportIn g e = some o) :
    insideEnd g.table e.about.fr.port = some o.about.fr ∧ o.to_ = o.about.fr.addr ∧ o.code = e.code ∧ o.sender = e.sender ∧ o.about.to_ = e.about.to_ ∧ o.about.data = e.about.data ∧
      validNet g.net = true ∧ word o.to_ = true ∧ has g.net o.to_ = true ∧ validRep o = true := by
  obtain ⟨a, b, c, d, f, m, m1, m2, rfl⟩ := reportIn_some h
  have he := table_end a.tab m1
  have he' := he
  simp only [validEnd, Bool.and_eq_true] at he'
  obtain ⟨r1, r2, r3, r4⟩ := validRep_iff.1 b
  obtain ⟨p1, p2, p3, p4, p5⟩ := validPkt_iff.1 r4
  exact ⟨by rw [← m2]; exact insideEnd_mem a.tab m1, rfl, rfl, rfl, rfl, rfl, a.net, he'.1, (a.maps m m1).1, validRep_iff.2 ⟨r1, r2, he'.1, validPkt_iff.2 ⟨p1, he, p3, p4, p5⟩⟩⟩
/-- FnReportOut, FnReportOutNone -/
theorem law_reportOut {g : GateD} {e o : RepD} (h : reportOut g e = some o) :
    o.sender = g.out ∧ o.about.to_ = ⟨g.out, outsidePort g.table e.about.to_⟩ ∧ o.to_ = e.to_ ∧ o.about.fr = e.about.fr ∧ o.about.data = e.about.data ∧ has g.net o.sender = false ∧ has g.net o.about.to_.addr = false ∧ validRep o = true := by
  obtain ⟨a, b, c, d, f, m, m1, m2, rfl⟩ := reportOut_some h
  obtain ⟨r1, r2, r3, r4⟩ := validRep_iff.1 b
  obtain ⟨p1, p2, p3, p4, p5⟩ := validPkt_iff.1 r4
  have hok := (validTable_iff.1 a.tab).1 m m1
  simp only [okMap, Bool.and_eq_true, inR_iff] at hok
  refine ⟨rfl, by rw [← m2, outsidePort_mem a.tab m1], rfl, rfl, rfl, a.nin, a.nin, validRep_iff.2 ⟨r1, a.out, r3, validPkt_iff.2 ⟨p1, p2, ?_, p4, p5⟩⟩⟩
  simp only [validEnd, Bool.and_eq_true]
  exact ⟨a.out, word_port hok.1.2.1 hok.1.2.2⟩
/-- FnReportInSend -/
theorem law_reportInSend {g h : GateD} {p q : PktD} (e : sendOut g p = some (q, h)) :
    ∃ f d, reportOf 3 p.to_.addr q = some f ∧ reportIn h f = some d ∧ reportOf 3 p.to_.addr p = some d := by
  obtain ⟨a, b, c, d, f, s⟩ := sendOut_some e
  have S := send_ok a b c s
  have hn : h.net = g.net := by rw [S.same]
  have ho : h.out = g.out := by rw [S.same]
  have e2 : q.fr = ⟨g.out, q.fr.port⟩ := congrArg PktD.fr S.pkt
  obtain ⟨p1, p2, p3, p4, p5⟩ := validPkt_iff.1 b
  have w1 : word p.to_.addr = true := by simp only [validEnd, Bool.and_eq_true] at p3; exact p3.1
  obtain ⟨k, hk⟩ := S.mapped.at_
  have hv : validRep ⟨3, p.to_.addr, q.fr.addr, { q with data := q.data.take 4 }⟩ = true :=
    validRep_iff.2 ⟨rfl, w1, by rw [e2]; exact a.out, validPkt_cut S.validq⟩
  refine ⟨⟨3, p.to_.addr, q.fr.addr, { q with data := q.data.take 4 }⟩, _, ?_, reportIn_of (m := ⟨p.fr, q.fr.port, g.now⟩) S.valid hv ?_ ?_ ?_ (List.mem_of_getElem? hk) rfl, ?_⟩
  · unfold reportOf; rw [w1, S.validq]; rfl
  · show q.fr.addr = h.out
    rw [e2, ho]
  · show q.fr.addr = h.out
    rw [e2, ho]
  · show has h.net p.to_.addr = false
    rw [hn]; exact d
  · unfold reportOf
    rw [w1, b]
    simp only [Bool.and_true]
    rw [if_pos (show inR 3 0 15 = true from rfl), S.pkt]
/-- FnReportOutReceive -/
theorem law_reportOutReceive {g h : GateD} {p q : PktD} (e : receiveIn g p = some (q, h)) (hne : p.fr.addr ≠ g.out) :
    ∃ f d, reportOf 3 q.to_.addr q = some f ∧ reportOut h f = some d ∧ reportOf 3 g.out p = some d := by
  obtain ⟨a, b, c, d, r⟩ := receiveIn_some e
  obtain ⟨m, m1, m2, m3, rfl, rfl⟩ := receive_some r
  have he := table_end a.tab m1
  have hv := validPkt_to b he
  have he' := he
  simp only [validEnd, Bool.and_eq_true] at he'
  obtain ⟨p1, p2, p3, p4, p5⟩ := validPkt_iff.1 b
  have w2 : word p.fr.addr = true := by simp only [validEnd, Bool.and_eq_true] at p2; exact p2.1
  have hr : validRep ⟨3, m.ins.addr, p.fr.addr, { p with to_ := m.ins, data := p.data.take 4 }⟩ = true := validRep_iff.2 ⟨rfl, he'.1, w2, validPkt_cut hv⟩
  refine ⟨⟨3, m.ins.addr, p.fr.addr, { p with to_ := m.ins, data := p.data.take 4 }⟩, _, ?_, reportOut_of (m := m) a hr (a.maps m m1).1 d hne m1 rfl, ?_⟩
  · unfold reportOf; rw [he'.1, hv]; rfl
  · unfold reportOf
    rw [a.out, b]
    simp only [Bool.and_true]
    rw [if_pos (show inR 3 0 15 = true from rfl), m2, ← c]
end Go.Proofs.Ytafmomocmodbhaa
/- Contracts: ways of packets through gates, of both packages. -/
namespace Go.Proofs.Ytafmomocmodbhaa
set_option linter.unusedVariables false
set_option linter.unusedSimpArgs false
open Go.RowKit Go.Shelf

theorem impl_ValidPacket' (p : PktD) (a : Option Addr) (n c : Nat) (w : World) (hs : Sl encI 1 w a n c p.data) :
    Calls Try.prog 53 #[.agg #[.int .i64 p.kind, .int .i64 p.fr.addr, .int .i64 p.fr.port, .int .i64 p.to_.addr, .int .i64 p.to_.port, .slice a n c]] w fun e w' => e = .returned (.bool (validPkt p)) ∧ Ext w w' := impl_ValidPacket p.kind p.fr.addr p.fr.port p.to_.addr p.to_.port a n c p.data w hs
theorem spec_validPacket' (p : PktD) (a : Option Addr) (n c : Nat) (w : World) (hs : Sl encI 1 w a n c p.data) :
    Calls Try.prog 43 #[.agg #[.int .i64 p.kind, .int .i64 p.fr.addr, .int .i64 p.fr.port, .int .i64 p.to_.addr, .int .i64 p.to_.port, .slice a n c]] w fun e w' => e = .returned (.bool (validPkt p)) ∧ Ext w w' := spec_validPacket p.kind p.fr.addr p.fr.port p.to_.addr p.to_.port a n c p.data w hs
theorem bne_dec (a b : Int) : (a != b) = !decide (a = b) := rfl
theorem wayOf_spec (g : GateD) (p : PktD) : wayOf g p = if validGate g && validPkt p then (if goesOut g p then 1 else if comesIn g p then 2 else if has g.net p.fr.addr && decide (p.to_.addr = g.out) then 3 else 0) else -1 := by
  unfold wayOf way goesOut comesIn fromIn
  cases validGate g <;> cases validPkt p <;> cases has g.net p.fr.addr <;> cases has g.net p.to_.addr <;> cases decide (p.to_.addr = g.out) <;> rfl
set_option maxHeartbeats 1000000 in
theorem impl_way (g : GateD) (p : PktD) (ta : Option Addr) (tn tc : Nat) (ka : Option Addr) (kn kc : Nat) (a : Option Addr) (n c : Nat) (w : World) (hv : validNet g.net = true) :
    Calls Try.prog 54 #[.agg #[.int .i64 g.net.base, .int .i64 g.net.bits, .int .i64 g.out, .slice ta tn tc, .slice ka kn kc, .int .i64 g.filter, .int .i64 g.hold, .int .i64 g.now], .agg #[.int .i64 p.kind, .int .i64 p.fr.addr, .int .i64 p.fr.port, .int .i64 p.to_.addr, .int .i64 p.to_.port, .slice a n c]] w fun r w' => r = .returned (.int .i64 (way g p)) ∧ Ext w w' := by
  go_enter Try.func54, Try.ntmps54
  go_wp2_with fail
  refine wp_region_ext (by kernel_rfl) (by kernel_rfl) ?_
  repeat' (first
    | (refine ChL.skip (by rfl) ?_
       (try simp only [Act.put, List.setIfInBounds_toArray, List.set_cons_zero, List.set_cons_succ]))
    | (refine' ChL.val (v := _) (by rfl) ?_ ?_
       rotate_left
       · (intro wS hS
          have hcS := Ext.cells hS
          go_simp
          with_reducible rfl)
       (try simp only [Act.put, List.setIfInBounds_toArray, List.set_cons_zero, List.set_cons_succ]))
    | (refine' ChL.call (v := _) (f := _) (args := _) (by rfl) ?_ ?_ ?_
       rotate_left 3
       · (intro wS
          go_simp
          (constructor <;> rfl))
       · (intro wS hS
          first | (go_at_call 75; refine (impl_has' g.net _ _ hv).mono ?_; rintro e w1 ⟨rfl, hx⟩; refine ⟨?_, Ext.trans hS hx⟩; rfl))
       (try simp only [Act.put, List.setIfInBounds_toArray, List.set_cons_zero, List.set_cons_succ]))
    | (refine ChL.nil ?_)
    | (refine' ChL.guard (x := _) ?_ ?_ ?_
       rotate_left
       · (go_simp
          rfl)
       all_goals
         intro hg
         simp only [hg])
    | (refine' ChL.guardN (x := _) ?_ ?_ ?_
       rotate_left
       · (go_simp
          rfl)
       all_goals
         intro hg
         simp only [hg]))
  intro w1 hx
  have hc := hx.cells
  have hf := hx.frozens
  have hy := hx.size
  simp at hy
  have hz : w.heap.size < w1.heap.size ∧ w.heap.size + 1 < w1.heap.size := by omega
  go_wp2_with (go_at_call 75; refine (impl_has' g.net _ _ hv).mono ?_; rintro e w1 ⟨rfl, hx⟩; have hc := hx.cells; have hf := hx.frozens; have hy := hx.size; (try simp at hy); have hz : w.heap.size < w1.heap.size ∧ w.heap.size + 1 < w1.heap.size := (by omega))
  all_goals (go_ret; exact ⟨ret_int (by (first | (simp [way, *]; done) | (simp only [Bool.not_eq_true', Bool.not_eq_false', Bool.not_eq_true, beq_iff_eq, beq_eq_false_iff_ne, bne_iff_ne, ne_eq] at *; (simp [way, bne_dec, *]; done)))), (by repeat (first | (with_reducible exact Ext.refl _) | (with_reducible assumption) | (with_reducible refine Ext.alloc ?_ _) | (with_reducible refine Ext.drewN ?_ _) | (with_reducible refine Ext.drew ?_) | (with_reducible refine Ext.setCell ?_ ?_ _; rotate_left; (simp only []; omega)) | (with_reducible refine Ext.trans ?_ (by assumption))))⟩)
set_option maxHeartbeats 1000000 in
theorem impl_WayOf (g : GateD) (p : PktD) (ta : Option Addr) (tn tc : Nat) (ka : Option Addr) (kn kc : Nat) (a : Option Addr) (n c : Nat) (w : World) (ht : Sl encM 4 w ta tn tc g.table) (hk : Sl encC 3 w ka kn kc g.cons) (hs : Sl encI 1 w a n c p.data) :
    Calls Try.prog 17 #[.agg #[.int .i64 g.net.base, .int .i64 g.net.bits, .int .i64 g.out, .slice ta tn tc, .slice ka kn kc, .int .i64 g.filter, .int .i64 g.hold, .int .i64 g.now], .agg #[.int .i64 p.kind, .int .i64 p.fr.addr, .int .i64 p.fr.port, .int .i64 p.to_.addr, .int .i64 p.to_.port, .slice a n c]] w fun r w' => r = .returned (.int .i64 (wayOf g p)) ∧ Ext w w' := by
  go_enter Try.func17, Try.ntmps17
  go_wp2_with (first | (go_at_call 52; refine (impl_ValidGate g ta tn tc ka kn kc _ (by exact ht.ext (by repeat (first | (with_reducible exact Ext.refl _) | (with_reducible assumption) | (with_reducible refine Ext.alloc ?_ _) | (with_reducible refine Ext.drewN ?_ _) | (with_reducible refine Ext.drew ?_) | (with_reducible refine Ext.setCell ?_ ?_ _; rotate_left; (simp only []; omega)) | (with_reducible refine Ext.trans ?_ (by assumption))))) (by exact hk.ext (by repeat (first | (with_reducible exact Ext.refl _) | (with_reducible assumption) | (with_reducible refine Ext.alloc ?_ _) | (with_reducible refine Ext.drewN ?_ _) | (with_reducible refine Ext.drew ?_) | (with_reducible refine Ext.setCell ?_ ?_ _; rotate_left; (simp only []; omega)) | (with_reducible refine Ext.trans ?_ (by assumption)))))).mono ?_; rintro e w1 ⟨rfl, hx⟩; have hc := hx.cells; have hf := hx.frozens; have hy := hx.size; (try simp at hy); have hz : w.heap.size < w1.heap.size ∧ w.heap.size + 1 < w1.heap.size := (by omega)) | (go_at_call 53; refine (impl_ValidPacket' p a n c _ (by exact hs.ext (by repeat (first | (with_reducible exact Ext.refl _) | (with_reducible assumption) | (with_reducible refine Ext.alloc ?_ _) | (with_reducible refine Ext.drewN ?_ _) | (with_reducible refine Ext.drew ?_) | (with_reducible refine Ext.setCell ?_ ?_ _; rotate_left; (simp only []; omega)) | (with_reducible refine Ext.trans ?_ (by assumption)))))).mono ?_; rintro e w1 ⟨rfl, hx⟩; have hc := hx.cells; have hf := hx.frozens; have hy := hx.size; (try simp at hy); have hz : w.heap.size < w1.heap.size ∧ w.heap.size + 1 < w1.heap.size := (by omega)) | (go_at_call 54; refine (impl_way g p ta tn tc ka kn kc a n c _ (validGate_iff.1 (by assumption)).net).mono ?_; rintro e w1 ⟨rfl, hx⟩; have hc := hx.cells; have hf := hx.frozens; have hy := hx.size; (try simp at hy); have hz : w.heap.size < w1.heap.size := (by omega)))
  all_goals (go_ret; exact ⟨ret_int (by (first | (simp [wayOf, *]; done) | (simp only [Bool.not_eq_true', Bool.not_eq_false', Bool.not_eq_true, beq_iff_eq, beq_eq_false_iff_ne, bne_iff_ne, ne_eq] at *; (simp [wayOf, bne_dec, *]; done)))), (by repeat (first | (with_reducible exact Ext.refl _) | (with_reducible assumption) | (with_reducible refine Ext.alloc ?_ _) | (with_reducible refine Ext.drewN ?_ _) | (with_reducible refine Ext.drew ?_) | (with_reducible refine Ext.setCell ?_ ?_ _; rotate_left; (simp only []; omega)) | (with_reducible refine Ext.trans ?_ (by assumption))))⟩)
set_option maxHeartbeats 1000000 in
theorem spec_goesOut (g : GateD) (p : PktD) (ta : Option Addr) (tn tc : Nat) (ka : Option Addr) (kn kc : Nat) (a : Option Addr) (n c : Nat) (w : World) (ht : Sl encM 4 w ta tn tc g.table) (hk : Sl encC 3 w ka kn kc g.cons) (hs : Sl encI 1 w a n c p.data) :
    Calls Try.prog 44 #[.agg #[.int .i64 g.net.base, .int .i64 g.net.bits, .int .i64 g.out, .slice ta tn tc, .slice ka kn kc, .int .i64 g.filter, .int .i64 g.hold, .int .i64 g.now], .agg #[.int .i64 p.kind, .int .i64 p.fr.addr, .int .i64 p.fr.port, .int .i64 p.to_.addr, .int .i64 p.to_.port, .slice a n c]] w fun r w' => r = .returned (.bool (goesOut g p)) ∧ Ext w w' := by
  go_enter Try.func44, Try.ntmps44
  go_wp2_with (first | (go_at_call 42; refine (spec_validGate g ta tn tc ka kn kc _ (by exact ht.ext (by repeat (first | (with_reducible exact Ext.refl _) | (with_reducible assumption) | (with_reducible refine Ext.alloc ?_ _) | (with_reducible refine Ext.drewN ?_ _) | (with_reducible refine Ext.drew ?_) | (with_reducible refine Ext.setCell ?_ ?_ _; rotate_left; (simp only []; omega)) | (with_reducible refine Ext.trans ?_ (by assumption))))) (by exact hk.ext (by repeat (first | (with_reducible exact Ext.refl _) | (with_reducible assumption) | (with_reducible refine Ext.alloc ?_ _) | (with_reducible refine Ext.drewN ?_ _) | (with_reducible refine Ext.drew ?_) | (with_reducible refine Ext.setCell ?_ ?_ _; rotate_left; (simp only []; omega)) | (with_reducible refine Ext.trans ?_ (by assumption)))))).mono ?_; rintro e w1 ⟨rfl, hx⟩; have hc := hx.cells; have hf := hx.frozens; have hy := hx.size; (try simp at hy); have hz : w.heap.size < w1.heap.size ∧ w.heap.size + 1 < w1.heap.size := (by omega)) | (go_at_call 43; refine (spec_validPacket' p a n c _ (by exact hs.ext (by repeat (first | (with_reducible exact Ext.refl _) | (with_reducible assumption) | (with_reducible refine Ext.alloc ?_ _) | (with_reducible refine Ext.drewN ?_ _) | (with_reducible refine Ext.drew ?_) | (with_reducible refine Ext.setCell ?_ ?_ _; rotate_left; (simp only []; omega)) | (with_reducible refine Ext.trans ?_ (by assumption)))))).mono ?_; rintro e w1 ⟨rfl, hx⟩; have hc := hx.cells; have hf := hx.frozens; have hy := hx.size; (try simp at hy); have hz : w.heap.size < w1.heap.size ∧ w.heap.size + 1 < w1.heap.size := (by omega)) | (go_at_call 46; refine (spec_inNet' g.net _ _ (validGate_iff.1 (by assumption)).net).mono ?_; rintro e w1 ⟨rfl, hx⟩; have hc := hx.cells; have hf := hx.frozens; have hy := hx.size; (try simp at hy); have hz : w.heap.size < w1.heap.size ∧ w.heap.size + 1 < w1.heap.size := (by omega)))
  all_goals (go_ret; exact ⟨ret_bool (by (first | (simp [goesOut, fromIn, *]; done) | (simp only [Bool.not_eq_true', Bool.not_eq_false', Bool.not_eq_true, beq_iff_eq, beq_eq_false_iff_ne, bne_iff_ne, ne_eq] at *; (simp [goesOut, fromIn, bne_dec, *]; done)))), (by repeat (first | (with_reducible exact Ext.refl _) | (with_reducible assumption) | (with_reducible refine Ext.alloc ?_ _) | (with_reducible refine Ext.drewN ?_ _) | (with_reducible refine Ext.drew ?_) | (with_reducible refine Ext.setCell ?_ ?_ _; rotate_left; (simp only []; omega)) | (with_reducible refine Ext.trans ?_ (by assumption))))⟩)
set_option maxHeartbeats 1000000 in
theorem spec_comesIn (g : GateD) (p : PktD) (ta : Option Addr) (tn tc : Nat) (ka : Option Addr) (kn kc : Nat) (a : Option Addr) (n c : Nat) (w : World) (ht : Sl encM 4 w ta tn tc g.table) (hk : Sl encC 3 w ka kn kc g.cons) (hs : Sl encI 1 w a n c p.data) :
    Calls Try.prog 45 #[.agg #[.int .i64 g.net.base, .int .i64 g.net.bits, .int .i64 g.out, .slice ta tn tc, .slice ka kn kc, .int .i64 g.filter, .int .i64 g.hold, .int .i64 g.now], .agg #[.int .i64 p.kind, .int .i64 p.fr.addr, .int .i64 p.fr.port, .int .i64 p.to_.addr, .int .i64 p.to_.port, .slice a n c]] w fun r w' => r = .returned (.bool (comesIn g p)) ∧ Ext w w' := by
  go_enter Try.func45, Try.ntmps45
  go_wp2_with (first | (go_at_call 42; refine (spec_validGate g ta tn tc ka kn kc _ (by exact ht.ext (by repeat (first | (with_reducible exact Ext.refl _) | (with_reducible assumption) | (with_reducible refine Ext.alloc ?_ _) | (with_reducible refine Ext.drewN ?_ _) | (with_reducible refine Ext.drew ?_) | (with_reducible refine Ext.setCell ?_ ?_ _; rotate_left; (simp only []; omega)) | (with_reducible refine Ext.trans ?_ (by assumption))))) (by exact hk.ext (by repeat (first | (with_reducible exact Ext.refl _) | (with_reducible assumption) | (with_reducible refine Ext.alloc ?_ _) | (with_reducible refine Ext.drewN ?_ _) | (with_reducible refine Ext.drew ?_) | (with_reducible refine Ext.setCell ?_ ?_ _; rotate_left; (simp only []; omega)) | (with_reducible refine Ext.trans ?_ (by assumption)))))).mono ?_; rintro e w1 ⟨rfl, hx⟩; have hc := hx.cells; have hf := hx.frozens; have hy := hx.size; (try simp at hy); have hz : w.heap.size < w1.heap.size ∧ w.heap.size + 1 < w1.heap.size := (by omega)) | (go_at_call 43; refine (spec_validPacket' p a n c _ (by exact hs.ext (by repeat (first | (with_reducible exact Ext.refl _) | (with_reducible assumption) | (with_reducible refine Ext.alloc ?_ _) | (with_reducible refine Ext.drewN ?_ _) | (with_reducible refine Ext.drew ?_) | (with_reducible refine Ext.setCell ?_ ?_ _; rotate_left; (simp only []; omega)) | (with_reducible refine Ext.trans ?_ (by assumption)))))).mono ?_; rintro e w1 ⟨rfl, hx⟩; have hc := hx.cells; have hf := hx.frozens; have hy := hx.size; (try simp at hy); have hz : w.heap.size < w1.heap.size ∧ w.heap.size + 1 < w1.heap.size := (by omega)) | (go_at_call 46; refine (spec_inNet' g.net _ _ (validGate_iff.1 (by assumption)).net).mono ?_; rintro e w1 ⟨rfl, hx⟩; have hc := hx.cells; have hf := hx.frozens; have hy := hx.size; (try simp at hy); have hz : w.heap.size < w1.heap.size ∧ w.heap.size + 1 < w1.heap.size := (by omega)))
  all_goals (go_ret; exact ⟨ret_bool (by (first | (simp [comesIn, *]; done) | (simp only [Bool.not_eq_true', Bool.not_eq_false', Bool.not_eq_true, beq_iff_eq, beq_eq_false_iff_ne, bne_iff_ne, ne_eq] at *; (simp [comesIn, bne_dec, *]; done)))), (by repeat (first | (with_reducible exact Ext.refl _) | (with_reducible assumption) | (with_reducible refine Ext.alloc ?_ _) | (with_reducible refine Ext.drewN ?_ _) | (with_reducible refine Ext.drew ?_) | (with_reducible refine Ext.setCell ?_ ?_ _; rotate_left; (simp only []; omega)) | (with_reducible refine Ext.trans ?_ (by assumption))))⟩)
set_option maxHeartbeats 2000000 in
theorem spec_WayOf (g : GateD) (p : PktD) (ta : Option Addr) (tn tc : Nat) (ka : Option Addr) (kn kc : Nat) (a : Option Addr) (n c : Nat) (w : World) (ht : Sl encM 4 w ta tn tc g.table) (hk : Sl encC 3 w ka kn kc g.cons) (hs : Sl encI 1 w a n c p.data) :
    Calls Try.prog 14 #[.agg #[.int .i64 g.net.base, .int .i64 g.net.bits, .int .i64 g.out, .slice ta tn tc, .slice ka kn kc, .int .i64 g.filter, .int .i64 g.hold, .int .i64 g.now], .agg #[.int .i64 p.kind, .int .i64 p.fr.addr, .int .i64 p.fr.port, .int .i64 p.to_.addr, .int .i64 p.to_.port, .slice a n c]] w fun r w' => r = .returned (.int .i64 (wayOf g p)) ∧ Ext w w' := by
  have hw := Lib.hid (wayOf_spec g p)
  go_enter Try.func14, Try.ntmps14
  go_wp2_with (first | (go_at_call 42; refine (spec_validGate g ta tn tc ka kn kc _ (by exact ht.ext (by repeat (first | (with_reducible exact Ext.refl _) | (with_reducible assumption) | (with_reducible refine Ext.alloc ?_ _) | (with_reducible refine Ext.drewN ?_ _) | (with_reducible refine Ext.drew ?_) | (with_reducible refine Ext.setCell ?_ ?_ _; rotate_left; (simp only []; omega)) | (with_reducible refine Ext.trans ?_ (by assumption))))) (by exact hk.ext (by repeat (first | (with_reducible exact Ext.refl _) | (with_reducible assumption) | (with_reducible refine Ext.alloc ?_ _) | (with_reducible refine Ext.drewN ?_ _) | (with_reducible refine Ext.drew ?_) | (with_reducible refine Ext.setCell ?_ ?_ _; rotate_left; (simp only []; omega)) | (with_reducible refine Ext.trans ?_ (by assumption)))))).mono ?_; rintro e w1 ⟨rfl, hx⟩; have hc := hx.cells; have hf := hx.frozens; have hy := hx.size; (try simp at hy); have hz : w.heap.size < w1.heap.size ∧ w.heap.size + 1 < w1.heap.size := (by omega)) | (go_at_call 43; refine (spec_validPacket' p a n c _ (by exact hs.ext (by repeat (first | (with_reducible exact Ext.refl _) | (with_reducible assumption) | (with_reducible refine Ext.alloc ?_ _) | (with_reducible refine Ext.drewN ?_ _) | (with_reducible refine Ext.drew ?_) | (with_reducible refine Ext.setCell ?_ ?_ _; rotate_left; (simp only []; omega)) | (with_reducible refine Ext.trans ?_ (by assumption)))))).mono ?_; rintro e w1 ⟨rfl, hx⟩; have hc := hx.cells; have hf := hx.frozens; have hy := hx.size; (try simp at hy); have hz : w.heap.size < w1.heap.size ∧ w.heap.size + 1 < w1.heap.size := (by omega)) | (go_at_call 44; refine (spec_goesOut g p ta tn tc ka kn kc a n c _ (by exact ht.ext (by repeat (first | (with_reducible exact Ext.refl _) | (with_reducible assumption) | (with_reducible refine Ext.alloc ?_ _) | (with_reducible refine Ext.drewN ?_ _) | (with_reducible refine Ext.drew ?_) | (with_reducible refine Ext.setCell ?_ ?_ _; rotate_left; (simp only []; omega)) | (with_reducible refine Ext.trans ?_ (by assumption))))) (by exact hk.ext (by repeat (first | (with_reducible exact Ext.refl _) | (with_reducible assumption) | (with_reducible refine Ext.alloc ?_ _) | (with_reducible refine Ext.drewN ?_ _) | (with_reducible refine Ext.drew ?_) | (with_reducible refine Ext.setCell ?_ ?_ _; rotate_left; (simp only []; omega)) | (with_reducible refine Ext.trans ?_ (by assumption))))) (by exact hs.ext (by repeat (first | (with_reducible exact Ext.refl _) | (with_reducible assumption) | (with_reducible refine Ext.alloc ?_ _) | (with_reducible refine Ext.drewN ?_ _) | (with_reducible refine Ext.drew ?_) | (with_reducible refine Ext.setCell ?_ ?_ _; rotate_left; (simp only []; omega)) | (with_reducible refine Ext.trans ?_ (by assumption)))))).mono ?_; rintro e w1 ⟨rfl, hx⟩; have hc := hx.cells; have hf := hx.frozens; have hy := hx.size; (try simp at hy); have hz : w.heap.size < w1.heap.size ∧ w.heap.size + 1 < w1.heap.size := (by omega)) | (go_at_call 45; refine (spec_comesIn g p ta tn tc ka kn kc a n c _ (by exact ht.ext (by repeat (first | (with_reducible exact Ext.refl _) | (with_reducible assumption) | (with_reducible refine Ext.alloc ?_ _) | (with_reducible refine Ext.drewN ?_ _) | (with_reducible refine Ext.drew ?_) | (with_reducible refine Ext.setCell ?_ ?_ _; rotate_left; (simp only []; omega)) | (with_reducible refine Ext.trans ?_ (by assumption))))) (by exact hk.ext (by repeat (first | (with_reducible exact Ext.refl _) | (with_reducible assumption) | (with_reducible refine Ext.alloc ?_ _) | (with_reducible refine Ext.drewN ?_ _) | (with_reducible refine Ext.drew ?_) | (with_reducible refine Ext.setCell ?_ ?_ _; rotate_left; (simp only []; omega)) | (with_reducible refine Ext.trans ?_ (by assumption))))) (by exact hs.ext (by repeat (first | (with_reducible exact Ext.refl _) | (with_reducible assumption) | (with_reducible refine Ext.alloc ?_ _) | (with_reducible refine Ext.drewN ?_ _) | (with_reducible refine Ext.drew ?_) | (with_reducible refine Ext.setCell ?_ ?_ _; rotate_left; (simp only []; omega)) | (with_reducible refine Ext.trans ?_ (by assumption)))))).mono ?_; rintro e w1 ⟨rfl, hx⟩; have hc := hx.cells; have hf := hx.frozens; have hy := hx.size; (try simp at hy); have hz : w.heap.size < w1.heap.size ∧ w.heap.size + 1 < w1.heap.size := (by omega)) | (go_at_call 46; refine (spec_inNet' g.net _ _ (validGate_iff.1 (by assumption)).net).mono ?_; rintro e w1 ⟨rfl, hx⟩; have hc := hx.cells; have hf := hx.frozens; have hy := hx.size; (try simp at hy); have hz : w.heap.size < w1.heap.size ∧ w.heap.size + 1 < w1.heap.size := (by omega)))
  all_goals (go_ret; exact ⟨ret_int (by rw [hw.out]; (first | (simp [if_true, *]; done) | (simp only [Bool.not_eq_true', Bool.not_eq_false', Bool.not_eq_true, beq_iff_eq, beq_eq_false_iff_ne, bne_iff_ne, ne_eq] at *; (simp [if_true, bne_dec, *]; done)))), (by repeat (first | (with_reducible exact Ext.refl _) | (with_reducible assumption) | (with_reducible refine Ext.alloc ?_ _) | (with_reducible refine Ext.drewN ?_ _) | (with_reducible refine Ext.drew ?_) | (with_reducible refine Ext.setCell ?_ ?_ _; rotate_left; (simp only []; omega)) | (with_reducible refine Ext.trans ?_ (by assumption))))⟩)
end Go.Proofs.Ytafmomocmodbhaa
