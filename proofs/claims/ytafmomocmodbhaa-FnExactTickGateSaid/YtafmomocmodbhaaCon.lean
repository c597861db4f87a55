/- Contracts: finding in slices of contacts; valid contacts, of both packages. -/
import Derived.Test.YtafmomocmodbhaaTab
import Derived.Test.YtafmomocmodbhaaEql
namespace Go.Proofs.Ytafmomocmodbhaa
open Go.RowKit Go.Shelf

theorem IndexFunc_C (g : FuncId) (lb : Array Value) (eg : ∀ args w, (callFunc g args).run Try.prog w = .ok (.enter g args) w) (p : ConD → Bool) (a : Option Addr) (n c : Nat) (L : List ConD) (w : World) (hs : Sl encC 3 w a n c L)
    (hcall : ∀ x, x ∈ L → ∀ W, Ext w W → Calls Try.prog g (#[.agg #[.int .i64 x.port, .int .i64 x.to_.addr, .int .i64 x.to_.port]] ++ lb) W fun e w' => e = .returned (.bool (p x)) ∧ Ext W w') :
    Calls Try.prog 147 #[.slice a n c, .func (.func g) #[] lb] w fun e w' => e = .returned (.int .i64 (ix p L)) ∧ Ext w w' := by
  have hle := hs.le
  have hmax := hs.max
  have hlen := Lib.hid hs.len
  rcases hs.cons with ⟨h0, hL⟩ | ⟨h0, b, off, ha, hb, hc⟩
  · subst h0
    subst hL
    clear hs hcall hlen
    go_enter Try.func147, Try.ntmps147
    go_wp2
    go_loop [5, 8] (fun _ i => i = .int .i64 0) (fun _ _ => 0)
    case atStart => rfl
    case round =>
      subst hrel
      go_wp2
      go_ret
      exact ⟨rfl, Ext.refl _⟩
  · subst ha
    have HC := Lib.hid hcall
    have HC2 := Lib.hid hc
    clear hs hcall hc
    go_enter Try.func147, Try.ntmps147
    go_wp2
    go_loopw [5, 8] (fun _ i wr => ∃ k : Nat, k ≤ n ∧ i = .int .i64 k ∧ (∀ j, j < k → p (nth L j) = false) ∧ Ext w wr) (fun _ i _ => n - (intOf i).toNat)
    case atStart => exact ⟨0, Nat.zero_le _, rfl, by omega, Ext.refl _⟩
    case round =>
      obtain ⟨k, hk, rfl, hall, hX⟩ := hrel
      have HA := Lib.hid hall
      clear hall
      by_cases hlt : k < n
      · obtain ⟨d0, d1, d2⟩ := HC2.out k hlt
        rw [← hX.cells _ _ hb] at d0 d1 d2
        have hmem : nth L k ∈ L := nth_mem (by rw [hlen.out]; exact hlt)
        have hcall := HC.out (nth L k) hmem wr hX
        cases hp : p (nth L k) with
        | true =>
          rw [hp] at hcall
          replace hcall := Lib.hid hcall
          replace hp := Lib.hid hp
          go_wp2_with fail
          refine (hcall.out).mono ?_
          rintro e w1 ⟨rfl, hx⟩
          go_wp2
          go_ret
          refine ⟨ret_int (ix_some (k := k) (x := nth L k) ?_ (nth_some (by rw [hlen.out]; exact hlt)) hp.out).symm, hX.trans hx⟩
          intro y hy
          obtain ⟨j, hj, rfl⟩ := List.mem_take_iff_getElem.1 hy
          have h1 := HA.out j (by omega)
          rwa [nth_of (List.getElem?_eq_getElem (by omega))] at h1
        | false =>
          rw [hp] at hcall
          replace hcall := Lib.hid hcall
          replace hp := Lib.hid hp
          go_wp2_with fail
          refine (hcall.out).mono ?_
          rintro e w1 ⟨rfl, hx⟩
          have HX := Lib.hid (hX.trans hx)
          clear hX hx
          go_wp2
          go_roundw
          case rel => exact ⟨k + 1, hlt, by go_num, fun j hj => by
            rcases Nat.lt_or_ge j k with h | h
            · exact HA.out j h
            · have e : j = k := by omega
              rw [e]; exact hp.out, HX.out⟩
          case measure => simp [intOf]; omega
      · have e : k = n := by omega
        have HX := Lib.hid hX
        clear hX
        subst e
        go_wp2
        go_ret
        refine ⟨ret_int (ix_none fun x hx => ?_).symm, HX.out⟩
        obtain ⟨j, hj, rfl⟩ := List.mem_iff_getElem.1 hx
        have h1 := HA.out j (by rw [← hlen.out]; exact hj)
        rwa [nth_of (List.getElem?_eq_getElem hj)] at h1
theorem ContainsFunc_C (g : FuncId) (lb : Array Value) (eg : ∀ args w, (callFunc g args).run Try.prog w = .ok (.enter g args) w) (p : ConD → Bool) (a : Option Addr) (n c : Nat) (L : List ConD) (w : World) (hs : Sl encC 3 w a n c L)
    (hcall : ∀ x, x ∈ L → ∀ W, Ext w W → Calls Try.prog g (#[.agg #[.int .i64 x.port, .int .i64 x.to_.addr, .int .i64 x.to_.port]] ++ lb) W fun e w' => e = .returned (.bool (p x)) ∧ Ext W w') :
    Calls Try.prog 111 #[.slice a n c, .func (.func g) #[] lb] w fun e w' => e = .returned (.bool (L.any p)) ∧ Ext w w' := by
  have H := Lib.hid (IndexFunc_C g lb eg p a n c L w hs hcall)
  rw [← ix_any]
  have hge := ix_ge p L
  clear hs hcall eg
  generalize ix p L = r at *
  go_enter Try.func111, Try.ntmps111
  go_wp2_with fail
  refine (H.out).mono ?_
  rintro e w1 ⟨rfl, hx⟩
  go_wp2
  go_ret
  exact ⟨rfl, hx⟩
theorem Index_C (x : ConD) (a : Option Addr) (n c : Nat) (L : List ConD) (w : World) (hs : Sl encC 3 w a n c L) :
    Calls Try.prog 152 #[.slice a n c, .agg #[.int .i64 x.port, .int .i64 x.to_.addr, .int .i64 x.to_.port]] w fun e w' => e = .returned (.int .i64 (ix (fun q => decide (q = x)) L)) ∧ Ext w w' := by
  have hle := hs.le
  have hmax := hs.max
  have hlen := Lib.hid hs.len
  rcases hs.cons with ⟨h0, hL⟩ | ⟨h0, b, off, ha, hb, hc⟩
  · subst h0
    subst hL
    clear hs hlen
    go_enter Try.func152, Try.ntmps152
    go_wp2
    go_loop [5, 8] (fun _ i => i = .int .i64 0) (fun _ _ => 0)
    case atStart => rfl
    case round =>
      subst hrel
      go_wp2
      go_ret
      exact ⟨rfl, (by repeat (first | (with_reducible exact Ext.refl _) | (with_reducible assumption) | (with_reducible refine Ext.alloc ?_ _) | (with_reducible refine Ext.drewN ?_ _) | (with_reducible refine Ext.drew ?_) | (with_reducible refine Ext.setCell ?_ ?_ _; rotate_left; (simp only []; omega)) | (with_reducible refine Ext.trans ?_ (by assumption))))⟩
  · subst ha
    have HC2 := Lib.hid hc
    clear hs hc
    go_enter Try.func152, Try.ntmps152
    go_wp2
    go_loopw [5, 8] (fun _ i wr => ∃ k : Nat, k ≤ n ∧ i = .int .i64 k ∧ (∀ j, j < k → nth L j ≠ x) ∧ Blk wr w.heap.size 115 #[.int .i64 x.port, .int .i64 x.to_.addr, .int .i64 x.to_.port] ∧ Ext w wr) (fun _ i _ => n - (intOf i).toNat)
    case atStart => exact ⟨0, Nat.zero_le _, rfl, by omega, Blk.new _ _ _, (by repeat (first | (with_reducible exact Ext.refl _) | (with_reducible assumption) | (with_reducible refine Ext.alloc ?_ _) | (with_reducible refine Ext.drewN ?_ _) | (with_reducible refine Ext.drew ?_) | (with_reducible refine Ext.setCell ?_ ?_ _; rotate_left; (simp only []; omega)) | (with_reducible refine Ext.trans ?_ (by assumption))))⟩
    case round =>
      obtain ⟨k, hk, rfl, hall, hB, hX⟩ := hrel
      have HA := Lib.hid hall
      clear hall
      by_cases hlt : k < n
      · obtain ⟨d0, d1, d2⟩ := HC2.out k hlt
        rw [← hX.cells _ _ hb] at d0 d1 d2
        have hcB := hB.cells
        have hzB := hB.lt
        have hbr : b < wr.heap.size := by have := hX.size; omega
        by_cases hq : nth L k = x
        · rw [hq] at d0 d1 d2
          have HX := Lib.hid hX
          replace hq := Lib.hid hq
          clear hX
          go_wp2_with fail
          have hdrS : ∀ W : World, W.drew.heap.size = W.heap.size := fun _ => rfl
          refine wp_region_eager (R := Ext) [0, 1, 2, 3, 4, 5] (by kernel_rfl) (by kernel_rfl) Ext.refl (fun _ _ _ => Ext.trans) ?_
          repeat' (first
            | (refine ChX.skip (by rfl) (by rfl) ?_
               (try simp only [Act.put, List.setIfInBounds_toArray, List.set_cons_zero, List.set_cons_succ]))
            | (refine' ChX.quiet (v := _) (by rfl) (by rfl) (by rfl) ?_ ?_
               rotate_left
               · (intro wS hS
                  have hcS := Ext.cells hS
                  go_simp
                  with_reducible rfl)
               (try simp only [Act.put, List.setIfInBounds_toArray, List.set_cons_zero, List.set_cons_succ]))
            | (refine ChX.nil ?_)
            | (refine' ChX.guard (x := _) (by rfl) ?_ ?_ ?_
               rotate_left
               · (go_simp
                  rfl)
               all_goals
                 intro hg
                 simp only [hg])
            | (refine' ChX.guardN (x := _) (by rfl) ?_ ?_ ?_
               rotate_left
               · (go_simp
                  rfl)
               all_goals
                 intro hg
                 simp only [hg]))
          go_wp2
          go_ret
          refine ⟨ret_int (ix_some (k := k) (x := nth L k) ?_ (nth_some (by rw [hlen.out]; exact hlt)) (by simpa using hq.out)).symm, (show Ext w wr from HX.out).trans (by repeat (first | (with_reducible exact Ext.refl _) | (with_reducible assumption) | (with_reducible refine Ext.alloc ?_ _) | (with_reducible refine Ext.drewN ?_ _) | (with_reducible refine Ext.drew ?_) | (with_reducible refine Ext.setCell ?_ ?_ _; rotate_left; (simp only []; omega)) | (with_reducible refine Ext.trans ?_ (by assumption))))⟩
          intro y hy
          obtain ⟨j, hj, rfl⟩ := List.mem_take_iff_getElem.1 hy
          have h1 := HA.out j (by omega)
          rw [nth_of (List.getElem?_eq_getElem (by omega))] at h1
          simpa using h1
        · have HX := Lib.hid hX
          have hqf : decide (x = nth L k) = false := by simpa using fun e => hq e.symm
          have heq : ∀ W : World, (Go.binOp .eql 115 (.agg #[.int .i64 x.port, .int .i64 x.to_.addr, .int .i64 x.to_.port]) (.agg #[.int .i64 (nth L k).port, .int .i64 (nth L k).to_.addr, .int .i64 (nth L k).to_.port])).run Try.prog W = .ok (.bool false) W := fun W => by rw [run_eql_C, hqf]
          replace hq := Lib.hid hq
          clear hX hqf
          go_wp2_with fail
          have hdrS : ∀ W : World, W.drew.heap.size = W.heap.size := fun _ => rfl
          refine wp_region_eager (R := Ext) [0, 1, 2, 3, 4, 5] (by kernel_rfl) (by kernel_rfl) Ext.refl (fun _ _ _ => Ext.trans) ?_
          repeat' (first
            | (refine ChX.skip (by rfl) (by rfl) ?_
               (try simp only [Act.put, List.setIfInBounds_toArray, List.set_cons_zero, List.set_cons_succ]))
            | (refine' ChX.quiet (v := _) (by rfl) (by rfl) (by rfl) ?_ ?_
               rotate_left
               · (intro wS hS
                  have hcS := Ext.cells hS
                  go_simp
                  with_reducible rfl)
               (try simp only [Act.put, List.setIfInBounds_toArray, List.set_cons_zero, List.set_cons_succ]))
            | (refine ChX.nil ?_)
            | (refine' ChX.guard (x := _) (by rfl) ?_ ?_ ?_
               rotate_left
               · (go_simp
                  rfl)
               all_goals
                 intro hg
                 simp only [hg])
            | (refine' ChX.guardN (x := _) (by rfl) ?_ ?_ ?_
               rotate_left
               · (go_simp
                  rfl)
               all_goals
                 intro hg
                 simp only [hg]))
          go_wp2
          go_roundw
          case rel => exact ⟨k + 1, hlt, by go_num, fun j hj => by
            rcases Nat.lt_or_ge j k with h | h
            · exact HA.out j h
            · have e : j = k := by omega
              rw [e]; exact hq.out, hB.ext (by repeat (first | (with_reducible exact Ext.refl _) | (with_reducible assumption) | (with_reducible refine Ext.alloc ?_ _) | (with_reducible refine Ext.drewN ?_ _) | (with_reducible refine Ext.drew ?_) | (with_reducible refine Ext.setCell ?_ ?_ _; rotate_left; (simp only []; omega)) | (with_reducible refine Ext.trans ?_ (by assumption)))), (show Ext w wr from HX.out).trans (by repeat (first | (with_reducible exact Ext.refl _) | (with_reducible assumption) | (with_reducible refine Ext.alloc ?_ _) | (with_reducible refine Ext.drewN ?_ _) | (with_reducible refine Ext.drew ?_) | (with_reducible refine Ext.setCell ?_ ?_ _; rotate_left; (simp only []; omega)) | (with_reducible refine Ext.trans ?_ (by assumption))))⟩
          case measure => simp [intOf]; omega
      · have e : k = n := by omega
        have HX := Lib.hid hX
        clear hX
        subst e
        go_wp2
        go_ret
        refine ⟨ret_int (ix_none fun y hy => ?_).symm, HX.out⟩
        obtain ⟨j, hj, rfl⟩ := List.mem_iff_getElem.1 hy
        have h1 := HA.out j (by rw [← hlen.out]; exact hj)
        rw [nth_of (List.getElem?_eq_getElem hj)] at h1
        simpa using h1
theorem Contains_C (x : ConD) (a : Option Addr) (n c : Nat) (L : List ConD) (w : World) (hs : Sl encC 3 w a n c L) :
    Calls Try.prog 146 #[.slice a n c, .agg #[.int .i64 x.port, .int .i64 x.to_.addr, .int .i64 x.to_.port]] w fun e w' => e = .returned (.bool (L.any fun q => decide (q = x))) ∧ Ext w w' := by
  have H := Lib.hid (fun W hW => Index_C x a n c L W hW)
  rw [← ix_any]
  generalize ix (fun q => decide (q = x)) L = r at *
  go_enter Try.func146, Try.ntmps146
  go_wp2_with fail
  refine (H.out _ (by exact hs.ext (by repeat (first | (with_reducible exact Ext.refl _) | (with_reducible assumption) | (with_reducible refine Ext.alloc ?_ _) | (with_reducible refine Ext.drewN ?_ _) | (with_reducible refine Ext.drew ?_) | (with_reducible refine Ext.setCell ?_ ?_ _; rotate_left; (simp only []; omega)) | (with_reducible refine Ext.trans ?_ (by assumption)))))).mono ?_
  rintro e w1 ⟨rfl, hx⟩
  go_wp2
  go_ret
  exact ⟨rfl, (by repeat (first | (with_reducible exact Ext.refl _) | (with_reducible assumption) | (with_reducible refine Ext.alloc ?_ _) | (with_reducible refine Ext.drewN ?_ _) | (with_reducible refine Ext.drew ?_) | (with_reducible refine Ext.setCell ?_ ?_ _; rotate_left; (simp only []; omega)) | (with_reducible refine Ext.trans ?_ (by assumption))))⟩
theorem impl_Contact_valid (x : ConD) (w : World) : Calls Try.prog 145 #[.agg #[.int .i64 x.port, .int .i64 x.to_.addr, .int .i64 x.to_.port]] w fun r w' => r = .returned (.bool (okCon x)) ∧ Ext w w' := by
  unfold okCon
  go_enter Try.func145, Try.ntmps145
  go_wp2_with (first | (go_at_call 143; refine (impl_isOutside _ _).mono ?_; rintro e w' ⟨rfl, rfl⟩) | (go_at_call 113; refine (impl_End_valid' x.to_ _).mono ?_; rintro e w1 ⟨rfl, hx⟩; have hc := hx.cells; have hf := hx.frozens; have hy := hx.size; (try simp at hy); have hz : w.heap.size < w1.heap.size := (by omega)))
  all_goals (go_ret; exact ⟨ret_bool (by simp [*]), (by repeat (first | (with_reducible exact Ext.refl _) | (with_reducible assumption) | (with_reducible refine Ext.alloc ?_ _) | (with_reducible refine Ext.drewN ?_ _) | (with_reducible refine Ext.drew ?_) | (with_reducible refine Ext.setCell ?_ ?_ _; rotate_left; (simp only []; omega)) | (with_reducible refine Ext.trans ?_ (by assumption))))⟩)
theorem run_take_C (a : Option Addr) (n c m : Nat) (h : m ≤ c) (W : World) : (Instr.slice 38 (.slice a n c) none (some (.int .i64 m)) none).run Try.prog W = .ok (.slice a m c) W := by
  have h2 : (m : Int) ≤ (c : Int) := by omega
  have e : ∀ s : Nat, a.map (·.add (0 * s)) = a := by intro s; rw [Nat.zero_mul]; exact add_zero' a
  rw [run_slice_h (P := Try.prog) W 38 a n c (by kernel_rfl) .i64 (m : Int) (by omega) h2]
  go_simp
theorem okConAt_impl (L : List ConD) (k : Nat) : okConAt L k = (okCon (nth L k) && !((L.take k).any fun q => decide (q = nth L k))) := by
  unfold okConAt
  congr 1
  generalize L.take k = l
  induction l with
  | nil => rfl
  | cons y l ih => rw [List.all_cons, List.any_cons, ih]; simp
set_option maxHeartbeats 1000000 in
theorem impl_ValidContacts (a : Option Addr) (n c : Nat) (L : List ConD) (w : World) (hs : Sl encC 3 w a n c L) :
    Calls Try.prog 107 #[.slice a n c] w fun e w' => e = .returned (.bool (validContacts L)) ∧ Ext w w' := by
  have hle := hs.le
  have hmax := hs.max
  have hfin : validContacts L = (upTo (okConAt L) n && decide (n ≤ 10)) := by rw [← hs.len]; rfl
  rw [hfin]
  clear hfin
  rcases hs.cons with ⟨h0, hL⟩ | ⟨h0, b, off, ha, hb, hc⟩
  · subst h0
    subst hL
    clear hs
    go_enter Try.func107, Try.ntmps107
    go_wp2
    go_loop [3, 4, 7] (fun _ _ i => i = .int .i64 0) (fun _ _ _ => 0)
    case atStart => rfl
    case round =>
      subst hrel
      go_wp2
      go_ret
      exact ⟨rfl, Ext.refl _⟩
  · subst ha
    have HC2 := Lib.hid hc
    clear hc
    go_enter Try.func107, Try.ntmps107
    go_wp2
    go_loopw [3, 4, 7] (fun _ _ i wr => ∃ k : Nat, k ≤ n ∧ i = .int .i64 k ∧ (∀ j, j < k → okConAt L j = true) ∧ Ext w wr) (fun _ _ i _ => n - (intOf i).toNat)
    case atStart => exact ⟨0, Nat.zero_le _, rfl, by omega, Ext.refl _⟩
    case round =>
      obtain ⟨k, hk, rfl, hall, hX⟩ := hrel
      have HA := Lib.hid hall
      clear hall
      have hsk := hs.ext hX
      by_cases hlt : k < n
      · obtain ⟨d0, d1, d2⟩ := HC2.out k hlt
        rw [← hX.cells _ _ hb] at d0 d1 d2
        have hbr : b < wr.heap.size := by have := hX.size; omega
        have hok := Lib.hid (okConAt_impl L k)
        have hcut := hsk.cut (m := k) (by omega)
        have hsl := run_take_C (some ⟨b, off, none⟩) n c k (by omega)
        go_wp2_with fail
        refine wp_region_ext (by kernel_rfl) (by kernel_rfl) ?_
        repeat' (first
          | (refine ChL.skip (by rfl) ?_
             (try simp only [Act.put, List.setIfInBounds_toArray, List.set_cons_zero, List.set_cons_succ]))
          | (refine' ChL.val (v := _) (by rfl) ?_ ?_
             rotate_left
             · (intro wS hS
                have hcS := Ext.cells hS
                go_simp
                with_reducible rfl)
             (try simp only [Act.put, List.setIfInBounds_toArray, List.set_cons_zero, List.set_cons_succ]))
          | (refine' ChL.call (v := _) (f := _) (args := _) (by rfl) ?_ ?_ ?_
             rotate_left 3
             · (intro wS
                go_simp
                (constructor <;> rfl))
             · (intro wS hS
                first | (go_at_call 145; refine (impl_Contact_valid (nth L k) _).mono ?_; rintro e w1 ⟨rfl, hx⟩; refine ⟨?_, Ext.trans hS hx⟩; rfl) | (go_at_call 146; refine (Contains_C (nth L k) (some ⟨b, off, none⟩) k c (L.take k) _ (by exact (hcut.ext (show Ext wr _ from (by repeat (first | (with_reducible exact Ext.refl _) | (with_reducible assumption) | (with_reducible refine Ext.alloc ?_ _) | (with_reducible refine Ext.drewN ?_ _) | (with_reducible refine Ext.drew ?_) | (with_reducible refine Ext.setCell ?_ ?_ _; rotate_left; (simp only []; omega)) | (with_reducible refine Ext.trans ?_ (by assumption)))))).ext hS)).mono ?_; rintro e w1 ⟨rfl, hx⟩; refine ⟨?_, Ext.trans hS hx⟩; rfl))
             (try simp only [Act.put, List.setIfInBounds_toArray, List.set_cons_zero, List.set_cons_succ]))
          | (refine ChL.nil ?_)
          | (refine' ChL.guard (x := _) ?_ ?_ ?_
             rotate_left
             · (go_simp
                rfl)
             all_goals
               intro hg
               simp only [hg])
          | (refine' ChL.guardN (x := _) ?_ ?_ ?_
             rotate_left
             · (go_simp
                rfl)
             all_goals
               intro hg
               simp only [hg]))
        all_goals
          intro w' hw'
          have HX : Ext w w' := hX.trans (Ext.trans (show Ext wr _ from (by repeat (first | (with_reducible exact Ext.refl _) | (with_reducible assumption) | (with_reducible refine Ext.alloc ?_ _) | (with_reducible refine Ext.drewN ?_ _) | (with_reducible refine Ext.drew ?_) | (with_reducible refine Ext.setCell ?_ ?_ _; rotate_left; (simp only []; omega)) | (with_reducible refine Ext.trans ?_ (by assumption))))) hw')
          clear hX hw' hsk hcut hsl
          go_wp2
        all_goals first
          | (go_ret
             exact ⟨ret_bool (by rw [upTo_f hlt (by rw [hok.out]; simp [*])]; rfl), HX⟩)
          | (go_roundw
             case rel =>
               exact ⟨k + 1, hlt, by go_num, fun j hj => by
                 rcases Nat.lt_or_ge j k with h | h
                 · exact HA.out j h
                 · have e : j = k := by omega
                   rw [e, hok.out]; simp [*], HX⟩
             case measure => simp [intOf]; omega)
      · have e : k = n := by omega
        subst e
        clear hsk
        have HX := Lib.hid hX
        clear hX
        go_wp2
        go_ret
        exact ⟨ret_bool (by rw [upTo_iff.2 HA.out, Bool.eq_iff_iff]; simp; omega), HX.out⟩
end Go.Proofs.Ytafmomocmodbhaa
