/- Finding in slices of mappings: IndexFunc, ContainsFunc at a closure; the closures of byEnd and byPort. -/
import Derived.Test.YtafmomocmodbhaaSlMC
import Derived.Lib.Walk
import Derived.Shelf.Abstract
namespace Go.Proofs.Ytafmomocmodbhaa
open Go.RowKit Go.Shelf

theorem IndexFunc_M (g : FuncId) (lb : Array Value) (eg : ∀ args w, (callFunc g args).run Try.prog w = .ok (.enter g args) w) (p : MapD → Bool) (a : Option Addr) (n c : Nat) (L : List MapD) (w : World) (hs : Sl encM 4 w a n c L)
    (hcall : ∀ x, x ∈ L → ∀ W, Ext w W → Calls Try.prog g (#[.agg #[.int .i64 x.ins.addr, .int .i64 x.ins.port, .int .i64 x.port, .int .i64 x.last]] ++ lb) W fun e w' => e = .returned (.bool (p x)) ∧ Ext W w') :
    Calls Try.prog 134 #[.slice a n c, .func (.func g) #[] lb] w fun e w' => e = .returned (.int .i64 (ix p L)) ∧ Ext w w' := by
  have hle := hs.le
  have hmax := hs.max
  have hlen := Lib.hid hs.len
  rcases hs.maps with ⟨h0, hL⟩ | ⟨h0, b, off, ha, hb, hc⟩
  · subst h0
    subst hL
    clear hs hcall hlen
    go_enter Try.func134, Try.ntmps134
    go_wp2
    go_loop [5, 8] (fun _ i => i = .int .i64 0) (fun _ _ => 0)
    case atStart => rfl
    case round =>
      subst hrel
      go_wp2
      go_ret
      exact ⟨rfl, Ext.refl _⟩
  · subst ha
    have HC := Lib.hid hcall
    have HC2 := Lib.hid hc
    clear hs hcall hc
    go_enter Try.func134, Try.ntmps134
    go_wp2
    go_loopw [5, 8] (fun _ i wr => ∃ k : Nat, k ≤ n ∧ i = .int .i64 k ∧ (∀ j, j < k → p (nth L j) = false) ∧ Ext w wr) (fun _ i _ => n - (intOf i).toNat)
    case atStart => exact ⟨0, Nat.zero_le _, rfl, by omega, Ext.refl _⟩
    case round =>
      obtain ⟨k, hk, rfl, hall, hX⟩ := hrel
      have HA := Lib.hid hall
      clear hall
      by_cases hlt : k < n
      · obtain ⟨d0, d1, d2, d3⟩ := HC2.out k hlt
        rw [← hX.cells _ _ hb] at d0 d1 d2 d3
        have hmem : nth L k ∈ L := nth_mem (by rw [hlen.out]; exact hlt)
        have hcall := HC.out (nth L k) hmem wr hX
        cases hp : p (nth L k) with
        | true =>
          rw [hp] at hcall
          replace hcall := Lib.hid hcall
          replace hp := Lib.hid hp
          go_wp2_with fail
          refine (hcall.out).mono ?_
          rintro e w1 ⟨rfl, hx⟩
          go_wp2
          go_ret
          refine ⟨ret_int (ix_some (k := k) (x := nth L k) ?_ (nth_some (by rw [hlen.out]; exact hlt)) hp.out).symm, hX.trans hx⟩
          intro y hy
          obtain ⟨j, hj, rfl⟩ := List.mem_take_iff_getElem.1 hy
          have h1 := HA.out j (by omega)
          rwa [nth_of (List.getElem?_eq_getElem (by omega))] at h1
        | false =>
          rw [hp] at hcall
          replace hcall := Lib.hid hcall
          replace hp := Lib.hid hp
          go_wp2_with fail
          refine (hcall.out).mono ?_
          rintro e w1 ⟨rfl, hx⟩
          have HX := Lib.hid (hX.trans hx)
          clear hX hx
          go_wp2
          go_roundw
          case rel => exact ⟨k + 1, hlt, by go_num, fun j hj => by
            rcases Nat.lt_or_ge j k with h | h
            · exact HA.out j h
            · have e : j = k := by omega
              rw [e]; exact hp.out, HX.out⟩
          case measure => simp [intOf]; omega
      · have e : k = n := by omega
        have HX := Lib.hid hX
        clear hX
        subst e
        go_wp2
        go_ret
        refine ⟨ret_int (ix_none fun x hx => ?_).symm, HX.out⟩
        obtain ⟨j, hj, rfl⟩ := List.mem_iff_getElem.1 hx
        have h1 := HA.out j (by rw [← hlen.out]; exact hj)
        rwa [nth_of (List.getElem?_eq_getElem hj)] at h1
theorem ix_any {α : Type} (p : α → Bool) (l : List α) : decide (0 ≤ ix p l) = l.any p := by
  rcases ix_cases p l with ⟨h, h2⟩ | ⟨k, x, h, h2, h3, _⟩
  · rw [h]
    have : l.any p = false := by rw [List.any_eq_false]; intro x hx; simp [h2 x hx]
    rw [this]; rfl
  · rw [h]
    have : l.any p = true := List.any_eq_true.2 ⟨x, List.mem_of_getElem? h2, h3⟩
    rw [this]
    simp
theorem ContainsFunc_M (g : FuncId) (lb : Array Value) (eg : ∀ args w, (callFunc g args).run Try.prog w = .ok (.enter g args) w) (p : MapD → Bool) (a : Option Addr) (n c : Nat) (L : List MapD) (w : World) (hs : Sl encM 4 w a n c L)
    (hcall : ∀ x, x ∈ L → ∀ W, Ext w W → Calls Try.prog g (#[.agg #[.int .i64 x.ins.addr, .int .i64 x.ins.port, .int .i64 x.port, .int .i64 x.last]] ++ lb) W fun e w' => e = .returned (.bool (p x)) ∧ Ext W w') :
    Calls Try.prog 108 #[.slice a n c, .func (.func g) #[] lb] w fun e w' => e = .returned (.bool (L.any p)) ∧ Ext w w' := by
  have H := Lib.hid (IndexFunc_M g lb eg p a n c L w hs hcall)
  rw [← ix_any]
  have hge := ix_ge p L
  clear hs hcall eg
  generalize ix p L = r at *
  go_enter Try.func108, Try.ntmps108
  go_wp2_with fail
  refine (H.out).mono ?_
  rintro e w1 ⟨rfl, hx⟩
  go_wp2
  go_ret
  exact ⟨rfl, hx⟩
theorem clo_byEnd (m : MapD) (e : EndD) (B : Nat) (W : World) (hB : Blk W B 42 #[.int .i64 e.addr, .int .i64 e.port]) :
    Calls Try.prog 135 (#[.agg #[.int .i64 m.ins.addr, .int .i64 m.ins.port, .int .i64 m.port, .int .i64 m.last]] ++ #[.pointer (some ⟨B, 0, none⟩)]) W fun r w' => r = .returned (.bool (decide (m.ins = e))) ∧ Ext W w' := by
  show Calls Try.prog 135 #[.agg #[.int .i64 m.ins.addr, .int .i64 m.ins.port, .int .i64 m.port, .int .i64 m.last], .pointer (some ⟨B, 0, none⟩)] W _
  have h1 := hB.cells
  have h2 := hB.lt
  have e1 : decide (m.ins = e) = (decide (m.ins.addr = e.addr) && decide (m.ins.port = e.port)) := by
    obtain ⟨⟨a, b⟩, c, d⟩ := m; obtain ⟨x, y⟩ := e
    rw [Bool.eq_iff_iff]
    simp
  rw [e1]
  clear e1 hB
  go_enter Try.func135, Try.ntmps135
  go_wp2
  all_goals (go_ret; exact ⟨ret_bool (by simp [*]), (by repeat (first | (with_reducible exact Ext.refl _) | (with_reducible assumption) | (with_reducible refine Ext.alloc ?_ _) | (with_reducible refine Ext.drewN ?_ _) | (with_reducible refine Ext.drew ?_) | (with_reducible refine Ext.setCell ?_ ?_ _; rotate_left; (simp only []; omega)) | (with_reducible refine Ext.trans ?_ (by assumption))))⟩)
theorem impl_byEnd (e : EndD) (a : Option Addr) (n c : Nat) (L : List MapD) (w : World) (hs : Sl encM 4 w a n c L) :
    Calls Try.prog 76 #[.slice a n c, .agg #[.int .i64 e.addr, .int .i64 e.port]] w fun r w' => r = .returned (.int .i64 (byEnd L e)) ∧ Ext w w' := by
  have eg : ∀ args w, (callFunc 135 args).run Try.prog w = .ok (.enter 135 args) w := enters_of Try.func135 (by kernel_rfl) rfl
  have H := Lib.hid (IndexFunc_M 135 #[.pointer (some ⟨w.heap.size, 0, none⟩)] eg (fun m => decide (m.ins = e)) a n c L (w.alloc (.cells #[.int .i64 e.addr, .int .i64 e.port] 42)) (hs.alloc _)
    (fun x _ W hW => clo_byEnd x e w.heap.size W (Blk.ext (Blk.new _ _ _) hW)))
  clear hs eg
  unfold byEnd
  generalize ix (fun m => decide (m.ins = e)) L = r at *
  go_enter Try.func76, Try.ntmps76
  go_wp2_with fail
  refine (H.out).mono ?_
  rintro e w1 ⟨rfl, hx⟩
  go_wp2
  go_ret
  exact ⟨rfl, (by repeat (first | (with_reducible exact Ext.refl _) | (with_reducible assumption) | (with_reducible refine Ext.alloc ?_ _) | (with_reducible refine Ext.drewN ?_ _) | (with_reducible refine Ext.drew ?_) | (with_reducible refine Ext.setCell ?_ ?_ _; rotate_left; (simp only []; omega)) | (with_reducible refine Ext.trans ?_ (by assumption))))⟩
theorem clo_byPort (m : MapD) (q : Int) (B : Nat) (W : World) (hB : Blk W B 3 #[.int .i64 q]) :
    Calls Try.prog 142 (#[.agg #[.int .i64 m.ins.addr, .int .i64 m.ins.port, .int .i64 m.port, .int .i64 m.last]] ++ #[.pointer (some ⟨B, 0, none⟩)]) W fun r w' => r = .returned (.bool (decide (m.port = q))) ∧ Ext W w' := by
  show Calls Try.prog 142 #[.agg #[.int .i64 m.ins.addr, .int .i64 m.ins.port, .int .i64 m.port, .int .i64 m.last], .pointer (some ⟨B, 0, none⟩)] W _
  have h1 := hB.cells
  have h2 := hB.lt
  clear hB
  go_enter Try.func142, Try.ntmps142
  go_wp2
  go_ret
  exact ⟨rfl, (by repeat (first | (with_reducible exact Ext.refl _) | (with_reducible assumption) | (with_reducible refine Ext.alloc ?_ _) | (with_reducible refine Ext.drewN ?_ _) | (with_reducible refine Ext.drew ?_) | (with_reducible refine Ext.setCell ?_ ?_ _; rotate_left; (simp only []; omega)) | (with_reducible refine Ext.trans ?_ (by assumption))))⟩
theorem impl_byPort (q : Int) (a : Option Addr) (n c : Nat) (L : List MapD) (w : World) (hs : Sl encM 4 w a n c L) :
    Calls Try.prog 89 #[.slice a n c, .int .i64 q] w fun r w' => r = .returned (.int .i64 (byPort L q)) ∧ Ext w w' := by
  have eg : ∀ args w, (callFunc 142 args).run Try.prog w = .ok (.enter 142 args) w := enters_of Try.func142 (by kernel_rfl) rfl
  have H := Lib.hid (IndexFunc_M 142 #[.pointer (some ⟨w.heap.size, 0, none⟩)] eg (fun m => decide (m.port = q)) a n c L (w.alloc (.cells #[.int .i64 q] 3)) (hs.alloc _)
    (fun x _ W hW => clo_byPort x q w.heap.size W (Blk.ext (Blk.new _ _ _) hW)))
  clear hs eg
  unfold byPort
  generalize ix (fun m => decide (m.port = q)) L = r at *
  go_enter Try.func89, Try.ntmps89
  go_wp2_with fail
  refine (H.out).mono ?_
  rintro e w1 ⟨rfl, hx⟩
  go_wp2
  go_ret
  exact ⟨rfl, (by repeat (first | (with_reducible exact Ext.refl _) | (with_reducible assumption) | (with_reducible refine Ext.alloc ?_ _) | (with_reducible refine Ext.drewN ?_ _) | (with_reducible refine Ext.drew ?_) | (with_reducible refine Ext.setCell ?_ ?_ _; rotate_left; (simp only []; omega)) | (with_reducible refine Ext.trans ?_ (by assumption))))⟩
end Go.Proofs.Ytafmomocmodbhaa
