/- The first package's time steps. -/
import Derived.Test.YtafmomocmodbhaaDel
import Derived.Test.YtafmomocmodbhaaTickT
import Derived.Test.YtafmomocmodbhaaVGate
import Derived.Test.YtafmomocmodbhaaEager
namespace Go.Proofs.Ytafmomocmodbhaa
open Go.RowKit Go.Shelf

theorem RExt.toExt {a b c : World} {row : Option Nat} (h : Ext a b) (k : b.grownBy c row) (hr : ∀ g, row = some g → a.heap.size ≤ g) : Ext a c := h.grown k hr
theorem clo_without (q : Int) (x : ConD) (G : Nat) (W : World) (hB : Blk W G 3 #[.int .i64 q]) :
    Calls Try.prog 123 (#[.agg #[.int .i64 x.port, .int .i64 x.to_.addr, .int .i64 x.to_.port]] ++ #[.pointer (some ⟨G, 0, none⟩)]) W fun r w' => r = .returned (.bool (decide (x.port = q))) ∧ Ext W w' := by
  show Calls Try.prog 123 #[.agg #[.int .i64 x.port, .int .i64 x.to_.addr, .int .i64 x.to_.port], .pointer (some ⟨G, 0, none⟩)] W _
  have hcB := hB.cells
  have hzB := hB.lt
  clear hB
  go_enter Try.func123, Try.ntmps123
  go_wp2
  go_ret
  exact ⟨rfl, (by repeat (first | (with_reducible exact Ext.refl _) | (with_reducible assumption) | (with_reducible refine Ext.alloc ?_ _) | (with_reducible refine Ext.drewN ?_ _) | (with_reducible refine Ext.drew ?_) | (with_reducible refine Ext.setCell ?_ ?_ _; rotate_left; (simp only []; omega)) | (with_reducible refine Ext.trans ?_ (by assumption))))⟩
theorem impl_without (a : Option Addr) (n c : Nat) (L : List ConD) (q : Int) (w : World) (hs : Sl encC 3 w a n c L) (hn : n ≤ 1000) :
    Calls Try.prog 66 #[.slice a n c, .int .i64 q] w fun e w' => ∃ a' m, e = .returned (.slice a' m m) ∧ Ow 115 encC 3 w.heap.size w' a' m m (without L q) ∧ m ≤ n ∧ Ext w w' := by
  have e1 : ∀ args w, (callFunc 123 args).run Try.prog w = .ok (.enter 123 args) w := enters_of Try.func123 (by kernel_rfl) rfl
  go_enter Try.func66, Try.ntmps66
  go_wp2_with fail
  refine (Clone_C a n c L _ (by exact hs.ext (by repeat (first | (with_reducible exact Ext.refl _) | (with_reducible assumption) | (with_reducible refine Ext.alloc ?_ _) | (with_reducible refine Ext.drewN ?_ _) | (with_reducible refine Ext.drew ?_) | (with_reducible refine Ext.setCell ?_ ?_ _; rotate_left; (simp only []; omega)) | (with_reducible refine Ext.trans ?_ (by assumption))))) (by omega)).mono ?_
  rintro e w1 ⟨a1, c1, rfl, hown, hx1⟩
  have hO1 := (Ow.of_row hown encC_len (by omega)).rebase (b' := w.heap.size + 1) (by simp)
  have BQ : Blk w1 w.heap.size 3 #[.int .i64 q] := by refine Blk.ext ?_ hx1; exact (by repeat (first | (with_reducible assumption) | (with_reducible exact Blk.new _ _ _) | exact Blk.newAt _ _ _ (by simp) | (with_reducible refine Blk.alloc ?_ _) | (with_reducible refine Blk.drew ?_) | (with_reducible refine Blk.drewN ?_ _) | refine Blk.far ?_ (by simp only []; omega) _ | refine Blk.rext ?_ (by assumption) (by omega) | refine Blk.ext ?_ (by assumption)))
  have X1 : Ext w w1 := (by repeat (first | (with_reducible exact Ext.refl _) | (with_reducible assumption) | (with_reducible refine Ext.alloc ?_ _) | (with_reducible refine Ext.drewN ?_ _) | (with_reducible refine Ext.drew ?_) | (with_reducible refine Ext.setCell ?_ ?_ _; rotate_left; (simp only []; omega)) | (with_reducible refine Ext.trans ?_ (by assumption))))
  have l1 := hO1.lt
  clear hx1 hown
  go_wp2_with fail
  refine (DeleteFunc_C 123 _ e1 (fun x => decide (x.port = q)) a1 n c1 (w.heap.size + 1) L w1 hO1 hn (fun x _ W hW => clo_without q x w.heap.size W (BQ.grown hW (row_ne fun y e => by have := (l1 y e).1; omega)))).mono ?_
  rintro e w2 ⟨m, rfl, hO2, hm, hg2⟩
  have X2 : Ext w w2 := X1.grown hg2 (fun g e => by
    cases a1 with
    | none => cases e
    | some y => have := (l1 y rfl).1; simp at e; omega)
  clear hg2 e1
  go_wp2_with fail
  refine (Clip_C a1 m c1 _ _ _ hO2 (by omega)).mono ?_
  rintro e w3 ⟨rfl, rfl⟩
  go_wp2
  go_ret
  exact ⟨a1, m, rfl, (hO2.clip).rebase (by omega), hm, X2⟩
theorem clo_expire (now hold : Int) (m : MapD) (G H : Nat) (W : World) (hB : Blk W G 3 #[.int .i64 now]) (hC : Blk W H 3 #[.int .i64 hold]) (l0 : 0 ≤ m.last) (l1 : m.last ≤ 10000) (n0 : 0 ≤ now) (n1 : now ≤ 10000) :
    Calls Try.prog 127 (#[.agg #[.int .i64 m.ins.addr, .int .i64 m.ins.port, .int .i64 m.port, .int .i64 m.last]] ++ #[.pointer (some ⟨G, 0, none⟩), .pointer (some ⟨H, 0, none⟩)]) W fun r w' => r = .returned (.bool (expired m now hold)) ∧ Ext W w' := by
  show Calls Try.prog 127 #[.agg #[.int .i64 m.ins.addr, .int .i64 m.ins.port, .int .i64 m.port, .int .i64 m.last], .pointer (some ⟨G, 0, none⟩), .pointer (some ⟨H, 0, none⟩)] W _
  have hcB := hB.cells
  have hzB := hB.lt
  have hcC := hC.cells
  have hzC := hC.lt
  clear hB hC
  go_enter Try.func127, Try.ntmps127
  go_wp2_with (go_at_call 110; refine (impl_expired m _ _ _ l0 l1 n0 n1).mono ?_; rintro e w1 ⟨rfl, hx⟩; have hc := hx.cells; have hf := hx.frozens; have hy := hx.size; (try simp at hy); have hz : W.heap.size < w1.heap.size := (by omega))
  go_ret
  exact ⟨rfl, (by repeat (first | (with_reducible exact Ext.refl _) | (with_reducible assumption) | (with_reducible refine Ext.alloc ?_ _) | (with_reducible refine Ext.drewN ?_ _) | (with_reducible refine Ext.drew ?_) | (with_reducible refine Ext.setCell ?_ ?_ _; rotate_left; (simp only []; omega)) | (with_reducible refine Ext.trans ?_ (by assumption))))⟩
theorem impl_ExpireTable (a : Option Addr) (n c : Nat) (L : List MapD) (now hold : Int) (w : World) (hs : Sl encM 4 w a n c L) (hn : n ≤ 1000) (hv : validTable L = true) (ht : timer now hold = true) (hl : ∀ m ∈ L, 0 ≤ m.last ∧ m.last ≤ 10000) (n0 : 0 ≤ now) (n1 : now ≤ 10000) :
    Calls Try.prog 67 #[.slice a n c, .int .i64 now, .int .i64 hold] w fun e w' => ∃ a' m, e = .returned (.slice a' m m) ∧ Ow 102 encM 4 w.heap.size w' a' m m (expire L now hold) ∧ m ≤ n ∧ Ext w w' := by
  have e1 : ∀ args w, (callFunc 127 args).run Try.prog w = .ok (.enter 127 args) w := enters_of Try.func127 (by kernel_rfl) rfl
  have hv1 := fun W h => impl_timed a n c L now hold W h
  rw [hv, ht] at hv1
  replace hv1 := Lib.hid hv1
  have HL := Lib.hid hl
  clear hl
  go_enter Try.func67, Try.ntmps67
  go_wp2_with fail
  refine (hv1.out _ (by exact hs.ext (by repeat (first | (with_reducible exact Ext.refl _) | (with_reducible assumption) | (with_reducible refine Ext.alloc ?_ _) | (with_reducible refine Ext.drewN ?_ _) | (with_reducible refine Ext.drew ?_) | (with_reducible refine Ext.setCell ?_ ?_ _; rotate_left; (simp only []; omega)) | (with_reducible refine Ext.trans ?_ (by assumption)))))).mono ?_
  rintro e w1 ⟨rfl, hx1⟩
  have BQ : Blk w1 w.heap.size 3 #[.int .i64 now] := by refine Blk.ext ?_ hx1; exact (by repeat (first | (with_reducible assumption) | (with_reducible exact Blk.new _ _ _) | exact Blk.newAt _ _ _ (by simp) | (with_reducible refine Blk.alloc ?_ _) | (with_reducible refine Blk.drew ?_) | (with_reducible refine Blk.drewN ?_ _) | refine Blk.far ?_ (by simp only []; omega) _ | refine Blk.rext ?_ (by assumption) (by omega) | refine Blk.ext ?_ (by assumption)))
  have BH : Blk w1 (w.heap.size + 1) 3 #[.int .i64 hold] := by refine Blk.ext ?_ hx1; exact (by repeat (first | (with_reducible assumption) | (with_reducible exact Blk.new _ _ _) | exact Blk.newAt _ _ _ (by simp) | (with_reducible refine Blk.alloc ?_ _) | (with_reducible refine Blk.drew ?_) | (with_reducible refine Blk.drewN ?_ _) | refine Blk.far ?_ (by simp only []; omega) _ | refine Blk.rext ?_ (by assumption) (by omega) | refine Blk.ext ?_ (by assumption)))
  have X1 : Ext w w1 := (by repeat (first | (with_reducible exact Ext.refl _) | (with_reducible assumption) | (with_reducible refine Ext.alloc ?_ _) | (with_reducible refine Ext.drewN ?_ _) | (with_reducible refine Ext.drew ?_) | (with_reducible refine Ext.setCell ?_ ?_ _; rotate_left; (simp only []; omega)) | (with_reducible refine Ext.trans ?_ (by assumption))))
  have z1 := BH.lt
  clear hx1
  go_wp2_with fail
  refine (Clone_M a n c L _ (by exact hs.ext (by repeat (first | (with_reducible exact Ext.refl _) | (with_reducible assumption) | (with_reducible refine Ext.alloc ?_ _) | (with_reducible refine Ext.drewN ?_ _) | (with_reducible refine Ext.drew ?_) | (with_reducible refine Ext.setCell ?_ ?_ _; rotate_left; (simp only []; omega)) | (with_reducible refine Ext.trans ?_ (by assumption))))) (by omega)).mono ?_
  rintro e w2 ⟨a1, c1, rfl, hown, hx2⟩
  have hO1 := (Ow.of_row hown encM_len (by omega)).rebase (b' := w.heap.size + 2) (by (try simp); omega)
  replace BQ := BQ.ext (show Ext w1 w2 from (by repeat (first | (with_reducible exact Ext.refl _) | (with_reducible assumption) | (with_reducible refine Ext.alloc ?_ _) | (with_reducible refine Ext.drewN ?_ _) | (with_reducible refine Ext.drew ?_) | (with_reducible refine Ext.setCell ?_ ?_ _; rotate_left; (simp only []; omega)) | (with_reducible refine Ext.trans ?_ (by assumption)))))
  replace BH := BH.ext (show Ext w1 w2 from (by repeat (first | (with_reducible exact Ext.refl _) | (with_reducible assumption) | (with_reducible refine Ext.alloc ?_ _) | (with_reducible refine Ext.drewN ?_ _) | (with_reducible refine Ext.drew ?_) | (with_reducible refine Ext.setCell ?_ ?_ _; rotate_left; (simp only []; omega)) | (with_reducible refine Ext.trans ?_ (by assumption)))))
  have X2 : Ext w w2 := (by repeat (first | (with_reducible exact Ext.refl _) | (with_reducible assumption) | (with_reducible refine Ext.alloc ?_ _) | (with_reducible refine Ext.drewN ?_ _) | (with_reducible refine Ext.drew ?_) | (with_reducible refine Ext.setCell ?_ ?_ _; rotate_left; (simp only []; omega)) | (with_reducible refine Ext.trans ?_ (by assumption))))
  have l1 := hO1.lt
  clear hx2 hown X1
  go_wp2_with fail
  refine (DeleteFunc_M 127 _ e1 (fun m => expired m now hold) a1 n c1 (w.heap.size + 2) L w2 hO1 hn (fun x hx W hW => clo_expire now hold x w.heap.size (w.heap.size + 1) W (BQ.grown hW (row_ne fun y e => by have := (l1 y e).1; omega)) (BH.grown hW (row_ne fun y e => by have := (l1 y e).1; omega)) (HL.out x hx).1 (HL.out x hx).2 n0 n1)).mono ?_
  rintro e w3 ⟨m, rfl, hO2, hm, hg2⟩
  have X3 : Ext w w3 := X2.grown hg2 (fun g e => by
    cases a1 with
    | none => cases e
    | some y => have := (l1 y rfl).1; simp at e; omega)
  clear hg2 e1
  go_wp2_with fail
  refine (Clip_M a1 m c1 _ _ _ hO2 (by omega)).mono ?_
  rintro e w4 ⟨rfl, rfl⟩
  go_wp2
  go_ret
  exact ⟨a1, m, rfl, (hO2.clip).rebase (by omega), hm, X3⟩
end Go.Proofs.Ytafmomocmodbhaa
