/- Contracts: valid gates of the reference; ways of packets, of both. -/
import Derived.Test.YtafmomocmodbhaaSTab
import Derived.Test.YtafmomocmodbhaaVGate
namespace Go.Proofs.Ytafmomocmodbhaa
open Go.RowKit Go.Shelf

theorem spec_validNet' (n : NetD) (w : World) : Calls Try.prog 96 #[.agg #[.int .i64 n.base, .int .i64 n.bits]] w fun e w' => e = .returned (.bool (validNet n)) ∧ Ext w w' := spec_validNet n.base n.bits w
theorem spec_inNet' (n : NetD) (a : Int) (w : World) (h : validNet n = true) : Calls Try.prog 46 #[.agg #[.int .i64 n.base, .int .i64 n.bits], .int .i64 a] w fun e w' => e = .returned (.bool (has n a)) ∧ Ext w w' := spec_inNet n.base n.bits a w h
set_option maxHeartbeats 2000000 in
theorem spec_validGate (g : GateD) (ta : Option Addr) (tn tc : Nat) (ka : Option Addr) (kn kc : Nat) (w : World) (ht : Sl encM 4 w ta tn tc g.table) (hk : Sl encC 3 w ka kn kc g.cons) :
    Calls Try.prog 42 #[.agg #[.int .i64 g.net.base, .int .i64 g.net.bits, .int .i64 g.out, .slice ta tn tc, .slice ka kn kc, .int .i64 g.filter, .int .i64 g.hold, .int .i64 g.now]] w fun r w' => r = .returned (.bool (validGate g)) ∧ Ext w w' := by
  have hmx1 := ht.max
  have hmx2 := hk.max
  have hle1 := ht.le
  have hle2 := hk.le
  cases h1 : validNet g.net with
  | false =>
    go_enter Try.func42, Try.ntmps42
    go_wp2_with (first | (go_at_call 96; refine (spec_validNet' g.net _).mono ?_; rintro e w1 ⟨rfl, hx⟩; have hc := hx.cells; have hf := hx.frozens; have hy := hx.size; (try simp at hy); have hz : w.heap.size < w1.heap.size := (by omega)) | (go_at_call 97; refine (spec_validAddr _ _).mono ?_; rintro e w' ⟨rfl, rfl⟩) | (go_at_call 46; refine (spec_inNet' g.net _ _ (by assumption)).mono ?_; rintro e w1 ⟨rfl, hx⟩; have hc := hx.cells; have hf := hx.frozens; have hy := hx.size; (try simp at hy); have hz : w.heap.size < w1.heap.size := (by omega)) | (go_at_call 98; refine (spec_validTable _ _ _ g.table _ (by exact ht.ext (by repeat (first | (with_reducible exact Ext.refl _) | (with_reducible assumption) | (with_reducible refine Ext.alloc ?_ _) | (with_reducible refine Ext.drewN ?_ _) | (with_reducible refine Ext.drew ?_) | (with_reducible refine Ext.setCell ?_ ?_ _; rotate_left; (simp only []; omega)) | (with_reducible refine Ext.trans ?_ (by assumption)))))).mono ?_; rintro e w1 ⟨rfl, hx⟩; have hc := hx.cells; have hf := hx.frozens; have hy := hx.size; (try simp at hy); have hz : w.heap.size < w1.heap.size := (by omega)) | (go_at_call 99; refine (spec_validContacts _ _ _ g.cons _ (by exact hk.ext (by repeat (first | (with_reducible exact Ext.refl _) | (with_reducible assumption) | (with_reducible refine Ext.alloc ?_ _) | (with_reducible refine Ext.drewN ?_ _) | (with_reducible refine Ext.drew ?_) | (with_reducible refine Ext.setCell ?_ ?_ _; rotate_left; (simp only []; omega)) | (with_reducible refine Ext.trans ?_ (by assumption)))))).mono ?_; rintro e w1 ⟨rfl, hx⟩; have hc := hx.cells; have hf := hx.frozens; have hy := hx.size; (try simp at hy); have hz : w.heap.size < w1.heap.size := (by omega)) | (go_at_call 68; refine (spec_inRange _ _ _ _).mono ?_; rintro e w' ⟨rfl, rfl⟩))
    go_ret
    exact ⟨ret_bool (by simp [validGate, timer, *]), (by repeat (first | (with_reducible exact Ext.refl _) | (with_reducible assumption) | (with_reducible refine Ext.alloc ?_ _) | (with_reducible refine Ext.drewN ?_ _) | (with_reducible refine Ext.drew ?_) | (with_reducible refine Ext.setCell ?_ ?_ _; rotate_left; (simp only []; omega)) | (with_reducible refine Ext.trans ?_ (by assumption))))⟩
  | true =>
  cases h2 : word g.out with
  | false =>
    go_enter Try.func42, Try.ntmps42
    go_wp2_with (first | (go_at_call 96; refine (spec_validNet' g.net _).mono ?_; rintro e w1 ⟨rfl, hx⟩; have hc := hx.cells; have hf := hx.frozens; have hy := hx.size; (try simp at hy); have hz : w.heap.size < w1.heap.size := (by omega)) | (go_at_call 97; refine (spec_validAddr _ _).mono ?_; rintro e w' ⟨rfl, rfl⟩) | (go_at_call 46; refine (spec_inNet' g.net _ _ (by assumption)).mono ?_; rintro e w1 ⟨rfl, hx⟩; have hc := hx.cells; have hf := hx.frozens; have hy := hx.size; (try simp at hy); have hz : w.heap.size < w1.heap.size := (by omega)) | (go_at_call 98; refine (spec_validTable _ _ _ g.table _ (by exact ht.ext (by repeat (first | (with_reducible exact Ext.refl _) | (with_reducible assumption) | (with_reducible refine Ext.alloc ?_ _) | (with_reducible refine Ext.drewN ?_ _) | (with_reducible refine Ext.drew ?_) | (with_reducible refine Ext.setCell ?_ ?_ _; rotate_left; (simp only []; omega)) | (with_reducible refine Ext.trans ?_ (by assumption)))))).mono ?_; rintro e w1 ⟨rfl, hx⟩; have hc := hx.cells; have hf := hx.frozens; have hy := hx.size; (try simp at hy); have hz : w.heap.size < w1.heap.size := (by omega)) | (go_at_call 99; refine (spec_validContacts _ _ _ g.cons _ (by exact hk.ext (by repeat (first | (with_reducible exact Ext.refl _) | (with_reducible assumption) | (with_reducible refine Ext.alloc ?_ _) | (with_reducible refine Ext.drewN ?_ _) | (with_reducible refine Ext.drew ?_) | (with_reducible refine Ext.setCell ?_ ?_ _; rotate_left; (simp only []; omega)) | (with_reducible refine Ext.trans ?_ (by assumption)))))).mono ?_; rintro e w1 ⟨rfl, hx⟩; have hc := hx.cells; have hf := hx.frozens; have hy := hx.size; (try simp at hy); have hz : w.heap.size < w1.heap.size := (by omega)) | (go_at_call 68; refine (spec_inRange _ _ _ _).mono ?_; rintro e w' ⟨rfl, rfl⟩))
    go_ret
    exact ⟨ret_bool (by simp [validGate, timer, *]), (by repeat (first | (with_reducible exact Ext.refl _) | (with_reducible assumption) | (with_reducible refine Ext.alloc ?_ _) | (with_reducible refine Ext.drewN ?_ _) | (with_reducible refine Ext.drew ?_) | (with_reducible refine Ext.setCell ?_ ?_ _; rotate_left; (simp only []; omega)) | (with_reducible refine Ext.trans ?_ (by assumption))))⟩
  | true =>
  cases h3 : has g.net g.out with
  | true =>
    go_enter Try.func42, Try.ntmps42
    go_wp2_with (first | (go_at_call 96; refine (spec_validNet' g.net _).mono ?_; rintro e w1 ⟨rfl, hx⟩; have hc := hx.cells; have hf := hx.frozens; have hy := hx.size; (try simp at hy); have hz : w.heap.size < w1.heap.size := (by omega)) | (go_at_call 97; refine (spec_validAddr _ _).mono ?_; rintro e w' ⟨rfl, rfl⟩) | (go_at_call 46; refine (spec_inNet' g.net _ _ (by assumption)).mono ?_; rintro e w1 ⟨rfl, hx⟩; have hc := hx.cells; have hf := hx.frozens; have hy := hx.size; (try simp at hy); have hz : w.heap.size < w1.heap.size := (by omega)) | (go_at_call 98; refine (spec_validTable _ _ _ g.table _ (by exact ht.ext (by repeat (first | (with_reducible exact Ext.refl _) | (with_reducible assumption) | (with_reducible refine Ext.alloc ?_ _) | (with_reducible refine Ext.drewN ?_ _) | (with_reducible refine Ext.drew ?_) | (with_reducible refine Ext.setCell ?_ ?_ _; rotate_left; (simp only []; omega)) | (with_reducible refine Ext.trans ?_ (by assumption)))))).mono ?_; rintro e w1 ⟨rfl, hx⟩; have hc := hx.cells; have hf := hx.frozens; have hy := hx.size; (try simp at hy); have hz : w.heap.size < w1.heap.size := (by omega)) | (go_at_call 99; refine (spec_validContacts _ _ _ g.cons _ (by exact hk.ext (by repeat (first | (with_reducible exact Ext.refl _) | (with_reducible assumption) | (with_reducible refine Ext.alloc ?_ _) | (with_reducible refine Ext.drewN ?_ _) | (with_reducible refine Ext.drew ?_) | (with_reducible refine Ext.setCell ?_ ?_ _; rotate_left; (simp only []; omega)) | (with_reducible refine Ext.trans ?_ (by assumption)))))).mono ?_; rintro e w1 ⟨rfl, hx⟩; have hc := hx.cells; have hf := hx.frozens; have hy := hx.size; (try simp at hy); have hz : w.heap.size < w1.heap.size := (by omega)) | (go_at_call 68; refine (spec_inRange _ _ _ _).mono ?_; rintro e w' ⟨rfl, rfl⟩))
    go_ret
    exact ⟨ret_bool (by simp [validGate, timer, *]), (by repeat (first | (with_reducible exact Ext.refl _) | (with_reducible assumption) | (with_reducible refine Ext.alloc ?_ _) | (with_reducible refine Ext.drewN ?_ _) | (with_reducible refine Ext.drew ?_) | (with_reducible refine Ext.setCell ?_ ?_ _; rotate_left; (simp only []; omega)) | (with_reducible refine Ext.trans ?_ (by assumption))))⟩
  | false =>
  cases h4 : validTable g.table with
  | false =>
    go_enter Try.func42, Try.ntmps42
    go_wp2_with (first | (go_at_call 96; refine (spec_validNet' g.net _).mono ?_; rintro e w1 ⟨rfl, hx⟩; have hc := hx.cells; have hf := hx.frozens; have hy := hx.size; (try simp at hy); have hz : w.heap.size < w1.heap.size := (by omega)) | (go_at_call 97; refine (spec_validAddr _ _).mono ?_; rintro e w' ⟨rfl, rfl⟩) | (go_at_call 46; refine (spec_inNet' g.net _ _ (by assumption)).mono ?_; rintro e w1 ⟨rfl, hx⟩; have hc := hx.cells; have hf := hx.frozens; have hy := hx.size; (try simp at hy); have hz : w.heap.size < w1.heap.size := (by omega)) | (go_at_call 98; refine (spec_validTable _ _ _ g.table _ (by exact ht.ext (by repeat (first | (with_reducible exact Ext.refl _) | (with_reducible assumption) | (with_reducible refine Ext.alloc ?_ _) | (with_reducible refine Ext.drewN ?_ _) | (with_reducible refine Ext.drew ?_) | (with_reducible refine Ext.setCell ?_ ?_ _; rotate_left; (simp only []; omega)) | (with_reducible refine Ext.trans ?_ (by assumption)))))).mono ?_; rintro e w1 ⟨rfl, hx⟩; have hc := hx.cells; have hf := hx.frozens; have hy := hx.size; (try simp at hy); have hz : w.heap.size < w1.heap.size := (by omega)) | (go_at_call 99; refine (spec_validContacts _ _ _ g.cons _ (by exact hk.ext (by repeat (first | (with_reducible exact Ext.refl _) | (with_reducible assumption) | (with_reducible refine Ext.alloc ?_ _) | (with_reducible refine Ext.drewN ?_ _) | (with_reducible refine Ext.drew ?_) | (with_reducible refine Ext.setCell ?_ ?_ _; rotate_left; (simp only []; omega)) | (with_reducible refine Ext.trans ?_ (by assumption)))))).mono ?_; rintro e w1 ⟨rfl, hx⟩; have hc := hx.cells; have hf := hx.frozens; have hy := hx.size; (try simp at hy); have hz : w.heap.size < w1.heap.size := (by omega)) | (go_at_call 68; refine (spec_inRange _ _ _ _).mono ?_; rintro e w' ⟨rfl, rfl⟩))
    go_ret
    exact ⟨ret_bool (by simp [validGate, timer, *]), (by repeat (first | (with_reducible exact Ext.refl _) | (with_reducible assumption) | (with_reducible refine Ext.alloc ?_ _) | (with_reducible refine Ext.drewN ?_ _) | (with_reducible refine Ext.drew ?_) | (with_reducible refine Ext.setCell ?_ ?_ _; rotate_left; (simp only []; omega)) | (with_reducible refine Ext.trans ?_ (by assumption))))⟩
  | true =>
  cases h5 : validContacts g.cons with
  | false =>
    go_enter Try.func42, Try.ntmps42
    go_wp2_with (first | (go_at_call 96; refine (spec_validNet' g.net _).mono ?_; rintro e w1 ⟨rfl, hx⟩; have hc := hx.cells; have hf := hx.frozens; have hy := hx.size; (try simp at hy); have hz : w.heap.size < w1.heap.size := (by omega)) | (go_at_call 97; refine (spec_validAddr _ _).mono ?_; rintro e w' ⟨rfl, rfl⟩) | (go_at_call 46; refine (spec_inNet' g.net _ _ (by assumption)).mono ?_; rintro e w1 ⟨rfl, hx⟩; have hc := hx.cells; have hf := hx.frozens; have hy := hx.size; (try simp at hy); have hz : w.heap.size < w1.heap.size := (by omega)) | (go_at_call 98; refine (spec_validTable _ _ _ g.table _ (by exact ht.ext (by repeat (first | (with_reducible exact Ext.refl _) | (with_reducible assumption) | (with_reducible refine Ext.alloc ?_ _) | (with_reducible refine Ext.drewN ?_ _) | (with_reducible refine Ext.drew ?_) | (with_reducible refine Ext.setCell ?_ ?_ _; rotate_left; (simp only []; omega)) | (with_reducible refine Ext.trans ?_ (by assumption)))))).mono ?_; rintro e w1 ⟨rfl, hx⟩; have hc := hx.cells; have hf := hx.frozens; have hy := hx.size; (try simp at hy); have hz : w.heap.size < w1.heap.size := (by omega)) | (go_at_call 99; refine (spec_validContacts _ _ _ g.cons _ (by exact hk.ext (by repeat (first | (with_reducible exact Ext.refl _) | (with_reducible assumption) | (with_reducible refine Ext.alloc ?_ _) | (with_reducible refine Ext.drewN ?_ _) | (with_reducible refine Ext.drew ?_) | (with_reducible refine Ext.setCell ?_ ?_ _; rotate_left; (simp only []; omega)) | (with_reducible refine Ext.trans ?_ (by assumption)))))).mono ?_; rintro e w1 ⟨rfl, hx⟩; have hc := hx.cells; have hf := hx.frozens; have hy := hx.size; (try simp at hy); have hz : w.heap.size < w1.heap.size := (by omega)) | (go_at_call 68; refine (spec_inRange _ _ _ _).mono ?_; rintro e w' ⟨rfl, rfl⟩))
    go_ret
    exact ⟨ret_bool (by simp [validGate, timer, *]), (by repeat (first | (with_reducible exact Ext.refl _) | (with_reducible assumption) | (with_reducible refine Ext.alloc ?_ _) | (with_reducible refine Ext.drewN ?_ _) | (with_reducible refine Ext.drew ?_) | (with_reducible refine Ext.setCell ?_ ?_ _; rotate_left; (simp only []; omega)) | (with_reducible refine Ext.trans ?_ (by assumption))))⟩
  | true =>
  cases h6 : inR g.filter 0 2 with
  | false =>
    go_enter Try.func42, Try.ntmps42
    go_wp2_with (first | (go_at_call 96; refine (spec_validNet' g.net _).mono ?_; rintro e w1 ⟨rfl, hx⟩; have hc := hx.cells; have hf := hx.frozens; have hy := hx.size; (try simp at hy); have hz : w.heap.size < w1.heap.size := (by omega)) | (go_at_call 97; refine (spec_validAddr _ _).mono ?_; rintro e w' ⟨rfl, rfl⟩) | (go_at_call 46; refine (spec_inNet' g.net _ _ (by assumption)).mono ?_; rintro e w1 ⟨rfl, hx⟩; have hc := hx.cells; have hf := hx.frozens; have hy := hx.size; (try simp at hy); have hz : w.heap.size < w1.heap.size := (by omega)) | (go_at_call 98; refine (spec_validTable _ _ _ g.table _ (by exact ht.ext (by repeat (first | (with_reducible exact Ext.refl _) | (with_reducible assumption) | (with_reducible refine Ext.alloc ?_ _) | (with_reducible refine Ext.drewN ?_ _) | (with_reducible refine Ext.drew ?_) | (with_reducible refine Ext.setCell ?_ ?_ _; rotate_left; (simp only []; omega)) | (with_reducible refine Ext.trans ?_ (by assumption)))))).mono ?_; rintro e w1 ⟨rfl, hx⟩; have hc := hx.cells; have hf := hx.frozens; have hy := hx.size; (try simp at hy); have hz : w.heap.size < w1.heap.size := (by omega)) | (go_at_call 99; refine (spec_validContacts _ _ _ g.cons _ (by exact hk.ext (by repeat (first | (with_reducible exact Ext.refl _) | (with_reducible assumption) | (with_reducible refine Ext.alloc ?_ _) | (with_reducible refine Ext.drewN ?_ _) | (with_reducible refine Ext.drew ?_) | (with_reducible refine Ext.setCell ?_ ?_ _; rotate_left; (simp only []; omega)) | (with_reducible refine Ext.trans ?_ (by assumption)))))).mono ?_; rintro e w1 ⟨rfl, hx⟩; have hc := hx.cells; have hf := hx.frozens; have hy := hx.size; (try simp at hy); have hz : w.heap.size < w1.heap.size := (by omega)) | (go_at_call 68; refine (spec_inRange _ _ _ _).mono ?_; rintro e w' ⟨rfl, rfl⟩))
    go_ret
    exact ⟨ret_bool (by simp [validGate, timer, *]), (by repeat (first | (with_reducible exact Ext.refl _) | (with_reducible assumption) | (with_reducible refine Ext.alloc ?_ _) | (with_reducible refine Ext.drewN ?_ _) | (with_reducible refine Ext.drew ?_) | (with_reducible refine Ext.setCell ?_ ?_ _; rotate_left; (simp only []; omega)) | (with_reducible refine Ext.trans ?_ (by assumption))))⟩
  | true =>
  cases h7 : inR g.hold 1 500 with
  | false =>
    go_enter Try.func42, Try.ntmps42
    go_wp2_with (first | (go_at_call 96; refine (spec_validNet' g.net _).mono ?_; rintro e w1 ⟨rfl, hx⟩; have hc := hx.cells; have hf := hx.frozens; have hy := hx.size; (try simp at hy); have hz : w.heap.size < w1.heap.size := (by omega)) | (go_at_call 97; refine (spec_validAddr _ _).mono ?_; rintro e w' ⟨rfl, rfl⟩) | (go_at_call 46; refine (spec_inNet' g.net _ _ (by assumption)).mono ?_; rintro e w1 ⟨rfl, hx⟩; have hc := hx.cells; have hf := hx.frozens; have hy := hx.size; (try simp at hy); have hz : w.heap.size < w1.heap.size := (by omega)) | (go_at_call 98; refine (spec_validTable _ _ _ g.table _ (by exact ht.ext (by repeat (first | (with_reducible exact Ext.refl _) | (with_reducible assumption) | (with_reducible refine Ext.alloc ?_ _) | (with_reducible refine Ext.drewN ?_ _) | (with_reducible refine Ext.drew ?_) | (with_reducible refine Ext.setCell ?_ ?_ _; rotate_left; (simp only []; omega)) | (with_reducible refine Ext.trans ?_ (by assumption)))))).mono ?_; rintro e w1 ⟨rfl, hx⟩; have hc := hx.cells; have hf := hx.frozens; have hy := hx.size; (try simp at hy); have hz : w.heap.size < w1.heap.size := (by omega)) | (go_at_call 99; refine (spec_validContacts _ _ _ g.cons _ (by exact hk.ext (by repeat (first | (with_reducible exact Ext.refl _) | (with_reducible assumption) | (with_reducible refine Ext.alloc ?_ _) | (with_reducible refine Ext.drewN ?_ _) | (with_reducible refine Ext.drew ?_) | (with_reducible refine Ext.setCell ?_ ?_ _; rotate_left; (simp only []; omega)) | (with_reducible refine Ext.trans ?_ (by assumption)))))).mono ?_; rintro e w1 ⟨rfl, hx⟩; have hc := hx.cells; have hf := hx.frozens; have hy := hx.size; (try simp at hy); have hz : w.heap.size < w1.heap.size := (by omega)) | (go_at_call 68; refine (spec_inRange _ _ _ _).mono ?_; rintro e w' ⟨rfl, rfl⟩))
    go_ret
    exact ⟨ret_bool (by simp [validGate, timer, *]), (by repeat (first | (with_reducible exact Ext.refl _) | (with_reducible assumption) | (with_reducible refine Ext.alloc ?_ _) | (with_reducible refine Ext.drewN ?_ _) | (with_reducible refine Ext.drew ?_) | (with_reducible refine Ext.setCell ?_ ?_ _; rotate_left; (simp only []; omega)) | (with_reducible refine Ext.trans ?_ (by assumption))))⟩
  | true =>
  cases h8 : inR g.now 0 10000 with
  | false =>
    go_enter Try.func42, Try.ntmps42
    go_wp2_with (first | (go_at_call 96; refine (spec_validNet' g.net _).mono ?_; rintro e w1 ⟨rfl, hx⟩; have hc := hx.cells; have hf := hx.frozens; have hy := hx.size; (try simp at hy); have hz : w.heap.size < w1.heap.size := (by omega)) | (go_at_call 97; refine (spec_validAddr _ _).mono ?_; rintro e w' ⟨rfl, rfl⟩) | (go_at_call 46; refine (spec_inNet' g.net _ _ (by assumption)).mono ?_; rintro e w1 ⟨rfl, hx⟩; have hc := hx.cells; have hf := hx.frozens; have hy := hx.size; (try simp at hy); have hz : w.heap.size < w1.heap.size := (by omega)) | (go_at_call 98; refine (spec_validTable _ _ _ g.table _ (by exact ht.ext (by repeat (first | (with_reducible exact Ext.refl _) | (with_reducible assumption) | (with_reducible refine Ext.alloc ?_ _) | (with_reducible refine Ext.drewN ?_ _) | (with_reducible refine Ext.drew ?_) | (with_reducible refine Ext.setCell ?_ ?_ _; rotate_left; (simp only []; omega)) | (with_reducible refine Ext.trans ?_ (by assumption)))))).mono ?_; rintro e w1 ⟨rfl, hx⟩; have hc := hx.cells; have hf := hx.frozens; have hy := hx.size; (try simp at hy); have hz : w.heap.size < w1.heap.size := (by omega)) | (go_at_call 99; refine (spec_validContacts _ _ _ g.cons _ (by exact hk.ext (by repeat (first | (with_reducible exact Ext.refl _) | (with_reducible assumption) | (with_reducible refine Ext.alloc ?_ _) | (with_reducible refine Ext.drewN ?_ _) | (with_reducible refine Ext.drew ?_) | (with_reducible refine Ext.setCell ?_ ?_ _; rotate_left; (simp only []; omega)) | (with_reducible refine Ext.trans ?_ (by assumption)))))).mono ?_; rintro e w1 ⟨rfl, hx⟩; have hc := hx.cells; have hf := hx.frozens; have hy := hx.size; (try simp at hy); have hz : w.heap.size < w1.heap.size := (by omega)) | (go_at_call 68; refine (spec_inRange _ _ _ _).mono ?_; rintro e w' ⟨rfl, rfl⟩))
    go_ret
    exact ⟨ret_bool (by simp [validGate, timer, *]), (by repeat (first | (with_reducible exact Ext.refl _) | (with_reducible assumption) | (with_reducible refine Ext.alloc ?_ _) | (with_reducible refine Ext.drewN ?_ _) | (with_reducible refine Ext.drew ?_) | (with_reducible refine Ext.setCell ?_ ?_ _; rotate_left; (simp only []; omega)) | (with_reducible refine Ext.trans ?_ (by assumption))))⟩
  | true =>
    obtain ⟨n0, n1⟩ := inR_iff.1 h8
    have hfin := Lib.hid (show validGate g = (g.table.all (okGateMap g) && g.cons.all (okGateCon g)) by
      unfold validGate timer
      simp [h1, h2, h3, h4, h5, h6, h7, h8])
    have hx2 := Lib.hid (fun k (hk : k < tn) => (validTable_iff.1 h4).1 (nth g.table k) (nth_mem (by rw [ht.len]; exact hk)))
    have HI := Lib.hid ht.maps
    have HJ := Lib.hid hk.cons
    have lT := Lib.hid ht.len
    have lK := Lib.hid hk.len
    have HTT := ht
    have hd1 := Lib.hid h1
    go_enter Try.func42, Try.ntmps42
    go_wp2_with (first | (go_at_call 96; refine (spec_validNet' g.net _).mono ?_; rintro e w1 ⟨rfl, hx⟩; have hc := hx.cells; have hf := hx.frozens; have hy := hx.size; (try simp at hy); have hz : w.heap.size < w1.heap.size := (by omega)) | (go_at_call 97; refine (spec_validAddr _ _).mono ?_; rintro e w' ⟨rfl, rfl⟩) | (go_at_call 46; refine (spec_inNet' g.net _ _ hd1.out).mono ?_; rintro e w1 ⟨rfl, hx⟩; have hc := hx.cells; have hf := hx.frozens; have hy := hx.size; (try simp at hy); have hz : w.heap.size < w1.heap.size := (by omega)) | (go_at_call 98; refine (spec_validTable _ _ _ g.table _ (by exact HTT.ext (by repeat (first | (with_reducible exact Ext.refl _) | (with_reducible assumption) | (with_reducible refine Ext.alloc ?_ _) | (with_reducible refine Ext.drewN ?_ _) | (with_reducible refine Ext.drew ?_) | (with_reducible refine Ext.setCell ?_ ?_ _; rotate_left; (simp only []; omega)) | (with_reducible refine Ext.trans ?_ (by assumption)))))).mono ?_; rintro e w1 ⟨rfl, hx⟩; have hc := hx.cells; have hf := hx.frozens; have hy := hx.size; (try simp at hy); have hz : w.heap.size < w1.heap.size := (by omega)))
    refine (spec_validContacts ka kn kc g.cons _ (by exact hk.ext (by repeat (first | (with_reducible exact Ext.refl _) | (with_reducible assumption) | (with_reducible refine Ext.alloc ?_ _) | (with_reducible refine Ext.drewN ?_ _) | (with_reducible refine Ext.drew ?_) | (with_reducible refine Ext.setCell ?_ ?_ _; rotate_left; (simp only []; omega)) | (with_reducible refine Ext.trans ?_ (by assumption)))))).mono ?_
    rintro e w5 ⟨rfl, hx5⟩
    have hX5 : Ext (w.alloc (.cells #[.int .i64 g.net.base, .int .i64 g.net.bits, .int .i64 g.out, .slice ta tn tc, .slice ka kn kc, .int .i64 g.filter, .int .i64 g.hold, .int .i64 g.now] 40)) w5 := (by repeat (first | (with_reducible exact Ext.refl _) | (with_reducible assumption) | (with_reducible refine Ext.alloc ?_ _) | (with_reducible refine Ext.drewN ?_ _) | (with_reducible refine Ext.drew ?_) | (with_reducible refine Ext.setCell ?_ ?_ _; rotate_left; (simp only []; omega)) | (with_reducible refine Ext.trans ?_ (by assumption))))
    have hB5 : Blk w5 w.heap.size 40 #[.int .i64 g.net.base, .int .i64 g.net.bits, .int .i64 g.out, .slice ta tn tc, .slice ka kn kc, .int .i64 g.filter, .int .i64 g.hold, .int .i64 g.now] := (Blk.new w _ _).ext hX5
    replace hX5 : Ext w w5 := Ext.trans ((Ext.refl w).alloc _) hX5
    have hcB := hB5.cells
    have hzB := hB5.lt
    clear hc hx hy hz hf hx5
    go_wp2_with (go_at_call 68; refine (spec_inRange _ _ _ _).mono ?_; rintro e w' ⟨rfl, rfl⟩)
    clear hcB hzB h2 h3 h4 h5 h6 h7 h8
    go_loopw [3] (fun i wr => ∃ k : Nat, k ≤ tn ∧ i = .int .i64 k ∧ (∀ j, j < k → okGateMap g (nth g.table j) = true) ∧ Blk wr w.heap.size 40 #[.int .i64 g.net.base, .int .i64 g.net.bits, .int .i64 g.out, .slice ta tn tc, .slice ka kn kc, .int .i64 g.filter, .int .i64 g.hold, .int .i64 g.now] ∧ Ext w wr) (fun i _ => tn - (intOf i).toNat)
    case atStart => exact ⟨0, Nat.zero_le _, rfl, by omega, hB5, hX5⟩
    case round =>
      obtain ⟨k, hkt, rfl, hall, hB, hX⟩ := hrel
      have HA := Lib.hid hall
      have hcB := hB.cells
      have hzB := hB.lt
      clear hall hB5 hX5
      by_cases hlt : k < tn
      · obtain ⟨_, b, off, rfl, hb, hc⟩ := (HI.out).resolve_left (by omega)
        obtain ⟨d0, d1, d2, d3⟩ := hc k hlt
        rw [← hX.cells _ _ hb] at d0 d1 d2 d3
        have hbr : b < wr.heap.size := by have := hX.size; omega
        have hkk := hx2.out k hlt
        simp only [okMap, Bool.and_eq_true, inR_iff] at hkk
        obtain ⟨_, l0, l1⟩ := hkk
        obtain ⟨B1, hB1⟩ : ∃ B1, decide (g.now < (nth g.table k).last) = B1 := ⟨_, rfl⟩
        have hok := Lib.hid (show okGateMap g (nth g.table k) = (has g.net (nth g.table k).ins.addr && !B1 && !expired (nth g.table k) g.now g.hold) by
          unfold okGateMap
          rw [← hB1]
          congr 2
          rw [Bool.eq_iff_iff]
          simp)
        clear hc
        go_wp2_with fail
        refine wp_region_ext (by kernel_rfl) (by kernel_rfl) ?_
        repeat' (first
          | (refine ChL.skip (by rfl) ?_
             (try simp only [Act.put, List.setIfInBounds_toArray, List.set_cons_zero, List.set_cons_succ]))
          | (refine' ChL.val (v := _) (by rfl) ?_ ?_
             rotate_left
             · (intro wS hS
                have hcS := Ext.cells hS
                go_simp
                with_reducible rfl)
             (try simp only [Act.put, List.setIfInBounds_toArray, List.set_cons_zero, List.set_cons_succ]))
          | (refine' ChL.call (v := _) (f := _) (args := _) (by rfl) ?_ ?_ ?_
             rotate_left 3
             · (intro wS
                go_simp
                (constructor <;> rfl))
             · (intro wS hS
                first | (go_at_call 46; refine (spec_inNet' g.net _ _ hd1.out).mono ?_; rintro e w1 ⟨rfl, hx⟩; refine ⟨?_, Ext.trans hS hx⟩; rfl) | (go_at_call 100; refine (spec_expired (nth g.table k) _ _ _ l0 l1 n0 n1).mono ?_; rintro e w1 ⟨rfl, hx⟩; refine ⟨?_, Ext.trans hS hx⟩; rfl))
             (try simp only [Act.put, List.setIfInBounds_toArray, List.set_cons_zero, List.set_cons_succ]))
          | (refine ChL.nil ?_)
          | (refine' ChL.guard (x := _) ?_ ?_ ?_
             rotate_left
             · (go_simp
                rfl)
             all_goals
               intro hg
               simp only [hg])
          | (refine' ChL.guardN (x := _) ?_ ?_ ?_
             rotate_left
             · (go_simp
                rfl)
             all_goals
               intro hg
               simp only [hg]))
        all_goals
          intro w' hw'
          have HX : Ext w w' := hX.trans hw'
          have HB := hB.ext hw'
          clear hX hw' hB hcB hzB d0 d1 d2 d3
          go_wp2
        all_goals first
          | (go_ret
             exact ⟨ret_bool (by
               have hno : okGateMap g (nth g.table k) = false := by rw [hok.out]; simp [*]
               rw [hfin.out]
               have : g.table.all (okGateMap g) = false := by
                 rw [List.all_eq_false]
                 exact ⟨_, nth_mem (by rw [lT.out]; exact hlt), by simp [hno]⟩
               rw [this]; rfl), HX⟩)
          | (go_roundw
             case rel =>
               exact ⟨k + 1, hlt, by go_num, fun j hj => by
                 rcases Nat.lt_or_ge j k with h | h
                 · exact HA.out j h
                 · have e : j = k := by omega
                   rw [e, hok.out]; simp [*], HB, HX⟩
             case measure => simp [intOf]; omega)
      · have e : k = tn := by omega
        have hall1 := Lib.hid (show g.table.all (okGateMap g) = true by
          rw [List.all_eq_true]
          intro x hx
          obtain ⟨j, hj, rfl⟩ := List.mem_iff_getElem.1 hx
          have h1 := HA.out j (by rw [e, ← lT.out]; exact hj)
          rwa [nth_of (List.getElem?_eq_getElem hj)] at h1)
        have HX0 := Lib.hid hX
        clear hX
        subst e
        go_wp2
        clear hcB hzB
        go_loopw [4] (fun i wr => ∃ k2 : Nat, k2 ≤ kn ∧ i = .int .i64 k2 ∧ (∀ j, j < k2 → okGateCon g (nth g.cons j) = true) ∧ Blk wr w.heap.size 40 #[.int .i64 g.net.base, .int .i64 g.net.bits, .int .i64 g.out, .slice ta k tc, .slice ka kn kc, .int .i64 g.filter, .int .i64 g.hold, .int .i64 g.now] ∧ Ext w wr) (fun i _ => kn - (intOf i).toNat)
        case atStart => exact ⟨0, Nat.zero_le _, rfl, by omega, hB, HX0.out⟩
        case round =>
          obtain ⟨j, hjk, rfl, hall2, hB2, hX2⟩ := hrel
          have HA2 := Lib.hid hall2
          have hcB := hB2.cells
          have hzB := hB2.lt
          clear hall2 hB HA
          by_cases hlt2 : j < kn
          · obtain ⟨_, b, off, rfl, hb, hc⟩ := (HJ.out).resolve_left (by omega)
            obtain ⟨d0, d1, d2⟩ := hc j hlt2
            rw [← hX2.cells _ _ hb] at d0 d1 d2
            have hbr : b < wr.heap.size := by have := hX2.size; omega
            obtain ⟨B1, hB1⟩ : ∃ B1, decide (byPort g.table (nth g.cons j).port < 0) = B1 := ⟨_, rfl⟩
            have hok := Lib.hid (show okGateCon g (nth g.cons j) = !B1 by
              unfold okGateCon
              rw [← hB1, Bool.eq_iff_iff]
              simp)
            have hST := HTT.ext hX2
            clear hc
            go_wp2_with fail
            refine wp_region_ext (by kernel_rfl) (by kernel_rfl) ?_
            repeat' (first
              | (refine ChL.skip (by rfl) ?_
                 (try simp only [Act.put, List.setIfInBounds_toArray, List.set_cons_zero, List.set_cons_succ]))
              | (refine' ChL.val (v := _) (by rfl) ?_ ?_
                 rotate_left
                 · (intro wS hS
                    have hcS := Ext.cells hS
                    go_simp
                    with_reducible rfl)
                 (try simp only [Act.put, List.setIfInBounds_toArray, List.set_cons_zero, List.set_cons_succ]))
              | (refine' ChL.call (v := _) (f := _) (args := _) (by rfl) ?_ ?_ ?_
                 rotate_left 3
                 · (intro wS
                    go_simp
                    (constructor <;> rfl))
                 · (intro wS hS
                    first | (go_at_call 90; refine (spec_byPort _ ta _ tc g.table _ (by exact hST.ext hS)).mono ?_; rintro e w1 ⟨rfl, hx⟩; subst hx; refine ⟨?_, hS⟩; rfl))
                 (try simp only [Act.put, List.setIfInBounds_toArray, List.set_cons_zero, List.set_cons_succ]))
              | (refine ChL.nil ?_)
              | (refine' ChL.guard (x := _) ?_ ?_ ?_
                 rotate_left
                 · (go_simp
                    rfl)
                 all_goals
                   intro hg
                   simp only [hg])
              | (refine' ChL.guardN (x := _) ?_ ?_ ?_
                 rotate_left
                 · (go_simp
                    rfl)
                 all_goals
                   intro hg
                   simp only [hg]))
            all_goals
              intro w' hw'
              have HX : Ext w w' := hX2.trans hw'
              have HB := hB2.ext hw'
              clear hX2 hw' hB2 hcB hzB d0 d1 d2 hST
              go_wp2
            all_goals first
              | (go_ret
                 exact ⟨ret_bool (by
                   have hno : okGateCon g (nth g.cons j) = false := by rw [hok.out]; simp [*]
                   rw [hfin.out]
                   have : g.cons.all (okGateCon g) = false := by
                     rw [List.all_eq_false]
                     exact ⟨_, nth_mem (by rw [lK.out]; exact hlt2), by simp [hno]⟩
                   rw [this, Bool.and_false]), HX⟩)
              | (go_roundw
                 case rel =>
                   exact ⟨j + 1, hlt2, by go_num, fun i hi => by
                     rcases Nat.lt_or_ge i j with h | h
                     · exact HA2.out i h
                     · have e : i = j := by omega
                       rw [e, hok.out]; simp [*], HB, HX⟩
                 case measure => simp [intOf]; omega)
          · have e : j = kn := by omega
            have hall3 := Lib.hid (show g.cons.all (okGateCon g) = true by
              rw [List.all_eq_true]
              intro x hx
              obtain ⟨i, hi, rfl⟩ := List.mem_iff_getElem.1 hx
              have h1 := HA2.out i (by rw [e, ← lK.out]; exact hi)
              rwa [nth_of (List.getElem?_eq_getElem hi)] at h1)
            have HX2 := Lib.hid hX2
            clear hX2
            subst e
            go_wp2
            go_ret
            exact ⟨ret_bool (by rw [hfin.out, hall1.out, hall3.out]; rfl), HX2.out⟩
end Go.Proofs.Ytafmomocmodbhaa
