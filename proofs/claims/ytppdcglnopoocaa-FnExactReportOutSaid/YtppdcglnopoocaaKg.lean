/- The words, laws and contracts that the claims of this seat share: group g. No condition. -/
import Derived.Test.YtppdcglnopoocaaKf
import Derived.Test.YtppdcglnopoocaaKd
import Derived.Test.YtppdcglnopoocaaKs
import Derived.Test.YtppdcglnopoocaaKe
import Derived.Test.YtppdcglnopoocaaKb
/- Contracts: the laws' own compares of gates; time steps and nets of the first package in one form. -/
namespace Go.Proofs.Ytppdcglnopoocaa
set_option linter.unusedVariables false
set_option linter.unusedSimpArgs false
open Go.RowKit

set_option maxHeartbeats 1000000 in
theorem equalTables_same (a a' : Option Addr) (n c c' : Nat) (L : List MapD) (w : World) (hs : Sl encM 4 w a n c L) (hs' : Sl encM 4 w a' n c' L) :
    Calls Try.prog 64 #[.slice a n c, .slice a' n c'] w fun e w' => e = .returned (.bool true) ∧ Ext w w' := by
  have hle := hs.le
  have hmax := hs.max
  have HI := Lib.hid hs.maps
  have HJ := Lib.hid hs'.maps
  clear hs hs'
  go_enter Try.func64, Try.ntmps64
  go_wp2
  go_loopw [5] (fun i wr => ∃ k : Nat, k ≤ n ∧ i = .int .i64 k ∧ Ext w wr) (fun i _ => n - (intOf i).toNat)
  case atStart => exact ⟨0, Nat.zero_le _, rfl, Ext.refl _⟩
  case round =>
    obtain ⟨k, hk, rfl, hX⟩ := hrel
    by_cases hlt : k < n
    · obtain ⟨_, b, off, rfl, hb, hc⟩ := (HI.out).resolve_left (by omega)
      obtain ⟨_, b', off', rfl, hb', hc'⟩ := (HJ.out).resolve_left (by omega)
      obtain ⟨d0, d1, d2, d3⟩ := hc k hlt
      obtain ⟨e0, e1, e2, e3⟩ := hc' k hlt
      rw [← hX.cells _ _ hb] at d0 d1 d2 d3
      rw [← hX.cells _ _ hb'] at e0 e1 e2 e3
      have hbr : b < wr.heap.size := by have := hX.size; omega
      have hbr' : b' < wr.heap.size := by have := hX.size; omega
      have HX := Lib.hid hX
      have heq : ∀ W : World, (Go.binOp .neq 89 (.agg #[.int .i64 (nth L k).ins.addr, .int .i64 (nth L k).ins.port, .int .i64 (nth L k).port, .int .i64 (nth L k).last]) (.agg #[.int .i64 (nth L k).ins.addr, .int .i64 (nth L k).ins.port, .int .i64 (nth L k).port, .int .i64 (nth L k).last])).run Try.prog W = .ok (.bool false) W := fun W => by rw [run_neq_M (nth L k) (nth L k)]; simp
      clear hc hc' hX
      go_wp2_with fail
      have hdrS : ∀ W : World, W.drew.heap.size = W.heap.size := fun _ => rfl
      refine wp_region_eager (R := Ext) [0, 1, 2, 3, 4, 5, 6, 7, 8] (by kernel_rfl) (by kernel_rfl) Ext.refl (fun _ _ _ => Ext.trans) ?_
      repeat' (first
        | (refine ChX.skip (by rfl) (by rfl) ?_
           (try simp only [Act.put, List.setIfInBounds_toArray, List.set_cons_zero, List.set_cons_succ]))
        | (refine' ChX.quiet (v := _) (by rfl) (by rfl) (by rfl) ?_ ?_
           rotate_left
           · (intro wS hS
              have hcS := Ext.cells hS
              go_simp
              with_reducible rfl)
           (try simp only [Act.put, List.setIfInBounds_toArray, List.set_cons_zero, List.set_cons_succ]))
        | (refine ChX.nil ?_)
        | (refine' ChX.guard (x := _) (by rfl) ?_ ?_ ?_
           rotate_left
           · (go_simp
              rfl)
           all_goals
             intro hg
             simp only [hg])
        | (refine' ChX.guardN (x := _) (by rfl) ?_ ?_ ?_
           rotate_left
           · (go_simp
              rfl)
           all_goals
             intro hg
             simp only [hg]))
      go_wp2
      go_roundw
      case rel => exact ⟨k + 1, hlt, by go_num, (show Ext w wr from HX.out).trans (by repeat (first | (with_reducible exact Ext.refl _) | (with_reducible assumption) | (with_reducible refine Ext.alloc ?_ _) | (with_reducible refine Ext.drewN ?_ _) | (with_reducible refine Ext.drew ?_) | (with_reducible refine Ext.setCell ?_ ?_ _; rotate_left; (simp only []; omega)) | (with_reducible refine Ext.trans ?_ (by assumption))))⟩
      case measure => simp [intOf]; omega
    · have HX := Lib.hid hX
      clear hX
      go_wp2
      go_ret
      exact ⟨rfl, HX.out⟩
set_option maxHeartbeats 1000000 in
theorem equalContacts_same (a a' : Option Addr) (n c c' : Nat) (L : List ConD) (w : World) (hs : Sl encC 3 w a n c L) (hs' : Sl encC 3 w a' n c' L) :
    Calls Try.prog 65 #[.slice a n c, .slice a' n c'] w fun e w' => e = .returned (.bool true) ∧ Ext w w' := by
  have hle := hs.le
  have hmax := hs.max
  have HI := Lib.hid hs.cons
  have HJ := Lib.hid hs'.cons
  clear hs hs'
  go_enter Try.func65, Try.ntmps65
  go_wp2
  go_loopw [5] (fun i wr => ∃ k : Nat, k ≤ n ∧ i = .int .i64 k ∧ Ext w wr) (fun i _ => n - (intOf i).toNat)
  case atStart => exact ⟨0, Nat.zero_le _, rfl, Ext.refl _⟩
  case round =>
    obtain ⟨k, hk, rfl, hX⟩ := hrel
    by_cases hlt : k < n
    · obtain ⟨_, b, off, rfl, hb, hc⟩ := (HI.out).resolve_left (by omega)
      obtain ⟨_, b', off', rfl, hb', hc'⟩ := (HJ.out).resolve_left (by omega)
      obtain ⟨d0, d1, d2⟩ := hc k hlt
      obtain ⟨e0, e1, e2⟩ := hc' k hlt
      rw [← hX.cells _ _ hb] at d0 d1 d2
      rw [← hX.cells _ _ hb'] at e0 e1 e2
      have hbr : b < wr.heap.size := by have := hX.size; omega
      have hbr' : b' < wr.heap.size := by have := hX.size; omega
      have HX := Lib.hid hX
      have heq : ∀ W : World, (Go.binOp .neq 47 (.agg #[.int .i64 (nth L k).port, .int .i64 (nth L k).to_.addr, .int .i64 (nth L k).to_.port]) (.agg #[.int .i64 (nth L k).port, .int .i64 (nth L k).to_.addr, .int .i64 (nth L k).to_.port])).run Try.prog W = .ok (.bool false) W := fun W => by rw [run_neq_C (nth L k) (nth L k)]; simp
      clear hc hc' hX
      go_wp2_with fail
      have hdrS : ∀ W : World, W.drew.heap.size = W.heap.size := fun _ => rfl
      refine wp_region_eager (R := Ext) [0, 1, 2, 3, 4, 5, 6, 7, 8] (by kernel_rfl) (by kernel_rfl) Ext.refl (fun _ _ _ => Ext.trans) ?_
      repeat' (first
        | (refine ChX.skip (by rfl) (by rfl) ?_
           (try simp only [Act.put, List.setIfInBounds_toArray, List.set_cons_zero, List.set_cons_succ]))
        | (refine' ChX.quiet (v := _) (by rfl) (by rfl) (by rfl) ?_ ?_
           rotate_left
           · (intro wS hS
              have hcS := Ext.cells hS
              go_simp
              with_reducible rfl)
           (try simp only [Act.put, List.setIfInBounds_toArray, List.set_cons_zero, List.set_cons_succ]))
        | (refine ChX.nil ?_)
        | (refine' ChX.guard (x := _) (by rfl) ?_ ?_ ?_
           rotate_left
           · (go_simp
              rfl)
           all_goals
             intro hg
             simp only [hg])
        | (refine' ChX.guardN (x := _) (by rfl) ?_ ?_ ?_
           rotate_left
           · (go_simp
              rfl)
           all_goals
             intro hg
             simp only [hg]))
      go_wp2
      go_roundw
      case rel => exact ⟨k + 1, hlt, by go_num, (show Ext w wr from HX.out).trans (by repeat (first | (with_reducible exact Ext.refl _) | (with_reducible assumption) | (with_reducible refine Ext.alloc ?_ _) | (with_reducible refine Ext.drewN ?_ _) | (with_reducible refine Ext.drew ?_) | (with_reducible refine Ext.setCell ?_ ?_ _; rotate_left; (simp only []; omega)) | (with_reducible refine Ext.trans ?_ (by assumption))))⟩
      case measure => simp [intOf]; omega
    · have HX := Lib.hid hX
      clear hX
      go_wp2
      go_ret
      exact ⟨rfl, HX.out⟩
set_option maxHeartbeats 1000000 in
theorem equalGate_same (g : GateD) (ta : Option Addr) (tn tc : Nat) (ka : Option Addr) (kn kc : Nat) (sa : Option Addr) (sc : Nat) (qa : Option Addr) (qc : Nat) (w : World)
    (ht : Sl encM 4 w ta tn tc g.table) (hk : Sl encC 3 w ka kn kc g.cons) (hs : Sl encM 4 w sa tn sc g.table) (hq : Sl encC 3 w qa kn qc g.cons) :
    Calls Try.prog 21 #[.agg #[.int .i64 g.net.base, .int .i64 g.net.bits, .int .i64 g.out, .slice ta tn tc, .slice ka kn kc, .int .i64 g.filter, .int .i64 g.hold, .int .i64 g.now], .agg #[.int .i64 g.net.base, .int .i64 g.net.bits, .int .i64 g.out, .slice sa tn sc, .slice qa kn qc, .int .i64 g.filter, .int .i64 g.hold, .int .i64 g.now]] w fun e w' => e = .returned (.bool true) ∧ Ext w w' := by
  have heq : ∀ W : World, (Go.binOp .eql 24 (.agg #[.int .i64 g.net.base, .int .i64 g.net.bits]) (.agg #[.int .i64 g.net.base, .int .i64 g.net.bits])).run Try.prog W = .ok (.bool true) W := fun W => by rw [run_eql_N g.net g.net]; simp
  go_enter Try.func21, Try.ntmps21
  go_wp2_with (first | (go_at_call 64; refine (equalTables_same _ _ tn tc sc g.table _ (by exact ht.ext (by repeat (first | (with_reducible exact Ext.refl _) | (with_reducible assumption) | (with_reducible refine Ext.alloc ?_ _) | (with_reducible refine Ext.drewN ?_ _) | (with_reducible refine Ext.drew ?_) | (with_reducible refine Ext.setCell ?_ ?_ _; rotate_left; (simp only []; omega)) | (with_reducible refine Ext.trans ?_ (by assumption))))) (by exact hs.ext (by repeat (first | (with_reducible exact Ext.refl _) | (with_reducible assumption) | (with_reducible refine Ext.alloc ?_ _) | (with_reducible refine Ext.drewN ?_ _) | (with_reducible refine Ext.drew ?_) | (with_reducible refine Ext.setCell ?_ ?_ _; rotate_left; (simp only []; omega)) | (with_reducible refine Ext.trans ?_ (by assumption)))))).mono ?_; rintro e w1 ⟨rfl, hx⟩; have hc := hx.cells; have hf := hx.frozens; have hy := hx.size; (try simp at hy); have hz : w.heap.size < w1.heap.size ∧ w.heap.size + 1 < w1.heap.size := (by omega)) | (go_at_call 65; refine (equalContacts_same _ _ kn kc qc g.cons _ (by exact hk.ext (by repeat (first | (with_reducible exact Ext.refl _) | (with_reducible assumption) | (with_reducible refine Ext.alloc ?_ _) | (with_reducible refine Ext.drewN ?_ _) | (with_reducible refine Ext.drew ?_) | (with_reducible refine Ext.setCell ?_ ?_ _; rotate_left; (simp only []; omega)) | (with_reducible refine Ext.trans ?_ (by assumption))))) (by exact hq.ext (by repeat (first | (with_reducible exact Ext.refl _) | (with_reducible assumption) | (with_reducible refine Ext.alloc ?_ _) | (with_reducible refine Ext.drewN ?_ _) | (with_reducible refine Ext.drew ?_) | (with_reducible refine Ext.setCell ?_ ?_ _; rotate_left; (simp only []; omega)) | (with_reducible refine Ext.trans ?_ (by assumption)))))).mono ?_; rintro e w1 ⟨rfl, hx⟩; have hc := hx.cells; have hf := hx.frozens; have hy := hx.size; (try simp at hy); have hz : w.heap.size < w1.heap.size ∧ w.heap.size + 1 < w1.heap.size := (by omega)))
  go_ret
  exact ⟨rfl, (by repeat (first | (with_reducible exact Ext.refl _) | (with_reducible assumption) | (with_reducible refine Ext.alloc ?_ _) | (with_reducible refine Ext.drewN ?_ _) | (with_reducible refine Ext.drew ?_) | (with_reducible refine Ext.setCell ?_ ?_ _; rotate_left; (simp only []; omega)) | (with_reducible refine Ext.trans ?_ (by assumption))))⟩
/-- Rows as they are returned. -/
theorem equalGate_ow (g : GateD) (ta : Option Addr) (tn tc : Nat) (ka : Option Addr) (kn kc : Nat) (sa : Option Addr) (sn sc : Nat) (qa : Option Addr) (qn qc : Nat) (w : World)
    (ht : Sl encM 4 w ta tn tc g.table) (hk : Sl encC 3 w ka kn kc g.cons) (hs : Sl encM 4 w sa sn sc g.table) (hq : Sl encC 3 w qa qn qc g.cons) :
    Calls Try.prog 21 #[.agg #[.int .i64 g.net.base, .int .i64 g.net.bits, .int .i64 g.out, .slice ta tn tc, .slice ka kn kc, .int .i64 g.filter, .int .i64 g.hold, .int .i64 g.now], .agg #[.int .i64 g.net.base, .int .i64 g.net.bits, .int .i64 g.out, .slice sa sn sc, .slice qa qn qc, .int .i64 g.filter, .int .i64 g.hold, .int .i64 g.now]] w fun e w' => e = .returned (.bool true) ∧ Ext w w' := by
  obtain rfl : tn = sn := by rw [← ht.len, hs.len]
  obtain rfl : kn = qn := by rw [← hk.len, hq.len]
  exact equalGate_same g ta tn tc ka kn kc sa sc qa qc w ht hk hs hq
theorem equalPacket_ow (p : PktD) (a a' : Option Addr) (n n' c c' : Nat) (w : World) (hs : Sl encI 1 w a n c p.data) (hs' : Sl encI 1 w a' n' c' p.data) :
    Calls Try.prog 20 #[.agg #[.int .i64 p.kind, .int .i64 p.fr.addr, .int .i64 p.fr.port, .int .i64 p.to_.addr, .int .i64 p.to_.port, .slice a n c], .agg #[.int .i64 p.kind, .int .i64 p.fr.addr, .int .i64 p.fr.port, .int .i64 p.to_.addr, .int .i64 p.to_.port, .slice a' n' c']] w fun e w' => e = .returned (.bool true) ∧ Ext w w' := by
  obtain rfl : n = n' := by rw [← hs.len, hs'.len]
  exact equalPacket_same _ _ _ _ _ a a' n c c' p.data w hs hs'
theorem equalReport_ow (r : RepD) (a a' : Option Addr) (n n' c c' : Nat) (w : World) (hs : Sl encI 1 w a n c r.about.data) (hs' : Sl encI 1 w a' n' c' r.about.data) :
    Calls Try.prog 45 #[.agg #[.int .i64 r.code, .int .i64 r.sender, .int .i64 r.to_, .int .i64 r.about.kind, .int .i64 r.about.fr.addr, .int .i64 r.about.fr.port, .int .i64 r.about.to_.addr, .int .i64 r.about.to_.port, .slice a n c], .agg #[.int .i64 r.code, .int .i64 r.sender, .int .i64 r.to_, .int .i64 r.about.kind, .int .i64 r.about.fr.addr, .int .i64 r.about.fr.port, .int .i64 r.about.to_.addr, .int .i64 r.about.to_.port, .slice a' n' c']] w fun e w' => e = .returned (.bool true) ∧ Ext w w' := by
  obtain rfl : n = n' := by rw [← hs.len, hs'.len]
  exact equalReport_same _ _ _ _ _ _ _ _ a a' n c c' r.about.data w hs hs'
theorem equalInts_ow (L : List Int) (a a' : Option Addr) (n n' c c' : Nat) (w : World) (hs : Sl encI 1 w a n c L) (hs' : Sl encI 1 w a' n' c' L) :
    Calls Try.prog 24 #[.slice a n c, .slice a' n' c'] w fun e w' => e = .returned (.bool true) ∧ Ext w w' := by
  obtain rfl : n = n' := by rw [← hs.len, hs'.len]
  exact equalInts_same a a' n c c' L w hs hs'
theorem impl_InNet (n : NetD) (a : Int) (w : World) : Calls Try.prog 25 #[.agg #[.int .i64 n.base, .int .i64 n.bits], .int .i64 a] w fun e w' => e = .returned (.bool (validNet n && word a && has n a)) ∧ Ext w w' := by
  go_enter Try.func25, Try.ntmps25
  go_wp2_with (first | (go_at_call 71; refine (impl_ValidNet' n _).mono ?_; rintro e w1 ⟨rfl, hx⟩; have hc := hx.cells; have hf := hx.frozens; have hy := hx.size; (try simp at hy); have hz : w.heap.size < w1.heap.size := (by omega)) | (go_at_call 72; refine (impl_isWord _ _).mono ?_; rintro e w' ⟨rfl, rfl⟩) | (go_at_call 58; refine (impl_has' n _ _ (by assumption)).mono ?_; rintro e w1 ⟨rfl, hx⟩; have hc := hx.cells; have hf := hx.frozens; have hy := hx.size; (try simp at hy); have hz : w.heap.size < w1.heap.size := (by omega)))
  all_goals (go_ret; exact ⟨ret_bool (by simp_all), (by repeat (first | (with_reducible exact Ext.refl _) | (with_reducible assumption) | (with_reducible refine Ext.alloc ?_ _) | (with_reducible refine Ext.drewN ?_ _) | (with_reducible refine Ext.drew ?_) | (with_reducible refine Ext.setCell ?_ ?_ _; rotate_left; (simp only []; omega)) | (with_reducible refine Ext.trans ?_ (by assumption))))⟩)
end Go.Proofs.Ytppdcglnopoocaa
/- Contracts: ends and ports of tables; reports through gates. -/
namespace Go.Proofs.Ytppdcglnopoocaa
set_option linter.unusedVariables false
set_option linter.unusedSimpArgs false
open Go.RowKit

/-- The world, as far as it matters, in the midst of a region. -/
theorem wpList_gen {P : Program} {ops : Array Oper} {Q : Exit → Act → World → Prop} {l : List Oper} {a : Act} {w : World} (Good : World → Prop) (hg : Good w) (h : ∀ W, Good W → wpList P ops Q l a W) : wpList P ops Q l a w := h w hg
theorem Blk.rp8 {w : World} {b : Nat} {T : TypeId} {a0 a1 a2 a3 a4 a5 a6 a7 a8 : Value} (h : Blk w b T #[a0, a1, a2, a3, a4, a5, a6, a7, a8]) (u3 u4 u5 u6 u7 u8 v4 v5 : Value) :
    Blk ((((((((w.setCell ⟨b, 3, none⟩ u3).setCell ⟨b, 4, none⟩ u4).setCell ⟨b, 5, none⟩ u5).setCell ⟨b, 6, none⟩ u6).setCell ⟨b, 7, none⟩ u7).setCell ⟨b, 8, none⟩ u8).setCell ⟨b, 4, none⟩ v4).setCell ⟨b, 5, none⟩ v5) b T #[a0, a1, a2, u3, v4, v5, u6, u7, u8] := by
  simpa using (((((((h.set 3 u3).set 4 u4).set 5 u5).set 6 u6).set 7 u7).set 8 u8).set 4 v4).set 5 v5
def rE (r : Option EndD) : EndD := match r with
  | some x => x
  | none => ⟨0, 0⟩
theorem impl_pcopyOf (p : PktD) (a : Option Addr) (n c : Nat) (w : World) (hs : Sl encI 1 w a n c p.data) (hn : n ≤ 1048576) :
    Calls Try.prog 60 #[.agg #[.int .i64 p.kind, .int .i64 p.fr.addr, .int .i64 p.fr.port, .int .i64 p.to_.addr, .int .i64 p.to_.port, .slice a n c]] w fun e w' => ∃ a', e = .returned (.agg #[.int .i64 p.kind, .int .i64 p.fr.addr, .int .i64 p.fr.port, .int .i64 p.to_.addr, .int .i64 p.to_.port, .slice a' n n]) ∧ Ow 3 encI 1 w.heap.size w' a' n n p.data ∧ Ext w w' := by
  go_enter Try.func60, Try.ntmps60
  go_wp2_with fail
  refine (impl_clone_int a n c p.data _ (by exact hs.ext (by repeat (first | (with_reducible exact Ext.refl _) | (with_reducible assumption) | (with_reducible refine Ext.alloc ?_ _) | (with_reducible refine Ext.drewN ?_ _) | (with_reducible refine Ext.drew ?_) | (with_reducible refine Ext.setCell ?_ ?_ _; rotate_left; (simp only []; omega)) | (with_reducible refine Ext.trans ?_ (by assumption))))) hn).mono ?_
  rintro e w1 ⟨a', rfl, how, hx⟩
  have hB1 : Blk w1 w.heap.size 33 (#[.int .i64 p.kind, .int .i64 p.fr.addr, .int .i64 p.fr.port, .int .i64 p.to_.addr, .int .i64 p.to_.port, .slice a n c]) := by refine Blk.ext ?_ hx; exact (by repeat (first | (with_reducible assumption) | (with_reducible exact Blk.new _ _ _) | exact Blk.newAt _ _ _ (by simp) | (with_reducible refine Blk.alloc ?_ _) | (with_reducible refine Blk.drew ?_) | (with_reducible refine Blk.drewN ?_ _) | refine Blk.far ?_ (by simp only []; omega) _ | refine Blk.rext ?_ (by assumption) (by omega) | refine Blk.ext ?_ (by assumption)))
  have hB2 : Blk w1 (w.heap.size + 1) 33 #[.int .i64 0, .int .i64 0, .int .i64 0, .int .i64 0, .int .i64 0, .slice none 0 0] := by refine Blk.ext ?_ hx; exact (by repeat (first | (with_reducible assumption) | (with_reducible exact Blk.new _ _ _) | exact Blk.newAt _ _ _ (by simp) | (with_reducible refine Blk.alloc ?_ _) | (with_reducible refine Blk.drew ?_) | (with_reducible refine Blk.drewN ?_ _) | refine Blk.far ?_ (by simp only []; omega) _ | refine Blk.rext ?_ (by assumption) (by omega) | refine Blk.ext ?_ (by assumption)))
  have hc1 := hB1.cells
  have hf1 := hB1.frozens
  have hc2 := hB2.cells
  have hf2 := hB2.frozens
  have hy := hx.size
  simp at hy
  have hz : w.heap.size < w1.heap.size ∧ w.heap.size + 1 < w1.heap.size := by omega
  have hlt := how.lt
  simp at hlt
  go_wp2
  refine' bodyPost_ret (v := _) ?_ rfl ?_
  rotate_left
  · (simp only [results, Try.results60]
     go_simp
     rfl)
  refine ⟨a', rfl, ?_, (by repeat (first | (with_reducible exact Ext.refl _) | (with_reducible assumption) | (with_reducible refine Ext.alloc ?_ _) | (with_reducible refine Ext.drewN ?_ _) | (with_reducible refine Ext.drew ?_) | (with_reducible refine Ext.setCell ?_ ?_ _; rotate_left; (simp only []; omega)) | (with_reducible refine Ext.trans ?_ (by assumption))))⟩
  refine Ow.rebase (base := w.heap.size + 2) ?_ (by omega)
  repeat (refine Ow.setCell ?_ (fun y hy => by have := (hlt y hy).1; simp only []; omega) _)
  simpa using how
set_option maxHeartbeats 1000000 in
theorem impl_InsideEnd (q : Int) (a : Option Addr) (n c : Nat) (L : List MapD) (w : World) (hs : Sl encM 4 w a n c L) :
    Calls Try.prog 23 #[.slice a n c, .int .i64 q] w fun e w' => e = .returned (.tuple #[.agg #[.int .i64 (rE (insideEnd L q)).addr, .int .i64 (rE (insideEnd L q)).port], .bool (insideEnd L q).isSome]) ∧ Ext w w' := by
  have c1 := fun W h => impl_byPort q a n c L W h
  have c2 := fun W h => impl_ValidTable a n c L W h
  have hlen := hs.len
  have lS := fun (h : 0 < n) => hs.lt h
  by_cases hb : 0 ≤ byPort L q
  · obtain ⟨k, m, e1, e2, e3, e4⟩ := byPort_some hb
    have hk : k < n := by have := (List.getElem?_eq_some_iff.1 e2).1; omega
    cases hv : validTable L with
    | true =>
      have hr : insideEnd L q = some m.ins := by
        unfold insideEnd
        rw [hv, e4]; simp [hb]
      rw [e1] at c1
      rw [hv] at c2
      replace c1 := Lib.hid c1
      replace c2 := Lib.hid c2
      rw [hr]
      obtain ⟨_, b, off, rfl, hb0, hc0⟩ := (hs.maps).resolve_left (by omega)
      obtain ⟨d0, d1, d2, d3⟩ := hc0 k hk
      have hm : nth L k = m := nth_of e2
      rw [hm] at d0 d1 d2 d3
      have hle := hs.le
      have hmx := hs.max
      clear hr hb e1 e2 e3 e4 hv hc0 hm
      go_enter Try.func23, Try.ntmps23
      go_wp2_with fail
      refine (c1.out _ (by exact hs.ext (by repeat (first | (with_reducible exact Ext.refl _) | (with_reducible assumption) | (with_reducible refine Ext.alloc ?_ _) | (with_reducible refine Ext.drewN ?_ _) | (with_reducible refine Ext.drew ?_) | (with_reducible refine Ext.setCell ?_ ?_ _; rotate_left; (simp only []; omega)) | (with_reducible refine Ext.trans ?_ (by assumption)))))).mono ?_
      rintro e w1 ⟨rfl, hx1⟩
      have hy1 := hx1.size
      (try simp at hy1)
      have eW1 := useE (fun (h : Ext _ w1) => hs.ext h) (by repeat (first | (with_reducible exact Ext.refl _) | (with_reducible assumption) | (with_reducible refine Ext.alloc ?_ _) | (with_reducible refine Ext.drewN ?_ _) | (with_reducible refine Ext.drew ?_) | (with_reducible refine Ext.setCell ?_ ?_ _; rotate_left; (simp only []; omega)) | (with_reducible refine Ext.trans ?_ (by assumption))))
      replace hs := hs.ext eW1
      have BR : Blk w1 w.heap.size 30 #[.int .i64 0, .int .i64 0] := by refine Blk.ext ?_ hx1; exact (by repeat (first | (with_reducible assumption) | (with_reducible exact Blk.new _ _ _) | exact Blk.newAt _ _ _ (by simp) | (with_reducible refine Blk.alloc ?_ _) | (with_reducible refine Blk.drew ?_) | (with_reducible refine Blk.drewN ?_ _) | refine Blk.far ?_ (by simp only []; omega) _ | refine Blk.rext ?_ (by assumption) (by omega) | refine Blk.ext ?_ (by assumption)))
      have cBR := BR.cells
      have fBR := BR.frozens
      have zBR := BR.lt
      have X1 : Ext w w1 := (by repeat (first | (with_reducible exact Ext.refl _) | (with_reducible assumption) | (with_reducible refine Ext.alloc ?_ _) | (with_reducible refine Ext.drewN ?_ _) | (with_reducible refine Ext.drew ?_) | (with_reducible refine Ext.setCell ?_ ?_ _; rotate_left; (simp only []; omega)) | (with_reducible refine Ext.trans ?_ (by assumption))))
      go_wp2_with fail
      refine (c2.out _ (by exact hs.ext (by repeat (first | (with_reducible exact Ext.refl _) | (with_reducible assumption) | (with_reducible refine Ext.alloc ?_ _) | (with_reducible refine Ext.drewN ?_ _) | (with_reducible refine Ext.drew ?_) | (with_reducible refine Ext.setCell ?_ ?_ _; rotate_left; (simp only []; omega)) | (with_reducible refine Ext.trans ?_ (by assumption)))))).mono ?_
      rintro e w2 ⟨rfl, hx2⟩
      have hy2 := hx2.size
      (try simp at hy2)
      have eW2 := useE (fun (h : Ext _ w2) => hs.ext h) (by repeat (first | (with_reducible exact Ext.refl _) | (with_reducible assumption) | (with_reducible refine Ext.alloc ?_ _) | (with_reducible refine Ext.drewN ?_ _) | (with_reducible refine Ext.drew ?_) | (with_reducible refine Ext.setCell ?_ ?_ _; rotate_left; (simp only []; omega)) | (with_reducible refine Ext.trans ?_ (by assumption))))
      replace hs := hs.ext eW2
      clear cBR fBR zBR
      replace BR := BR.ext eW2
      have cBR := BR.cells
      have fBR := BR.frozens
      have zBR := BR.lt
      have X2 : Ext w w2 := X1.trans (by repeat (first | (with_reducible exact Ext.refl _) | (with_reducible assumption) | (with_reducible refine Ext.alloc ?_ _) | (with_reducible refine Ext.drewN ?_ _) | (with_reducible refine Ext.drew ?_) | (with_reducible refine Ext.setCell ?_ ?_ _; rotate_left; (simp only []; omega)) | (with_reducible refine Ext.trans ?_ (by assumption))))
      rw [← X2.cells _ _ hb0] at d0 d1 d2 d3
      have hb2 : b < w2.heap.size := by have := X2.size; omega
      clear hx1 hx2
      go_wp2
      refine' bodyPost_ret (v := _) ?_ rfl ?_
      rotate_left
      · (simp only [results, Try.results23]
         go_simp
         rfl)
      exact ⟨rfl, (by repeat (first | (with_reducible exact Ext.refl _) | (with_reducible assumption) | (with_reducible refine Ext.alloc ?_ _) | (with_reducible refine Ext.drewN ?_ _) | (with_reducible refine Ext.drew ?_) | (with_reducible refine Ext.setCell ?_ ?_ _; rotate_left; (simp only []; omega)) | (with_reducible refine Ext.trans ?_ (by assumption))))⟩
    | false =>
      have hr : insideEnd L q = none := by
        unfold insideEnd
        rw [hv]; simp
      rw [e1] at c1
      rw [hv] at c2
      replace c1 := Lib.hid c1
      replace c2 := Lib.hid c2
      rw [hr]
      clear hr hb e1 e2 e3 e4 hv
      go_enter Try.func23, Try.ntmps23
      go_wp2_with fail
      refine (c1.out _ (by exact hs.ext (by repeat (first | (with_reducible exact Ext.refl _) | (with_reducible assumption) | (with_reducible refine Ext.alloc ?_ _) | (with_reducible refine Ext.drewN ?_ _) | (with_reducible refine Ext.drew ?_) | (with_reducible refine Ext.setCell ?_ ?_ _; rotate_left; (simp only []; omega)) | (with_reducible refine Ext.trans ?_ (by assumption)))))).mono ?_
      rintro e w1 ⟨rfl, hx1⟩
      have hy1 := hx1.size
      (try simp at hy1)
      have eW1 := useE (fun (h : Ext _ w1) => hs.ext h) (by repeat (first | (with_reducible exact Ext.refl _) | (with_reducible assumption) | (with_reducible refine Ext.alloc ?_ _) | (with_reducible refine Ext.drewN ?_ _) | (with_reducible refine Ext.drew ?_) | (with_reducible refine Ext.setCell ?_ ?_ _; rotate_left; (simp only []; omega)) | (with_reducible refine Ext.trans ?_ (by assumption))))
      replace hs := hs.ext eW1
      have BR : Blk w1 w.heap.size 30 #[.int .i64 0, .int .i64 0] := by refine Blk.ext ?_ hx1; exact (by repeat (first | (with_reducible assumption) | (with_reducible exact Blk.new _ _ _) | exact Blk.newAt _ _ _ (by simp) | (with_reducible refine Blk.alloc ?_ _) | (with_reducible refine Blk.drew ?_) | (with_reducible refine Blk.drewN ?_ _) | refine Blk.far ?_ (by simp only []; omega) _ | refine Blk.rext ?_ (by assumption) (by omega) | refine Blk.ext ?_ (by assumption)))
      have cBR := BR.cells
      have fBR := BR.frozens
      have zBR := BR.lt
      have X1 : Ext w w1 := (by repeat (first | (with_reducible exact Ext.refl _) | (with_reducible assumption) | (with_reducible refine Ext.alloc ?_ _) | (with_reducible refine Ext.drewN ?_ _) | (with_reducible refine Ext.drew ?_) | (with_reducible refine Ext.setCell ?_ ?_ _; rotate_left; (simp only []; omega)) | (with_reducible refine Ext.trans ?_ (by assumption))))
      go_wp2_with fail
      refine (c2.out _ (by exact hs.ext (by repeat (first | (with_reducible exact Ext.refl _) | (with_reducible assumption) | (with_reducible refine Ext.alloc ?_ _) | (with_reducible refine Ext.drewN ?_ _) | (with_reducible refine Ext.drew ?_) | (with_reducible refine Ext.setCell ?_ ?_ _; rotate_left; (simp only []; omega)) | (with_reducible refine Ext.trans ?_ (by assumption)))))).mono ?_
      rintro e w2 ⟨rfl, hx2⟩
      have hy2 := hx2.size
      (try simp at hy2)
      have eW2 := useE (fun (h : Ext _ w2) => hs.ext h) (by repeat (first | (with_reducible exact Ext.refl _) | (with_reducible assumption) | (with_reducible refine Ext.alloc ?_ _) | (with_reducible refine Ext.drewN ?_ _) | (with_reducible refine Ext.drew ?_) | (with_reducible refine Ext.setCell ?_ ?_ _; rotate_left; (simp only []; omega)) | (with_reducible refine Ext.trans ?_ (by assumption))))
      replace hs := hs.ext eW2
      clear cBR fBR zBR
      replace BR := BR.ext eW2
      have cBR := BR.cells
      have fBR := BR.frozens
      have zBR := BR.lt
      have X2 : Ext w w2 := X1.trans (by repeat (first | (with_reducible exact Ext.refl _) | (with_reducible assumption) | (with_reducible refine Ext.alloc ?_ _) | (with_reducible refine Ext.drewN ?_ _) | (with_reducible refine Ext.drew ?_) | (with_reducible refine Ext.setCell ?_ ?_ _; rotate_left; (simp only []; omega)) | (with_reducible refine Ext.trans ?_ (by assumption))))
      clear hx1 hx2
      go_wp2
      refine' bodyPost_ret (v := _) ?_ rfl ?_
      rotate_left
      · (simp only [results, Try.results23]
         go_simp
         rfl)
      exact ⟨rfl, (by repeat (first | (with_reducible exact Ext.refl _) | (with_reducible assumption) | (with_reducible refine Ext.alloc ?_ _) | (with_reducible refine Ext.drewN ?_ _) | (with_reducible refine Ext.drew ?_) | (with_reducible refine Ext.setCell ?_ ?_ _; rotate_left; (simp only []; omega)) | (with_reducible refine Ext.trans ?_ (by assumption))))⟩
  · have hr : insideEnd L q = none := by
      unfold insideEnd
      rw [if_neg]
      rw [Bool.and_eq_true, decide_eq_true_eq]
      exact fun h => hb h.2
    have hge := ix_ge (fun m => decide (m.port = q)) L
    have e1 : byPort L q = -1 := by unfold byPort at hb ⊢; omega
    rw [e1] at c1
    replace c1 := Lib.hid c1
    replace c2 := Lib.hid c2
    rw [hr]
    clear hr hb hge e1
    cases hv : validTable L with
    | true =>
      replace c2 := c2.out
      rw [hv] at c2
      replace c2 := Lib.hid c2
      go_enter Try.func23, Try.ntmps23
      go_wp2_with fail
      refine (c1.out _ (by exact hs.ext (by repeat (first | (with_reducible exact Ext.refl _) | (with_reducible assumption) | (with_reducible refine Ext.alloc ?_ _) | (with_reducible refine Ext.drewN ?_ _) | (with_reducible refine Ext.drew ?_) | (with_reducible refine Ext.setCell ?_ ?_ _; rotate_left; (simp only []; omega)) | (with_reducible refine Ext.trans ?_ (by assumption)))))).mono ?_
      rintro e w1 ⟨rfl, hx1⟩
      have hy1 := hx1.size
      (try simp at hy1)
      have eW1 := useE (fun (h : Ext _ w1) => hs.ext h) (by repeat (first | (with_reducible exact Ext.refl _) | (with_reducible assumption) | (with_reducible refine Ext.alloc ?_ _) | (with_reducible refine Ext.drewN ?_ _) | (with_reducible refine Ext.drew ?_) | (with_reducible refine Ext.setCell ?_ ?_ _; rotate_left; (simp only []; omega)) | (with_reducible refine Ext.trans ?_ (by assumption))))
      replace hs := hs.ext eW1
      have BR : Blk w1 w.heap.size 30 #[.int .i64 0, .int .i64 0] := by refine Blk.ext ?_ hx1; exact (by repeat (first | (with_reducible assumption) | (with_reducible exact Blk.new _ _ _) | exact Blk.newAt _ _ _ (by simp) | (with_reducible refine Blk.alloc ?_ _) | (with_reducible refine Blk.drew ?_) | (with_reducible refine Blk.drewN ?_ _) | refine Blk.far ?_ (by simp only []; omega) _ | refine Blk.rext ?_ (by assumption) (by omega) | refine Blk.ext ?_ (by assumption)))
      have cBR := BR.cells
      have fBR := BR.frozens
      have zBR := BR.lt
      have X1 : Ext w w1 := (by repeat (first | (with_reducible exact Ext.refl _) | (with_reducible assumption) | (with_reducible refine Ext.alloc ?_ _) | (with_reducible refine Ext.drewN ?_ _) | (with_reducible refine Ext.drew ?_) | (with_reducible refine Ext.setCell ?_ ?_ _; rotate_left; (simp only []; omega)) | (with_reducible refine Ext.trans ?_ (by assumption))))
      go_wp2_with fail
      refine (c2.out _ (by exact hs.ext (by repeat (first | (with_reducible exact Ext.refl _) | (with_reducible assumption) | (with_reducible refine Ext.alloc ?_ _) | (with_reducible refine Ext.drewN ?_ _) | (with_reducible refine Ext.drew ?_) | (with_reducible refine Ext.setCell ?_ ?_ _; rotate_left; (simp only []; omega)) | (with_reducible refine Ext.trans ?_ (by assumption)))))).mono ?_
      rintro e w2 ⟨rfl, hx2⟩
      have hy2 := hx2.size
      (try simp at hy2)
      have eW2 := useE (fun (h : Ext _ w2) => hs.ext h) (by repeat (first | (with_reducible exact Ext.refl _) | (with_reducible assumption) | (with_reducible refine Ext.alloc ?_ _) | (with_reducible refine Ext.drewN ?_ _) | (with_reducible refine Ext.drew ?_) | (with_reducible refine Ext.setCell ?_ ?_ _; rotate_left; (simp only []; omega)) | (with_reducible refine Ext.trans ?_ (by assumption))))
      replace hs := hs.ext eW2
      clear cBR fBR zBR
      replace BR := BR.ext eW2
      have cBR := BR.cells
      have fBR := BR.frozens
      have zBR := BR.lt
      have X2 : Ext w w2 := X1.trans (by repeat (first | (with_reducible exact Ext.refl _) | (with_reducible assumption) | (with_reducible refine Ext.alloc ?_ _) | (with_reducible refine Ext.drewN ?_ _) | (with_reducible refine Ext.drew ?_) | (with_reducible refine Ext.setCell ?_ ?_ _; rotate_left; (simp only []; omega)) | (with_reducible refine Ext.trans ?_ (by assumption))))
      clear hx1 hx2
      go_wp2
      refine' bodyPost_ret (v := _) ?_ rfl ?_
      rotate_left
      · (simp only [results, Try.results23]
         go_simp
         rfl)
      exact ⟨rfl, (by repeat (first | (with_reducible exact Ext.refl _) | (with_reducible assumption) | (with_reducible refine Ext.alloc ?_ _) | (with_reducible refine Ext.drewN ?_ _) | (with_reducible refine Ext.drew ?_) | (with_reducible refine Ext.setCell ?_ ?_ _; rotate_left; (simp only []; omega)) | (with_reducible refine Ext.trans ?_ (by assumption))))⟩
    | false =>
      replace c2 := c2.out
      rw [hv] at c2
      replace c2 := Lib.hid c2
      go_enter Try.func23, Try.ntmps23
      go_wp2_with fail
      refine (c1.out _ (by exact hs.ext (by repeat (first | (with_reducible exact Ext.refl _) | (with_reducible assumption) | (with_reducible refine Ext.alloc ?_ _) | (with_reducible refine Ext.drewN ?_ _) | (with_reducible refine Ext.drew ?_) | (with_reducible refine Ext.setCell ?_ ?_ _; rotate_left; (simp only []; omega)) | (with_reducible refine Ext.trans ?_ (by assumption)))))).mono ?_
      rintro e w1 ⟨rfl, hx1⟩
      have hy1 := hx1.size
      (try simp at hy1)
      have eW1 := useE (fun (h : Ext _ w1) => hs.ext h) (by repeat (first | (with_reducible exact Ext.refl _) | (with_reducible assumption) | (with_reducible refine Ext.alloc ?_ _) | (with_reducible refine Ext.drewN ?_ _) | (with_reducible refine Ext.drew ?_) | (with_reducible refine Ext.setCell ?_ ?_ _; rotate_left; (simp only []; omega)) | (with_reducible refine Ext.trans ?_ (by assumption))))
      replace hs := hs.ext eW1
      have BR : Blk w1 w.heap.size 30 #[.int .i64 0, .int .i64 0] := by refine Blk.ext ?_ hx1; exact (by repeat (first | (with_reducible assumption) | (with_reducible exact Blk.new _ _ _) | exact Blk.newAt _ _ _ (by simp) | (with_reducible refine Blk.alloc ?_ _) | (with_reducible refine Blk.drew ?_) | (with_reducible refine Blk.drewN ?_ _) | refine Blk.far ?_ (by simp only []; omega) _ | refine Blk.rext ?_ (by assumption) (by omega) | refine Blk.ext ?_ (by assumption)))
      have cBR := BR.cells
      have fBR := BR.frozens
      have zBR := BR.lt
      have X1 : Ext w w1 := (by repeat (first | (with_reducible exact Ext.refl _) | (with_reducible assumption) | (with_reducible refine Ext.alloc ?_ _) | (with_reducible refine Ext.drewN ?_ _) | (with_reducible refine Ext.drew ?_) | (with_reducible refine Ext.setCell ?_ ?_ _; rotate_left; (simp only []; omega)) | (with_reducible refine Ext.trans ?_ (by assumption))))
      go_wp2_with fail
      refine (c2.out _ (by exact hs.ext (by repeat (first | (with_reducible exact Ext.refl _) | (with_reducible assumption) | (with_reducible refine Ext.alloc ?_ _) | (with_reducible refine Ext.drewN ?_ _) | (with_reducible refine Ext.drew ?_) | (with_reducible refine Ext.setCell ?_ ?_ _; rotate_left; (simp only []; omega)) | (with_reducible refine Ext.trans ?_ (by assumption)))))).mono ?_
      rintro e w2 ⟨rfl, hx2⟩
      have hy2 := hx2.size
      (try simp at hy2)
      have eW2 := useE (fun (h : Ext _ w2) => hs.ext h) (by repeat (first | (with_reducible exact Ext.refl _) | (with_reducible assumption) | (with_reducible refine Ext.alloc ?_ _) | (with_reducible refine Ext.drewN ?_ _) | (with_reducible refine Ext.drew ?_) | (with_reducible refine Ext.setCell ?_ ?_ _; rotate_left; (simp only []; omega)) | (with_reducible refine Ext.trans ?_ (by assumption))))
      replace hs := hs.ext eW2
      clear cBR fBR zBR
      replace BR := BR.ext eW2
      have cBR := BR.cells
      have fBR := BR.frozens
      have zBR := BR.lt
      have X2 : Ext w w2 := X1.trans (by repeat (first | (with_reducible exact Ext.refl _) | (with_reducible assumption) | (with_reducible refine Ext.alloc ?_ _) | (with_reducible refine Ext.drewN ?_ _) | (with_reducible refine Ext.drew ?_) | (with_reducible refine Ext.setCell ?_ ?_ _; rotate_left; (simp only []; omega)) | (with_reducible refine Ext.trans ?_ (by assumption))))
      clear hx1 hx2
      go_wp2
      refine' bodyPost_ret (v := _) ?_ rfl ?_
      rotate_left
      · (simp only [results, Try.results23]
         go_simp
         rfl)
      exact ⟨rfl, (by repeat (first | (with_reducible exact Ext.refl _) | (with_reducible assumption) | (with_reducible refine Ext.alloc ?_ _) | (with_reducible refine Ext.drewN ?_ _) | (with_reducible refine Ext.drew ?_) | (with_reducible refine Ext.setCell ?_ ?_ _; rotate_left; (simp only []; omega)) | (with_reducible refine Ext.trans ?_ (by assumption))))⟩
set_option maxHeartbeats 1000000 in
theorem impl_OutsidePort (q : EndD) (a : Option Addr) (n c : Nat) (L : List MapD) (w : World) (hs : Sl encM 4 w a n c L) :
    Calls Try.prog 29 #[.slice a n c, .agg #[.int .i64 q.addr, .int .i64 q.port]] w fun e w' => e = .returned (.int .i64 (outsidePort L q)) ∧ Ext w w' := by
  have c1 := fun W h => impl_byEnd q a n c L W h
  have c2 := fun W h => impl_ValidTable a n c L W h
  have hlen := hs.len
  obtain ⟨R, hR⟩ : ∃ R, R = outsidePort L q := ⟨_, rfl⟩
  rw [← hR]
  unfold outsidePort at hR
  by_cases hb : 0 ≤ byEnd L q
  · obtain ⟨k, m, e1, e2, e3, e4⟩ := byEnd_some hb
    have hk : k < n := by have := (List.getElem?_eq_some_iff.1 e2).1; omega
    rw [e4] at hR
    rw [e1] at c1 hR
    replace c1 := Lib.hid c1
    obtain ⟨_, b, off, rfl, hb0, hc0⟩ := (hs.maps).resolve_left (by omega)
    obtain ⟨d0, d1, d2, d3⟩ := hc0 k hk
    have hm : nth L k = m := nth_of e2
    rw [hm] at d0 d1 d2 d3
    have hle := hs.le
    have hmx := hs.max
    clear hb e1 e2 e3 e4 hc0 hm
    cases hv : validTable L with
    | true =>
      rw [hv] at c2 hR
      have hR2 : R = m.port := by rw [hR]; simp
      clear hR hv
      subst hR2
      replace c2 := Lib.hid c2
      go_enter Try.func29, Try.ntmps29
      go_wp2_with fail
      refine (c1.out _ (by exact hs.ext (by repeat (first | (with_reducible exact Ext.refl _) | (with_reducible assumption) | (with_reducible refine Ext.alloc ?_ _) | (with_reducible refine Ext.drewN ?_ _) | (with_reducible refine Ext.drew ?_) | (with_reducible refine Ext.setCell ?_ ?_ _; rotate_left; (simp only []; omega)) | (with_reducible refine Ext.trans ?_ (by assumption)))))).mono ?_
      rintro e w1 ⟨rfl, hx1⟩
      have hy1 := hx1.size
      (try simp at hy1)
      have eW1 := useE (fun (h : Ext _ w1) => hs.ext h) (by repeat (first | (with_reducible exact Ext.refl _) | (with_reducible assumption) | (with_reducible refine Ext.alloc ?_ _) | (with_reducible refine Ext.drewN ?_ _) | (with_reducible refine Ext.drew ?_) | (with_reducible refine Ext.setCell ?_ ?_ _; rotate_left; (simp only []; omega)) | (with_reducible refine Ext.trans ?_ (by assumption))))
      replace hs := hs.ext eW1
      have X1 : Ext w w1 := (by repeat (first | (with_reducible exact Ext.refl _) | (with_reducible assumption) | (with_reducible refine Ext.alloc ?_ _) | (with_reducible refine Ext.drewN ?_ _) | (with_reducible refine Ext.drew ?_) | (with_reducible refine Ext.setCell ?_ ?_ _; rotate_left; (simp only []; omega)) | (with_reducible refine Ext.trans ?_ (by assumption))))
      go_wp2_with fail
      refine (c2.out _ (by exact hs.ext (by repeat (first | (with_reducible exact Ext.refl _) | (with_reducible assumption) | (with_reducible refine Ext.alloc ?_ _) | (with_reducible refine Ext.drewN ?_ _) | (with_reducible refine Ext.drew ?_) | (with_reducible refine Ext.setCell ?_ ?_ _; rotate_left; (simp only []; omega)) | (with_reducible refine Ext.trans ?_ (by assumption)))))).mono ?_
      rintro e w2 ⟨rfl, hx2⟩
      have hy2 := hx2.size
      (try simp at hy2)
      have eW2 := useE (fun (h : Ext _ w2) => hs.ext h) (by repeat (first | (with_reducible exact Ext.refl _) | (with_reducible assumption) | (with_reducible refine Ext.alloc ?_ _) | (with_reducible refine Ext.drewN ?_ _) | (with_reducible refine Ext.drew ?_) | (with_reducible refine Ext.setCell ?_ ?_ _; rotate_left; (simp only []; omega)) | (with_reducible refine Ext.trans ?_ (by assumption))))
      replace hs := hs.ext eW2
      have X2 : Ext w w2 := X1.trans (by repeat (first | (with_reducible exact Ext.refl _) | (with_reducible assumption) | (with_reducible refine Ext.alloc ?_ _) | (with_reducible refine Ext.drewN ?_ _) | (with_reducible refine Ext.drew ?_) | (with_reducible refine Ext.setCell ?_ ?_ _; rotate_left; (simp only []; omega)) | (with_reducible refine Ext.trans ?_ (by assumption))))
      rw [← X2.cells _ _ hb0] at d0 d1 d2 d3
      clear hx1 hx2
      go_wp2
      go_ret
      exact ⟨rfl, (by repeat (first | (with_reducible exact Ext.refl _) | (with_reducible assumption) | (with_reducible refine Ext.alloc ?_ _) | (with_reducible refine Ext.drewN ?_ _) | (with_reducible refine Ext.drew ?_) | (with_reducible refine Ext.setCell ?_ ?_ _; rotate_left; (simp only []; omega)) | (with_reducible refine Ext.trans ?_ (by assumption))))⟩
    | false =>
      rw [hv] at c2 hR
      have hR2 : R = -1 := by rw [hR]; simp
      clear hR hv
      subst hR2
      replace c2 := Lib.hid c2
      go_enter Try.func29, Try.ntmps29
      go_wp2_with fail
      refine (c1.out _ (by exact hs.ext (by repeat (first | (with_reducible exact Ext.refl _) | (with_reducible assumption) | (with_reducible refine Ext.alloc ?_ _) | (with_reducible refine Ext.drewN ?_ _) | (with_reducible refine Ext.drew ?_) | (with_reducible refine Ext.setCell ?_ ?_ _; rotate_left; (simp only []; omega)) | (with_reducible refine Ext.trans ?_ (by assumption)))))).mono ?_
      rintro e w1 ⟨rfl, hx1⟩
      have hy1 := hx1.size
      (try simp at hy1)
      have eW1 := useE (fun (h : Ext _ w1) => hs.ext h) (by repeat (first | (with_reducible exact Ext.refl _) | (with_reducible assumption) | (with_reducible refine Ext.alloc ?_ _) | (with_reducible refine Ext.drewN ?_ _) | (with_reducible refine Ext.drew ?_) | (with_reducible refine Ext.setCell ?_ ?_ _; rotate_left; (simp only []; omega)) | (with_reducible refine Ext.trans ?_ (by assumption))))
      replace hs := hs.ext eW1
      have X1 : Ext w w1 := (by repeat (first | (with_reducible exact Ext.refl _) | (with_reducible assumption) | (with_reducible refine Ext.alloc ?_ _) | (with_reducible refine Ext.drewN ?_ _) | (with_reducible refine Ext.drew ?_) | (with_reducible refine Ext.setCell ?_ ?_ _; rotate_left; (simp only []; omega)) | (with_reducible refine Ext.trans ?_ (by assumption))))
      go_wp2_with fail
      refine (c2.out _ (by exact hs.ext (by repeat (first | (with_reducible exact Ext.refl _) | (with_reducible assumption) | (with_reducible refine Ext.alloc ?_ _) | (with_reducible refine Ext.drewN ?_ _) | (with_reducible refine Ext.drew ?_) | (with_reducible refine Ext.setCell ?_ ?_ _; rotate_left; (simp only []; omega)) | (with_reducible refine Ext.trans ?_ (by assumption)))))).mono ?_
      rintro e w2 ⟨rfl, hx2⟩
      have hy2 := hx2.size
      (try simp at hy2)
      have eW2 := useE (fun (h : Ext _ w2) => hs.ext h) (by repeat (first | (with_reducible exact Ext.refl _) | (with_reducible assumption) | (with_reducible refine Ext.alloc ?_ _) | (with_reducible refine Ext.drewN ?_ _) | (with_reducible refine Ext.drew ?_) | (with_reducible refine Ext.setCell ?_ ?_ _; rotate_left; (simp only []; omega)) | (with_reducible refine Ext.trans ?_ (by assumption))))
      replace hs := hs.ext eW2
      have X2 : Ext w w2 := X1.trans (by repeat (first | (with_reducible exact Ext.refl _) | (with_reducible assumption) | (with_reducible refine Ext.alloc ?_ _) | (with_reducible refine Ext.drewN ?_ _) | (with_reducible refine Ext.drew ?_) | (with_reducible refine Ext.setCell ?_ ?_ _; rotate_left; (simp only []; omega)) | (with_reducible refine Ext.trans ?_ (by assumption))))
      clear hx1 hx2
      go_wp2
      go_ret
      exact ⟨rfl, (by repeat (first | (with_reducible exact Ext.refl _) | (with_reducible assumption) | (with_reducible refine Ext.alloc ?_ _) | (with_reducible refine Ext.drewN ?_ _) | (with_reducible refine Ext.drew ?_) | (with_reducible refine Ext.setCell ?_ ?_ _; rotate_left; (simp only []; omega)) | (with_reducible refine Ext.trans ?_ (by assumption))))⟩
  · have hge := ix_ge (fun m => decide (m.ins = q)) L
    have e1 : byEnd L q = -1 := by unfold byEnd at hb ⊢; omega
    rw [if_neg (by rw [Bool.and_eq_true, decide_eq_true_eq]; exact fun h => hb h.2)] at hR
    subst hR
    rw [e1] at c1
    replace c1 := Lib.hid c1
    clear hb hge e1
    obtain ⟨V, hV⟩ : ∃ V, V = validTable L := ⟨_, rfl⟩
    rw [← hV] at c2
    clear hV
    replace c2 := Lib.hid c2
    cases V with
    | true =>
      go_enter Try.func29, Try.ntmps29
      go_wp2_with fail
      refine (c1.out _ (by exact hs.ext (by repeat (first | (with_reducible exact Ext.refl _) | (with_reducible assumption) | (with_reducible refine Ext.alloc ?_ _) | (with_reducible refine Ext.drewN ?_ _) | (with_reducible refine Ext.drew ?_) | (with_reducible refine Ext.setCell ?_ ?_ _; rotate_left; (simp only []; omega)) | (with_reducible refine Ext.trans ?_ (by assumption)))))).mono ?_
      rintro e w1 ⟨rfl, hx1⟩
      have hy1 := hx1.size
      (try simp at hy1)
      have eW1 := useE (fun (h : Ext _ w1) => hs.ext h) (by repeat (first | (with_reducible exact Ext.refl _) | (with_reducible assumption) | (with_reducible refine Ext.alloc ?_ _) | (with_reducible refine Ext.drewN ?_ _) | (with_reducible refine Ext.drew ?_) | (with_reducible refine Ext.setCell ?_ ?_ _; rotate_left; (simp only []; omega)) | (with_reducible refine Ext.trans ?_ (by assumption))))
      replace hs := hs.ext eW1
      have X1 : Ext w w1 := (by repeat (first | (with_reducible exact Ext.refl _) | (with_reducible assumption) | (with_reducible refine Ext.alloc ?_ _) | (with_reducible refine Ext.drewN ?_ _) | (with_reducible refine Ext.drew ?_) | (with_reducible refine Ext.setCell ?_ ?_ _; rotate_left; (simp only []; omega)) | (with_reducible refine Ext.trans ?_ (by assumption))))
      go_wp2_with fail
      refine (c2.out _ (by exact hs.ext (by repeat (first | (with_reducible exact Ext.refl _) | (with_reducible assumption) | (with_reducible refine Ext.alloc ?_ _) | (with_reducible refine Ext.drewN ?_ _) | (with_reducible refine Ext.drew ?_) | (with_reducible refine Ext.setCell ?_ ?_ _; rotate_left; (simp only []; omega)) | (with_reducible refine Ext.trans ?_ (by assumption)))))).mono ?_
      rintro e w2 ⟨rfl, hx2⟩
      have hy2 := hx2.size
      (try simp at hy2)
      have eW2 := useE (fun (h : Ext _ w2) => hs.ext h) (by repeat (first | (with_reducible exact Ext.refl _) | (with_reducible assumption) | (with_reducible refine Ext.alloc ?_ _) | (with_reducible refine Ext.drewN ?_ _) | (with_reducible refine Ext.drew ?_) | (with_reducible refine Ext.setCell ?_ ?_ _; rotate_left; (simp only []; omega)) | (with_reducible refine Ext.trans ?_ (by assumption))))
      replace hs := hs.ext eW2
      have X2 : Ext w w2 := X1.trans (by repeat (first | (with_reducible exact Ext.refl _) | (with_reducible assumption) | (with_reducible refine Ext.alloc ?_ _) | (with_reducible refine Ext.drewN ?_ _) | (with_reducible refine Ext.drew ?_) | (with_reducible refine Ext.setCell ?_ ?_ _; rotate_left; (simp only []; omega)) | (with_reducible refine Ext.trans ?_ (by assumption))))
      clear hx1 hx2
      go_wp2
      go_ret
      exact ⟨rfl, (by repeat (first | (with_reducible exact Ext.refl _) | (with_reducible assumption) | (with_reducible refine Ext.alloc ?_ _) | (with_reducible refine Ext.drewN ?_ _) | (with_reducible refine Ext.drew ?_) | (with_reducible refine Ext.setCell ?_ ?_ _; rotate_left; (simp only []; omega)) | (with_reducible refine Ext.trans ?_ (by assumption))))⟩
    | false =>
      go_enter Try.func29, Try.ntmps29
      go_wp2_with fail
      refine (c1.out _ (by exact hs.ext (by repeat (first | (with_reducible exact Ext.refl _) | (with_reducible assumption) | (with_reducible refine Ext.alloc ?_ _) | (with_reducible refine Ext.drewN ?_ _) | (with_reducible refine Ext.drew ?_) | (with_reducible refine Ext.setCell ?_ ?_ _; rotate_left; (simp only []; omega)) | (with_reducible refine Ext.trans ?_ (by assumption)))))).mono ?_
      rintro e w1 ⟨rfl, hx1⟩
      have hy1 := hx1.size
      (try simp at hy1)
      have eW1 := useE (fun (h : Ext _ w1) => hs.ext h) (by repeat (first | (with_reducible exact Ext.refl _) | (with_reducible assumption) | (with_reducible refine Ext.alloc ?_ _) | (with_reducible refine Ext.drewN ?_ _) | (with_reducible refine Ext.drew ?_) | (with_reducible refine Ext.setCell ?_ ?_ _; rotate_left; (simp only []; omega)) | (with_reducible refine Ext.trans ?_ (by assumption))))
      replace hs := hs.ext eW1
      have X1 : Ext w w1 := (by repeat (first | (with_reducible exact Ext.refl _) | (with_reducible assumption) | (with_reducible refine Ext.alloc ?_ _) | (with_reducible refine Ext.drewN ?_ _) | (with_reducible refine Ext.drew ?_) | (with_reducible refine Ext.setCell ?_ ?_ _; rotate_left; (simp only []; omega)) | (with_reducible refine Ext.trans ?_ (by assumption))))
      go_wp2_with fail
      refine (c2.out _ (by exact hs.ext (by repeat (first | (with_reducible exact Ext.refl _) | (with_reducible assumption) | (with_reducible refine Ext.alloc ?_ _) | (with_reducible refine Ext.drewN ?_ _) | (with_reducible refine Ext.drew ?_) | (with_reducible refine Ext.setCell ?_ ?_ _; rotate_left; (simp only []; omega)) | (with_reducible refine Ext.trans ?_ (by assumption)))))).mono ?_
      rintro e w2 ⟨rfl, hx2⟩
      have hy2 := hx2.size
      (try simp at hy2)
      have eW2 := useE (fun (h : Ext _ w2) => hs.ext h) (by repeat (first | (with_reducible exact Ext.refl _) | (with_reducible assumption) | (with_reducible refine Ext.alloc ?_ _) | (with_reducible refine Ext.drewN ?_ _) | (with_reducible refine Ext.drew ?_) | (with_reducible refine Ext.setCell ?_ ?_ _; rotate_left; (simp only []; omega)) | (with_reducible refine Ext.trans ?_ (by assumption))))
      replace hs := hs.ext eW2
      have X2 : Ext w w2 := X1.trans (by repeat (first | (with_reducible exact Ext.refl _) | (with_reducible assumption) | (with_reducible refine Ext.alloc ?_ _) | (with_reducible refine Ext.drewN ?_ _) | (with_reducible refine Ext.drew ?_) | (with_reducible refine Ext.setCell ?_ ?_ _; rotate_left; (simp only []; omega)) | (with_reducible refine Ext.trans ?_ (by assumption))))
      clear hx1 hx2
      go_wp2
      go_ret
      exact ⟨rfl, (by repeat (first | (with_reducible exact Ext.refl _) | (with_reducible assumption) | (with_reducible refine Ext.alloc ?_ _) | (with_reducible refine Ext.drewN ?_ _) | (with_reducible refine Ext.drew ?_) | (with_reducible refine Ext.setCell ?_ ?_ _; rotate_left; (simp only []; omega)) | (with_reducible refine Ext.trans ?_ (by assumption))))⟩
end Go.Proofs.Ytppdcglnopoocaa
