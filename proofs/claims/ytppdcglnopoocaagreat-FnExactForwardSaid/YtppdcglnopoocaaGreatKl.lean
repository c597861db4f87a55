/- The words, laws and contracts that the claims of this seat share: group l. No condition. -/
import Derived.Test.YtppdcglnopoocaaGreatKi
import Derived.Test.YtppdcglnopoocaaGreatKg
import Derived.Test.YtppdcglnopoocaaGreatKe
/- Contracts: the second package's ReceiveIn, PassBetween, Forward. -/
namespace Go.Proofs.YtppdcglnopoocaaGreat
set_option linter.unusedVariables false
set_option linter.unusedSimpArgs false
open Go.RowKit

/-- The second package's receive, in one form. -/
theorem spec_receive (g : GateD) (p : PktD) (ta : Option Addr) (tn tc : Nat) (ka : Option Addr) (kn kc : Nat) (a : Option Addr) (n c : Nat) (w : World) (ht : Sl encM 4 w ta tn tc g.table) (hk : Sl encC 3 w ka kn kc g.cons) (hs : Sl encI 1 w a n c p.data)
    (htn : tn ≤ 8) (hkn : kn ≤ 10) (hn : n ≤ 12) :
    Calls Tryz.prog 74 #[.agg #[.int .i64 g.net.base, .int .i64 g.net.bits, .int .i64 g.out, .slice ta tn tc, .slice ka kn kc, .int .i64 g.filter, .int .i64 g.hold, .int .i64 g.now], .agg #[.int .i64 p.kind, .int .i64 p.fr.addr, .int .i64 p.fr.port, .int .i64 p.to_.addr, .int .i64 p.to_.port, .slice a n c]] w fun e w' => ∃ A n C sa sn sc qa qn qc, e = .returned (.tuple #[.agg #[.int .i64 (rP (receive g p)).kind, .int .i64 (rP (receive g p)).fr.addr, .int .i64 (rP (receive g p)).fr.port, .int .i64 (rP (receive g p)).to_.addr, .int .i64 (rP (receive g p)).to_.port, .slice A n C], .agg #[.int .i64 (rG (receive g p)).net.base, .int .i64 (rG (receive g p)).net.bits, .int .i64 (rG (receive g p)).out, .slice sa sn sc, .slice qa qn qc, .int .i64 (rG (receive g p)).filter, .int .i64 (rG (receive g p)).hold, .int .i64 (rG (receive g p)).now], .bool (receive g p).isSome]) ∧
          Ow 3 encI 1 w.heap.size w' A n C (rP (receive g p)).data ∧ Ow 86 encM 4 w.heap.size w' sa sn sc (rG (receive g p)).table ∧ Ow 99 encC 3 w.heap.size w' qa qn qc (rG (receive g p)).cons ∧ Ext w w' := by
  obtain ⟨lt, hl⟩ : ∃ lt, lets g.filter g.cons p.to_.port p.fr = lt := ⟨_, rfl⟩
  by_cases hb : 0 ≤ byPort g.table p.to_.port
  · obtain ⟨k, m, b1, b2, b3, b4⟩ := byPort_some hb
    cases lt with
    | true =>
      have e : receive g p = some ({ p with to_ := m.ins }, g) := by unfold receive; rw [hl, b4]; simp [hb]
      rw [e]
      exact (spec_receive_some g p ta tn tc ka kn kc a n c w ht hk hs htn hkn hn k m b1 b2 hl).mono fun _ _ ⟨A, C, sa, sc, qa, qc, h1, h2, h3, h4, h5⟩ => ⟨A, n, C, sa, tn, sc, qa, kn, qc, h1, h2, h3, h4, h5⟩
    | false =>
      have e : receive g p = none := by unfold receive; rw [hl]; simp
      rw [e]
      exact (spec_receive_none g p ta tn tc ka kn kc a n c w ht hk hs _ rfl _ hl (.inr rfl)).mono fun _ _ ⟨h1, h2⟩ => ⟨none, 0, 0, none, 0, 0, none, 0, 0, h1, Ow.nils _, Ow.nils _, Ow.nils _, h2⟩
  · have e : receive g p = none := by unfold receive; simp [hb]
    rw [e]
    exact (spec_receive_none g p ta tn tc ka kn kc a n c w ht hk hs _ rfl _ hl (.inl (by omega))).mono fun _ _ ⟨h1, h2⟩ => ⟨none, 0, 0, none, 0, 0, none, 0, 0, h1, Ow.nils _, Ow.nils _, Ow.nils _, h2⟩
theorem valid_lens {g : GateD} {p : PktD} {ta : Option Addr} {tn tc : Nat} {ka : Option Addr} {kn kc : Nat} {a : Option Addr} {n c : Nat} {w : World} (h1 : validGate g = true) (h2 : validPkt p = true) (ht : Sl encM 4 w ta tn tc g.table) (hk : Sl encC 3 w ka kn kc g.cons) (hs : Sl encI 1 w a n c p.data) :
    tn ≤ 8 ∧ kn ≤ 10 ∧ n ≤ 12 ∧ 0 ≤ p.fr.port ∧ p.fr.port ≤ 65535 := by
  have hv := validGate_iff.1 h1
  have hp := validPkt_port h2
  have l1 := table_len hv.tab
  have l2 := cons_len hv.con
  have l3 := (validPkt_iff.1 h2).2.2.2.1
  rw [ht.len] at l1
  rw [hk.len] at l2
  rw [hs.len] at l3
  exact ⟨l1, l2, l3, hp.1, hp.2⟩
set_option maxHeartbeats 1000000 in
/-- The second package's ReceiveIn. -/
theorem spec_ReceiveIn (g : GateD) (p : PktD) (ta : Option Addr) (tn tc : Nat) (ka : Option Addr) (kn kc : Nat) (a : Option Addr) (n c : Nat) (w : World) (ht : Sl encM 4 w ta tn tc g.table) (hk : Sl encC 3 w ka kn kc g.cons) (hs : Sl encI 1 w a n c p.data) :
    Calls Tryz.prog 28 #[.agg #[.int .i64 g.net.base, .int .i64 g.net.bits, .int .i64 g.out, .slice ta tn tc, .slice ka kn kc, .int .i64 g.filter, .int .i64 g.hold, .int .i64 g.now], .agg #[.int .i64 p.kind, .int .i64 p.fr.addr, .int .i64 p.fr.port, .int .i64 p.to_.addr, .int .i64 p.to_.port, .slice a n c]] w fun e w' => ∃ A n C sa sn sc qa qn qc, e = .returned (.tuple #[.agg #[.int .i64 (rP (receiveIn g p)).kind, .int .i64 (rP (receiveIn g p)).fr.addr, .int .i64 (rP (receiveIn g p)).fr.port, .int .i64 (rP (receiveIn g p)).to_.addr, .int .i64 (rP (receiveIn g p)).to_.port, .slice A n C], .agg #[.int .i64 (rG (receiveIn g p)).net.base, .int .i64 (rG (receiveIn g p)).net.bits, .int .i64 (rG (receiveIn g p)).out, .slice sa sn sc, .slice qa qn qc, .int .i64 (rG (receiveIn g p)).filter, .int .i64 (rG (receiveIn g p)).hold, .int .i64 (rG (receiveIn g p)).now], .bool (receiveIn g p).isSome]) ∧
          Ow 3 encI 1 w.heap.size w' A n C (rP (receiveIn g p)).data ∧ Ow 86 encM 4 w.heap.size w' sa sn sc (rG (receiveIn g p)).table ∧ Ow 99 encC 3 w.heap.size w' qa qn qc (rG (receiveIn g p)).cons ∧ Ext w w' := by
  have c1 := fun W h1 h2 h3 => spec_comesIn g p ta tn tc ka kn kc a n c W h1 h2 h3
  cases hg : comesIn g p with
  | false =>
    rw [hg] at c1
    replace c1 := Lib.hid c1
    have e : receiveIn g p = none := by unfold receiveIn; rw [hg]; rfl
    rw [e]
    have e2 : w.heap.size ≤ w.heap.size + 1 + 1 := by omega
    have e3 : w.heap.size ≤ w.heap.size + 1 + 1 + 1 := by omega
    go_enter Tryz.func28, Tryz.ntmps28
    go_wp2_with fail
    refine (c1.out _ (by exact ht.ext (by repeat (first | (with_reducible exact Ext.refl _) | (with_reducible assumption) | (with_reducible refine Ext.alloc ?_ _) | (with_reducible refine Ext.drewN ?_ _) | (with_reducible refine Ext.drew ?_) | (with_reducible refine Ext.setCell ?_ ?_ _; rotate_left; (simp only []; omega)) | (with_reducible refine Ext.trans ?_ (by assumption))))) (by exact hk.ext (by repeat (first | (with_reducible exact Ext.refl _) | (with_reducible assumption) | (with_reducible refine Ext.alloc ?_ _) | (with_reducible refine Ext.drewN ?_ _) | (with_reducible refine Ext.drew ?_) | (with_reducible refine Ext.setCell ?_ ?_ _; rotate_left; (simp only []; omega)) | (with_reducible refine Ext.trans ?_ (by assumption))))) (by exact hs.ext (by repeat (first | (with_reducible exact Ext.refl _) | (with_reducible assumption) | (with_reducible refine Ext.alloc ?_ _) | (with_reducible refine Ext.drewN ?_ _) | (with_reducible refine Ext.drew ?_) | (with_reducible refine Ext.setCell ?_ ?_ _; rotate_left; (simp only []; omega)) | (with_reducible refine Ext.trans ?_ (by assumption)))))).mono ?_
    rintro e w1 ⟨rfl, hx1⟩
    have hy1 := hx1.size
    (try simp at hy1)
    have eW1 := useE (fun (h : Ext _ w1) => ht.ext h) (by repeat (first | (with_reducible exact Ext.refl _) | (with_reducible assumption) | (with_reducible refine Ext.alloc ?_ _) | (with_reducible refine Ext.drewN ?_ _) | (with_reducible refine Ext.drew ?_) | (with_reducible refine Ext.setCell ?_ ?_ _; rotate_left; (simp only []; omega)) | (with_reducible refine Ext.trans ?_ (by assumption))))
    replace ht := ht.ext eW1
    replace hk := hk.ext eW1
    replace hs := hs.ext eW1
    have BQ : Blk w1 (w.heap.size+2) 33 #[.int .i64 0, .int .i64 0, .int .i64 0, .int .i64 0, .int .i64 0, .slice none 0 0] := by refine Blk.ext ?_ hx1; exact (by repeat (first | (with_reducible assumption) | (with_reducible exact Blk.new _ _ _) | exact Blk.newAt _ _ _ (by simp) | (with_reducible refine Blk.alloc ?_ _) | (with_reducible refine Blk.drew ?_) | (with_reducible refine Blk.drewN ?_ _) | refine Blk.far ?_ (by simp only []; omega) _ | refine Blk.rext ?_ (by assumption) (by omega) | refine Blk.ext ?_ (by assumption)))
    have BR : Blk w1 (w.heap.size+3) 28 #[.int .i64 0, .int .i64 0, .int .i64 0, .slice none 0 0, .slice none 0 0, .int .i64 0, .int .i64 0, .int .i64 0] := by refine Blk.ext ?_ hx1; exact (by repeat (first | (with_reducible assumption) | (with_reducible exact Blk.new _ _ _) | exact Blk.newAt _ _ _ (by simp) | (with_reducible refine Blk.alloc ?_ _) | (with_reducible refine Blk.drew ?_) | (with_reducible refine Blk.drewN ?_ _) | refine Blk.far ?_ (by simp only []; omega) _ | refine Blk.rext ?_ (by assumption) (by omega) | refine Blk.ext ?_ (by assumption)))
    have cBQ := BQ.cells
    have fBQ := BQ.frozens
    have zBQ := BQ.lt
    have cBR := BR.cells
    have fBR := BR.frozens
    have zBR := BR.lt
    have X1 : Ext w w1 := (by repeat (first | (with_reducible exact Ext.refl _) | (with_reducible assumption) | (with_reducible refine Ext.alloc ?_ _) | (with_reducible refine Ext.drewN ?_ _) | (with_reducible refine Ext.drew ?_) | (with_reducible refine Ext.setCell ?_ ?_ _; rotate_left; (simp only []; omega)) | (with_reducible refine Ext.trans ?_ (by assumption))))
    clear hx1
    go_wp2
    refine' bodyPost_ret (v := _) ?_ rfl ?_
    rotate_left
    · (simp only [results, Tryz.results28]
       go_simp
       rfl)
    refine ⟨none, 0, 0, none, 0, 0, none, 0, 0, rfl, Ow.nils _, Ow.nils _, Ow.nils _, ?_⟩
    clear cBQ fBQ cBR fBR
    refine (fun (h : Two (w.heap.size + 1 + 1) (w.heap.size + 1 + 1 + 1) w1 _) => h.ext X1 e2 e3) ?_
    clear e2 e3
    generalize w.heap.size + 1 + 1 + 1 = b2
    generalize w.heap.size + 1 + 1 = b1
    repeat (first | (with_reducible exact Two.refl _ _ _) | (with_reducible refine Two.drew ?_) | (with_reducible refine Two.alloc ?_ _) | (with_reducible refine Two.set1 ?_ _ _) | (with_reducible refine Two.set2 ?_ _ _))
  | true =>
    rw [hg] at c1
    replace c1 := Lib.hid c1
    have e : receiveIn g p = receive g p := by unfold receiveIn; rw [hg]; rfl
    rw [e]
    simp only [comesIn, Bool.and_eq_true] at hg
    obtain ⟨l1, l2, l3, _, _⟩ := valid_lens hg.1.1.1 hg.1.1.2 ht hk hs
    clear e hg
    obtain ⟨r, hr⟩ : ∃ r, r = receive g p := ⟨_, rfl⟩
    have c2 := fun W h1 h2 h3 => spec_receive g p ta tn tc ka kn kc a n c W h1 h2 h3 l1 l2 l3
    rw [← hr] at c2 ⊢
    replace c2 := Lib.hid c2
    clear hr
    have e2 : w.heap.size ≤ w.heap.size + 1 + 1 := by omega
    have e3 : w.heap.size ≤ w.heap.size + 1 + 1 + 1 := by omega
    go_enter Tryz.func28, Tryz.ntmps28
    go_wp2_with fail
    refine (c1.out _ (by exact ht.ext (by repeat (first | (with_reducible exact Ext.refl _) | (with_reducible assumption) | (with_reducible refine Ext.alloc ?_ _) | (with_reducible refine Ext.drewN ?_ _) | (with_reducible refine Ext.drew ?_) | (with_reducible refine Ext.setCell ?_ ?_ _; rotate_left; (simp only []; omega)) | (with_reducible refine Ext.trans ?_ (by assumption))))) (by exact hk.ext (by repeat (first | (with_reducible exact Ext.refl _) | (with_reducible assumption) | (with_reducible refine Ext.alloc ?_ _) | (with_reducible refine Ext.drewN ?_ _) | (with_reducible refine Ext.drew ?_) | (with_reducible refine Ext.setCell ?_ ?_ _; rotate_left; (simp only []; omega)) | (with_reducible refine Ext.trans ?_ (by assumption))))) (by exact hs.ext (by repeat (first | (with_reducible exact Ext.refl _) | (with_reducible assumption) | (with_reducible refine Ext.alloc ?_ _) | (with_reducible refine Ext.drewN ?_ _) | (with_reducible refine Ext.drew ?_) | (with_reducible refine Ext.setCell ?_ ?_ _; rotate_left; (simp only []; omega)) | (with_reducible refine Ext.trans ?_ (by assumption)))))).mono ?_
    rintro e w1 ⟨rfl, hx1⟩
    have hy1 := hx1.size
    (try simp at hy1)
    have eW1 := useE (fun (h : Ext _ w1) => ht.ext h) (by repeat (first | (with_reducible exact Ext.refl _) | (with_reducible assumption) | (with_reducible refine Ext.alloc ?_ _) | (with_reducible refine Ext.drewN ?_ _) | (with_reducible refine Ext.drew ?_) | (with_reducible refine Ext.setCell ?_ ?_ _; rotate_left; (simp only []; omega)) | (with_reducible refine Ext.trans ?_ (by assumption))))
    replace ht := ht.ext eW1
    replace hk := hk.ext eW1
    replace hs := hs.ext eW1
    have BG : Blk w1 w.heap.size 28 (#[.int .i64 g.net.base, .int .i64 g.net.bits, .int .i64 g.out, .slice ta tn tc, .slice ka kn kc, .int .i64 g.filter, .int .i64 g.hold, .int .i64 g.now]) := by refine Blk.ext ?_ hx1; exact (by repeat (first | (with_reducible assumption) | (with_reducible exact Blk.new _ _ _) | exact Blk.newAt _ _ _ (by simp) | (with_reducible refine Blk.alloc ?_ _) | (with_reducible refine Blk.drew ?_) | (with_reducible refine Blk.drewN ?_ _) | refine Blk.far ?_ (by simp only []; omega) _ | refine Blk.rext ?_ (by assumption) (by omega) | refine Blk.ext ?_ (by assumption)))
    have BP : Blk w1 (w.heap.size+1) 33 (#[.int .i64 p.kind, .int .i64 p.fr.addr, .int .i64 p.fr.port, .int .i64 p.to_.addr, .int .i64 p.to_.port, .slice a n c]) := by refine Blk.ext ?_ hx1; exact (by repeat (first | (with_reducible assumption) | (with_reducible exact Blk.new _ _ _) | exact Blk.newAt _ _ _ (by simp) | (with_reducible refine Blk.alloc ?_ _) | (with_reducible refine Blk.drew ?_) | (with_reducible refine Blk.drewN ?_ _) | refine Blk.far ?_ (by simp only []; omega) _ | refine Blk.rext ?_ (by assumption) (by omega) | refine Blk.ext ?_ (by assumption)))
    have BQ : Blk w1 (w.heap.size+2) 33 #[.int .i64 0, .int .i64 0, .int .i64 0, .int .i64 0, .int .i64 0, .slice none 0 0] := by refine Blk.ext ?_ hx1; exact (by repeat (first | (with_reducible assumption) | (with_reducible exact Blk.new _ _ _) | exact Blk.newAt _ _ _ (by simp) | (with_reducible refine Blk.alloc ?_ _) | (with_reducible refine Blk.drew ?_) | (with_reducible refine Blk.drewN ?_ _) | refine Blk.far ?_ (by simp only []; omega) _ | refine Blk.rext ?_ (by assumption) (by omega) | refine Blk.ext ?_ (by assumption)))
    have BR : Blk w1 (w.heap.size+3) 28 #[.int .i64 0, .int .i64 0, .int .i64 0, .slice none 0 0, .slice none 0 0, .int .i64 0, .int .i64 0, .int .i64 0] := by refine Blk.ext ?_ hx1; exact (by repeat (first | (with_reducible assumption) | (with_reducible exact Blk.new _ _ _) | exact Blk.newAt _ _ _ (by simp) | (with_reducible refine Blk.alloc ?_ _) | (with_reducible refine Blk.drew ?_) | (with_reducible refine Blk.drewN ?_ _) | refine Blk.far ?_ (by simp only []; omega) _ | refine Blk.rext ?_ (by assumption) (by omega) | refine Blk.ext ?_ (by assumption)))
    have cBG := BG.cells
    have fBG := BG.frozens
    have zBG := BG.lt
    have cBP := BP.cells
    have fBP := BP.frozens
    have zBP := BP.lt
    have cBQ := BQ.cells
    have fBQ := BQ.frozens
    have zBQ := BQ.lt
    have cBR := BR.cells
    have fBR := BR.frozens
    have zBR := BR.lt
    have X1 : Ext w w1 := (by repeat (first | (with_reducible exact Ext.refl _) | (with_reducible assumption) | (with_reducible refine Ext.alloc ?_ _) | (with_reducible refine Ext.drewN ?_ _) | (with_reducible refine Ext.drew ?_) | (with_reducible refine Ext.setCell ?_ ?_ _; rotate_left; (simp only []; omega)) | (with_reducible refine Ext.trans ?_ (by assumption))))
    clear hx1
    go_wp2_with fail
    refine (c2.out _ (by exact ht.ext (by repeat (first | (with_reducible exact Ext.refl _) | (with_reducible assumption) | (with_reducible refine Ext.alloc ?_ _) | (with_reducible refine Ext.drewN ?_ _) | (with_reducible refine Ext.drew ?_) | (with_reducible refine Ext.setCell ?_ ?_ _; rotate_left; (simp only []; omega)) | (with_reducible refine Ext.trans ?_ (by assumption))))) (by exact hk.ext (by repeat (first | (with_reducible exact Ext.refl _) | (with_reducible assumption) | (with_reducible refine Ext.alloc ?_ _) | (with_reducible refine Ext.drewN ?_ _) | (with_reducible refine Ext.drew ?_) | (with_reducible refine Ext.setCell ?_ ?_ _; rotate_left; (simp only []; omega)) | (with_reducible refine Ext.trans ?_ (by assumption))))) (by exact hs.ext (by repeat (first | (with_reducible exact Ext.refl _) | (with_reducible assumption) | (with_reducible refine Ext.alloc ?_ _) | (with_reducible refine Ext.drewN ?_ _) | (with_reducible refine Ext.drew ?_) | (with_reducible refine Ext.setCell ?_ ?_ _; rotate_left; (simp only []; omega)) | (with_reducible refine Ext.trans ?_ (by assumption)))))).mono ?_
    rintro e w2 ⟨A, n', C, sa, sn, sc, qa, qn, qc, rfl, O1, O2, O3, hx2⟩
    have hy2 := hx2.size
    (try simp at hy2)
    have eW2 := useE (fun (h : Ext _ w2) => ht.ext h) (by repeat (first | (with_reducible exact Ext.refl _) | (with_reducible assumption) | (with_reducible refine Ext.alloc ?_ _) | (with_reducible refine Ext.drewN ?_ _) | (with_reducible refine Ext.drew ?_) | (with_reducible refine Ext.setCell ?_ ?_ _; rotate_left; (simp only []; omega)) | (with_reducible refine Ext.trans ?_ (by assumption))))
    replace ht := ht.ext eW2
    replace hk := hk.ext eW2
    replace hs := hs.ext eW2
    clear cBG fBG zBG
    replace BG := BG.ext eW2
    clear cBP fBP zBP
    replace BP := BP.ext eW2
    clear cBQ fBQ zBQ
    replace BQ := BQ.ext eW2
    clear cBR fBR zBR
    replace BR := BR.ext eW2
    have cBG := BG.cells
    have fBG := BG.frozens
    have zBG := BG.lt
    have cBP := BP.cells
    have fBP := BP.frozens
    have zBP := BP.lt
    have cBQ := BQ.cells
    have fBQ := BQ.frozens
    have zBQ := BQ.lt
    have cBR := BR.cells
    have fBR := BR.frozens
    have zBR := BR.lt
    have X2 : Ext w w2 := X1.trans (show Ext w1 w2 from (by repeat (first | (with_reducible exact Ext.refl _) | (with_reducible assumption) | (with_reducible refine Ext.alloc ?_ _) | (with_reducible refine Ext.drewN ?_ _) | (with_reducible refine Ext.drew ?_) | (with_reducible refine Ext.setCell ?_ ?_ _; rotate_left; (simp only []; omega)) | (with_reducible refine Ext.trans ?_ (by assumption)))))
    have l1 := O1.lt
    have l2 := O2.lt
    have l3 := O3.lt
    have hz : w.heap.size + 4 ≤ w1.heap.size := by omega
    have Y1 := Lib.hid (O1.rebase (b' := w.heap.size) (by (try simp); (try omega)))
    have Y2 := Lib.hid (O2.rebase (b' := w.heap.size) (by (try simp); (try omega)))
    have Y3 := Lib.hid (O3.rebase (b' := w.heap.size) (by (try simp); (try omega)))
    have n12 : ∀ x, A = some x → x.block ≠ w.heap.size + 1 + 1 := fun x e => by have := (l1 x e).1; (try simp at this); omega
    have n13 : ∀ x, A = some x → x.block ≠ w.heap.size + 1 + 1 + 1 := fun x e => by have := (l1 x e).1; (try simp at this); omega
    have n22 : ∀ x, sa = some x → x.block ≠ w.heap.size + 1 + 1 := fun x e => by have := (l2 x e).1; (try simp at this); omega
    have n23 : ∀ x, sa = some x → x.block ≠ w.heap.size + 1 + 1 + 1 := fun x e => by have := (l2 x e).1; (try simp at this); omega
    have n32 : ∀ x, qa = some x → x.block ≠ w.heap.size + 1 + 1 := fun x e => by have := (l3 x e).1; (try simp at this); omega
    have n33 : ∀ x, qa = some x → x.block ≠ w.heap.size + 1 + 1 + 1 := fun x e => by have := (l3 x e).1; (try simp at this); omega
    clear hx2 O1 O2 O3 l1 l2 l3
    go_wp2
    refine' bodyPost_ret (v := _) ?_ rfl ?_
    rotate_left
    · (simp only [results, Tryz.results28]
       go_simp
       rfl)
    refine ⟨A, n', C, sa, sn, sc, qa, qn, qc, rfl, ?_⟩
    clear cBG fBG cBP fBP cBQ fBQ cBR fBR
    refine (fun (h : Two (w.heap.size + 1 + 1) (w.heap.size + 1 + 1 + 1) w2 _) => ⟨h.ow Y1.out n12 n13, h.ow Y2.out n22 n23, h.ow Y3.out n32 n33, h.ext X2 e2 e3⟩) ?_
    clear e2 e3
    generalize w.heap.size + 1 + 1 + 1 = b2
    generalize w.heap.size + 1 + 1 = b1
    repeat (first | (with_reducible exact Two.refl _ _ _) | (with_reducible refine Two.drew ?_) | (with_reducible refine Two.alloc ?_ _) | (with_reducible refine Two.set1 ?_ _ _) | (with_reducible refine Two.set2 ?_ _ _))
/-- The second package's send, in one form. -/
theorem spec_send_u (g : GateD) (p : PktD) (ta : Option Addr) (tn tc : Nat) (ka : Option Addr) (kn kc : Nat) (a : Option Addr) (n c : Nat) (w : World) (ht : Sl encM 4 w ta tn tc g.table) (hk : Sl encC 3 w ka kn kc g.cons) (hs : Sl encI 1 w a n c p.data)
    (htn : tn ≤ 8) (hkn : kn ≤ 10) (hn : n ≤ 12) (h0 : 0 ≤ p.fr.port) (h1 : p.fr.port ≤ 65535) :
    Calls Tryz.prog 60 #[.agg #[.int .i64 g.net.base, .int .i64 g.net.bits, .int .i64 g.out, .slice ta tn tc, .slice ka kn kc, .int .i64 g.filter, .int .i64 g.hold, .int .i64 g.now], .agg #[.int .i64 p.kind, .int .i64 p.fr.addr, .int .i64 p.fr.port, .int .i64 p.to_.addr, .int .i64 p.to_.port, .slice a n c]] w fun e w' => ∃ A n C sa sn sc qa qn qc, e = .returned (.tuple #[.agg #[.int .i64 (rP (send g p)).kind, .int .i64 (rP (send g p)).fr.addr, .int .i64 (rP (send g p)).fr.port, .int .i64 (rP (send g p)).to_.addr, .int .i64 (rP (send g p)).to_.port, .slice A n C], .agg #[.int .i64 (rG (send g p)).net.base, .int .i64 (rG (send g p)).net.bits, .int .i64 (rG (send g p)).out, .slice sa sn sc, .slice qa qn qc, .int .i64 (rG (send g p)).filter, .int .i64 (rG (send g p)).hold, .int .i64 (rG (send g p)).now], .bool (send g p).isSome]) ∧
          Ow 3 encI 1 w.heap.size w' A n C (rP (send g p)).data ∧ Ow 86 encM 4 w.heap.size w' sa sn sc (rG (send g p)).table ∧ Ow 99 encC 3 w.heap.size w' qa qn qc (rG (send g p)).cons ∧ Ext w w' := by
  cases hm : mapEnd g.table p.fr g.now with
  | none =>
    have e2 : send g p = none := by unfold send; rw [hm]
    rw [e2]
    exact (spec_send_none g p ta tn tc ka kn kc a n c w ht htn h0 h1 hm).mono fun _ _ ⟨h1, h2⟩ => ⟨none, 0, 0, none, 0, 0, none, 0, 0, h1, Ow.nils _, Ow.nils _, Ow.nils _, h2⟩
  | some r =>
    obtain ⟨T, port⟩ := r
    have e2 : send g p = some ({ p with fr := ⟨g.out, port⟩ }, { g with table := T, cons := note g.cons ⟨port, p.to_⟩ }) := by unfold send; rw [hm]
    rw [e2]
    exact (spec_send_some g p ta tn tc ka kn kc a n c w ht hk hs htn hkn hn h0 h1 T port hm).mono fun _ _ ⟨A, C, sa, sn, sc, qa, qn, qc, h1, h2, h3, h4, h5⟩ => ⟨A, n, C, sa, sn, sc, qa, qn, qc, h1, h2, h3, h4, h5⟩
set_option maxHeartbeats 2000000 in
theorem spec_PassBetween_not (g : GateD) (p : PktD) (ta : Option Addr) (tn tc : Nat) (ka : Option Addr) (kn kc : Nat) (a : Option Addr) (n c : Nat) (w : World) (ht : Sl encM 4 w ta tn tc g.table) (hk : Sl encC 3 w ka kn kc g.cons) (hs : Sl encI 1 w a n c p.data)
    (hC : (validGate g && validPkt p && has g.net p.fr.addr && decide (p.to_.addr = g.out)) = false) :
    Calls Tryz.prog 24 #[.agg #[.int .i64 g.net.base, .int .i64 g.net.bits, .int .i64 g.out, .slice ta tn tc, .slice ka kn kc, .int .i64 g.filter, .int .i64 g.hold, .int .i64 g.now], .agg #[.int .i64 p.kind, .int .i64 p.fr.addr, .int .i64 p.fr.port, .int .i64 p.to_.addr, .int .i64 p.to_.port, .slice a n c]] w fun x w' => x = .returned (.tuple #[.agg #[.int .i64 0, .int .i64 0, .int .i64 0, .int .i64 0, .int .i64 0, .slice none 0 0], .agg #[.int .i64 0, .int .i64 0, .int .i64 0, .slice none 0 0, .slice none 0 0, .int .i64 0, .int .i64 0, .int .i64 0], .bool false]) ∧ Ext w w' := by
  go_enter Tryz.func24, Tryz.ntmps24
  go_wp2_with (first | (go_at_call 71; refine (spec_validGate g ta tn tc ka kn kc _ (by exact ht.ext (by repeat (first | (with_reducible exact Ext.refl _) | (with_reducible assumption) | (with_reducible refine Ext.alloc ?_ _) | (with_reducible refine Ext.drewN ?_ _) | (with_reducible refine Ext.drew ?_) | (with_reducible refine Ext.setCell ?_ ?_ _; rotate_left; (simp only []; omega)) | (with_reducible refine Ext.trans ?_ (by assumption))))) (by exact hk.ext (by repeat (first | (with_reducible exact Ext.refl _) | (with_reducible assumption) | (with_reducible refine Ext.alloc ?_ _) | (with_reducible refine Ext.drewN ?_ _) | (with_reducible refine Ext.drew ?_) | (with_reducible refine Ext.setCell ?_ ?_ _; rotate_left; (simp only []; omega)) | (with_reducible refine Ext.trans ?_ (by assumption)))))).mono ?_; rintro e w1 ⟨rfl, hx⟩; have hc := hx.cells; have hf := hx.frozens; have hy := hx.size; (try simp at hy); have hz : w.heap.size < w1.heap.size ∧ w.heap.size + 1 < w1.heap.size ∧ w.heap.size + 2 < w1.heap.size ∧ w.heap.size + 3 < w1.heap.size := (by omega)) | (go_at_call 72; refine (spec_validPacket' p a n c _ (by exact hs.ext (by repeat (first | (with_reducible exact Ext.refl _) | (with_reducible assumption) | (with_reducible refine Ext.alloc ?_ _) | (with_reducible refine Ext.drewN ?_ _) | (with_reducible refine Ext.drew ?_) | (with_reducible refine Ext.setCell ?_ ?_ _; rotate_left; (simp only []; omega)) | (with_reducible refine Ext.trans ?_ (by assumption)))))).mono ?_; rintro e w1 ⟨rfl, hx⟩; have hc := hx.cells; have hf := hx.frozens; have hy := hx.size; (try simp at hy); have hz : w.heap.size < w1.heap.size ∧ w.heap.size + 1 < w1.heap.size ∧ w.heap.size + 2 < w1.heap.size ∧ w.heap.size + 3 < w1.heap.size := (by omega)) | (go_at_call 73; refine (spec_inNet' g.net _ _ (validGate_iff.1 (by assumption)).net).mono ?_; rintro e w1 ⟨rfl, hx⟩; have hc := hx.cells; have hf := hx.frozens; have hy := hx.size; (try simp at hy); have hz : w.heap.size < w1.heap.size ∧ w.heap.size + 1 < w1.heap.size ∧ w.heap.size + 2 < w1.heap.size ∧ w.heap.size + 3 < w1.heap.size := (by omega)))
  all_goals (try (exfalso; simp_all; done))
  all_goals
    refine' bodyPost_ret (v := _) ?_ rfl ?_
    rotate_left
    · (simp only [results, Tryz.results24]
       go_simp
       rfl)
    exact ⟨rfl, (by repeat (first | (with_reducible exact Ext.refl _) | (with_reducible assumption) | (with_reducible refine Ext.alloc ?_ _) | (with_reducible refine Ext.drewN ?_ _) | (with_reducible refine Ext.drew ?_) | (with_reducible refine Ext.setCell ?_ ?_ _; rotate_left; (simp only []; omega)) | (with_reducible refine Ext.trans ?_ (by assumption))))⟩
set_option maxHeartbeats 2000000 in
/-- The second package's PassBetween. -/
theorem spec_PassBetween (g : GateD) (p : PktD) (ta : Option Addr) (tn tc : Nat) (ka : Option Addr) (kn kc : Nat) (a : Option Addr) (n c : Nat) (w : World) (ht : Sl encM 4 w ta tn tc g.table) (hk : Sl encC 3 w ka kn kc g.cons) (hs : Sl encI 1 w a n c p.data) :
    Calls Tryz.prog 24 #[.agg #[.int .i64 g.net.base, .int .i64 g.net.bits, .int .i64 g.out, .slice ta tn tc, .slice ka kn kc, .int .i64 g.filter, .int .i64 g.hold, .int .i64 g.now], .agg #[.int .i64 p.kind, .int .i64 p.fr.addr, .int .i64 p.fr.port, .int .i64 p.to_.addr, .int .i64 p.to_.port, .slice a n c]] w fun e w' => ∃ A n C sa sn sc qa qn qc, e = .returned (.tuple #[.agg #[.int .i64 (rP (passBetween g p)).kind, .int .i64 (rP (passBetween g p)).fr.addr, .int .i64 (rP (passBetween g p)).fr.port, .int .i64 (rP (passBetween g p)).to_.addr, .int .i64 (rP (passBetween g p)).to_.port, .slice A n C], .agg #[.int .i64 (rG (passBetween g p)).net.base, .int .i64 (rG (passBetween g p)).net.bits, .int .i64 (rG (passBetween g p)).out, .slice sa sn sc, .slice qa qn qc, .int .i64 (rG (passBetween g p)).filter, .int .i64 (rG (passBetween g p)).hold, .int .i64 (rG (passBetween g p)).now], .bool (passBetween g p).isSome]) ∧
          Ow 3 encI 1 w.heap.size w' A n C (rP (passBetween g p)).data ∧ Ow 86 encM 4 w.heap.size w' sa sn sc (rG (passBetween g p)).table ∧ Ow 99 encC 3 w.heap.size w' qa qn qc (rG (passBetween g p)).cons ∧ Ext w w' := by
  cases hC : (validGate g && validPkt p && has g.net p.fr.addr && decide (p.to_.addr = g.out)) with
  | false =>
    have e : passBetween g p = none := by
      unfold passBetween between fromIn
      rw [hC]; rfl
    rw [e]
    exact (spec_PassBetween_not g p ta tn tc ka kn kc a n c w ht hk hs hC).mono fun _ _ ⟨h1, h2⟩ => ⟨none, 0, 0, none, 0, 0, none, 0, 0, h1, Ow.nils _, Ow.nils _, Ow.nils _, h2⟩
  | true =>
    have hC2 := hC
    simp only [Bool.and_eq_true, decide_eq_true_eq] at hC2
    obtain ⟨⟨⟨h1, h2⟩, h3⟩, h4⟩ := hC2
    obtain ⟨l1, l2, l3, l4, l5⟩ := valid_lens h1 h2 ht hk hs
    have c1 := fun W x y => spec_validGate g ta tn tc ka kn kc W x y
    rw [h1] at c1
    replace c1 := Lib.hid c1
    have c2 := fun W h => spec_validPacket' p a n c W h
    rw [h2] at c2
    replace c2 := Lib.hid c2
    have c3 := fun W => spec_inNet' g.net p.fr.addr W (validGate_iff.1 h1).net
    rw [h3] at c3
    replace c3 := Lib.hid c3
    have b4 : (p.to_.addr != g.out) = false := by simp [h4]
    have c4 := fun W x y z => spec_send_u g p ta tn tc ka kn kc a n c W x y z l1 l2 l3 l4 l5
    have e2 : w.heap.size ≤ w.heap.size + 1 + 1 := by omega
    have e3 : w.heap.size ≤ w.heap.size + 1 + 1 + 1 := by omega
    cases hS : send g p with
    | none =>
      have e : passBetween g p = none := by
        unfold passBetween between fromIn
        rw [hC, hS]; rfl
      rw [e]
      rw [hS] at c4
      replace c4 := Lib.hid c4
      clear e hC hS h1 h2 h3 h4
      go_enter Tryz.func24, Tryz.ntmps24
      go_wp2_with fail
      refine (c1.out _ (by exact ht.ext (by repeat (first | (with_reducible exact Ext.refl _) | (with_reducible assumption) | (with_reducible refine Ext.alloc ?_ _) | (with_reducible refine Ext.drewN ?_ _) | (with_reducible refine Ext.drew ?_) | (with_reducible refine Ext.setCell ?_ ?_ _; rotate_left; (simp only []; omega)) | (with_reducible refine Ext.trans ?_ (by assumption))))) (by exact hk.ext (by repeat (first | (with_reducible exact Ext.refl _) | (with_reducible assumption) | (with_reducible refine Ext.alloc ?_ _) | (with_reducible refine Ext.drewN ?_ _) | (with_reducible refine Ext.drew ?_) | (with_reducible refine Ext.setCell ?_ ?_ _; rotate_left; (simp only []; omega)) | (with_reducible refine Ext.trans ?_ (by assumption)))))).mono ?_
      rintro e w1 ⟨rfl, hx1⟩
      have hy1 := hx1.size
      (try simp at hy1)
      have eW1 := useE (fun (h : Ext _ w1) => ht.ext h) (by repeat (first | (with_reducible exact Ext.refl _) | (with_reducible assumption) | (with_reducible refine Ext.alloc ?_ _) | (with_reducible refine Ext.drewN ?_ _) | (with_reducible refine Ext.drew ?_) | (with_reducible refine Ext.setCell ?_ ?_ _; rotate_left; (simp only []; omega)) | (with_reducible refine Ext.trans ?_ (by assumption))))
      replace ht := ht.ext eW1
      replace hk := hk.ext eW1
      replace hs := hs.ext eW1
      have BG : Blk w1 w.heap.size 28 (#[.int .i64 g.net.base, .int .i64 g.net.bits, .int .i64 g.out, .slice ta tn tc, .slice ka kn kc, .int .i64 g.filter, .int .i64 g.hold, .int .i64 g.now]) := by refine Blk.ext ?_ hx1; exact (by repeat (first | (with_reducible assumption) | (with_reducible exact Blk.new _ _ _) | exact Blk.newAt _ _ _ (by simp) | (with_reducible refine Blk.alloc ?_ _) | (with_reducible refine Blk.drew ?_) | (with_reducible refine Blk.drewN ?_ _) | refine Blk.far ?_ (by simp only []; omega) _ | refine Blk.rext ?_ (by assumption) (by omega) | refine Blk.ext ?_ (by assumption)))
      have BP : Blk w1 (w.heap.size+1) 33 (#[.int .i64 p.kind, .int .i64 p.fr.addr, .int .i64 p.fr.port, .int .i64 p.to_.addr, .int .i64 p.to_.port, .slice a n c]) := by refine Blk.ext ?_ hx1; exact (by repeat (first | (with_reducible assumption) | (with_reducible exact Blk.new _ _ _) | exact Blk.newAt _ _ _ (by simp) | (with_reducible refine Blk.alloc ?_ _) | (with_reducible refine Blk.drew ?_) | (with_reducible refine Blk.drewN ?_ _) | refine Blk.far ?_ (by simp only []; omega) _ | refine Blk.rext ?_ (by assumption) (by omega) | refine Blk.ext ?_ (by assumption)))
      have BQ : Blk w1 (w.heap.size+2) 33 #[.int .i64 0, .int .i64 0, .int .i64 0, .int .i64 0, .int .i64 0, .slice none 0 0] := by refine Blk.ext ?_ hx1; exact (by repeat (first | (with_reducible assumption) | (with_reducible exact Blk.new _ _ _) | exact Blk.newAt _ _ _ (by simp) | (with_reducible refine Blk.alloc ?_ _) | (with_reducible refine Blk.drew ?_) | (with_reducible refine Blk.drewN ?_ _) | refine Blk.far ?_ (by simp only []; omega) _ | refine Blk.rext ?_ (by assumption) (by omega) | refine Blk.ext ?_ (by assumption)))
      have BR : Blk w1 (w.heap.size+3) 28 #[.int .i64 0, .int .i64 0, .int .i64 0, .slice none 0 0, .slice none 0 0, .int .i64 0, .int .i64 0, .int .i64 0] := by refine Blk.ext ?_ hx1; exact (by repeat (first | (with_reducible assumption) | (with_reducible exact Blk.new _ _ _) | exact Blk.newAt _ _ _ (by simp) | (with_reducible refine Blk.alloc ?_ _) | (with_reducible refine Blk.drew ?_) | (with_reducible refine Blk.drewN ?_ _) | refine Blk.far ?_ (by simp only []; omega) _ | refine Blk.rext ?_ (by assumption) (by omega) | refine Blk.ext ?_ (by assumption)))
      have cBG := BG.cells
      have fBG := BG.frozens
      have zBG := BG.lt
      have cBP := BP.cells
      have fBP := BP.frozens
      have zBP := BP.lt
      have cBQ := BQ.cells
      have fBQ := BQ.frozens
      have zBQ := BQ.lt
      have cBR := BR.cells
      have fBR := BR.frozens
      have zBR := BR.lt
      have XU : Ext w w1 := (by repeat (first | (with_reducible exact Ext.refl _) | (with_reducible assumption) | (with_reducible refine Ext.alloc ?_ _) | (with_reducible refine Ext.drewN ?_ _) | (with_reducible refine Ext.drew ?_) | (with_reducible refine Ext.setCell ?_ ?_ _; rotate_left; (simp only []; omega)) | (with_reducible refine Ext.trans ?_ (by assumption))))
      clear hx1
      go_wp2_with fail
      refine (c2.out _ (by exact hs.ext (by repeat (first | (with_reducible exact Ext.refl _) | (with_reducible assumption) | (with_reducible refine Ext.alloc ?_ _) | (with_reducible refine Ext.drewN ?_ _) | (with_reducible refine Ext.drew ?_) | (with_reducible refine Ext.setCell ?_ ?_ _; rotate_left; (simp only []; omega)) | (with_reducible refine Ext.trans ?_ (by assumption)))))).mono ?_
      rintro e w2 ⟨rfl, hx2⟩
      have hy2 := hx2.size
      (try simp at hy2)
      have eW2 := useE (fun (h : Ext _ w2) => ht.ext h) (by repeat (first | (with_reducible exact Ext.refl _) | (with_reducible assumption) | (with_reducible refine Ext.alloc ?_ _) | (with_reducible refine Ext.drewN ?_ _) | (with_reducible refine Ext.drew ?_) | (with_reducible refine Ext.setCell ?_ ?_ _; rotate_left; (simp only []; omega)) | (with_reducible refine Ext.trans ?_ (by assumption))))
      replace ht := ht.ext eW2
      replace hk := hk.ext eW2
      replace hs := hs.ext eW2
      clear cBG fBG zBG
      replace BG := BG.ext eW2
      clear cBP fBP zBP
      replace BP := BP.ext eW2
      clear cBQ fBQ zBQ
      replace BQ := BQ.ext eW2
      clear cBR fBR zBR
      replace BR := BR.ext eW2
      replace XU := XU.ext eW2
      have cBG := BG.cells
      have fBG := BG.frozens
      have zBG := BG.lt
      have cBP := BP.cells
      have fBP := BP.frozens
      have zBP := BP.lt
      have cBQ := BQ.cells
      have fBQ := BQ.frozens
      have zBQ := BQ.lt
      have cBR := BR.cells
      have fBR := BR.frozens
      have zBR := BR.lt
      go_wp2_with fail
      refine (c3.out _).mono ?_
      rintro e w3 ⟨rfl, hx3⟩
      have hy3 := hx3.size
      (try simp at hy3)
      have eW3 := useE (fun (h : Ext _ w3) => ht.ext h) (by repeat (first | (with_reducible exact Ext.refl _) | (with_reducible assumption) | (with_reducible refine Ext.alloc ?_ _) | (with_reducible refine Ext.drewN ?_ _) | (with_reducible refine Ext.drew ?_) | (with_reducible refine Ext.setCell ?_ ?_ _; rotate_left; (simp only []; omega)) | (with_reducible refine Ext.trans ?_ (by assumption))))
      replace ht := ht.ext eW3
      replace hk := hk.ext eW3
      replace hs := hs.ext eW3
      clear cBG fBG zBG
      replace BG := BG.ext eW3
      clear cBP fBP zBP
      replace BP := BP.ext eW3
      clear cBQ fBQ zBQ
      replace BQ := BQ.ext eW3
      clear cBR fBR zBR
      replace BR := BR.ext eW3
      replace XU := XU.ext eW3
      have cBG := BG.cells
      have fBG := BG.frozens
      have zBG := BG.lt
      have cBP := BP.cells
      have fBP := BP.frozens
      have zBP := BP.lt
      have cBQ := BQ.cells
      have fBQ := BQ.frozens
      have zBQ := BQ.lt
      have cBR := BR.cells
      have fBR := BR.frozens
      have zBR := BR.lt
      go_wp2_with fail
      refine (c4.out _ (by exact ht.ext (by repeat (first | (with_reducible exact Ext.refl _) | (with_reducible assumption) | (with_reducible refine Ext.alloc ?_ _) | (with_reducible refine Ext.drewN ?_ _) | (with_reducible refine Ext.drew ?_) | (with_reducible refine Ext.setCell ?_ ?_ _; rotate_left; (simp only []; omega)) | (with_reducible refine Ext.trans ?_ (by assumption))))) (by exact hk.ext (by repeat (first | (with_reducible exact Ext.refl _) | (with_reducible assumption) | (with_reducible refine Ext.alloc ?_ _) | (with_reducible refine Ext.drewN ?_ _) | (with_reducible refine Ext.drew ?_) | (with_reducible refine Ext.setCell ?_ ?_ _; rotate_left; (simp only []; omega)) | (with_reducible refine Ext.trans ?_ (by assumption))))) (by exact hs.ext (by repeat (first | (with_reducible exact Ext.refl _) | (with_reducible assumption) | (with_reducible refine Ext.alloc ?_ _) | (with_reducible refine Ext.drewN ?_ _) | (with_reducible refine Ext.drew ?_) | (with_reducible refine Ext.setCell ?_ ?_ _; rotate_left; (simp only []; omega)) | (with_reducible refine Ext.trans ?_ (by assumption)))))).mono ?_
      rintro e w4 ⟨_, _, _, _, _, _, _, _, _, rfl, _, _, _, hx4⟩
      have hy4 := hx4.size
      (try simp at hy4)
      have eW4 := useE (fun (h : Ext _ w4) => ht.ext h) (by repeat (first | (with_reducible exact Ext.refl _) | (with_reducible assumption) | (with_reducible refine Ext.alloc ?_ _) | (with_reducible refine Ext.drewN ?_ _) | (with_reducible refine Ext.drew ?_) | (with_reducible refine Ext.setCell ?_ ?_ _; rotate_left; (simp only []; omega)) | (with_reducible refine Ext.trans ?_ (by assumption))))
      replace ht := ht.ext eW4
      replace hk := hk.ext eW4
      replace hs := hs.ext eW4
      clear cBG fBG zBG
      replace BG := BG.ext eW4
      clear cBP fBP zBP
      replace BP := BP.ext eW4
      clear cBQ fBQ zBQ
      replace BQ := BQ.ext eW4
      clear cBR fBR zBR
      replace BR := BR.ext eW4
      replace XU := XU.ext eW4
      have cBG := BG.cells
      have fBG := BG.frozens
      have zBG := BG.lt
      have cBP := BP.cells
      have fBP := BP.frozens
      have zBP := BP.lt
      have cBQ := BQ.cells
      have fBQ := BQ.frozens
      have zBQ := BQ.lt
      have cBR := BR.cells
      have fBR := BR.frozens
      have zBR := BR.lt
      have X4 : Ext w w4 := XU
      clear hx2 hx3 hx4 XU
      go_wp2
      refine' bodyPost_ret (v := _) ?_ rfl ?_
      rotate_left
      · (simp only [results, Tryz.results24]
         go_simp
         rfl)
      refine ⟨none, 0, 0, none, 0, 0, none, 0, 0, rfl, Ow.nils _, Ow.nils _, Ow.nils _, ?_⟩
      clear cBG fBG cBP fBP cBQ fBQ cBR fBR
      refine (fun (h : Two (w.heap.size + 1 + 1) (w.heap.size + 1 + 1 + 1) w4 _) => h.ext X4 e2 e3) ?_
      clear e2 e3
      generalize w.heap.size + 1 + 1 + 1 = b2
      generalize w.heap.size + 1 + 1 = b1
      repeat (first | (with_reducible exact Two.refl _ _ _) | (with_reducible refine Two.drew ?_) | (with_reducible refine Two.alloc ?_ _) | (with_reducible refine Two.set1 ?_ _ _) | (with_reducible refine Two.set2 ?_ _ _))
    | some s =>
      obtain ⟨q1, h1'⟩ := s
      have S := send_ok (validGate_iff.1 h1) h2 h3 hS
      have e : passBetween g p = receive h1' q1 := by
        unfold passBetween between fromIn
        rw [hC, hS]; rfl
      rw [e]
      rw [hS] at c4
      replace c4 := Lib.hid c4
      have v1 := validGate_iff.2 S.valid
      have v2 := S.validq
      clear e hC hS h1 h2 h3 h4 S
      obtain ⟨r, hr⟩ : ∃ r, r = receive h1' q1 := ⟨_, rfl⟩
      have c5 := fun sa sn sc qa qn qc A n' C W x y z => (fun l => spec_receive h1' q1 sa sn sc qa qn qc A n' C W x y z l.1 l.2.1 l.2.2.1) (valid_lens v1 v2 x y z)
      rw [← hr] at c5 ⊢
      replace c5 := Lib.hid c5
      clear hr v1 v2
      go_enter Tryz.func24, Tryz.ntmps24
      go_wp2_with fail
      refine (c1.out _ (by exact ht.ext (by repeat (first | (with_reducible exact Ext.refl _) | (with_reducible assumption) | (with_reducible refine Ext.alloc ?_ _) | (with_reducible refine Ext.drewN ?_ _) | (with_reducible refine Ext.drew ?_) | (with_reducible refine Ext.setCell ?_ ?_ _; rotate_left; (simp only []; omega)) | (with_reducible refine Ext.trans ?_ (by assumption))))) (by exact hk.ext (by repeat (first | (with_reducible exact Ext.refl _) | (with_reducible assumption) | (with_reducible refine Ext.alloc ?_ _) | (with_reducible refine Ext.drewN ?_ _) | (with_reducible refine Ext.drew ?_) | (with_reducible refine Ext.setCell ?_ ?_ _; rotate_left; (simp only []; omega)) | (with_reducible refine Ext.trans ?_ (by assumption)))))).mono ?_
      rintro e w1 ⟨rfl, hx1⟩
      have hy1 := hx1.size
      (try simp at hy1)
      have eW1 := useE (fun (h : Ext _ w1) => ht.ext h) (by repeat (first | (with_reducible exact Ext.refl _) | (with_reducible assumption) | (with_reducible refine Ext.alloc ?_ _) | (with_reducible refine Ext.drewN ?_ _) | (with_reducible refine Ext.drew ?_) | (with_reducible refine Ext.setCell ?_ ?_ _; rotate_left; (simp only []; omega)) | (with_reducible refine Ext.trans ?_ (by assumption))))
      replace ht := ht.ext eW1
      replace hk := hk.ext eW1
      replace hs := hs.ext eW1
      have BG : Blk w1 w.heap.size 28 (#[.int .i64 g.net.base, .int .i64 g.net.bits, .int .i64 g.out, .slice ta tn tc, .slice ka kn kc, .int .i64 g.filter, .int .i64 g.hold, .int .i64 g.now]) := by refine Blk.ext ?_ hx1; exact (by repeat (first | (with_reducible assumption) | (with_reducible exact Blk.new _ _ _) | exact Blk.newAt _ _ _ (by simp) | (with_reducible refine Blk.alloc ?_ _) | (with_reducible refine Blk.drew ?_) | (with_reducible refine Blk.drewN ?_ _) | refine Blk.far ?_ (by simp only []; omega) _ | refine Blk.rext ?_ (by assumption) (by omega) | refine Blk.ext ?_ (by assumption)))
      have BP : Blk w1 (w.heap.size+1) 33 (#[.int .i64 p.kind, .int .i64 p.fr.addr, .int .i64 p.fr.port, .int .i64 p.to_.addr, .int .i64 p.to_.port, .slice a n c]) := by refine Blk.ext ?_ hx1; exact (by repeat (first | (with_reducible assumption) | (with_reducible exact Blk.new _ _ _) | exact Blk.newAt _ _ _ (by simp) | (with_reducible refine Blk.alloc ?_ _) | (with_reducible refine Blk.drew ?_) | (with_reducible refine Blk.drewN ?_ _) | refine Blk.far ?_ (by simp only []; omega) _ | refine Blk.rext ?_ (by assumption) (by omega) | refine Blk.ext ?_ (by assumption)))
      have BQ : Blk w1 (w.heap.size+2) 33 #[.int .i64 0, .int .i64 0, .int .i64 0, .int .i64 0, .int .i64 0, .slice none 0 0] := by refine Blk.ext ?_ hx1; exact (by repeat (first | (with_reducible assumption) | (with_reducible exact Blk.new _ _ _) | exact Blk.newAt _ _ _ (by simp) | (with_reducible refine Blk.alloc ?_ _) | (with_reducible refine Blk.drew ?_) | (with_reducible refine Blk.drewN ?_ _) | refine Blk.far ?_ (by simp only []; omega) _ | refine Blk.rext ?_ (by assumption) (by omega) | refine Blk.ext ?_ (by assumption)))
      have BR : Blk w1 (w.heap.size+3) 28 #[.int .i64 0, .int .i64 0, .int .i64 0, .slice none 0 0, .slice none 0 0, .int .i64 0, .int .i64 0, .int .i64 0] := by refine Blk.ext ?_ hx1; exact (by repeat (first | (with_reducible assumption) | (with_reducible exact Blk.new _ _ _) | exact Blk.newAt _ _ _ (by simp) | (with_reducible refine Blk.alloc ?_ _) | (with_reducible refine Blk.drew ?_) | (with_reducible refine Blk.drewN ?_ _) | refine Blk.far ?_ (by simp only []; omega) _ | refine Blk.rext ?_ (by assumption) (by omega) | refine Blk.ext ?_ (by assumption)))
      have cBG := BG.cells
      have fBG := BG.frozens
      have zBG := BG.lt
      have cBP := BP.cells
      have fBP := BP.frozens
      have zBP := BP.lt
      have cBQ := BQ.cells
      have fBQ := BQ.frozens
      have zBQ := BQ.lt
      have cBR := BR.cells
      have fBR := BR.frozens
      have zBR := BR.lt
      have XU : Ext w w1 := (by repeat (first | (with_reducible exact Ext.refl _) | (with_reducible assumption) | (with_reducible refine Ext.alloc ?_ _) | (with_reducible refine Ext.drewN ?_ _) | (with_reducible refine Ext.drew ?_) | (with_reducible refine Ext.setCell ?_ ?_ _; rotate_left; (simp only []; omega)) | (with_reducible refine Ext.trans ?_ (by assumption))))
      clear hx1
      go_wp2_with fail
      refine (c2.out _ (by exact hs.ext (by repeat (first | (with_reducible exact Ext.refl _) | (with_reducible assumption) | (with_reducible refine Ext.alloc ?_ _) | (with_reducible refine Ext.drewN ?_ _) | (with_reducible refine Ext.drew ?_) | (with_reducible refine Ext.setCell ?_ ?_ _; rotate_left; (simp only []; omega)) | (with_reducible refine Ext.trans ?_ (by assumption)))))).mono ?_
      rintro e w2 ⟨rfl, hx2⟩
      have hy2 := hx2.size
      (try simp at hy2)
      have eW2 := useE (fun (h : Ext _ w2) => ht.ext h) (by repeat (first | (with_reducible exact Ext.refl _) | (with_reducible assumption) | (with_reducible refine Ext.alloc ?_ _) | (with_reducible refine Ext.drewN ?_ _) | (with_reducible refine Ext.drew ?_) | (with_reducible refine Ext.setCell ?_ ?_ _; rotate_left; (simp only []; omega)) | (with_reducible refine Ext.trans ?_ (by assumption))))
      replace ht := ht.ext eW2
      replace hk := hk.ext eW2
      replace hs := hs.ext eW2
      clear cBG fBG zBG
      replace BG := BG.ext eW2
      clear cBP fBP zBP
      replace BP := BP.ext eW2
      clear cBQ fBQ zBQ
      replace BQ := BQ.ext eW2
      clear cBR fBR zBR
      replace BR := BR.ext eW2
      replace XU := XU.ext eW2
      have cBG := BG.cells
      have fBG := BG.frozens
      have zBG := BG.lt
      have cBP := BP.cells
      have fBP := BP.frozens
      have zBP := BP.lt
      have cBQ := BQ.cells
      have fBQ := BQ.frozens
      have zBQ := BQ.lt
      have cBR := BR.cells
      have fBR := BR.frozens
      have zBR := BR.lt
      go_wp2_with fail
      refine (c3.out _).mono ?_
      rintro e w3 ⟨rfl, hx3⟩
      have hy3 := hx3.size
      (try simp at hy3)
      have eW3 := useE (fun (h : Ext _ w3) => ht.ext h) (by repeat (first | (with_reducible exact Ext.refl _) | (with_reducible assumption) | (with_reducible refine Ext.alloc ?_ _) | (with_reducible refine Ext.drewN ?_ _) | (with_reducible refine Ext.drew ?_) | (with_reducible refine Ext.setCell ?_ ?_ _; rotate_left; (simp only []; omega)) | (with_reducible refine Ext.trans ?_ (by assumption))))
      replace ht := ht.ext eW3
      replace hk := hk.ext eW3
      replace hs := hs.ext eW3
      clear cBG fBG zBG
      replace BG := BG.ext eW3
      clear cBP fBP zBP
      replace BP := BP.ext eW3
      clear cBQ fBQ zBQ
      replace BQ := BQ.ext eW3
      clear cBR fBR zBR
      replace BR := BR.ext eW3
      replace XU := XU.ext eW3
      have cBG := BG.cells
      have fBG := BG.frozens
      have zBG := BG.lt
      have cBP := BP.cells
      have fBP := BP.frozens
      have zBP := BP.lt
      have cBQ := BQ.cells
      have fBQ := BQ.frozens
      have zBQ := BQ.lt
      have cBR := BR.cells
      have fBR := BR.frozens
      have zBR := BR.lt
      go_wp2_with fail
      refine (c4.out _ (by exact ht.ext (by repeat (first | (with_reducible exact Ext.refl _) | (with_reducible assumption) | (with_reducible refine Ext.alloc ?_ _) | (with_reducible refine Ext.drewN ?_ _) | (with_reducible refine Ext.drew ?_) | (with_reducible refine Ext.setCell ?_ ?_ _; rotate_left; (simp only []; omega)) | (with_reducible refine Ext.trans ?_ (by assumption))))) (by exact hk.ext (by repeat (first | (with_reducible exact Ext.refl _) | (with_reducible assumption) | (with_reducible refine Ext.alloc ?_ _) | (with_reducible refine Ext.drewN ?_ _) | (with_reducible refine Ext.drew ?_) | (with_reducible refine Ext.setCell ?_ ?_ _; rotate_left; (simp only []; omega)) | (with_reducible refine Ext.trans ?_ (by assumption))))) (by exact hs.ext (by repeat (first | (with_reducible exact Ext.refl _) | (with_reducible assumption) | (with_reducible refine Ext.alloc ?_ _) | (with_reducible refine Ext.drewN ?_ _) | (with_reducible refine Ext.drew ?_) | (with_reducible refine Ext.setCell ?_ ?_ _; rotate_left; (simp only []; omega)) | (with_reducible refine Ext.trans ?_ (by assumption)))))).mono ?_
      rintro e w4 ⟨A4, n4, C4, ta4, tn4, tc4, ka4, kn4, kc4, rfl, P1, P2, P3, hx4⟩
      have hy4 := hx4.size
      (try simp at hy4)
      have eW4 := useE (fun (h : Ext _ w4) => ht.ext h) (by repeat (first | (with_reducible exact Ext.refl _) | (with_reducible assumption) | (with_reducible refine Ext.alloc ?_ _) | (with_reducible refine Ext.drewN ?_ _) | (with_reducible refine Ext.drew ?_) | (with_reducible refine Ext.setCell ?_ ?_ _; rotate_left; (simp only []; omega)) | (with_reducible refine Ext.trans ?_ (by assumption))))
      replace ht := ht.ext eW4
      replace hk := hk.ext eW4
      replace hs := hs.ext eW4
      clear cBG fBG zBG
      replace BG := BG.ext eW4
      clear cBP fBP zBP
      replace BP := BP.ext eW4
      clear cBQ fBQ zBQ
      replace BQ := BQ.ext eW4
      clear cBR fBR zBR
      replace BR := BR.ext eW4
      replace XU := XU.ext eW4
      have cBG := BG.cells
      have fBG := BG.frozens
      have zBG := BG.lt
      have cBP := BP.cells
      have fBP := BP.frozens
      have zBP := BP.lt
      have cBQ := BQ.cells
      have fBQ := BQ.frozens
      have zBQ := BQ.lt
      have cBR := BR.cells
      have fBR := BR.frozens
      have zBR := BR.lt
      have X4 : Ext w w4 := XU
      clear hx2 hx3 hx4 XU ht hk hs
      go_wp2_with fail
      refine (c5.out ta4 tn4 tc4 ka4 kn4 kc4 A4 n4 C4 _ (by exact (P2.sl encM_len).ext (by repeat (first | (with_reducible exact Ext.refl _) | (with_reducible assumption) | (with_reducible refine Ext.alloc ?_ _) | (with_reducible refine Ext.drewN ?_ _) | (with_reducible refine Ext.drew ?_) | (with_reducible refine Ext.setCell ?_ ?_ _; rotate_left; (simp only []; omega)) | (with_reducible refine Ext.trans ?_ (by assumption))))) (by exact (P3.sl encC_len).ext (by repeat (first | (with_reducible exact Ext.refl _) | (with_reducible assumption) | (with_reducible refine Ext.alloc ?_ _) | (with_reducible refine Ext.drewN ?_ _) | (with_reducible refine Ext.drew ?_) | (with_reducible refine Ext.setCell ?_ ?_ _; rotate_left; (simp only []; omega)) | (with_reducible refine Ext.trans ?_ (by assumption))))) (by exact (P1.sl encI_len).ext (by repeat (first | (with_reducible exact Ext.refl _) | (with_reducible assumption) | (with_reducible refine Ext.alloc ?_ _) | (with_reducible refine Ext.drewN ?_ _) | (with_reducible refine Ext.drew ?_) | (with_reducible refine Ext.setCell ?_ ?_ _; rotate_left; (simp only []; omega)) | (with_reducible refine Ext.trans ?_ (by assumption)))))).mono ?_
      rintro e w5 ⟨A, n', C, sa, sn, sc, qa, qn, qc, rfl, O1, O2, O3, hx5⟩
      have hy5 := hx5.size
      (try simp at hy5)
      have eW5 := useE (fun (h : Ext _ w5) => BG.ext h) (by repeat (first | (with_reducible exact Ext.refl _) | (with_reducible assumption) | (with_reducible refine Ext.alloc ?_ _) | (with_reducible refine Ext.drewN ?_ _) | (with_reducible refine Ext.drew ?_) | (with_reducible refine Ext.setCell ?_ ?_ _; rotate_left; (simp only []; omega)) | (with_reducible refine Ext.trans ?_ (by assumption))))
      clear cBG fBG zBG
      replace BG := BG.ext eW5
      clear cBP fBP zBP
      replace BP := BP.ext eW5
      clear cBQ fBQ zBQ
      replace BQ := BQ.ext eW5
      clear cBR fBR zBR
      replace BR := BR.ext eW5
      have cBG := BG.cells
      have fBG := BG.frozens
      have zBG := BG.lt
      have cBP := BP.cells
      have fBP := BP.frozens
      have zBP := BP.lt
      have cBQ := BQ.cells
      have fBQ := BQ.frozens
      have zBQ := BQ.lt
      have cBR := BR.cells
      have fBR := BR.frozens
      have zBR := BR.lt
      have X5 : Ext w w5 := X4.trans (show Ext w4 w5 from (by repeat (first | (with_reducible exact Ext.refl _) | (with_reducible assumption) | (with_reducible refine Ext.alloc ?_ _) | (with_reducible refine Ext.drewN ?_ _) | (with_reducible refine Ext.drew ?_) | (with_reducible refine Ext.setCell ?_ ?_ _; rotate_left; (simp only []; omega)) | (with_reducible refine Ext.trans ?_ (by assumption)))))
      have l1 := O1.lt
      have l2 := O2.lt
      have l3 := O3.lt
      have hz : w.heap.size + 4 ≤ w4.heap.size := by omega
      have Y1 := Lib.hid (O1.rebase (b' := w.heap.size) (by (try simp); (try omega)))
      have Y2 := Lib.hid (O2.rebase (b' := w.heap.size) (by (try simp); (try omega)))
      have Y3 := Lib.hid (O3.rebase (b' := w.heap.size) (by (try simp); (try omega)))
      have n12 : ∀ x, A = some x → x.block ≠ w.heap.size + 1 + 1 := fun x e => by have := (l1 x e).1; (try simp at this); omega
      have n13 : ∀ x, A = some x → x.block ≠ w.heap.size + 1 + 1 + 1 := fun x e => by have := (l1 x e).1; (try simp at this); omega
      have n22 : ∀ x, sa = some x → x.block ≠ w.heap.size + 1 + 1 := fun x e => by have := (l2 x e).1; (try simp at this); omega
      have n23 : ∀ x, sa = some x → x.block ≠ w.heap.size + 1 + 1 + 1 := fun x e => by have := (l2 x e).1; (try simp at this); omega
      have n32 : ∀ x, qa = some x → x.block ≠ w.heap.size + 1 + 1 := fun x e => by have := (l3 x e).1; (try simp at this); omega
      have n33 : ∀ x, qa = some x → x.block ≠ w.heap.size + 1 + 1 + 1 := fun x e => by have := (l3 x e).1; (try simp at this); omega
      clear hx5 O1 O2 O3 l1 l2 l3
      go_wp2
      refine' bodyPost_ret (v := _) ?_ rfl ?_
      rotate_left
      · (simp only [results, Tryz.results24]
         go_simp
         rfl)
      refine ⟨A, n', C, sa, sn, sc, qa, qn, qc, rfl, ?_⟩
      clear cBG fBG cBP fBP cBQ fBQ cBR fBR
      refine (fun (h : Two (w.heap.size + 1 + 1) (w.heap.size + 1 + 1 + 1) w5 _) => ⟨h.ow Y1.out n12 n13, h.ow Y2.out n22 n23, h.ow Y3.out n32 n33, h.ext X5 e2 e3⟩) ?_
      clear e2 e3
      generalize w.heap.size + 1 + 1 + 1 = b2
      generalize w.heap.size + 1 + 1 = b1
      repeat (first | (with_reducible exact Two.refl _ _ _) | (with_reducible refine Two.drew ?_) | (with_reducible refine Two.alloc ?_ _) | (with_reducible refine Two.set1 ?_ _ _) | (with_reducible refine Two.set2 ?_ _ _))
set_option maxHeartbeats 2000000 in
/-- The second package's Forward. -/
theorem spec_Forward (g : GateD) (p : PktD) (ta : Option Addr) (tn tc : Nat) (ka : Option Addr) (kn kc : Nat) (a : Option Addr) (n c : Nat) (w : World) (ht : Sl encM 4 w ta tn tc g.table) (hk : Sl encC 3 w ka kn kc g.cons) (hs : Sl encI 1 w a n c p.data) :
    Calls Tryz.prog 47 #[.agg #[.int .i64 g.net.base, .int .i64 g.net.bits, .int .i64 g.out, .slice ta tn tc, .slice ka kn kc, .int .i64 g.filter, .int .i64 g.hold, .int .i64 g.now], .agg #[.int .i64 p.kind, .int .i64 p.fr.addr, .int .i64 p.fr.port, .int .i64 p.to_.addr, .int .i64 p.to_.port, .slice a n c]] w fun e w' => ∃ A n C sa sn sc qa qn qc, e = .returned (.tuple #[.agg #[.int .i64 (rP (forward g p)).kind, .int .i64 (rP (forward g p)).fr.addr, .int .i64 (rP (forward g p)).fr.port, .int .i64 (rP (forward g p)).to_.addr, .int .i64 (rP (forward g p)).to_.port, .slice A n C], .agg #[.int .i64 (rG (forward g p)).net.base, .int .i64 (rG (forward g p)).net.bits, .int .i64 (rG (forward g p)).out, .slice sa sn sc, .slice qa qn qc, .int .i64 (rG (forward g p)).filter, .int .i64 (rG (forward g p)).hold, .int .i64 (rG (forward g p)).now], .bool (forward g p).isSome]) ∧
          Ow 3 encI 1 w.heap.size w' A n C (rP (forward g p)).data ∧ Ow 86 encM 4 w.heap.size w' sa sn sc (rG (forward g p)).table ∧ Ow 99 encC 3 w.heap.size w' qa qn qc (rG (forward g p)).cons ∧ Ext w w' := by
  obtain ⟨N, hN⟩ : ∃ N, N = wayOf g p := ⟨_, rfl⟩
  have c1 := fun W h1 h2 h3 => spec_WayOf g p ta tn tc ka kn kc a n c W h1 h2 h3
  rw [← hN] at c1
  by_cases q1 : N = 1
  · subst q1
    obtain ⟨v1, v2, v3⟩ := wayOf_one hN.symm
    obtain ⟨l1, l2, l3, l4, l5⟩ := valid_lens (validGate_iff.2 v1) v2 ht hk hs
    have e : forward g p = send g p := by unfold forward; rw [if_pos hN.symm]
    rw [e]
    clear e hN v1 v2 v3
    obtain ⟨r, hr⟩ : ∃ r, r = send g p := ⟨_, rfl⟩
    have c2 := fun W x y z => spec_send_u g p ta tn tc ka kn kc a n c W x y z l1 l2 l3 l4 l5
    rw [← hr] at c2 ⊢
    replace c1 := Lib.hid c1
    replace c2 := Lib.hid c2
    clear hr
    have e2 : w.heap.size ≤ w.heap.size + 1 + 1 := by omega
    have e3 : w.heap.size ≤ w.heap.size + 1 + 1 + 1 := by omega
    go_enter Tryz.func47, Tryz.ntmps47
    go_wp2_with fail
    refine (c1.out _ (by exact ht.ext (by repeat (first | (with_reducible exact Ext.refl _) | (with_reducible assumption) | (with_reducible refine Ext.alloc ?_ _) | (with_reducible refine Ext.drewN ?_ _) | (with_reducible refine Ext.drew ?_) | (with_reducible refine Ext.setCell ?_ ?_ _; rotate_left; (simp only []; omega)) | (with_reducible refine Ext.trans ?_ (by assumption))))) (by exact hk.ext (by repeat (first | (with_reducible exact Ext.refl _) | (with_reducible assumption) | (with_reducible refine Ext.alloc ?_ _) | (with_reducible refine Ext.drewN ?_ _) | (with_reducible refine Ext.drew ?_) | (with_reducible refine Ext.setCell ?_ ?_ _; rotate_left; (simp only []; omega)) | (with_reducible refine Ext.trans ?_ (by assumption))))) (by exact hs.ext (by repeat (first | (with_reducible exact Ext.refl _) | (with_reducible assumption) | (with_reducible refine Ext.alloc ?_ _) | (with_reducible refine Ext.drewN ?_ _) | (with_reducible refine Ext.drew ?_) | (with_reducible refine Ext.setCell ?_ ?_ _; rotate_left; (simp only []; omega)) | (with_reducible refine Ext.trans ?_ (by assumption)))))).mono ?_
    rintro e w1 ⟨rfl, hx1⟩
    have hy1 := hx1.size
    (try simp at hy1)
    have eW1 := useE (fun (h : Ext _ w1) => ht.ext h) (by repeat (first | (with_reducible exact Ext.refl _) | (with_reducible assumption) | (with_reducible refine Ext.alloc ?_ _) | (with_reducible refine Ext.drewN ?_ _) | (with_reducible refine Ext.drew ?_) | (with_reducible refine Ext.setCell ?_ ?_ _; rotate_left; (simp only []; omega)) | (with_reducible refine Ext.trans ?_ (by assumption))))
    replace ht := ht.ext eW1
    replace hk := hk.ext eW1
    replace hs := hs.ext eW1
    have BG : Blk w1 w.heap.size 28 (#[.int .i64 g.net.base, .int .i64 g.net.bits, .int .i64 g.out, .slice ta tn tc, .slice ka kn kc, .int .i64 g.filter, .int .i64 g.hold, .int .i64 g.now]) := by refine Blk.ext ?_ hx1; exact (by repeat (first | (with_reducible assumption) | (with_reducible exact Blk.new _ _ _) | exact Blk.newAt _ _ _ (by simp) | (with_reducible refine Blk.alloc ?_ _) | (with_reducible refine Blk.drew ?_) | (with_reducible refine Blk.drewN ?_ _) | refine Blk.far ?_ (by simp only []; omega) _ | refine Blk.rext ?_ (by assumption) (by omega) | refine Blk.ext ?_ (by assumption)))
    have BP : Blk w1 (w.heap.size+1) 33 (#[.int .i64 p.kind, .int .i64 p.fr.addr, .int .i64 p.fr.port, .int .i64 p.to_.addr, .int .i64 p.to_.port, .slice a n c]) := by refine Blk.ext ?_ hx1; exact (by repeat (first | (with_reducible assumption) | (with_reducible exact Blk.new _ _ _) | exact Blk.newAt _ _ _ (by simp) | (with_reducible refine Blk.alloc ?_ _) | (with_reducible refine Blk.drew ?_) | (with_reducible refine Blk.drewN ?_ _) | refine Blk.far ?_ (by simp only []; omega) _ | refine Blk.rext ?_ (by assumption) (by omega) | refine Blk.ext ?_ (by assumption)))
    have BQ : Blk w1 (w.heap.size+2) 33 #[.int .i64 0, .int .i64 0, .int .i64 0, .int .i64 0, .int .i64 0, .slice none 0 0] := by refine Blk.ext ?_ hx1; exact (by repeat (first | (with_reducible assumption) | (with_reducible exact Blk.new _ _ _) | exact Blk.newAt _ _ _ (by simp) | (with_reducible refine Blk.alloc ?_ _) | (with_reducible refine Blk.drew ?_) | (with_reducible refine Blk.drewN ?_ _) | refine Blk.far ?_ (by simp only []; omega) _ | refine Blk.rext ?_ (by assumption) (by omega) | refine Blk.ext ?_ (by assumption)))
    have BR : Blk w1 (w.heap.size+3) 28 #[.int .i64 0, .int .i64 0, .int .i64 0, .slice none 0 0, .slice none 0 0, .int .i64 0, .int .i64 0, .int .i64 0] := by refine Blk.ext ?_ hx1; exact (by repeat (first | (with_reducible assumption) | (with_reducible exact Blk.new _ _ _) | exact Blk.newAt _ _ _ (by simp) | (with_reducible refine Blk.alloc ?_ _) | (with_reducible refine Blk.drew ?_) | (with_reducible refine Blk.drewN ?_ _) | refine Blk.far ?_ (by simp only []; omega) _ | refine Blk.rext ?_ (by assumption) (by omega) | refine Blk.ext ?_ (by assumption)))
    have cBG := BG.cells
    have fBG := BG.frozens
    have zBG := BG.lt
    have cBP := BP.cells
    have fBP := BP.frozens
    have zBP := BP.lt
    have cBQ := BQ.cells
    have fBQ := BQ.frozens
    have zBQ := BQ.lt
    have cBR := BR.cells
    have fBR := BR.frozens
    have zBR := BR.lt
    have X1 : Ext w w1 := (by repeat (first | (with_reducible exact Ext.refl _) | (with_reducible assumption) | (with_reducible refine Ext.alloc ?_ _) | (with_reducible refine Ext.drewN ?_ _) | (with_reducible refine Ext.drew ?_) | (with_reducible refine Ext.setCell ?_ ?_ _; rotate_left; (simp only []; omega)) | (with_reducible refine Ext.trans ?_ (by assumption))))
    clear hx1
    go_wp2_with fail
    refine (c2.out _ (by exact ht.ext (by repeat (first | (with_reducible exact Ext.refl _) | (with_reducible assumption) | (with_reducible refine Ext.alloc ?_ _) | (with_reducible refine Ext.drewN ?_ _) | (with_reducible refine Ext.drew ?_) | (with_reducible refine Ext.setCell ?_ ?_ _; rotate_left; (simp only []; omega)) | (with_reducible refine Ext.trans ?_ (by assumption))))) (by exact hk.ext (by repeat (first | (with_reducible exact Ext.refl _) | (with_reducible assumption) | (with_reducible refine Ext.alloc ?_ _) | (with_reducible refine Ext.drewN ?_ _) | (with_reducible refine Ext.drew ?_) | (with_reducible refine Ext.setCell ?_ ?_ _; rotate_left; (simp only []; omega)) | (with_reducible refine Ext.trans ?_ (by assumption))))) (by exact hs.ext (by repeat (first | (with_reducible exact Ext.refl _) | (with_reducible assumption) | (with_reducible refine Ext.alloc ?_ _) | (with_reducible refine Ext.drewN ?_ _) | (with_reducible refine Ext.drew ?_) | (with_reducible refine Ext.setCell ?_ ?_ _; rotate_left; (simp only []; omega)) | (with_reducible refine Ext.trans ?_ (by assumption)))))).mono ?_
    rintro e w2 ⟨A, n', C, sa, sn, sc, qa, qn, qc, rfl, O1, O2, O3, hx2⟩
    have hy2 := hx2.size
    (try simp at hy2)
    have eW2 := useE (fun (h : Ext _ w2) => ht.ext h) (by repeat (first | (with_reducible exact Ext.refl _) | (with_reducible assumption) | (with_reducible refine Ext.alloc ?_ _) | (with_reducible refine Ext.drewN ?_ _) | (with_reducible refine Ext.drew ?_) | (with_reducible refine Ext.setCell ?_ ?_ _; rotate_left; (simp only []; omega)) | (with_reducible refine Ext.trans ?_ (by assumption))))
    replace ht := ht.ext eW2
    replace hk := hk.ext eW2
    replace hs := hs.ext eW2
    clear cBG fBG zBG
    replace BG := BG.ext eW2
    clear cBP fBP zBP
    replace BP := BP.ext eW2
    clear cBQ fBQ zBQ
    replace BQ := BQ.ext eW2
    clear cBR fBR zBR
    replace BR := BR.ext eW2
    have cBG := BG.cells
    have fBG := BG.frozens
    have zBG := BG.lt
    have cBP := BP.cells
    have fBP := BP.frozens
    have zBP := BP.lt
    have cBQ := BQ.cells
    have fBQ := BQ.frozens
    have zBQ := BQ.lt
    have cBR := BR.cells
    have fBR := BR.frozens
    have zBR := BR.lt
    have X2 : Ext w w2 := X1.trans (show Ext w1 w2 from (by repeat (first | (with_reducible exact Ext.refl _) | (with_reducible assumption) | (with_reducible refine Ext.alloc ?_ _) | (with_reducible refine Ext.drewN ?_ _) | (with_reducible refine Ext.drew ?_) | (with_reducible refine Ext.setCell ?_ ?_ _; rotate_left; (simp only []; omega)) | (with_reducible refine Ext.trans ?_ (by assumption)))))
    have l1 := O1.lt
    have l2 := O2.lt
    have l3 := O3.lt
    have hz : w.heap.size + 4 ≤ w1.heap.size := by omega
    have Y1 := Lib.hid (O1.rebase (b' := w.heap.size) (by (try simp); (try omega)))
    have Y2 := Lib.hid (O2.rebase (b' := w.heap.size) (by (try simp); (try omega)))
    have Y3 := Lib.hid (O3.rebase (b' := w.heap.size) (by (try simp); (try omega)))
    have n12 : ∀ x, A = some x → x.block ≠ w.heap.size + 1 + 1 := fun x e => by have := (l1 x e).1; (try simp at this); omega
    have n13 : ∀ x, A = some x → x.block ≠ w.heap.size + 1 + 1 + 1 := fun x e => by have := (l1 x e).1; (try simp at this); omega
    have n22 : ∀ x, sa = some x → x.block ≠ w.heap.size + 1 + 1 := fun x e => by have := (l2 x e).1; (try simp at this); omega
    have n23 : ∀ x, sa = some x → x.block ≠ w.heap.size + 1 + 1 + 1 := fun x e => by have := (l2 x e).1; (try simp at this); omega
    have n32 : ∀ x, qa = some x → x.block ≠ w.heap.size + 1 + 1 := fun x e => by have := (l3 x e).1; (try simp at this); omega
    have n33 : ∀ x, qa = some x → x.block ≠ w.heap.size + 1 + 1 + 1 := fun x e => by have := (l3 x e).1; (try simp at this); omega
    clear hx2 O1 O2 O3 l1 l2 l3
    go_wp2
    refine' bodyPost_ret (v := _) ?_ rfl ?_
    rotate_left
    · (simp only [results, Tryz.results47]
       go_simp
       rfl)
    refine ⟨A, n', C, sa, sn, sc, qa, qn, qc, rfl, ?_⟩
    clear cBG fBG cBP fBP cBQ fBQ cBR fBR
    refine (fun (h : Two (w.heap.size + 1 + 1) (w.heap.size + 1 + 1 + 1) w2 _) => ⟨h.ow Y1.out n12 n13, h.ow Y2.out n22 n23, h.ow Y3.out n32 n33, h.ext X2 e2 e3⟩) ?_
    clear e2 e3
    generalize w.heap.size + 1 + 1 + 1 = b2
    generalize w.heap.size + 1 + 1 = b1
    repeat (first | (with_reducible exact Two.refl _ _ _) | (with_reducible refine Two.drew ?_) | (with_reducible refine Two.alloc ?_ _) | (with_reducible refine Two.set1 ?_ _ _) | (with_reducible refine Two.set2 ?_ _ _))
  by_cases q2 : N = 2
  · subst q2
    obtain ⟨v1, v2, v3⟩ := wayOf_two hN.symm
    obtain ⟨l1, l2, l3, l4, l5⟩ := valid_lens (validGate_iff.2 v1) v2 ht hk hs
    have e : forward g p = receive g p := by unfold forward; rw [if_neg (by rw [← hN]; omega), if_pos hN.symm]
    rw [e]
    clear e hN v1 v2 v3 q1
    obtain ⟨r, hr⟩ : ∃ r, r = receive g p := ⟨_, rfl⟩
    have c2 := fun W x y z => spec_receive g p ta tn tc ka kn kc a n c W x y z l1 l2 l3
    rw [← hr] at c2 ⊢
    replace c1 := Lib.hid c1
    replace c2 := Lib.hid c2
    clear hr
    have e2 : w.heap.size ≤ w.heap.size + 1 + 1 := by omega
    have e3 : w.heap.size ≤ w.heap.size + 1 + 1 + 1 := by omega
    go_enter Tryz.func47, Tryz.ntmps47
    go_wp2_with fail
    refine (c1.out _ (by exact ht.ext (by repeat (first | (with_reducible exact Ext.refl _) | (with_reducible assumption) | (with_reducible refine Ext.alloc ?_ _) | (with_reducible refine Ext.drewN ?_ _) | (with_reducible refine Ext.drew ?_) | (with_reducible refine Ext.setCell ?_ ?_ _; rotate_left; (simp only []; omega)) | (with_reducible refine Ext.trans ?_ (by assumption))))) (by exact hk.ext (by repeat (first | (with_reducible exact Ext.refl _) | (with_reducible assumption) | (with_reducible refine Ext.alloc ?_ _) | (with_reducible refine Ext.drewN ?_ _) | (with_reducible refine Ext.drew ?_) | (with_reducible refine Ext.setCell ?_ ?_ _; rotate_left; (simp only []; omega)) | (with_reducible refine Ext.trans ?_ (by assumption))))) (by exact hs.ext (by repeat (first | (with_reducible exact Ext.refl _) | (with_reducible assumption) | (with_reducible refine Ext.alloc ?_ _) | (with_reducible refine Ext.drewN ?_ _) | (with_reducible refine Ext.drew ?_) | (with_reducible refine Ext.setCell ?_ ?_ _; rotate_left; (simp only []; omega)) | (with_reducible refine Ext.trans ?_ (by assumption)))))).mono ?_
    rintro e w1 ⟨rfl, hx1⟩
    have hy1 := hx1.size
    (try simp at hy1)
    have eW1 := useE (fun (h : Ext _ w1) => ht.ext h) (by repeat (first | (with_reducible exact Ext.refl _) | (with_reducible assumption) | (with_reducible refine Ext.alloc ?_ _) | (with_reducible refine Ext.drewN ?_ _) | (with_reducible refine Ext.drew ?_) | (with_reducible refine Ext.setCell ?_ ?_ _; rotate_left; (simp only []; omega)) | (with_reducible refine Ext.trans ?_ (by assumption))))
    replace ht := ht.ext eW1
    replace hk := hk.ext eW1
    replace hs := hs.ext eW1
    have BG : Blk w1 w.heap.size 28 (#[.int .i64 g.net.base, .int .i64 g.net.bits, .int .i64 g.out, .slice ta tn tc, .slice ka kn kc, .int .i64 g.filter, .int .i64 g.hold, .int .i64 g.now]) := by refine Blk.ext ?_ hx1; exact (by repeat (first | (with_reducible assumption) | (with_reducible exact Blk.new _ _ _) | exact Blk.newAt _ _ _ (by simp) | (with_reducible refine Blk.alloc ?_ _) | (with_reducible refine Blk.drew ?_) | (with_reducible refine Blk.drewN ?_ _) | refine Blk.far ?_ (by simp only []; omega) _ | refine Blk.rext ?_ (by assumption) (by omega) | refine Blk.ext ?_ (by assumption)))
    have BP : Blk w1 (w.heap.size+1) 33 (#[.int .i64 p.kind, .int .i64 p.fr.addr, .int .i64 p.fr.port, .int .i64 p.to_.addr, .int .i64 p.to_.port, .slice a n c]) := by refine Blk.ext ?_ hx1; exact (by repeat (first | (with_reducible assumption) | (with_reducible exact Blk.new _ _ _) | exact Blk.newAt _ _ _ (by simp) | (with_reducible refine Blk.alloc ?_ _) | (with_reducible refine Blk.drew ?_) | (with_reducible refine Blk.drewN ?_ _) | refine Blk.far ?_ (by simp only []; omega) _ | refine Blk.rext ?_ (by assumption) (by omega) | refine Blk.ext ?_ (by assumption)))
    have BQ : Blk w1 (w.heap.size+2) 33 #[.int .i64 0, .int .i64 0, .int .i64 0, .int .i64 0, .int .i64 0, .slice none 0 0] := by refine Blk.ext ?_ hx1; exact (by repeat (first | (with_reducible assumption) | (with_reducible exact Blk.new _ _ _) | exact Blk.newAt _ _ _ (by simp) | (with_reducible refine Blk.alloc ?_ _) | (with_reducible refine Blk.drew ?_) | (with_reducible refine Blk.drewN ?_ _) | refine Blk.far ?_ (by simp only []; omega) _ | refine Blk.rext ?_ (by assumption) (by omega) | refine Blk.ext ?_ (by assumption)))
    have BR : Blk w1 (w.heap.size+3) 28 #[.int .i64 0, .int .i64 0, .int .i64 0, .slice none 0 0, .slice none 0 0, .int .i64 0, .int .i64 0, .int .i64 0] := by refine Blk.ext ?_ hx1; exact (by repeat (first | (with_reducible assumption) | (with_reducible exact Blk.new _ _ _) | exact Blk.newAt _ _ _ (by simp) | (with_reducible refine Blk.alloc ?_ _) | (with_reducible refine Blk.drew ?_) | (with_reducible refine Blk.drewN ?_ _) | refine Blk.far ?_ (by simp only []; omega) _ | refine Blk.rext ?_ (by assumption) (by omega) | refine Blk.ext ?_ (by assumption)))
    have cBG := BG.cells
    have fBG := BG.frozens
    have zBG := BG.lt
    have cBP := BP.cells
    have fBP := BP.frozens
    have zBP := BP.lt
    have cBQ := BQ.cells
    have fBQ := BQ.frozens
    have zBQ := BQ.lt
    have cBR := BR.cells
    have fBR := BR.frozens
    have zBR := BR.lt
    have X1 : Ext w w1 := (by repeat (first | (with_reducible exact Ext.refl _) | (with_reducible assumption) | (with_reducible refine Ext.alloc ?_ _) | (with_reducible refine Ext.drewN ?_ _) | (with_reducible refine Ext.drew ?_) | (with_reducible refine Ext.setCell ?_ ?_ _; rotate_left; (simp only []; omega)) | (with_reducible refine Ext.trans ?_ (by assumption))))
    clear hx1
    go_wp2_with fail
    refine (c2.out _ (by exact ht.ext (by repeat (first | (with_reducible exact Ext.refl _) | (with_reducible assumption) | (with_reducible refine Ext.alloc ?_ _) | (with_reducible refine Ext.drewN ?_ _) | (with_reducible refine Ext.drew ?_) | (with_reducible refine Ext.setCell ?_ ?_ _; rotate_left; (simp only []; omega)) | (with_reducible refine Ext.trans ?_ (by assumption))))) (by exact hk.ext (by repeat (first | (with_reducible exact Ext.refl _) | (with_reducible assumption) | (with_reducible refine Ext.alloc ?_ _) | (with_reducible refine Ext.drewN ?_ _) | (with_reducible refine Ext.drew ?_) | (with_reducible refine Ext.setCell ?_ ?_ _; rotate_left; (simp only []; omega)) | (with_reducible refine Ext.trans ?_ (by assumption))))) (by exact hs.ext (by repeat (first | (with_reducible exact Ext.refl _) | (with_reducible assumption) | (with_reducible refine Ext.alloc ?_ _) | (with_reducible refine Ext.drewN ?_ _) | (with_reducible refine Ext.drew ?_) | (with_reducible refine Ext.setCell ?_ ?_ _; rotate_left; (simp only []; omega)) | (with_reducible refine Ext.trans ?_ (by assumption)))))).mono ?_
    rintro e w2 ⟨A, n', C, sa, sn, sc, qa, qn, qc, rfl, O1, O2, O3, hx2⟩
    have hy2 := hx2.size
    (try simp at hy2)
    have eW2 := useE (fun (h : Ext _ w2) => ht.ext h) (by repeat (first | (with_reducible exact Ext.refl _) | (with_reducible assumption) | (with_reducible refine Ext.alloc ?_ _) | (with_reducible refine Ext.drewN ?_ _) | (with_reducible refine Ext.drew ?_) | (with_reducible refine Ext.setCell ?_ ?_ _; rotate_left; (simp only []; omega)) | (with_reducible refine Ext.trans ?_ (by assumption))))
    replace ht := ht.ext eW2
    replace hk := hk.ext eW2
    replace hs := hs.ext eW2
    clear cBG fBG zBG
    replace BG := BG.ext eW2
    clear cBP fBP zBP
    replace BP := BP.ext eW2
    clear cBQ fBQ zBQ
    replace BQ := BQ.ext eW2
    clear cBR fBR zBR
    replace BR := BR.ext eW2
    have cBG := BG.cells
    have fBG := BG.frozens
    have zBG := BG.lt
    have cBP := BP.cells
    have fBP := BP.frozens
    have zBP := BP.lt
    have cBQ := BQ.cells
    have fBQ := BQ.frozens
    have zBQ := BQ.lt
    have cBR := BR.cells
    have fBR := BR.frozens
    have zBR := BR.lt
    have X2 : Ext w w2 := X1.trans (show Ext w1 w2 from (by repeat (first | (with_reducible exact Ext.refl _) | (with_reducible assumption) | (with_reducible refine Ext.alloc ?_ _) | (with_reducible refine Ext.drewN ?_ _) | (with_reducible refine Ext.drew ?_) | (with_reducible refine Ext.setCell ?_ ?_ _; rotate_left; (simp only []; omega)) | (with_reducible refine Ext.trans ?_ (by assumption)))))
    have l1 := O1.lt
    have l2 := O2.lt
    have l3 := O3.lt
    have hz : w.heap.size + 4 ≤ w1.heap.size := by omega
    have Y1 := Lib.hid (O1.rebase (b' := w.heap.size) (by (try simp); (try omega)))
    have Y2 := Lib.hid (O2.rebase (b' := w.heap.size) (by (try simp); (try omega)))
    have Y3 := Lib.hid (O3.rebase (b' := w.heap.size) (by (try simp); (try omega)))
    have n12 : ∀ x, A = some x → x.block ≠ w.heap.size + 1 + 1 := fun x e => by have := (l1 x e).1; (try simp at this); omega
    have n13 : ∀ x, A = some x → x.block ≠ w.heap.size + 1 + 1 + 1 := fun x e => by have := (l1 x e).1; (try simp at this); omega
    have n22 : ∀ x, sa = some x → x.block ≠ w.heap.size + 1 + 1 := fun x e => by have := (l2 x e).1; (try simp at this); omega
    have n23 : ∀ x, sa = some x → x.block ≠ w.heap.size + 1 + 1 + 1 := fun x e => by have := (l2 x e).1; (try simp at this); omega
    have n32 : ∀ x, qa = some x → x.block ≠ w.heap.size + 1 + 1 := fun x e => by have := (l3 x e).1; (try simp at this); omega
    have n33 : ∀ x, qa = some x → x.block ≠ w.heap.size + 1 + 1 + 1 := fun x e => by have := (l3 x e).1; (try simp at this); omega
    clear hx2 O1 O2 O3 l1 l2 l3
    go_wp2
    refine' bodyPost_ret (v := _) ?_ rfl ?_
    rotate_left
    · (simp only [results, Tryz.results47]
       go_simp
       rfl)
    refine ⟨A, n', C, sa, sn, sc, qa, qn, qc, rfl, ?_⟩
    clear cBG fBG cBP fBP cBQ fBQ cBR fBR
    refine (fun (h : Two (w.heap.size + 1 + 1) (w.heap.size + 1 + 1 + 1) w2 _) => ⟨h.ow Y1.out n12 n13, h.ow Y2.out n22 n23, h.ow Y3.out n32 n33, h.ext X2 e2 e3⟩) ?_
    clear e2 e3
    generalize w.heap.size + 1 + 1 + 1 = b2
    generalize w.heap.size + 1 + 1 = b1
    repeat (first | (with_reducible exact Two.refl _ _ _) | (with_reducible refine Two.drew ?_) | (with_reducible refine Two.alloc ?_ _) | (with_reducible refine Two.set1 ?_ _ _) | (with_reducible refine Two.set2 ?_ _ _))
  by_cases q3 : N = 3
  · subst q3
    rw [forward_three hN.symm]
    clear hN q1 q2
    obtain ⟨r, hr⟩ : ∃ r, r = passBetween g p := ⟨_, rfl⟩
    have c2 := fun W x y z => spec_PassBetween g p ta tn tc ka kn kc a n c W x y z
    rw [← hr] at c2 ⊢
    replace c1 := Lib.hid c1
    replace c2 := Lib.hid c2
    clear hr
    have e2 : w.heap.size ≤ w.heap.size + 1 + 1 := by omega
    have e3 : w.heap.size ≤ w.heap.size + 1 + 1 + 1 := by omega
    go_enter Tryz.func47, Tryz.ntmps47
    go_wp2_with fail
    refine (c1.out _ (by exact ht.ext (by repeat (first | (with_reducible exact Ext.refl _) | (with_reducible assumption) | (with_reducible refine Ext.alloc ?_ _) | (with_reducible refine Ext.drewN ?_ _) | (with_reducible refine Ext.drew ?_) | (with_reducible refine Ext.setCell ?_ ?_ _; rotate_left; (simp only []; omega)) | (with_reducible refine Ext.trans ?_ (by assumption))))) (by exact hk.ext (by repeat (first | (with_reducible exact Ext.refl _) | (with_reducible assumption) | (with_reducible refine Ext.alloc ?_ _) | (with_reducible refine Ext.drewN ?_ _) | (with_reducible refine Ext.drew ?_) | (with_reducible refine Ext.setCell ?_ ?_ _; rotate_left; (simp only []; omega)) | (with_reducible refine Ext.trans ?_ (by assumption))))) (by exact hs.ext (by repeat (first | (with_reducible exact Ext.refl _) | (with_reducible assumption) | (with_reducible refine Ext.alloc ?_ _) | (with_reducible refine Ext.drewN ?_ _) | (with_reducible refine Ext.drew ?_) | (with_reducible refine Ext.setCell ?_ ?_ _; rotate_left; (simp only []; omega)) | (with_reducible refine Ext.trans ?_ (by assumption)))))).mono ?_
    rintro e w1 ⟨rfl, hx1⟩
    have hy1 := hx1.size
    (try simp at hy1)
    have eW1 := useE (fun (h : Ext _ w1) => ht.ext h) (by repeat (first | (with_reducible exact Ext.refl _) | (with_reducible assumption) | (with_reducible refine Ext.alloc ?_ _) | (with_reducible refine Ext.drewN ?_ _) | (with_reducible refine Ext.drew ?_) | (with_reducible refine Ext.setCell ?_ ?_ _; rotate_left; (simp only []; omega)) | (with_reducible refine Ext.trans ?_ (by assumption))))
    replace ht := ht.ext eW1
    replace hk := hk.ext eW1
    replace hs := hs.ext eW1
    have BG : Blk w1 w.heap.size 28 (#[.int .i64 g.net.base, .int .i64 g.net.bits, .int .i64 g.out, .slice ta tn tc, .slice ka kn kc, .int .i64 g.filter, .int .i64 g.hold, .int .i64 g.now]) := by refine Blk.ext ?_ hx1; exact (by repeat (first | (with_reducible assumption) | (with_reducible exact Blk.new _ _ _) | exact Blk.newAt _ _ _ (by simp) | (with_reducible refine Blk.alloc ?_ _) | (with_reducible refine Blk.drew ?_) | (with_reducible refine Blk.drewN ?_ _) | refine Blk.far ?_ (by simp only []; omega) _ | refine Blk.rext ?_ (by assumption) (by omega) | refine Blk.ext ?_ (by assumption)))
    have BP : Blk w1 (w.heap.size+1) 33 (#[.int .i64 p.kind, .int .i64 p.fr.addr, .int .i64 p.fr.port, .int .i64 p.to_.addr, .int .i64 p.to_.port, .slice a n c]) := by refine Blk.ext ?_ hx1; exact (by repeat (first | (with_reducible assumption) | (with_reducible exact Blk.new _ _ _) | exact Blk.newAt _ _ _ (by simp) | (with_reducible refine Blk.alloc ?_ _) | (with_reducible refine Blk.drew ?_) | (with_reducible refine Blk.drewN ?_ _) | refine Blk.far ?_ (by simp only []; omega) _ | refine Blk.rext ?_ (by assumption) (by omega) | refine Blk.ext ?_ (by assumption)))
    have BQ : Blk w1 (w.heap.size+2) 33 #[.int .i64 0, .int .i64 0, .int .i64 0, .int .i64 0, .int .i64 0, .slice none 0 0] := by refine Blk.ext ?_ hx1; exact (by repeat (first | (with_reducible assumption) | (with_reducible exact Blk.new _ _ _) | exact Blk.newAt _ _ _ (by simp) | (with_reducible refine Blk.alloc ?_ _) | (with_reducible refine Blk.drew ?_) | (with_reducible refine Blk.drewN ?_ _) | refine Blk.far ?_ (by simp only []; omega) _ | refine Blk.rext ?_ (by assumption) (by omega) | refine Blk.ext ?_ (by assumption)))
    have BR : Blk w1 (w.heap.size+3) 28 #[.int .i64 0, .int .i64 0, .int .i64 0, .slice none 0 0, .slice none 0 0, .int .i64 0, .int .i64 0, .int .i64 0] := by refine Blk.ext ?_ hx1; exact (by repeat (first | (with_reducible assumption) | (with_reducible exact Blk.new _ _ _) | exact Blk.newAt _ _ _ (by simp) | (with_reducible refine Blk.alloc ?_ _) | (with_reducible refine Blk.drew ?_) | (with_reducible refine Blk.drewN ?_ _) | refine Blk.far ?_ (by simp only []; omega) _ | refine Blk.rext ?_ (by assumption) (by omega) | refine Blk.ext ?_ (by assumption)))
    have cBG := BG.cells
    have fBG := BG.frozens
    have zBG := BG.lt
    have cBP := BP.cells
    have fBP := BP.frozens
    have zBP := BP.lt
    have cBQ := BQ.cells
    have fBQ := BQ.frozens
    have zBQ := BQ.lt
    have cBR := BR.cells
    have fBR := BR.frozens
    have zBR := BR.lt
    have X1 : Ext w w1 := (by repeat (first | (with_reducible exact Ext.refl _) | (with_reducible assumption) | (with_reducible refine Ext.alloc ?_ _) | (with_reducible refine Ext.drewN ?_ _) | (with_reducible refine Ext.drew ?_) | (with_reducible refine Ext.setCell ?_ ?_ _; rotate_left; (simp only []; omega)) | (with_reducible refine Ext.trans ?_ (by assumption))))
    clear hx1
    go_wp2_with fail
    refine (c2.out _ (by exact ht.ext (by repeat (first | (with_reducible exact Ext.refl _) | (with_reducible assumption) | (with_reducible refine Ext.alloc ?_ _) | (with_reducible refine Ext.drewN ?_ _) | (with_reducible refine Ext.drew ?_) | (with_reducible refine Ext.setCell ?_ ?_ _; rotate_left; (simp only []; omega)) | (with_reducible refine Ext.trans ?_ (by assumption))))) (by exact hk.ext (by repeat (first | (with_reducible exact Ext.refl _) | (with_reducible assumption) | (with_reducible refine Ext.alloc ?_ _) | (with_reducible refine Ext.drewN ?_ _) | (with_reducible refine Ext.drew ?_) | (with_reducible refine Ext.setCell ?_ ?_ _; rotate_left; (simp only []; omega)) | (with_reducible refine Ext.trans ?_ (by assumption))))) (by exact hs.ext (by repeat (first | (with_reducible exact Ext.refl _) | (with_reducible assumption) | (with_reducible refine Ext.alloc ?_ _) | (with_reducible refine Ext.drewN ?_ _) | (with_reducible refine Ext.drew ?_) | (with_reducible refine Ext.setCell ?_ ?_ _; rotate_left; (simp only []; omega)) | (with_reducible refine Ext.trans ?_ (by assumption)))))).mono ?_
    rintro e w2 ⟨A, n', C, sa, sn, sc, qa, qn, qc, rfl, O1, O2, O3, hx2⟩
    have hy2 := hx2.size
    (try simp at hy2)
    have eW2 := useE (fun (h : Ext _ w2) => ht.ext h) (by repeat (first | (with_reducible exact Ext.refl _) | (with_reducible assumption) | (with_reducible refine Ext.alloc ?_ _) | (with_reducible refine Ext.drewN ?_ _) | (with_reducible refine Ext.drew ?_) | (with_reducible refine Ext.setCell ?_ ?_ _; rotate_left; (simp only []; omega)) | (with_reducible refine Ext.trans ?_ (by assumption))))
    replace ht := ht.ext eW2
    replace hk := hk.ext eW2
    replace hs := hs.ext eW2
    clear cBG fBG zBG
    replace BG := BG.ext eW2
    clear cBP fBP zBP
    replace BP := BP.ext eW2
    clear cBQ fBQ zBQ
    replace BQ := BQ.ext eW2
    clear cBR fBR zBR
    replace BR := BR.ext eW2
    have cBG := BG.cells
    have fBG := BG.frozens
    have zBG := BG.lt
    have cBP := BP.cells
    have fBP := BP.frozens
    have zBP := BP.lt
    have cBQ := BQ.cells
    have fBQ := BQ.frozens
    have zBQ := BQ.lt
    have cBR := BR.cells
    have fBR := BR.frozens
    have zBR := BR.lt
    have X2 : Ext w w2 := X1.trans (show Ext w1 w2 from (by repeat (first | (with_reducible exact Ext.refl _) | (with_reducible assumption) | (with_reducible refine Ext.alloc ?_ _) | (with_reducible refine Ext.drewN ?_ _) | (with_reducible refine Ext.drew ?_) | (with_reducible refine Ext.setCell ?_ ?_ _; rotate_left; (simp only []; omega)) | (with_reducible refine Ext.trans ?_ (by assumption)))))
    have l1 := O1.lt
    have l2 := O2.lt
    have l3 := O3.lt
    have hz : w.heap.size + 4 ≤ w1.heap.size := by omega
    have Y1 := Lib.hid (O1.rebase (b' := w.heap.size) (by (try simp); (try omega)))
    have Y2 := Lib.hid (O2.rebase (b' := w.heap.size) (by (try simp); (try omega)))
    have Y3 := Lib.hid (O3.rebase (b' := w.heap.size) (by (try simp); (try omega)))
    have n12 : ∀ x, A = some x → x.block ≠ w.heap.size + 1 + 1 := fun x e => by have := (l1 x e).1; (try simp at this); omega
    have n13 : ∀ x, A = some x → x.block ≠ w.heap.size + 1 + 1 + 1 := fun x e => by have := (l1 x e).1; (try simp at this); omega
    have n22 : ∀ x, sa = some x → x.block ≠ w.heap.size + 1 + 1 := fun x e => by have := (l2 x e).1; (try simp at this); omega
    have n23 : ∀ x, sa = some x → x.block ≠ w.heap.size + 1 + 1 + 1 := fun x e => by have := (l2 x e).1; (try simp at this); omega
    have n32 : ∀ x, qa = some x → x.block ≠ w.heap.size + 1 + 1 := fun x e => by have := (l3 x e).1; (try simp at this); omega
    have n33 : ∀ x, qa = some x → x.block ≠ w.heap.size + 1 + 1 + 1 := fun x e => by have := (l3 x e).1; (try simp at this); omega
    clear hx2 O1 O2 O3 l1 l2 l3
    go_wp2
    refine' bodyPost_ret (v := _) ?_ rfl ?_
    rotate_left
    · (simp only [results, Tryz.results47]
       go_simp
       rfl)
    refine ⟨A, n', C, sa, sn, sc, qa, qn, qc, rfl, ?_⟩
    clear cBG fBG cBP fBP cBQ fBQ cBR fBR
    refine (fun (h : Two (w.heap.size + 1 + 1) (w.heap.size + 1 + 1 + 1) w2 _) => ⟨h.ow Y1.out n12 n13, h.ow Y2.out n22 n23, h.ow Y3.out n32 n33, h.ext X2 e2 e3⟩) ?_
    clear e2 e3
    generalize w.heap.size + 1 + 1 + 1 = b2
    generalize w.heap.size + 1 + 1 = b1
    repeat (first | (with_reducible exact Two.refl _ _ _) | (with_reducible refine Two.drew ?_) | (with_reducible refine Two.alloc ?_ _) | (with_reducible refine Two.set1 ?_ _ _) | (with_reducible refine Two.set2 ?_ _ _))
  · have e : forward g p = none := by unfold forward; rw [← hN, if_neg q1, if_neg q2, if_neg q3]
    rw [e]
    clear e hN
    replace c1 := Lib.hid c1
    have e2 : w.heap.size ≤ w.heap.size + 1 + 1 := by omega
    have e3 : w.heap.size ≤ w.heap.size + 1 + 1 + 1 := by omega
    go_enter Tryz.func47, Tryz.ntmps47
    go_wp2_with fail
    refine (c1.out _ (by exact ht.ext (by repeat (first | (with_reducible exact Ext.refl _) | (with_reducible assumption) | (with_reducible refine Ext.alloc ?_ _) | (with_reducible refine Ext.drewN ?_ _) | (with_reducible refine Ext.drew ?_) | (with_reducible refine Ext.setCell ?_ ?_ _; rotate_left; (simp only []; omega)) | (with_reducible refine Ext.trans ?_ (by assumption))))) (by exact hk.ext (by repeat (first | (with_reducible exact Ext.refl _) | (with_reducible assumption) | (with_reducible refine Ext.alloc ?_ _) | (with_reducible refine Ext.drewN ?_ _) | (with_reducible refine Ext.drew ?_) | (with_reducible refine Ext.setCell ?_ ?_ _; rotate_left; (simp only []; omega)) | (with_reducible refine Ext.trans ?_ (by assumption))))) (by exact hs.ext (by repeat (first | (with_reducible exact Ext.refl _) | (with_reducible assumption) | (with_reducible refine Ext.alloc ?_ _) | (with_reducible refine Ext.drewN ?_ _) | (with_reducible refine Ext.drew ?_) | (with_reducible refine Ext.setCell ?_ ?_ _; rotate_left; (simp only []; omega)) | (with_reducible refine Ext.trans ?_ (by assumption)))))).mono ?_
    rintro e w1 ⟨rfl, hx1⟩
    have hy1 := hx1.size
    (try simp at hy1)
    have eW1 := useE (fun (h : Ext _ w1) => ht.ext h) (by repeat (first | (with_reducible exact Ext.refl _) | (with_reducible assumption) | (with_reducible refine Ext.alloc ?_ _) | (with_reducible refine Ext.drewN ?_ _) | (with_reducible refine Ext.drew ?_) | (with_reducible refine Ext.setCell ?_ ?_ _; rotate_left; (simp only []; omega)) | (with_reducible refine Ext.trans ?_ (by assumption))))
    replace ht := ht.ext eW1
    replace hk := hk.ext eW1
    replace hs := hs.ext eW1
    have BQ : Blk w1 (w.heap.size+2) 33 #[.int .i64 0, .int .i64 0, .int .i64 0, .int .i64 0, .int .i64 0, .slice none 0 0] := by refine Blk.ext ?_ hx1; exact (by repeat (first | (with_reducible assumption) | (with_reducible exact Blk.new _ _ _) | exact Blk.newAt _ _ _ (by simp) | (with_reducible refine Blk.alloc ?_ _) | (with_reducible refine Blk.drew ?_) | (with_reducible refine Blk.drewN ?_ _) | refine Blk.far ?_ (by simp only []; omega) _ | refine Blk.rext ?_ (by assumption) (by omega) | refine Blk.ext ?_ (by assumption)))
    have BR : Blk w1 (w.heap.size+3) 28 #[.int .i64 0, .int .i64 0, .int .i64 0, .slice none 0 0, .slice none 0 0, .int .i64 0, .int .i64 0, .int .i64 0] := by refine Blk.ext ?_ hx1; exact (by repeat (first | (with_reducible assumption) | (with_reducible exact Blk.new _ _ _) | exact Blk.newAt _ _ _ (by simp) | (with_reducible refine Blk.alloc ?_ _) | (with_reducible refine Blk.drew ?_) | (with_reducible refine Blk.drewN ?_ _) | refine Blk.far ?_ (by simp only []; omega) _ | refine Blk.rext ?_ (by assumption) (by omega) | refine Blk.ext ?_ (by assumption)))
    have cBQ := BQ.cells
    have fBQ := BQ.frozens
    have zBQ := BQ.lt
    have cBR := BR.cells
    have fBR := BR.frozens
    have zBR := BR.lt
    have X1 : Ext w w1 := (by repeat (first | (with_reducible exact Ext.refl _) | (with_reducible assumption) | (with_reducible refine Ext.alloc ?_ _) | (with_reducible refine Ext.drewN ?_ _) | (with_reducible refine Ext.drew ?_) | (with_reducible refine Ext.setCell ?_ ?_ _; rotate_left; (simp only []; omega)) | (with_reducible refine Ext.trans ?_ (by assumption))))
    clear hx1
    go_wp2
    refine' bodyPost_ret (v := _) ?_ rfl ?_
    rotate_left
    · (simp only [results, Tryz.results47]
       go_simp
       rfl)
    refine ⟨none, 0, 0, none, 0, 0, none, 0, 0, rfl, Ow.nils _, Ow.nils _, Ow.nils _, ?_⟩
    clear cBQ fBQ cBR fBR
    refine (fun (h : Two (w.heap.size + 1 + 1) (w.heap.size + 1 + 1 + 1) w1 _) => h.ext X1 e2 e3) ?_
    clear e2 e3
    generalize w.heap.size + 1 + 1 + 1 = b2
    generalize w.heap.size + 1 + 1 = b1
    repeat (first | (with_reducible exact Two.refl _ _ _) | (with_reducible refine Two.drew ?_) | (with_reducible refine Two.alloc ?_ _) | (with_reducible refine Two.set1 ?_ _ _) | (with_reducible refine Two.set2 ?_ _ _))
end Go.Proofs.YtppdcglnopoocaaGreat
/- Contracts: the first package's ReversePacket; ReportOf in one form. -/
namespace Go.Proofs.YtppdcglnopoocaaGreat
set_option linter.unusedVariables false
set_option linter.unusedSimpArgs false
open Go.RowKit

theorem run_same_E (x y : Int) (W : World) : (Go.binOp .eql 30 (.agg #[.int .i64 x, .int .i64 y]) (.agg #[.int .i64 x, .int .i64 y])).run Tryz.prog W = .ok (.bool true) W := by
  rw [run_eql_E ⟨x, y⟩ ⟨x, y⟩]; simp
theorem Ow.drewL {α : Type} {E : TypeId} {enc : α → List Value} {k base : Nat} {w : World} {a : Option Addr} {n c : Nat} {L : List α} (h : Ow E enc k base w a n c L) : Ow E enc k base w.drew a n c L := h.ext ((Ext.refl _).drew)
theorem Ow.allocL {α : Type} {E : TypeId} {enc : α → List Value} {k base : Nat} {w : World} {a : Option Addr} {n c : Nat} {L : List α} (h : Ow E enc k base w a n c L) (o : Obj) : Ow E enc k base (w.alloc o) a n c L := h.ext ((Ext.refl _).alloc o)
def rK (r : Option PktD) : PktD := match r with
  | some x => x
  | none => pkN
set_option maxHeartbeats 1000000 in
theorem impl_ReversePacket (p : PktD) (a : Option Addr) (n c : Nat) (w : World) (hs : Sl encI 1 w a n c p.data) :
    Calls Tryz.prog 25 #[.agg #[.int .i64 p.kind, .int .i64 p.fr.addr, .int .i64 p.fr.port, .int .i64 p.to_.addr, .int .i64 p.to_.port, .slice a n c]] w fun e w' => ∃ A n' C, e = .returned (.tuple #[.agg #[.int .i64 (rK (reverse p)).kind, .int .i64 (rK (reverse p)).fr.addr, .int .i64 (rK (reverse p)).fr.port, .int .i64 (rK (reverse p)).to_.addr, .int .i64 (rK (reverse p)).to_.port, .slice A n' C], .bool (reverse p).isSome]) ∧ Ow 3 encI 1 w.heap.size w' A n' C (rK (reverse p)).data ∧ Ext w w' := by
  have c1 := fun W h => impl_ValidPacket' p a n c W h
  cases hv : validPkt p with
  | false =>
    have e : reverse p = none := by unfold reverse; rw [hv]; rfl
    rw [e]
    rw [hv] at c1
    replace c1 := Lib.hid c1
    clear e hv
    go_enter Tryz.func25, Tryz.ntmps25
    go_wp2_with fail
    refine (c1.out _ (by exact hs.ext (by repeat (first | (with_reducible exact Ext.refl _) | (with_reducible assumption) | (with_reducible refine Ext.alloc ?_ _) | (with_reducible refine Ext.drewN ?_ _) | (with_reducible refine Ext.drew ?_) | (with_reducible refine Ext.setCell ?_ ?_ _; rotate_left; (simp only []; omega)) | (with_reducible refine Ext.trans ?_ (by assumption)))))).mono ?_
    rintro e w1 ⟨rfl, hx1⟩
    have hy1 := hx1.size
    (try simp at hy1)
    have eW1 := useE (fun (h : Ext _ w1) => hs.ext h) (by repeat (first | (with_reducible exact Ext.refl _) | (with_reducible assumption) | (with_reducible refine Ext.alloc ?_ _) | (with_reducible refine Ext.drewN ?_ _) | (with_reducible refine Ext.drew ?_) | (with_reducible refine Ext.setCell ?_ ?_ _; rotate_left; (simp only []; omega)) | (with_reducible refine Ext.trans ?_ (by assumption))))
    replace hs := hs.ext eW1
    have BR : Blk w1 (w.heap.size+1) 33 #[.int .i64 0, .int .i64 0, .int .i64 0, .int .i64 0, .int .i64 0, .slice none 0 0] := by refine Blk.ext ?_ hx1; exact (by repeat (first | (with_reducible assumption) | (with_reducible exact Blk.new _ _ _) | exact Blk.newAt _ _ _ (by simp) | (with_reducible refine Blk.alloc ?_ _) | (with_reducible refine Blk.drew ?_) | (with_reducible refine Blk.drewN ?_ _) | refine Blk.far ?_ (by simp only []; omega) _ | refine Blk.rext ?_ (by assumption) (by omega) | refine Blk.ext ?_ (by assumption)))
    have cBR := BR.cells
    have fBR := BR.frozens
    have zBR := BR.lt
    have XU : Ext w w1 := (by repeat (first | (with_reducible exact Ext.refl _) | (with_reducible assumption) | (with_reducible refine Ext.alloc ?_ _) | (with_reducible refine Ext.drewN ?_ _) | (with_reducible refine Ext.drew ?_) | (with_reducible refine Ext.setCell ?_ ?_ _; rotate_left; (simp only []; omega)) | (with_reducible refine Ext.trans ?_ (by assumption))))
    clear hx1
    go_wp2
    refine' bodyPost_ret (v := _) ?_ rfl ?_
    rotate_left
    · (simp only [results, Tryz.results25]
       go_simp
       rfl)
    refine ⟨none, 0, 0, rfl, Ow.nils _, ?_⟩
    repeat (refine Ext.setCell ?_ (by simp only []; omega) _)
    exact XU
  | true =>
    have e : reverse p = some { p with fr := p.to_, to_ := p.fr } := by unfold reverse; rw [hv]; rfl
    have hn : n ≤ 12 := by have h := (validPkt_iff.1 hv).2.2.2.1; rw [hs.len] at h; exact h
    rw [e]
    rw [hv] at c1
    replace c1 := Lib.hid c1
    clear e hv
    go_enter Tryz.func25, Tryz.ntmps25
    go_wp2_with fail
    refine (c1.out _ (by exact hs.ext (by repeat (first | (with_reducible exact Ext.refl _) | (with_reducible assumption) | (with_reducible refine Ext.alloc ?_ _) | (with_reducible refine Ext.drewN ?_ _) | (with_reducible refine Ext.drew ?_) | (with_reducible refine Ext.setCell ?_ ?_ _; rotate_left; (simp only []; omega)) | (with_reducible refine Ext.trans ?_ (by assumption)))))).mono ?_
    rintro e w1 ⟨rfl, hx1⟩
    have hy1 := hx1.size
    (try simp at hy1)
    have eW1 := useE (fun (h : Ext _ w1) => hs.ext h) (by repeat (first | (with_reducible exact Ext.refl _) | (with_reducible assumption) | (with_reducible refine Ext.alloc ?_ _) | (with_reducible refine Ext.drewN ?_ _) | (with_reducible refine Ext.drew ?_) | (with_reducible refine Ext.setCell ?_ ?_ _; rotate_left; (simp only []; omega)) | (with_reducible refine Ext.trans ?_ (by assumption))))
    replace hs := hs.ext eW1
    have BP : Blk w1 w.heap.size 33 (#[.int .i64 p.kind, .int .i64 p.fr.addr, .int .i64 p.fr.port, .int .i64 p.to_.addr, .int .i64 p.to_.port, .slice a n c]) := by refine Blk.ext ?_ hx1; exact (by repeat (first | (with_reducible assumption) | (with_reducible exact Blk.new _ _ _) | exact Blk.newAt _ _ _ (by simp) | (with_reducible refine Blk.alloc ?_ _) | (with_reducible refine Blk.drew ?_) | (with_reducible refine Blk.drewN ?_ _) | refine Blk.far ?_ (by simp only []; omega) _ | refine Blk.rext ?_ (by assumption) (by omega) | refine Blk.ext ?_ (by assumption)))
    have BR : Blk w1 (w.heap.size+1) 33 #[.int .i64 0, .int .i64 0, .int .i64 0, .int .i64 0, .int .i64 0, .slice none 0 0] := by refine Blk.ext ?_ hx1; exact (by repeat (first | (with_reducible assumption) | (with_reducible exact Blk.new _ _ _) | exact Blk.newAt _ _ _ (by simp) | (with_reducible refine Blk.alloc ?_ _) | (with_reducible refine Blk.drew ?_) | (with_reducible refine Blk.drewN ?_ _) | refine Blk.far ?_ (by simp only []; omega) _ | refine Blk.rext ?_ (by assumption) (by omega) | refine Blk.ext ?_ (by assumption)))
    have cBP := BP.cells
    have fBP := BP.frozens
    have zBP := BP.lt
    have cBR := BR.cells
    have fBR := BR.frozens
    have zBR := BR.lt
    have XU : Ext w w1 := (by repeat (first | (with_reducible exact Ext.refl _) | (with_reducible assumption) | (with_reducible refine Ext.alloc ?_ _) | (with_reducible refine Ext.drewN ?_ _) | (with_reducible refine Ext.drew ?_) | (with_reducible refine Ext.setCell ?_ ?_ _; rotate_left; (simp only []; omega)) | (with_reducible refine Ext.trans ?_ (by assumption))))
    clear hx1
    go_wp2_with fail
    refine (impl_pcopyOf p a n c _ (by exact hs.ext (by repeat (first | (with_reducible exact Ext.refl _) | (with_reducible assumption) | (with_reducible refine Ext.alloc ?_ _) | (with_reducible refine Ext.drewN ?_ _) | (with_reducible refine Ext.drew ?_) | (with_reducible refine Ext.setCell ?_ ?_ _; rotate_left; (simp only []; omega)) | (with_reducible refine Ext.trans ?_ (by assumption))))) (by omega)).mono ?_
    rintro e w2 ⟨A, rfl, O2, hx2⟩
    have hy2 := hx2.size
    (try simp at hy2)
    have eW2 := useE (fun (h : Ext _ w2) => hs.ext h) (by repeat (first | (with_reducible exact Ext.refl _) | (with_reducible assumption) | (with_reducible refine Ext.alloc ?_ _) | (with_reducible refine Ext.drewN ?_ _) | (with_reducible refine Ext.drew ?_) | (with_reducible refine Ext.setCell ?_ ?_ _; rotate_left; (simp only []; omega)) | (with_reducible refine Ext.trans ?_ (by assumption))))
    replace hs := hs.ext eW2
    clear cBP fBP zBP
    replace BP := BP.ext eW2
    clear cBR fBR zBR
    replace BR := BR.ext eW2
    replace XU := XU.ext eW2
    have cBP := BP.cells
    have fBP := BP.frozens
    have zBP := BP.lt
    have cBR := BR.cells
    have fBR := BR.frozens
    have zBR := BR.lt
    have lO := Lib.hid (show ∀ x, A = some x → w.heap.size + 1 < x.block ∧ x.block < w2.heap.size from fun x e => by have h := O2.lt x e; (try simp at h); omega)
    replace O2 := Lib.hid (O2.rebase (b' := w.heap.size) (by (try simp); (try omega)))
    have hz2 := XU.size
    clear hx2
    go_wp2_with fail
    go_region_with fail
    all_goals
      go_wp2
      refine' bodyPost_ret (v := _) ?_ rfl ?_
      rotate_left
      · (simp only [results, Tryz.results25]
         go_simp
         rfl)
      refine ⟨A, n, n, rfl, ?_, ?_⟩
      · show Ow 3 encI 1 w.heap.size _ A n n p.data
        repeat (first | (with_reducible exact O2.out) | (with_reducible refine Ow.setCell ?_ ?_ _; rotate_left; (intro y hy; have := lO.out y hy; simp only []; omega)) | (with_reducible refine Ow.drewL ?_) | (with_reducible refine Ow.allocL ?_ _))
      · repeat (first | (with_reducible exact XU) | (with_reducible refine Ext.setCell ?_ ?_ _; rotate_left; (simp only []; omega)) | (with_reducible refine Ext.drew ?_) | (with_reducible refine Ext.alloc ?_ _))
end Go.Proofs.YtppdcglnopoocaaGreat
