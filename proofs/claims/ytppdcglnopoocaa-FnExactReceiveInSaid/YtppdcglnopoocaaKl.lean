/- The words, laws and contracts that the claims of this seat share: group l. No condition. -/
import Derived.Test.YtppdcglnopoocaaKi
import Derived.Test.YtppdcglnopoocaaKg
import Derived.Test.YtppdcglnopoocaaKe
/- Contracts: the second package's ReceiveIn, PassBetween, Forward. -/
namespace Go.Proofs.Ytppdcglnopoocaa
set_option linter.unusedVariables false
set_option linter.unusedSimpArgs false
open Go.RowKit

/-- The second package's receive, in one form. -/
theorem spec_receive (g : GateD) (p : PktD) (ta : Option Addr) (tn tc : Nat) (ka : Option Addr) (kn kc : Nat) (a : Option Addr) (n c : Nat) (w : World) (ht : Sl encM 4 w ta tn tc g.table) (hk : Sl encC 3 w ka kn kc g.cons) (hs : Sl encI 1 w a n c p.data)
    (htn : tn ≤ 8) (hkn : kn ≤ 10) (hn : n ≤ 12) :
    Calls Try.prog 63 #[.agg #[.int .i64 g.net.base, .int .i64 g.net.bits, .int .i64 g.out, .slice ta tn tc, .slice ka kn kc, .int .i64 g.filter, .int .i64 g.hold, .int .i64 g.now], .agg #[.int .i64 p.kind, .int .i64 p.fr.addr, .int .i64 p.fr.port, .int .i64 p.to_.addr, .int .i64 p.to_.port, .slice a n c]] w fun e w' => ∃ A n C sa sn sc qa qn qc, e = .returned (.tuple #[.agg #[.int .i64 (rP (receive g p)).kind, .int .i64 (rP (receive g p)).fr.addr, .int .i64 (rP (receive g p)).fr.port, .int .i64 (rP (receive g p)).to_.addr, .int .i64 (rP (receive g p)).to_.port, .slice A n C], .agg #[.int .i64 (rG (receive g p)).net.base, .int .i64 (rG (receive g p)).net.bits, .int .i64 (rG (receive g p)).out, .slice sa sn sc, .slice qa qn qc, .int .i64 (rG (receive g p)).filter, .int .i64 (rG (receive g p)).hold, .int .i64 (rG (receive g p)).now], .bool (receive g p).isSome]) ∧
          Ow 3 encI 1 w.heap.size w' A n C (rP (receive g p)).data ∧ Ow 89 encM 4 w.heap.size w' sa sn sc (rG (receive g p)).table ∧ Ow 47 encC 3 w.heap.size w' qa qn qc (rG (receive g p)).cons ∧ Ext w w' := by
  obtain ⟨lt, hl⟩ : ∃ lt, lets g.filter g.cons p.to_.port p.fr = lt := ⟨_, rfl⟩
  by_cases hb : 0 ≤ byPort g.table p.to_.port
  · obtain ⟨k, m, b1, b2, b3, b4⟩ := byPort_some hb
    cases lt with
    | true =>
      have e : receive g p = some ({ p with to_ := m.ins }, g) := by unfold receive; rw [hl, b4]; simp [hb]
      rw [e]
      exact (spec_receive_some g p ta tn tc ka kn kc a n c w ht hk hs htn hkn hn k m b1 b2 hl).mono fun _ _ ⟨A, C, sa, sc, qa, qc, h1, h2, h3, h4, h5⟩ => ⟨A, n, C, sa, tn, sc, qa, kn, qc, h1, h2, h3, h4, h5⟩
    | false =>
      have e : receive g p = none := by unfold receive; rw [hl]; simp
      rw [e]
      exact (spec_receive_none g p ta tn tc ka kn kc a n c w ht hk hs _ rfl _ hl (.inr rfl)).mono fun _ _ ⟨h1, h2⟩ => ⟨none, 0, 0, none, 0, 0, none, 0, 0, h1, Ow.nils _, Ow.nils _, Ow.nils _, h2⟩
  · have e : receive g p = none := by unfold receive; simp [hb]
    rw [e]
    exact (spec_receive_none g p ta tn tc ka kn kc a n c w ht hk hs _ rfl _ hl (.inl (by omega))).mono fun _ _ ⟨h1, h2⟩ => ⟨none, 0, 0, none, 0, 0, none, 0, 0, h1, Ow.nils _, Ow.nils _, Ow.nils _, h2⟩
theorem valid_lens {g : GateD} {p : PktD} {ta : Option Addr} {tn tc : Nat} {ka : Option Addr} {kn kc : Nat} {a : Option Addr} {n c : Nat} {w : World} (h1 : validGate g = true) (h2 : validPkt p = true) (ht : Sl encM 4 w ta tn tc g.table) (hk : Sl encC 3 w ka kn kc g.cons) (hs : Sl encI 1 w a n c p.data) :
    tn ≤ 8 ∧ kn ≤ 10 ∧ n ≤ 12 ∧ 0 ≤ p.fr.port ∧ p.fr.port ≤ 65535 := by
  have hv := validGate_iff.1 h1
  have hp := validPkt_port h2
  have l1 := table_len hv.tab
  have l2 := cons_len hv.con
  have l3 := (validPkt_iff.1 h2).2.2.2.1
  rw [ht.len] at l1
  rw [hk.len] at l2
  rw [hs.len] at l3
  exact ⟨l1, l2, l3, hp.1, hp.2⟩
set_option maxHeartbeats 1000000 in
/-- The second package's ReceiveIn. -/
theorem spec_ReceiveIn (g : GateD) (p : PktD) (ta : Option Addr) (tn tc : Nat) (ka : Option Addr) (kn kc : Nat) (a : Option Addr) (n c : Nat) (w : World) (ht : Sl encM 4 w ta tn tc g.table) (hk : Sl encC 3 w ka kn kc g.cons) (hs : Sl encI 1 w a n c p.data) :
    Calls Try.prog 19 #[.agg #[.int .i64 g.net.base, .int .i64 g.net.bits, .int .i64 g.out, .slice ta tn tc, .slice ka kn kc, .int .i64 g.filter, .int .i64 g.hold, .int .i64 g.now], .agg #[.int .i64 p.kind, .int .i64 p.fr.addr, .int .i64 p.fr.port, .int .i64 p.to_.addr, .int .i64 p.to_.port, .slice a n c]] w fun e w' => ∃ A n C sa sn sc qa qn qc, e = .returned (.tuple #[.agg #[.int .i64 (rP (receiveIn g p)).kind, .int .i64 (rP (receiveIn g p)).fr.addr, .int .i64 (rP (receiveIn g p)).fr.port, .int .i64 (rP (receiveIn g p)).to_.addr, .int .i64 (rP (receiveIn g p)).to_.port, .slice A n C], .agg #[.int .i64 (rG (receiveIn g p)).net.base, .int .i64 (rG (receiveIn g p)).net.bits, .int .i64 (rG (receiveIn g p)).out, .slice sa sn sc, .slice qa qn qc, .int .i64 (rG (receiveIn g p)).filter, .int .i64 (rG (receiveIn g p)).hold, .int .i64 (rG (receiveIn g p)).now], .bool (receiveIn g p).isSome]) ∧
          Ow 3 encI 1 w.heap.size w' A n C (rP (receiveIn g p)).data ∧ Ow 89 encM 4 w.heap.size w' sa sn sc (rG (receiveIn g p)).table ∧ Ow 47 encC 3 w.heap.size w' qa qn qc (rG (receiveIn g p)).cons ∧ Ext w w' := by
  have c1 := fun W h1 h2 h3 => spec_comesIn g p ta tn tc ka kn kc a n c W h1 h2 h3
  cases hg : comesIn g p with
  | false =>
    rw [hg] at c1
    replace c1 := Lib.hid c1
    have e : receiveIn g p = none := by unfold receiveIn; rw [hg]; rfl
    rw [e]
    have e2 : w.heap.size ≤ w.heap.size + 1 + 1 := by omega
    have e3 : w.heap.size ≤ w.heap.size + 1 + 1 + 1 := by omega
    go_enter Try.func19, Try.ntmps19
    go_wp2_with fail
    refine (c1.out _ (by exact ht.ext (by repeat (first | (with_reducible exact Ext.refl _) | (with_reducible assumption) | (with_reducible refine Ext.alloc ?_ _) | (with_reducible refine Ext.drewN ?_ _) | (with_reducible refine Ext.drew ?_) | (with_reducible refine Ext.setCell ?_ ?_ _; rotate_left; (simp only []; omega)) | (with_reducible refine Ext.trans ?_ (by assumption))))) (by exact hk.ext (by repeat (first | (with_reducible exact Ext.refl _) | (with_reducible assumption) | (with_reducible refine Ext.alloc ?_ _) | (with_reducible refine Ext.drewN ?_ _) | (with_reducible refine Ext.drew ?_) | (with_reducible refine Ext.setCell ?_ ?_ _; rotate_left; (simp only []; omega)) | (with_reducible refine Ext.trans ?_ (by assumption))))) (by exact hs.ext (by repeat (first | (with_reducible exact Ext.refl _) | (with_reducible assumption) | (with_reducible refine Ext.alloc ?_ _) | (with_reducible refine Ext.drewN ?_ _) | (with_reducible refine Ext.drew ?_) | (with_reducible refine Ext.setCell ?_ ?_ _; rotate_left; (simp only []; omega)) | (with_reducible refine Ext.trans ?_ (by assumption)))))).mono ?_
    rintro e w1 ⟨rfl, hx1⟩
    have hy1 := hx1.size
    (try simp at hy1)
    have eW1 := useE (fun (h : Ext _ w1) => ht.ext h) (by repeat (first | (with_reducible exact Ext.refl _) | (with_reducible assumption) | (with_reducible refine Ext.alloc ?_ _) | (with_reducible refine Ext.drewN ?_ _) | (with_reducible refine Ext.drew ?_) | (with_reducible refine Ext.setCell ?_ ?_ _; rotate_left; (simp only []; omega)) | (with_reducible refine Ext.trans ?_ (by assumption))))
    replace ht := ht.ext eW1
    replace hk := hk.ext eW1
    replace hs := hs.ext eW1
    have BQ : Blk w1 (w.heap.size+2) 33 #[.int .i64 0, .int .i64 0, .int .i64 0, .int .i64 0, .int .i64 0, .slice none 0 0] := by refine Blk.ext ?_ hx1; exact (by repeat (first | (with_reducible assumption) | (with_reducible exact Blk.new _ _ _) | exact Blk.newAt _ _ _ (by simp) | (with_reducible refine Blk.alloc ?_ _) | (with_reducible refine Blk.drew ?_) | (with_reducible refine Blk.drewN ?_ _) | refine Blk.far ?_ (by simp only []; omega) _ | refine Blk.rext ?_ (by assumption) (by omega) | refine Blk.ext ?_ (by assumption)))
    have BR : Blk w1 (w.heap.size+3) 28 #[.int .i64 0, .int .i64 0, .int .i64 0, .slice none 0 0, .slice none 0 0, .int .i64 0, .int .i64 0, .int .i64 0] := by refine Blk.ext ?_ hx1; exact (by repeat (first | (with_reducible assumption) | (with_reducible exact Blk.new _ _ _) | exact Blk.newAt _ _ _ (by simp) | (with_reducible refine Blk.alloc ?_ _) | (with_reducible refine Blk.drew ?_) | (with_reducible refine Blk.drewN ?_ _) | refine Blk.far ?_ (by simp only []; omega) _ | refine Blk.rext ?_ (by assumption) (by omega) | refine Blk.ext ?_ (by assumption)))
    have cBQ := BQ.cells
    have fBQ := BQ.frozens
    have zBQ := BQ.lt
    have cBR := BR.cells
    have fBR := BR.frozens
    have zBR := BR.lt
    have X1 : Ext w w1 := (by repeat (first | (with_reducible exact Ext.refl _) | (with_reducible assumption) | (with_reducible refine Ext.alloc ?_ _) | (with_reducible refine Ext.drewN ?_ _) | (with_reducible refine Ext.drew ?_) | (with_reducible refine Ext.setCell ?_ ?_ _; rotate_left; (simp only []; omega)) | (with_reducible refine Ext.trans ?_ (by assumption))))
    clear hx1
    go_wp2
    refine' bodyPost_ret (v := _) ?_ rfl ?_
    rotate_left
    · (simp only [results, Try.results19]
       go_simp
       rfl)
    refine ⟨none, 0, 0, none, 0, 0, none, 0, 0, rfl, Ow.nils _, Ow.nils _, Ow.nils _, ?_⟩
    clear cBQ fBQ cBR fBR
    refine (fun (h : Two (w.heap.size + 1 + 1) (w.heap.size + 1 + 1 + 1) w1 _) => h.ext X1 e2 e3) ?_
    clear e2 e3
    generalize w.heap.size + 1 + 1 + 1 = b2
    generalize w.heap.size + 1 + 1 = b1
    repeat (first | (with_reducible exact Two.refl _ _ _) | (with_reducible refine Two.drew ?_) | (with_reducible refine Two.alloc ?_ _) | (with_reducible refine Two.set1 ?_ _ _) | (with_reducible refine Two.set2 ?_ _ _))
  | true =>
    rw [hg] at c1
    replace c1 := Lib.hid c1
    have e : receiveIn g p = receive g p := by unfold receiveIn; rw [hg]; rfl
    rw [e]
    simp only [comesIn, Bool.and_eq_true] at hg
    obtain ⟨l1, l2, l3, _, _⟩ := valid_lens hg.1.1.1 hg.1.1.2 ht hk hs
    clear e hg
    obtain ⟨r, hr⟩ : ∃ r, r = receive g p := ⟨_, rfl⟩
    have c2 := fun W h1 h2 h3 => spec_receive g p ta tn tc ka kn kc a n c W h1 h2 h3 l1 l2 l3
    rw [← hr] at c2 ⊢
    replace c2 := Lib.hid c2
    clear hr
    have e2 : w.heap.size ≤ w.heap.size + 1 + 1 := by omega
    have e3 : w.heap.size ≤ w.heap.size + 1 + 1 + 1 := by omega
    go_enter Try.func19, Try.ntmps19
    go_wp2_with fail
    refine (c1.out _ (by exact ht.ext (by repeat (first | (with_reducible exact Ext.refl _) | (with_reducible assumption) | (with_reducible refine Ext.alloc ?_ _) | (with_reducible refine Ext.drewN ?_ _) | (with_reducible refine Ext.drew ?_) | (with_reducible refine Ext.setCell ?_ ?_ _; rotate_left; (simp only []; omega)) | (with_reducible refine Ext.trans ?_ (by assumption))))) (by exact hk.ext (by repeat (first | (with_reducible exact Ext.refl _) | (with_reducible assumption) | (with_reducible refine Ext.alloc ?_ _) | (with_reducible refine Ext.drewN ?_ _) | (with_reducible refine Ext.drew ?_) | (with_reducible refine Ext.setCell ?_ ?_ _; rotate_left; (simp only []; omega)) | (with_reducible refine Ext.trans ?_ (by assumption))))) (by exact hs.ext (by repeat (first | (with_reducible exact Ext.refl _) | (with_reducible assumption) | (with_reducible refine Ext.alloc ?_ _) | (with_reducible refine Ext.drewN ?_ _) | (with_reducible refine Ext.drew ?_) | (with_reducible refine Ext.setCell ?_ ?_ _; rotate_left; (simp only []; omega)) | (with_reducible refine Ext.trans ?_ (by assumption)))))).mono ?_
    rintro e w1 ⟨rfl, hx1⟩
    have hy1 := hx1.size
    (try simp at hy1)
    have eW1 := useE (fun (h : Ext _ w1) => ht.ext h) (by repeat (first | (with_reducible exact Ext.refl _) | (with_reducible assumption) | (with_reducible refine Ext.alloc ?_ _) | (with_reducible refine Ext.drewN ?_ _) | (with_reducible refine Ext.drew ?_) | (with_reducible refine Ext.setCell ?_ ?_ _; rotate_left; (simp only []; omega)) | (with_reducible refine Ext.trans ?_ (by assumption))))
    replace ht := ht.ext eW1
    replace hk := hk.ext eW1
    replace hs := hs.ext eW1
    have BG : Blk w1 w.heap.size 28 (#[.int .i64 g.net.base, .int .i64 g.net.bits, .int .i64 g.out, .slice ta tn tc, .slice ka kn kc, .int .i64 g.filter, .int .i64 g.hold, .int .i64 g.now]) := by refine Blk.ext ?_ hx1; exact (by repeat (first | (with_reducible assumption) | (with_reducible exact Blk.new _ _ _) | exact Blk.newAt _ _ _ (by simp) | (with_reducible refine Blk.alloc ?_ _) | (with_reducible refine Blk.drew ?_) | (with_reducible refine Blk.drewN ?_ _) | refine Blk.far ?_ (by simp only []; omega) _ | refine Blk.rext ?_ (by assumption) (by omega) | refine Blk.ext ?_ (by assumption)))
    have BP : Blk w1 (w.heap.size+1) 33 (#[.int .i64 p.kind, .int .i64 p.fr.addr, .int .i64 p.fr.port, .int .i64 p.to_.addr, .int .i64 p.to_.port, .slice a n c]) := by refine Blk.ext ?_ hx1; exact (by repeat (first | (with_reducible assumption) | (with_reducible exact Blk.new _ _ _) | exact Blk.newAt _ _ _ (by simp) | (with_reducible refine Blk.alloc ?_ _) | (with_reducible refine Blk.drew ?_) | (with_reducible refine Blk.drewN ?_ _) | refine Blk.far ?_ (by simp only []; omega) _ | refine Blk.rext ?_ (by assumption) (by omega) | refine Blk.ext ?_ (by assumption)))
    have BQ : Blk w1 (w.heap.size+2) 33 #[.int .i64 0, .int .i64 0, .int .i64 0, .int .i64 0, .int .i64 0, .slice none 0 0] := by refine Blk.ext ?_ hx1; exact (by repeat (first | (with_reducible assumption) | (with_reducible exact Blk.new _ _ _) | exact Blk.newAt _ _ _ (by simp) | (with_reducible refine Blk.alloc ?_ _) | (with_reducible refine Blk.drew ?_) | (with_reducible refine Blk.drewN ?_ _) | refine Blk.far ?_ (by simp only []; omega) _ | refine Blk.rext ?_ (by assumption) (by omega) | refine Blk.ext ?_ (by assumption)))
    have BR : Blk w1 (w.heap.size+3) 28 #[.int .i64 0, .int .i64 0, .int .i64 0, .slice none 0 0, .slice none 0 0, .int .i64 0, .int .i64 0, .int .i64 0] := by refine Blk.ext ?_ hx1; exact (by repeat (first | (with_reducible assumption) | (with_reducible exact Blk.new _ _ _) | exact Blk.newAt _ _ _ (by simp) | (with_reducible refine Blk.alloc ?_ _) | (with_reducible refine Blk.drew ?_) | (with_reducible refine Blk.drewN ?_ _) | refine Blk.far ?_ (by simp only []; omega) _ | refine Blk.rext ?_ (by assumption) (by omega) | refine Blk.ext ?_ (by assumption)))
    have cBG := BG.cells
    have fBG := BG.frozens
    have zBG := BG.lt
    have cBP := BP.cells
    have fBP := BP.frozens
    have zBP := BP.lt
    have cBQ := BQ.cells
    have fBQ := BQ.frozens
    have zBQ := BQ.lt
    have cBR := BR.cells
    have fBR := BR.frozens
    have zBR := BR.lt
    have X1 : Ext w w1 := (by repeat (first | (with_reducible exact Ext.refl _) | (with_reducible assumption) | (with_reducible refine Ext.alloc ?_ _) | (with_reducible refine Ext.drewN ?_ _) | (with_reducible refine Ext.drew ?_) | (with_reducible refine Ext.setCell ?_ ?_ _; rotate_left; (simp only []; omega)) | (with_reducible refine Ext.trans ?_ (by assumption))))
    clear hx1
    go_wp2_with fail
    refine (c2.out _ (by exact ht.ext (by repeat (first | (with_reducible exact Ext.refl _) | (with_reducible assumption) | (with_reducible refine Ext.alloc ?_ _) | (with_reducible refine Ext.drewN ?_ _) | (with_reducible refine Ext.drew ?_) | (with_reducible refine Ext.setCell ?_ ?_ _; rotate_left; (simp only []; omega)) | (with_reducible refine Ext.trans ?_ (by assumption))))) (by exact hk.ext (by repeat (first | (with_reducible exact Ext.refl _) | (with_reducible assumption) | (with_reducible refine Ext.alloc ?_ _) | (with_reducible refine Ext.drewN ?_ _) | (with_reducible refine Ext.drew ?_) | (with_reducible refine Ext.setCell ?_ ?_ _; rotate_left; (simp only []; omega)) | (with_reducible refine Ext.trans ?_ (by assumption))))) (by exact hs.ext (by repeat (first | (with_reducible exact Ext.refl _) | (with_reducible assumption) | (with_reducible refine Ext.alloc ?_ _) | (with_reducible refine Ext.drewN ?_ _) | (with_reducible refine Ext.drew ?_) | (with_reducible refine Ext.setCell ?_ ?_ _; rotate_left; (simp only []; omega)) | (with_reducible refine Ext.trans ?_ (by assumption)))))).mono ?_
    rintro e w2 ⟨A, n', C, sa, sn, sc, qa, qn, qc, rfl, O1, O2, O3, hx2⟩
    have hy2 := hx2.size
    (try simp at hy2)
    have eW2 := useE (fun (h : Ext _ w2) => ht.ext h) (by repeat (first | (with_reducible exact Ext.refl _) | (with_reducible assumption) | (with_reducible refine Ext.alloc ?_ _) | (with_reducible refine Ext.drewN ?_ _) | (with_reducible refine Ext.drew ?_) | (with_reducible refine Ext.setCell ?_ ?_ _; rotate_left; (simp only []; omega)) | (with_reducible refine Ext.trans ?_ (by assumption))))
    replace ht := ht.ext eW2
    replace hk := hk.ext eW2
    replace hs := hs.ext eW2
    clear cBG fBG zBG
    replace BG := BG.ext eW2
    clear cBP fBP zBP
    replace BP := BP.ext eW2
    clear cBQ fBQ zBQ
    replace BQ := BQ.ext eW2
    clear cBR fBR zBR
    replace BR := BR.ext eW2
    have cBG := BG.cells
    have fBG := BG.frozens
    have zBG := BG.lt
    have cBP := BP.cells
    have fBP := BP.frozens
    have zBP := BP.lt
    have cBQ := BQ.cells
    have fBQ := BQ.frozens
    have zBQ := BQ.lt
    have cBR := BR.cells
    have fBR := BR.frozens
    have zBR := BR.lt
    have X2 : Ext w w2 := X1.trans (show Ext w1 w2 from (by repeat (first | (with_reducible exact Ext.refl _) | (with_reducible assumption) | (with_reducible refine Ext.alloc ?_ _) | (with_reducible refine Ext.drewN ?_ _) | (with_reducible refine Ext.drew ?_) | (with_reducible refine Ext.setCell ?_ ?_ _; rotate_left; (simp only []; omega)) | (with_reducible refine Ext.trans ?_ (by assumption)))))
    have l1 := O1.lt
    have l2 := O2.lt
    have l3 := O3.lt
    have hz : w.heap.size + 4 ≤ w1.heap.size := by omega
    have Y1 := Lib.hid (O1.rebase (b' := w.heap.size) (by (try simp); (try omega)))
    have Y2 := Lib.hid (O2.rebase (b' := w.heap.size) (by (try simp); (try omega)))
    have Y3 := Lib.hid (O3.rebase (b' := w.heap.size) (by (try simp); (try omega)))
    have n12 : ∀ x, A = some x → x.block ≠ w.heap.size + 1 + 1 := fun x e => by have := (l1 x e).1; (try simp at this); omega
    have n13 : ∀ x, A = some x → x.block ≠ w.heap.size + 1 + 1 + 1 := fun x e => by have := (l1 x e).1; (try simp at this); omega
    have n22 : ∀ x, sa = some x → x.block ≠ w.heap.size + 1 + 1 := fun x e => by have := (l2 x e).1; (try simp at this); omega
    have n23 : ∀ x, sa = some x → x.block ≠ w.heap.size + 1 + 1 + 1 := fun x e => by have := (l2 x e).1; (try simp at this); omega
    have n32 : ∀ x, qa = some x → x.block ≠ w.heap.size + 1 + 1 := fun x e => by have := (l3 x e).1; (try simp at this); omega
    have n33 : ∀ x, qa = some x → x.block ≠ w.heap.size + 1 + 1 + 1 := fun x e => by have := (l3 x e).1; (try simp at this); omega
    clear hx2 O1 O2 O3 l1 l2 l3
    go_wp2
    refine' bodyPost_ret (v := _) ?_ rfl ?_
    rotate_left
    · (simp only [results, Try.results19]
       go_simp
       rfl)
    refine ⟨A, n', C, sa, sn, sc, qa, qn, qc, rfl, ?_⟩
    clear cBG fBG cBP fBP cBQ fBQ cBR fBR
    refine (fun (h : Two (w.heap.size + 1 + 1) (w.heap.size + 1 + 1 + 1) w2 _) => ⟨h.ow Y1.out n12 n13, h.ow Y2.out n22 n23, h.ow Y3.out n32 n33, h.ext X2 e2 e3⟩) ?_
    clear e2 e3
    generalize w.heap.size + 1 + 1 + 1 = b2
    generalize w.heap.size + 1 + 1 = b1
    repeat (first | (with_reducible exact Two.refl _ _ _) | (with_reducible refine Two.drew ?_) | (with_reducible refine Two.alloc ?_ _) | (with_reducible refine Two.set1 ?_ _ _) | (with_reducible refine Two.set2 ?_ _ _))
end Go.Proofs.Ytppdcglnopoocaa
/- Contracts: the first package's ReversePacket; ReportOf in one form. -/
namespace Go.Proofs.Ytppdcglnopoocaa
set_option linter.unusedVariables false
set_option linter.unusedSimpArgs false
open Go.RowKit

theorem run_same_E (x y : Int) (W : World) : (Go.binOp .eql 30 (.agg #[.int .i64 x, .int .i64 y]) (.agg #[.int .i64 x, .int .i64 y])).run Try.prog W = .ok (.bool true) W := by
  rw [run_eql_E ⟨x, y⟩ ⟨x, y⟩]; simp
theorem Ow.drewL {α : Type} {E : TypeId} {enc : α → List Value} {k base : Nat} {w : World} {a : Option Addr} {n c : Nat} {L : List α} (h : Ow E enc k base w a n c L) : Ow E enc k base w.drew a n c L := h.ext ((Ext.refl _).drew)
theorem Ow.allocL {α : Type} {E : TypeId} {enc : α → List Value} {k base : Nat} {w : World} {a : Option Addr} {n c : Nat} {L : List α} (h : Ow E enc k base w a n c L) (o : Obj) : Ow E enc k base (w.alloc o) a n c L := h.ext ((Ext.refl _).alloc o)
def rK (r : Option PktD) : PktD := match r with
  | some x => x
  | none => pkN
theorem impl_ReportOf_u (o s : Int) (p : PktD) (a : Option Addr) (n c : Nat) (w : World) (hs : Sl encI 1 w a n c p.data) :
    Calls Try.prog 43 #[.int .i64 o, .int .i64 s, .agg #[.int .i64 p.kind, .int .i64 p.fr.addr, .int .i64 p.fr.port, .int .i64 p.to_.addr, .int .i64 p.to_.port, .slice a n c]] w fun e w' => ∃ A n C, e = .returned (.tuple #[.agg #[.int .i64 (rR (reportOf o s p)).code, .int .i64 (rR (reportOf o s p)).sender, .int .i64 (rR (reportOf o s p)).to_, .int .i64 (rR (reportOf o s p)).about.kind, .int .i64 (rR (reportOf o s p)).about.fr.addr, .int .i64 (rR (reportOf o s p)).about.fr.port, .int .i64 (rR (reportOf o s p)).about.to_.addr, .int .i64 (rR (reportOf o s p)).about.to_.port, .slice A n C], .bool (reportOf o s p).isSome]) ∧ Ow 3 encI 1 w.heap.size w' A n C (rR (reportOf o s p)).about.data ∧ Ext w w' := by
  cases hv : (inR o 0 15 && word s && validPkt p) with
  | false =>
    have e : reportOf o s p = none := by unfold reportOf; rw [hv]; rfl
    rw [e]
    exact (impl_ReportOf_no o s p.kind p.fr.addr p.fr.port p.to_.addr p.to_.port a n c p.data w hs hv).mono fun _ _ ⟨h1, h2⟩ => ⟨none, 0, 0, h1, Ow.nils _, h2⟩
  | true =>
    have e : reportOf o s p = some ⟨o, s, p.fr.addr, { p with data := p.data.take 4 }⟩ := by unfold reportOf; rw [hv]; rfl
    rw [e]
    simp only [Bool.and_eq_true] at hv
    exact (impl_ReportOf_own o s p.kind p.fr.addr p.fr.port p.to_.addr p.to_.port a n c p.data w hs hv.1.1 hv.1.2 hv.2).mono fun _ _ ⟨A, C, h1, h2, h3⟩ => ⟨A, _, C, h1, h2, h3⟩
set_option maxHeartbeats 1000000 in
theorem impl_ReversePacket (p : PktD) (a : Option Addr) (n c : Nat) (w : World) (hs : Sl encI 1 w a n c p.data) :
    Calls Try.prog 47 #[.agg #[.int .i64 p.kind, .int .i64 p.fr.addr, .int .i64 p.fr.port, .int .i64 p.to_.addr, .int .i64 p.to_.port, .slice a n c]] w fun e w' => ∃ A n' C, e = .returned (.tuple #[.agg #[.int .i64 (rK (reverse p)).kind, .int .i64 (rK (reverse p)).fr.addr, .int .i64 (rK (reverse p)).fr.port, .int .i64 (rK (reverse p)).to_.addr, .int .i64 (rK (reverse p)).to_.port, .slice A n' C], .bool (reverse p).isSome]) ∧ Ow 3 encI 1 w.heap.size w' A n' C (rK (reverse p)).data ∧ Ext w w' := by
  have c1 := fun W h => impl_ValidPacket' p a n c W h
  cases hv : validPkt p with
  | false =>
    have e : reverse p = none := by unfold reverse; rw [hv]; rfl
    rw [e]
    rw [hv] at c1
    replace c1 := Lib.hid c1
    clear e hv
    go_enter Try.func47, Try.ntmps47
    go_wp2_with fail
    refine (c1.out _ (by exact hs.ext (by repeat (first | (with_reducible exact Ext.refl _) | (with_reducible assumption) | (with_reducible refine Ext.alloc ?_ _) | (with_reducible refine Ext.drewN ?_ _) | (with_reducible refine Ext.drew ?_) | (with_reducible refine Ext.setCell ?_ ?_ _; rotate_left; (simp only []; omega)) | (with_reducible refine Ext.trans ?_ (by assumption)))))).mono ?_
    rintro e w1 ⟨rfl, hx1⟩
    have hy1 := hx1.size
    (try simp at hy1)
    have eW1 := useE (fun (h : Ext _ w1) => hs.ext h) (by repeat (first | (with_reducible exact Ext.refl _) | (with_reducible assumption) | (with_reducible refine Ext.alloc ?_ _) | (with_reducible refine Ext.drewN ?_ _) | (with_reducible refine Ext.drew ?_) | (with_reducible refine Ext.setCell ?_ ?_ _; rotate_left; (simp only []; omega)) | (with_reducible refine Ext.trans ?_ (by assumption))))
    replace hs := hs.ext eW1
    have BR : Blk w1 (w.heap.size+1) 33 #[.int .i64 0, .int .i64 0, .int .i64 0, .int .i64 0, .int .i64 0, .slice none 0 0] := by refine Blk.ext ?_ hx1; exact (by repeat (first | (with_reducible assumption) | (with_reducible exact Blk.new _ _ _) | exact Blk.newAt _ _ _ (by simp) | (with_reducible refine Blk.alloc ?_ _) | (with_reducible refine Blk.drew ?_) | (with_reducible refine Blk.drewN ?_ _) | refine Blk.far ?_ (by simp only []; omega) _ | refine Blk.rext ?_ (by assumption) (by omega) | refine Blk.ext ?_ (by assumption)))
    have cBR := BR.cells
    have fBR := BR.frozens
    have zBR := BR.lt
    have XU : Ext w w1 := (by repeat (first | (with_reducible exact Ext.refl _) | (with_reducible assumption) | (with_reducible refine Ext.alloc ?_ _) | (with_reducible refine Ext.drewN ?_ _) | (with_reducible refine Ext.drew ?_) | (with_reducible refine Ext.setCell ?_ ?_ _; rotate_left; (simp only []; omega)) | (with_reducible refine Ext.trans ?_ (by assumption))))
    clear hx1
    go_wp2
    refine' bodyPost_ret (v := _) ?_ rfl ?_
    rotate_left
    · (simp only [results, Try.results47]
       go_simp
       rfl)
    refine ⟨none, 0, 0, rfl, Ow.nils _, ?_⟩
    repeat (refine Ext.setCell ?_ (by simp only []; omega) _)
    exact XU
  | true =>
    have e : reverse p = some { p with fr := p.to_, to_ := p.fr } := by unfold reverse; rw [hv]; rfl
    have hn : n ≤ 12 := by have h := (validPkt_iff.1 hv).2.2.2.1; rw [hs.len] at h; exact h
    rw [e]
    rw [hv] at c1
    replace c1 := Lib.hid c1
    clear e hv
    go_enter Try.func47, Try.ntmps47
    go_wp2_with fail
    refine (c1.out _ (by exact hs.ext (by repeat (first | (with_reducible exact Ext.refl _) | (with_reducible assumption) | (with_reducible refine Ext.alloc ?_ _) | (with_reducible refine Ext.drewN ?_ _) | (with_reducible refine Ext.drew ?_) | (with_reducible refine Ext.setCell ?_ ?_ _; rotate_left; (simp only []; omega)) | (with_reducible refine Ext.trans ?_ (by assumption)))))).mono ?_
    rintro e w1 ⟨rfl, hx1⟩
    have hy1 := hx1.size
    (try simp at hy1)
    have eW1 := useE (fun (h : Ext _ w1) => hs.ext h) (by repeat (first | (with_reducible exact Ext.refl _) | (with_reducible assumption) | (with_reducible refine Ext.alloc ?_ _) | (with_reducible refine Ext.drewN ?_ _) | (with_reducible refine Ext.drew ?_) | (with_reducible refine Ext.setCell ?_ ?_ _; rotate_left; (simp only []; omega)) | (with_reducible refine Ext.trans ?_ (by assumption))))
    replace hs := hs.ext eW1
    have BP : Blk w1 w.heap.size 33 (#[.int .i64 p.kind, .int .i64 p.fr.addr, .int .i64 p.fr.port, .int .i64 p.to_.addr, .int .i64 p.to_.port, .slice a n c]) := by refine Blk.ext ?_ hx1; exact (by repeat (first | (with_reducible assumption) | (with_reducible exact Blk.new _ _ _) | exact Blk.newAt _ _ _ (by simp) | (with_reducible refine Blk.alloc ?_ _) | (with_reducible refine Blk.drew ?_) | (with_reducible refine Blk.drewN ?_ _) | refine Blk.far ?_ (by simp only []; omega) _ | refine Blk.rext ?_ (by assumption) (by omega) | refine Blk.ext ?_ (by assumption)))
    have BR : Blk w1 (w.heap.size+1) 33 #[.int .i64 0, .int .i64 0, .int .i64 0, .int .i64 0, .int .i64 0, .slice none 0 0] := by refine Blk.ext ?_ hx1; exact (by repeat (first | (with_reducible assumption) | (with_reducible exact Blk.new _ _ _) | exact Blk.newAt _ _ _ (by simp) | (with_reducible refine Blk.alloc ?_ _) | (with_reducible refine Blk.drew ?_) | (with_reducible refine Blk.drewN ?_ _) | refine Blk.far ?_ (by simp only []; omega) _ | refine Blk.rext ?_ (by assumption) (by omega) | refine Blk.ext ?_ (by assumption)))
    have cBP := BP.cells
    have fBP := BP.frozens
    have zBP := BP.lt
    have cBR := BR.cells
    have fBR := BR.frozens
    have zBR := BR.lt
    have XU : Ext w w1 := (by repeat (first | (with_reducible exact Ext.refl _) | (with_reducible assumption) | (with_reducible refine Ext.alloc ?_ _) | (with_reducible refine Ext.drewN ?_ _) | (with_reducible refine Ext.drew ?_) | (with_reducible refine Ext.setCell ?_ ?_ _; rotate_left; (simp only []; omega)) | (with_reducible refine Ext.trans ?_ (by assumption))))
    clear hx1
    go_wp2_with fail
    refine (impl_pcopyOf p a n c _ (by exact hs.ext (by repeat (first | (with_reducible exact Ext.refl _) | (with_reducible assumption) | (with_reducible refine Ext.alloc ?_ _) | (with_reducible refine Ext.drewN ?_ _) | (with_reducible refine Ext.drew ?_) | (with_reducible refine Ext.setCell ?_ ?_ _; rotate_left; (simp only []; omega)) | (with_reducible refine Ext.trans ?_ (by assumption))))) (by omega)).mono ?_
    rintro e w2 ⟨A, rfl, O2, hx2⟩
    have hy2 := hx2.size
    (try simp at hy2)
    have eW2 := useE (fun (h : Ext _ w2) => hs.ext h) (by repeat (first | (with_reducible exact Ext.refl _) | (with_reducible assumption) | (with_reducible refine Ext.alloc ?_ _) | (with_reducible refine Ext.drewN ?_ _) | (with_reducible refine Ext.drew ?_) | (with_reducible refine Ext.setCell ?_ ?_ _; rotate_left; (simp only []; omega)) | (with_reducible refine Ext.trans ?_ (by assumption))))
    replace hs := hs.ext eW2
    clear cBP fBP zBP
    replace BP := BP.ext eW2
    clear cBR fBR zBR
    replace BR := BR.ext eW2
    replace XU := XU.ext eW2
    have cBP := BP.cells
    have fBP := BP.frozens
    have zBP := BP.lt
    have cBR := BR.cells
    have fBR := BR.frozens
    have zBR := BR.lt
    have lO := Lib.hid (show ∀ x, A = some x → w.heap.size + 1 < x.block ∧ x.block < w2.heap.size from fun x e => by have h := O2.lt x e; (try simp at h); omega)
    replace O2 := Lib.hid (O2.rebase (b' := w.heap.size) (by (try simp); (try omega)))
    have hz2 := XU.size
    clear hx2
    go_wp2_with fail
    go_region_with fail
    all_goals
      go_wp2
      refine' bodyPost_ret (v := _) ?_ rfl ?_
      rotate_left
      · (simp only [results, Try.results47]
         go_simp
         rfl)
      refine ⟨A, n, n, rfl, ?_, ?_⟩
      · show Ow 3 encI 1 w.heap.size _ A n n p.data
        repeat (first | (with_reducible exact O2.out) | (with_reducible refine Ow.setCell ?_ ?_ _; rotate_left; (intro y hy; have := lO.out y hy; simp only []; omega)) | (with_reducible refine Ow.drewL ?_) | (with_reducible refine Ow.allocL ?_ _))
      · repeat (first | (with_reducible exact XU) | (with_reducible refine Ext.setCell ?_ ?_ _; rotate_left; (simp only []; omega)) | (with_reducible refine Ext.drew ?_) | (with_reducible refine Ext.alloc ?_ _))
end Go.Proofs.Ytppdcglnopoocaa
