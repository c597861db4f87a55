/- The words, laws and contracts that the claims of this seat share: group m. No condition. -/
import Derived.Test.YtppdcglnopoocaaGreatKj
import Derived.Test.YtppdcglnopoocaaGreatKi
/- Contracts: the first package's SendOut, PassBetween, Forward. -/
namespace Go.Proofs.YtppdcglnopoocaaGreat
set_option linter.unusedVariables false
set_option linter.unusedSimpArgs false
open Go.RowKit

set_option maxHeartbeats 2000000 in
theorem impl_SendOut_not (g : GateD) (p : PktD) (ta : Option Addr) (tn tc : Nat) (ka : Option Addr) (kn kc : Nat) (a : Option Addr) (n c : Nat) (w : World) (ht : Sl encM 4 w ta tn tc g.table) (hk : Sl encC 3 w ka kn kc g.cons) (hs : Sl encI 1 w a n c p.data) (hC : (fromIn g p && !has g.net p.to_.addr && !decide (p.to_.addr = g.out)) = false) :
    Calls Tryz.prog 16 #[.agg #[.int .i64 g.net.base, .int .i64 g.net.bits, .int .i64 g.out, .slice ta tn tc, .slice ka kn kc, .int .i64 g.filter, .int .i64 g.hold, .int .i64 g.now], .agg #[.int .i64 p.kind, .int .i64 p.fr.addr, .int .i64 p.fr.port, .int .i64 p.to_.addr, .int .i64 p.to_.port, .slice a n c]] w fun x w' => x = .returned (.tuple #[.agg #[.int .i64 0, .int .i64 0, .int .i64 0, .int .i64 0, .int .i64 0, .slice none 0 0], .agg #[.int .i64 0, .int .i64 0, .int .i64 0, .slice none 0 0, .slice none 0 0, .int .i64 0, .int .i64 0, .int .i64 0], .bool false]) ∧ Ext w w' := by
  have hnet : fromIn g p = true → validNet g.net = true := fun h => by
    simp only [fromIn, Bool.and_eq_true] at h
    exact (validGate_iff.1 h.1.1).net
  go_enter Tryz.func16, Tryz.ntmps16
  go_wp2_with (first | (go_at_call 56; refine (impl_from g p ta tn tc ka kn kc a n c _ (by exact ht.ext (by repeat (first | (with_reducible exact Ext.refl _) | (with_reducible assumption) | (with_reducible refine Ext.alloc ?_ _) | (with_reducible refine Ext.drewN ?_ _) | (with_reducible refine Ext.drew ?_) | (with_reducible refine Ext.setCell ?_ ?_ _; rotate_left; (simp only []; omega)) | (with_reducible refine Ext.trans ?_ (by assumption))))) (by exact hk.ext (by repeat (first | (with_reducible exact Ext.refl _) | (with_reducible assumption) | (with_reducible refine Ext.alloc ?_ _) | (with_reducible refine Ext.drewN ?_ _) | (with_reducible refine Ext.drew ?_) | (with_reducible refine Ext.setCell ?_ ?_ _; rotate_left; (simp only []; omega)) | (with_reducible refine Ext.trans ?_ (by assumption))))) (by exact hs.ext (by repeat (first | (with_reducible exact Ext.refl _) | (with_reducible assumption) | (with_reducible refine Ext.alloc ?_ _) | (with_reducible refine Ext.drewN ?_ _) | (with_reducible refine Ext.drew ?_) | (with_reducible refine Ext.setCell ?_ ?_ _; rotate_left; (simp only []; omega)) | (with_reducible refine Ext.trans ?_ (by assumption)))))).mono ?_; rintro e w1 ⟨rfl, hx⟩; have hc := hx.cells; have hf := hx.frozens; have hy := hx.size; (try simp at hy); have hz : w.heap.size < w1.heap.size ∧ w.heap.size + 1 < w1.heap.size ∧ w.heap.size + 2 < w1.heap.size ∧ w.heap.size + 3 < w1.heap.size := (by omega)) | (go_at_call 57; refine (impl_has' g.net _ _ (hnet (by assumption))).mono ?_; rintro e w1 ⟨rfl, hx⟩; have hc := hx.cells; have hf := hx.frozens; have hy := hx.size; (try simp at hy); have hz : w.heap.size < w1.heap.size ∧ w.heap.size + 1 < w1.heap.size ∧ w.heap.size + 2 < w1.heap.size ∧ w.heap.size + 3 < w1.heap.size := (by omega)))
  all_goals (try (exfalso; simp_all; done))
  all_goals
    refine' bodyPost_ret (v := _) ?_ rfl ?_
    rotate_left
    · (simp only [results, Tryz.results16]
       go_simp
       rfl)
    exact ⟨rfl, (by repeat (first | (with_reducible exact Ext.refl _) | (with_reducible assumption) | (with_reducible refine Ext.alloc ?_ _) | (with_reducible refine Ext.drewN ?_ _) | (with_reducible refine Ext.drew ?_) | (with_reducible refine Ext.setCell ?_ ?_ _; rotate_left; (simp only []; omega)) | (with_reducible refine Ext.trans ?_ (by assumption))))⟩
set_option maxHeartbeats 2000000 in
/-- The first package's SendOut. -/
theorem impl_SendOut (g : GateD) (p : PktD) (ta : Option Addr) (tn tc : Nat) (ka : Option Addr) (kn kc : Nat) (a : Option Addr) (n c : Nat) (w : World) (ht : Sl encM 4 w ta tn tc g.table) (hk : Sl encC 3 w ka kn kc g.cons) (hs : Sl encI 1 w a n c p.data) :
    Calls Tryz.prog 16 #[.agg #[.int .i64 g.net.base, .int .i64 g.net.bits, .int .i64 g.out, .slice ta tn tc, .slice ka kn kc, .int .i64 g.filter, .int .i64 g.hold, .int .i64 g.now], .agg #[.int .i64 p.kind, .int .i64 p.fr.addr, .int .i64 p.fr.port, .int .i64 p.to_.addr, .int .i64 p.to_.port, .slice a n c]] w fun e w' => ∃ A n C sa sn sc qa qn qc, e = .returned (.tuple #[.agg #[.int .i64 (rP (sendOut g p)).kind, .int .i64 (rP (sendOut g p)).fr.addr, .int .i64 (rP (sendOut g p)).fr.port, .int .i64 (rP (sendOut g p)).to_.addr, .int .i64 (rP (sendOut g p)).to_.port, .slice A n C], .agg #[.int .i64 (rG (sendOut g p)).net.base, .int .i64 (rG (sendOut g p)).net.bits, .int .i64 (rG (sendOut g p)).out, .slice sa sn sc, .slice qa qn qc, .int .i64 (rG (sendOut g p)).filter, .int .i64 (rG (sendOut g p)).hold, .int .i64 (rG (sendOut g p)).now], .bool (sendOut g p).isSome]) ∧
          Ow 3 encI 1 w.heap.size w' A n C (rP (sendOut g p)).data ∧ Ow 86 encM 4 w.heap.size w' sa sn sc (rG (sendOut g p)).table ∧ Ow 99 encC 3 w.heap.size w' qa qn qc (rG (sendOut g p)).cons ∧ Ext w w' := by
  cases hC : (fromIn g p && !has g.net p.to_.addr && !decide (p.to_.addr = g.out)) with
  | false =>
    have e : sendOut g p = none := by
      unfold sendOut goesOut
      rw [hC]; rfl
    rw [e]
    exact (impl_SendOut_not g p ta tn tc ka kn kc a n c w ht hk hs hC).mono fun _ _ ⟨h1, h2⟩ => ⟨none, 0, 0, none, 0, 0, none, 0, 0, h1, Ow.nils _, Ow.nils _, Ow.nils _, h2⟩
  | true =>
    have e : sendOut g p = send g p := by
      unfold sendOut goesOut
      rw [hC]; rfl
    rw [e]
    simp only [Bool.and_eq_true, Bool.not_eq_true', decide_eq_false_iff_not] at hC
    obtain ⟨⟨h1, h2⟩, h3⟩ := hC
    have hf := h1
    simp only [fromIn, Bool.and_eq_true] at hf
    obtain ⟨⟨v1, v2⟩, v3⟩ := hf
    have c1 := fun W x y z => impl_from g p ta tn tc ka kn kc a n c W x y z
    rw [h1] at c1
    replace c1 := Lib.hid c1
    have c2 := fun W => impl_has' g.net p.to_.addr W (validGate_iff.1 v1).net
    rw [h2] at c2
    replace c2 := Lib.hid c2
    have b3 : (p.to_.addr == g.out) = false := by simp [h3]
    have c3 := fun W x y z => impl_send_u g p ta tn tc ka kn kc a n c W x y z v1 v2 v3
    obtain ⟨r, hr⟩ : ∃ r, r = send g p := ⟨_, rfl⟩
    rw [← hr] at c3 ⊢
    replace c3 := Lib.hid c3
    clear hr e h1 h2 h3 v1 v2 v3
    have e2 : w.heap.size ≤ w.heap.size + 1 + 1 := by omega
    have e3 : w.heap.size ≤ w.heap.size + 1 + 1 + 1 := by omega
    go_enter Tryz.func16, Tryz.ntmps16
    go_wp2_with fail
    refine (c1.out _ (by exact ht.ext (by repeat (first | (with_reducible exact Ext.refl _) | (with_reducible assumption) | (with_reducible refine Ext.alloc ?_ _) | (with_reducible refine Ext.drewN ?_ _) | (with_reducible refine Ext.drew ?_) | (with_reducible refine Ext.setCell ?_ ?_ _; rotate_left; (simp only []; omega)) | (with_reducible refine Ext.trans ?_ (by assumption))))) (by exact hk.ext (by repeat (first | (with_reducible exact Ext.refl _) | (with_reducible assumption) | (with_reducible refine Ext.alloc ?_ _) | (with_reducible refine Ext.drewN ?_ _) | (with_reducible refine Ext.drew ?_) | (with_reducible refine Ext.setCell ?_ ?_ _; rotate_left; (simp only []; omega)) | (with_reducible refine Ext.trans ?_ (by assumption))))) (by exact hs.ext (by repeat (first | (with_reducible exact Ext.refl _) | (with_reducible assumption) | (with_reducible refine Ext.alloc ?_ _) | (with_reducible refine Ext.drewN ?_ _) | (with_reducible refine Ext.drew ?_) | (with_reducible refine Ext.setCell ?_ ?_ _; rotate_left; (simp only []; omega)) | (with_reducible refine Ext.trans ?_ (by assumption)))))).mono ?_
    rintro e w1 ⟨rfl, hx1⟩
    have hy1 := hx1.size
    (try simp at hy1)
    have eW1 := useE (fun (h : Ext _ w1) => ht.ext h) (by repeat (first | (with_reducible exact Ext.refl _) | (with_reducible assumption) | (with_reducible refine Ext.alloc ?_ _) | (with_reducible refine Ext.drewN ?_ _) | (with_reducible refine Ext.drew ?_) | (with_reducible refine Ext.setCell ?_ ?_ _; rotate_left; (simp only []; omega)) | (with_reducible refine Ext.trans ?_ (by assumption))))
    replace ht := ht.ext eW1
    replace hk := hk.ext eW1
    replace hs := hs.ext eW1
    have BG : Blk w1 w.heap.size 28 (#[.int .i64 g.net.base, .int .i64 g.net.bits, .int .i64 g.out, .slice ta tn tc, .slice ka kn kc, .int .i64 g.filter, .int .i64 g.hold, .int .i64 g.now]) := by refine Blk.ext ?_ hx1; exact (by repeat (first | (with_reducible assumption) | (with_reducible exact Blk.new _ _ _) | exact Blk.newAt _ _ _ (by simp) | (with_reducible refine Blk.alloc ?_ _) | (with_reducible refine Blk.drew ?_) | (with_reducible refine Blk.drewN ?_ _) | refine Blk.far ?_ (by simp only []; omega) _ | refine Blk.rext ?_ (by assumption) (by omega) | refine Blk.ext ?_ (by assumption)))
    have BP : Blk w1 (w.heap.size+1) 33 (#[.int .i64 p.kind, .int .i64 p.fr.addr, .int .i64 p.fr.port, .int .i64 p.to_.addr, .int .i64 p.to_.port, .slice a n c]) := by refine Blk.ext ?_ hx1; exact (by repeat (first | (with_reducible assumption) | (with_reducible exact Blk.new _ _ _) | exact Blk.newAt _ _ _ (by simp) | (with_reducible refine Blk.alloc ?_ _) | (with_reducible refine Blk.drew ?_) | (with_reducible refine Blk.drewN ?_ _) | refine Blk.far ?_ (by simp only []; omega) _ | refine Blk.rext ?_ (by assumption) (by omega) | refine Blk.ext ?_ (by assumption)))
    have BQ : Blk w1 (w.heap.size+2) 33 #[.int .i64 0, .int .i64 0, .int .i64 0, .int .i64 0, .int .i64 0, .slice none 0 0] := by refine Blk.ext ?_ hx1; exact (by repeat (first | (with_reducible assumption) | (with_reducible exact Blk.new _ _ _) | exact Blk.newAt _ _ _ (by simp) | (with_reducible refine Blk.alloc ?_ _) | (with_reducible refine Blk.drew ?_) | (with_reducible refine Blk.drewN ?_ _) | refine Blk.far ?_ (by simp only []; omega) _ | refine Blk.rext ?_ (by assumption) (by omega) | refine Blk.ext ?_ (by assumption)))
    have BR : Blk w1 (w.heap.size+3) 28 #[.int .i64 0, .int .i64 0, .int .i64 0, .slice none 0 0, .slice none 0 0, .int .i64 0, .int .i64 0, .int .i64 0] := by refine Blk.ext ?_ hx1; exact (by repeat (first | (with_reducible assumption) | (with_reducible exact Blk.new _ _ _) | exact Blk.newAt _ _ _ (by simp) | (with_reducible refine Blk.alloc ?_ _) | (with_reducible refine Blk.drew ?_) | (with_reducible refine Blk.drewN ?_ _) | refine Blk.far ?_ (by simp only []; omega) _ | refine Blk.rext ?_ (by assumption) (by omega) | refine Blk.ext ?_ (by assumption)))
    have cBG := BG.cells
    have fBG := BG.frozens
    have zBG := BG.lt
    have cBP := BP.cells
    have fBP := BP.frozens
    have zBP := BP.lt
    have cBQ := BQ.cells
    have fBQ := BQ.frozens
    have zBQ := BQ.lt
    have cBR := BR.cells
    have fBR := BR.frozens
    have zBR := BR.lt
    have XU : Ext w w1 := (by repeat (first | (with_reducible exact Ext.refl _) | (with_reducible assumption) | (with_reducible refine Ext.alloc ?_ _) | (with_reducible refine Ext.drewN ?_ _) | (with_reducible refine Ext.drew ?_) | (with_reducible refine Ext.setCell ?_ ?_ _; rotate_left; (simp only []; omega)) | (with_reducible refine Ext.trans ?_ (by assumption))))
    clear hx1
    go_wp2_with fail
    refine (c2.out _).mono ?_
    rintro e w2 ⟨rfl, hx2⟩
    have hy2 := hx2.size
    (try simp at hy2)
    have eW2 := useE (fun (h : Ext _ w2) => ht.ext h) (by repeat (first | (with_reducible exact Ext.refl _) | (with_reducible assumption) | (with_reducible refine Ext.alloc ?_ _) | (with_reducible refine Ext.drewN ?_ _) | (with_reducible refine Ext.drew ?_) | (with_reducible refine Ext.setCell ?_ ?_ _; rotate_left; (simp only []; omega)) | (with_reducible refine Ext.trans ?_ (by assumption))))
    replace ht := ht.ext eW2
    replace hk := hk.ext eW2
    replace hs := hs.ext eW2
    clear cBG fBG zBG
    replace BG := BG.ext eW2
    clear cBP fBP zBP
    replace BP := BP.ext eW2
    clear cBQ fBQ zBQ
    replace BQ := BQ.ext eW2
    clear cBR fBR zBR
    replace BR := BR.ext eW2
    replace XU := XU.ext eW2
    have cBG := BG.cells
    have fBG := BG.frozens
    have zBG := BG.lt
    have cBP := BP.cells
    have fBP := BP.frozens
    have zBP := BP.lt
    have cBQ := BQ.cells
    have fBQ := BQ.frozens
    have zBQ := BQ.lt
    have cBR := BR.cells
    have fBR := BR.frozens
    have zBR := BR.lt
    have X2 := XU
    clear hx2 XU
    go_wp2_with fail
    refine (c3.out _ (by exact ht.ext (by repeat (first | (with_reducible exact Ext.refl _) | (with_reducible assumption) | (with_reducible refine Ext.alloc ?_ _) | (with_reducible refine Ext.drewN ?_ _) | (with_reducible refine Ext.drew ?_) | (with_reducible refine Ext.setCell ?_ ?_ _; rotate_left; (simp only []; omega)) | (with_reducible refine Ext.trans ?_ (by assumption))))) (by exact hk.ext (by repeat (first | (with_reducible exact Ext.refl _) | (with_reducible assumption) | (with_reducible refine Ext.alloc ?_ _) | (with_reducible refine Ext.drewN ?_ _) | (with_reducible refine Ext.drew ?_) | (with_reducible refine Ext.setCell ?_ ?_ _; rotate_left; (simp only []; omega)) | (with_reducible refine Ext.trans ?_ (by assumption))))) (by exact hs.ext (by repeat (first | (with_reducible exact Ext.refl _) | (with_reducible assumption) | (with_reducible refine Ext.alloc ?_ _) | (with_reducible refine Ext.drewN ?_ _) | (with_reducible refine Ext.drew ?_) | (with_reducible refine Ext.setCell ?_ ?_ _; rotate_left; (simp only []; omega)) | (with_reducible refine Ext.trans ?_ (by assumption)))))).mono ?_
    rintro e w3 ⟨A, n', C, sa, sn, sc, qa, qn, qc, rfl, O1, O2, O3, hx3⟩
    have hy3 := hx3.size
    (try simp at hy3)
    have eW3 := useE (fun (h : Ext _ w3) => ht.ext h) (by repeat (first | (with_reducible exact Ext.refl _) | (with_reducible assumption) | (with_reducible refine Ext.alloc ?_ _) | (with_reducible refine Ext.drewN ?_ _) | (with_reducible refine Ext.drew ?_) | (with_reducible refine Ext.setCell ?_ ?_ _; rotate_left; (simp only []; omega)) | (with_reducible refine Ext.trans ?_ (by assumption))))
    replace ht := ht.ext eW3
    replace hk := hk.ext eW3
    replace hs := hs.ext eW3
    clear cBG fBG zBG
    replace BG := BG.ext eW3
    clear cBP fBP zBP
    replace BP := BP.ext eW3
    clear cBQ fBQ zBQ
    replace BQ := BQ.ext eW3
    clear cBR fBR zBR
    replace BR := BR.ext eW3
    have cBG := BG.cells
    have fBG := BG.frozens
    have zBG := BG.lt
    have cBP := BP.cells
    have fBP := BP.frozens
    have zBP := BP.lt
    have cBQ := BQ.cells
    have fBQ := BQ.frozens
    have zBQ := BQ.lt
    have cBR := BR.cells
    have fBR := BR.frozens
    have zBR := BR.lt
    have X3 : Ext w w3 := X2.trans (show Ext w2 w3 from (by repeat (first | (with_reducible exact Ext.refl _) | (with_reducible assumption) | (with_reducible refine Ext.alloc ?_ _) | (with_reducible refine Ext.drewN ?_ _) | (with_reducible refine Ext.drew ?_) | (with_reducible refine Ext.setCell ?_ ?_ _; rotate_left; (simp only []; omega)) | (with_reducible refine Ext.trans ?_ (by assumption)))))
    have l1 := O1.lt
    have l2 := O2.lt
    have l3 := O3.lt
    have hz : w.heap.size + 4 ≤ w2.heap.size := by omega
    have Y1 := Lib.hid (O1.rebase (b' := w.heap.size) (by (try simp); (try omega)))
    have Y2 := Lib.hid (O2.rebase (b' := w.heap.size) (by (try simp); (try omega)))
    have Y3 := Lib.hid (O3.rebase (b' := w.heap.size) (by (try simp); (try omega)))
    have n12 : ∀ x, A = some x → x.block ≠ w.heap.size + 1 + 1 := fun x e => by have := (l1 x e).1; (try simp at this); omega
    have n13 : ∀ x, A = some x → x.block ≠ w.heap.size + 1 + 1 + 1 := fun x e => by have := (l1 x e).1; (try simp at this); omega
    have n22 : ∀ x, sa = some x → x.block ≠ w.heap.size + 1 + 1 := fun x e => by have := (l2 x e).1; (try simp at this); omega
    have n23 : ∀ x, sa = some x → x.block ≠ w.heap.size + 1 + 1 + 1 := fun x e => by have := (l2 x e).1; (try simp at this); omega
    have n32 : ∀ x, qa = some x → x.block ≠ w.heap.size + 1 + 1 := fun x e => by have := (l3 x e).1; (try simp at this); omega
    have n33 : ∀ x, qa = some x → x.block ≠ w.heap.size + 1 + 1 + 1 := fun x e => by have := (l3 x e).1; (try simp at this); omega
    clear hx3 O1 O2 O3 l1 l2 l3
    go_wp2
    refine' bodyPost_ret (v := _) ?_ rfl ?_
    rotate_left
    · (simp only [results, Tryz.results16]
       go_simp
       rfl)
    refine ⟨A, n', C, sa, sn, sc, qa, qn, qc, rfl, ?_⟩
    clear cBG fBG cBP fBP cBQ fBQ cBR fBR
    refine (fun (h : Two (w.heap.size + 1 + 1) (w.heap.size + 1 + 1 + 1) w3 _) => ⟨h.ow Y1.out n12 n13, h.ow Y2.out n22 n23, h.ow Y3.out n32 n33, h.ext X3 e2 e3⟩) ?_
    clear e2 e3
    generalize w.heap.size + 1 + 1 + 1 = b2
    generalize w.heap.size + 1 + 1 = b1
    repeat (first | (with_reducible exact Two.refl _ _ _) | (with_reducible refine Two.drew ?_) | (with_reducible refine Two.alloc ?_ _) | (with_reducible refine Two.set1 ?_ _ _) | (with_reducible refine Two.set2 ?_ _ _))
set_option maxHeartbeats 2000000 in
theorem impl_PassBetween_not (g : GateD) (p : PktD) (ta : Option Addr) (tn tc : Nat) (ka : Option Addr) (kn kc : Nat) (a : Option Addr) (n c : Nat) (w : World) (ht : Sl encM 4 w ta tn tc g.table) (hk : Sl encC 3 w ka kn kc g.cons) (hs : Sl encI 1 w a n c p.data) (hC : (fromIn g p && decide (p.to_.addr = g.out)) = false) :
    Calls Tryz.prog 23 #[.agg #[.int .i64 g.net.base, .int .i64 g.net.bits, .int .i64 g.out, .slice ta tn tc, .slice ka kn kc, .int .i64 g.filter, .int .i64 g.hold, .int .i64 g.now], .agg #[.int .i64 p.kind, .int .i64 p.fr.addr, .int .i64 p.fr.port, .int .i64 p.to_.addr, .int .i64 p.to_.port, .slice a n c]] w fun x w' => x = .returned (.tuple #[.agg #[.int .i64 0, .int .i64 0, .int .i64 0, .int .i64 0, .int .i64 0, .slice none 0 0], .agg #[.int .i64 0, .int .i64 0, .int .i64 0, .slice none 0 0, .slice none 0 0, .int .i64 0, .int .i64 0, .int .i64 0], .bool false]) ∧ Ext w w' := by
  go_enter Tryz.func23, Tryz.ntmps23
  go_wp2_with (go_at_call 56; refine (impl_from g p ta tn tc ka kn kc a n c _ (by exact ht.ext (by repeat (first | (with_reducible exact Ext.refl _) | (with_reducible assumption) | (with_reducible refine Ext.alloc ?_ _) | (with_reducible refine Ext.drewN ?_ _) | (with_reducible refine Ext.drew ?_) | (with_reducible refine Ext.setCell ?_ ?_ _; rotate_left; (simp only []; omega)) | (with_reducible refine Ext.trans ?_ (by assumption))))) (by exact hk.ext (by repeat (first | (with_reducible exact Ext.refl _) | (with_reducible assumption) | (with_reducible refine Ext.alloc ?_ _) | (with_reducible refine Ext.drewN ?_ _) | (with_reducible refine Ext.drew ?_) | (with_reducible refine Ext.setCell ?_ ?_ _; rotate_left; (simp only []; omega)) | (with_reducible refine Ext.trans ?_ (by assumption))))) (by exact hs.ext (by repeat (first | (with_reducible exact Ext.refl _) | (with_reducible assumption) | (with_reducible refine Ext.alloc ?_ _) | (with_reducible refine Ext.drewN ?_ _) | (with_reducible refine Ext.drew ?_) | (with_reducible refine Ext.setCell ?_ ?_ _; rotate_left; (simp only []; omega)) | (with_reducible refine Ext.trans ?_ (by assumption)))))).mono ?_; rintro e w1 ⟨rfl, hx⟩; have hc := hx.cells; have hf := hx.frozens; have hy := hx.size; (try simp at hy); have hz : w.heap.size < w1.heap.size ∧ w.heap.size + 1 < w1.heap.size ∧ w.heap.size + 2 < w1.heap.size ∧ w.heap.size + 3 < w1.heap.size := (by omega))
  all_goals (try (exfalso; simp_all; done))
  all_goals
    refine' bodyPost_ret (v := _) ?_ rfl ?_
    rotate_left
    · (simp only [results, Tryz.results23]
       go_simp
       rfl)
    exact ⟨rfl, (by repeat (first | (with_reducible exact Ext.refl _) | (with_reducible assumption) | (with_reducible refine Ext.alloc ?_ _) | (with_reducible refine Ext.drewN ?_ _) | (with_reducible refine Ext.drew ?_) | (with_reducible refine Ext.setCell ?_ ?_ _; rotate_left; (simp only []; omega)) | (with_reducible refine Ext.trans ?_ (by assumption))))⟩
set_option maxHeartbeats 2000000 in
/-- The first package's PassBetween. -/
theorem impl_PassBetween (g : GateD) (p : PktD) (ta : Option Addr) (tn tc : Nat) (ka : Option Addr) (kn kc : Nat) (a : Option Addr) (n c : Nat) (w : World) (ht : Sl encM 4 w ta tn tc g.table) (hk : Sl encC 3 w ka kn kc g.cons) (hs : Sl encI 1 w a n c p.data) :
    Calls Tryz.prog 23 #[.agg #[.int .i64 g.net.base, .int .i64 g.net.bits, .int .i64 g.out, .slice ta tn tc, .slice ka kn kc, .int .i64 g.filter, .int .i64 g.hold, .int .i64 g.now], .agg #[.int .i64 p.kind, .int .i64 p.fr.addr, .int .i64 p.fr.port, .int .i64 p.to_.addr, .int .i64 p.to_.port, .slice a n c]] w fun e w' => ∃ A n C sa sn sc qa qn qc, e = .returned (.tuple #[.agg #[.int .i64 (rP (passBetween g p)).kind, .int .i64 (rP (passBetween g p)).fr.addr, .int .i64 (rP (passBetween g p)).fr.port, .int .i64 (rP (passBetween g p)).to_.addr, .int .i64 (rP (passBetween g p)).to_.port, .slice A n C], .agg #[.int .i64 (rG (passBetween g p)).net.base, .int .i64 (rG (passBetween g p)).net.bits, .int .i64 (rG (passBetween g p)).out, .slice sa sn sc, .slice qa qn qc, .int .i64 (rG (passBetween g p)).filter, .int .i64 (rG (passBetween g p)).hold, .int .i64 (rG (passBetween g p)).now], .bool (passBetween g p).isSome]) ∧
          Ow 3 encI 1 w.heap.size w' A n C (rP (passBetween g p)).data ∧ Ow 86 encM 4 w.heap.size w' sa sn sc (rG (passBetween g p)).table ∧ Ow 99 encC 3 w.heap.size w' qa qn qc (rG (passBetween g p)).cons ∧ Ext w w' := by
  cases hC : (fromIn g p && decide (p.to_.addr = g.out)) with
  | false =>
    have e : passBetween g p = none := by
      unfold passBetween between
      rw [hC]; rfl
    rw [e]
    exact (impl_PassBetween_not g p ta tn tc ka kn kc a n c w ht hk hs hC).mono fun _ _ ⟨h1, h2⟩ => ⟨none, 0, 0, none, 0, 0, none, 0, 0, h1, Ow.nils _, Ow.nils _, Ow.nils _, h2⟩
  | true =>
    have hC2 := hC
    simp only [Bool.and_eq_true, decide_eq_true_eq] at hC2
    obtain ⟨h1, h4⟩ := hC2
    have hf := h1
    simp only [fromIn, Bool.and_eq_true] at hf
    obtain ⟨⟨v1, v2⟩, v3⟩ := hf
    have c1 := fun W x y z => impl_from g p ta tn tc ka kn kc a n c W x y z
    rw [h1] at c1
    replace c1 := Lib.hid c1
    have b4 : (p.to_.addr != g.out) = false := by simp [h4]
    have c4 := fun W x y z => impl_send_u g p ta tn tc ka kn kc a n c W x y z v1 v2 v3
    have e2 : w.heap.size ≤ w.heap.size + 1 + 1 := by omega
    have e3 : w.heap.size ≤ w.heap.size + 1 + 1 + 1 := by omega
    cases hS : send g p with
    | none =>
      have e : passBetween g p = none := by
        unfold passBetween between
        rw [hC, hS]; rfl
      rw [e]
      rw [hS] at c4
      replace c4 := Lib.hid c4
      clear e hC hS h1 h4 v1 v2 v3
      go_enter Tryz.func23, Tryz.ntmps23
      go_wp2_with fail
      refine (c1.out _ (by exact ht.ext (by repeat (first | (with_reducible exact Ext.refl _) | (with_reducible assumption) | (with_reducible refine Ext.alloc ?_ _) | (with_reducible refine Ext.drewN ?_ _) | (with_reducible refine Ext.drew ?_) | (with_reducible refine Ext.setCell ?_ ?_ _; rotate_left; (simp only []; omega)) | (with_reducible refine Ext.trans ?_ (by assumption))))) (by exact hk.ext (by repeat (first | (with_reducible exact Ext.refl _) | (with_reducible assumption) | (with_reducible refine Ext.alloc ?_ _) | (with_reducible refine Ext.drewN ?_ _) | (with_reducible refine Ext.drew ?_) | (with_reducible refine Ext.setCell ?_ ?_ _; rotate_left; (simp only []; omega)) | (with_reducible refine Ext.trans ?_ (by assumption))))) (by exact hs.ext (by repeat (first | (with_reducible exact Ext.refl _) | (with_reducible assumption) | (with_reducible refine Ext.alloc ?_ _) | (with_reducible refine Ext.drewN ?_ _) | (with_reducible refine Ext.drew ?_) | (with_reducible refine Ext.setCell ?_ ?_ _; rotate_left; (simp only []; omega)) | (with_reducible refine Ext.trans ?_ (by assumption)))))).mono ?_
      rintro e w1 ⟨rfl, hx1⟩
      have hy1 := hx1.size
      (try simp at hy1)
      have eW1 := useE (fun (h : Ext _ w1) => ht.ext h) (by repeat (first | (with_reducible exact Ext.refl _) | (with_reducible assumption) | (with_reducible refine Ext.alloc ?_ _) | (with_reducible refine Ext.drewN ?_ _) | (with_reducible refine Ext.drew ?_) | (with_reducible refine Ext.setCell ?_ ?_ _; rotate_left; (simp only []; omega)) | (with_reducible refine Ext.trans ?_ (by assumption))))
      replace ht := ht.ext eW1
      replace hk := hk.ext eW1
      replace hs := hs.ext eW1
      have BG : Blk w1 w.heap.size 28 (#[.int .i64 g.net.base, .int .i64 g.net.bits, .int .i64 g.out, .slice ta tn tc, .slice ka kn kc, .int .i64 g.filter, .int .i64 g.hold, .int .i64 g.now]) := by refine Blk.ext ?_ hx1; exact (by repeat (first | (with_reducible assumption) | (with_reducible exact Blk.new _ _ _) | exact Blk.newAt _ _ _ (by simp) | (with_reducible refine Blk.alloc ?_ _) | (with_reducible refine Blk.drew ?_) | (with_reducible refine Blk.drewN ?_ _) | refine Blk.far ?_ (by simp only []; omega) _ | refine Blk.rext ?_ (by assumption) (by omega) | refine Blk.ext ?_ (by assumption)))
      have BP : Blk w1 (w.heap.size+1) 33 (#[.int .i64 p.kind, .int .i64 p.fr.addr, .int .i64 p.fr.port, .int .i64 p.to_.addr, .int .i64 p.to_.port, .slice a n c]) := by refine Blk.ext ?_ hx1; exact (by repeat (first | (with_reducible assumption) | (with_reducible exact Blk.new _ _ _) | exact Blk.newAt _ _ _ (by simp) | (with_reducible refine Blk.alloc ?_ _) | (with_reducible refine Blk.drew ?_) | (with_reducible refine Blk.drewN ?_ _) | refine Blk.far ?_ (by simp only []; omega) _ | refine Blk.rext ?_ (by assumption) (by omega) | refine Blk.ext ?_ (by assumption)))
      have BQ : Blk w1 (w.heap.size+2) 33 #[.int .i64 0, .int .i64 0, .int .i64 0, .int .i64 0, .int .i64 0, .slice none 0 0] := by refine Blk.ext ?_ hx1; exact (by repeat (first | (with_reducible assumption) | (with_reducible exact Blk.new _ _ _) | exact Blk.newAt _ _ _ (by simp) | (with_reducible refine Blk.alloc ?_ _) | (with_reducible refine Blk.drew ?_) | (with_reducible refine Blk.drewN ?_ _) | refine Blk.far ?_ (by simp only []; omega) _ | refine Blk.rext ?_ (by assumption) (by omega) | refine Blk.ext ?_ (by assumption)))
      have BR : Blk w1 (w.heap.size+3) 28 #[.int .i64 0, .int .i64 0, .int .i64 0, .slice none 0 0, .slice none 0 0, .int .i64 0, .int .i64 0, .int .i64 0] := by refine Blk.ext ?_ hx1; exact (by repeat (first | (with_reducible assumption) | (with_reducible exact Blk.new _ _ _) | exact Blk.newAt _ _ _ (by simp) | (with_reducible refine Blk.alloc ?_ _) | (with_reducible refine Blk.drew ?_) | (with_reducible refine Blk.drewN ?_ _) | refine Blk.far ?_ (by simp only []; omega) _ | refine Blk.rext ?_ (by assumption) (by omega) | refine Blk.ext ?_ (by assumption)))
      have cBG := BG.cells
      have fBG := BG.frozens
      have zBG := BG.lt
      have cBP := BP.cells
      have fBP := BP.frozens
      have zBP := BP.lt
      have cBQ := BQ.cells
      have fBQ := BQ.frozens
      have zBQ := BQ.lt
      have cBR := BR.cells
      have fBR := BR.frozens
      have zBR := BR.lt
      have XU : Ext w w1 := (by repeat (first | (with_reducible exact Ext.refl _) | (with_reducible assumption) | (with_reducible refine Ext.alloc ?_ _) | (with_reducible refine Ext.drewN ?_ _) | (with_reducible refine Ext.drew ?_) | (with_reducible refine Ext.setCell ?_ ?_ _; rotate_left; (simp only []; omega)) | (with_reducible refine Ext.trans ?_ (by assumption))))
      clear hx1
      go_wp2_with fail
      refine (c4.out _ (by exact ht.ext (by repeat (first | (with_reducible exact Ext.refl _) | (with_reducible assumption) | (with_reducible refine Ext.alloc ?_ _) | (with_reducible refine Ext.drewN ?_ _) | (with_reducible refine Ext.drew ?_) | (with_reducible refine Ext.setCell ?_ ?_ _; rotate_left; (simp only []; omega)) | (with_reducible refine Ext.trans ?_ (by assumption))))) (by exact hk.ext (by repeat (first | (with_reducible exact Ext.refl _) | (with_reducible assumption) | (with_reducible refine Ext.alloc ?_ _) | (with_reducible refine Ext.drewN ?_ _) | (with_reducible refine Ext.drew ?_) | (with_reducible refine Ext.setCell ?_ ?_ _; rotate_left; (simp only []; omega)) | (with_reducible refine Ext.trans ?_ (by assumption))))) (by exact hs.ext (by repeat (first | (with_reducible exact Ext.refl _) | (with_reducible assumption) | (with_reducible refine Ext.alloc ?_ _) | (with_reducible refine Ext.drewN ?_ _) | (with_reducible refine Ext.drew ?_) | (with_reducible refine Ext.setCell ?_ ?_ _; rotate_left; (simp only []; omega)) | (with_reducible refine Ext.trans ?_ (by assumption)))))).mono ?_
      rintro e w4 ⟨_, _, _, _, _, _, _, _, _, rfl, _, _, _, hx4⟩
      have hy4 := hx4.size
      (try simp at hy4)
      have eW4 := useE (fun (h : Ext _ w4) => ht.ext h) (by repeat (first | (with_reducible exact Ext.refl _) | (with_reducible assumption) | (with_reducible refine Ext.alloc ?_ _) | (with_reducible refine Ext.drewN ?_ _) | (with_reducible refine Ext.drew ?_) | (with_reducible refine Ext.setCell ?_ ?_ _; rotate_left; (simp only []; omega)) | (with_reducible refine Ext.trans ?_ (by assumption))))
      replace ht := ht.ext eW4
      replace hk := hk.ext eW4
      replace hs := hs.ext eW4
      clear cBG fBG zBG
      replace BG := BG.ext eW4
      clear cBP fBP zBP
      replace BP := BP.ext eW4
      clear cBQ fBQ zBQ
      replace BQ := BQ.ext eW4
      clear cBR fBR zBR
      replace BR := BR.ext eW4
      replace XU := XU.ext eW4
      have cBG := BG.cells
      have fBG := BG.frozens
      have zBG := BG.lt
      have cBP := BP.cells
      have fBP := BP.frozens
      have zBP := BP.lt
      have cBQ := BQ.cells
      have fBQ := BQ.frozens
      have zBQ := BQ.lt
      have cBR := BR.cells
      have fBR := BR.frozens
      have zBR := BR.lt
      have X4 : Ext w w4 := XU
      clear hx4 XU
      go_wp2
      refine' bodyPost_ret (v := _) ?_ rfl ?_
      rotate_left
      · (simp only [results, Tryz.results23]
         go_simp
         rfl)
      refine ⟨none, 0, 0, none, 0, 0, none, 0, 0, rfl, Ow.nils _, Ow.nils _, Ow.nils _, ?_⟩
      clear cBG fBG cBP fBP cBQ fBQ cBR fBR
      refine (fun (h : Two (w.heap.size + 1 + 1) (w.heap.size + 1 + 1 + 1) w4 _) => h.ext X4 e2 e3) ?_
      clear e2 e3
      generalize w.heap.size + 1 + 1 + 1 = b2
      generalize w.heap.size + 1 + 1 = b1
      repeat (first | (with_reducible exact Two.refl _ _ _) | (with_reducible refine Two.drew ?_) | (with_reducible refine Two.alloc ?_ _) | (with_reducible refine Two.set1 ?_ _ _) | (with_reducible refine Two.set2 ?_ _ _))
    | some s =>
      obtain ⟨q1, h1'⟩ := s
      have S := send_ok (validGate_iff.1 v1) v2 v3 hS
      have e : passBetween g p = receiveIn h1' q1 := by
        rw [receiveIn_of S.valid S.validq (by rw [S.same, show q1.to_ = p.to_ by rw [S.pkt]]; exact h4) (by
          rw [S.same, show q1.fr.addr = g.out by rw [S.pkt]]
          exact (validGate_iff.1 v1).nin)]
        unfold passBetween between
        rw [hC, hS]; rfl
      rw [e]
      rw [hS] at c4
      replace c4 := Lib.hid c4
      clear e hC hS h1 h4 S v1 v2 v3
      obtain ⟨r, hr⟩ : ∃ r, r = receiveIn h1' q1 := ⟨_, rfl⟩
      have c5 := fun sa sn sc qa qn qc A n' C W x y z => impl_ReceiveIn h1' q1 sa sn sc qa qn qc A n' C W x y z
      rw [← hr] at c5 ⊢
      replace c5 := Lib.hid c5
      clear hr
      go_enter Tryz.func23, Tryz.ntmps23
      go_wp2_with fail
      refine (c1.out _ (by exact ht.ext (by repeat (first | (with_reducible exact Ext.refl _) | (with_reducible assumption) | (with_reducible refine Ext.alloc ?_ _) | (with_reducible refine Ext.drewN ?_ _) | (with_reducible refine Ext.drew ?_) | (with_reducible refine Ext.setCell ?_ ?_ _; rotate_left; (simp only []; omega)) | (with_reducible refine Ext.trans ?_ (by assumption))))) (by exact hk.ext (by repeat (first | (with_reducible exact Ext.refl _) | (with_reducible assumption) | (with_reducible refine Ext.alloc ?_ _) | (with_reducible refine Ext.drewN ?_ _) | (with_reducible refine Ext.drew ?_) | (with_reducible refine Ext.setCell ?_ ?_ _; rotate_left; (simp only []; omega)) | (with_reducible refine Ext.trans ?_ (by assumption))))) (by exact hs.ext (by repeat (first | (with_reducible exact Ext.refl _) | (with_reducible assumption) | (with_reducible refine Ext.alloc ?_ _) | (with_reducible refine Ext.drewN ?_ _) | (with_reducible refine Ext.drew ?_) | (with_reducible refine Ext.setCell ?_ ?_ _; rotate_left; (simp only []; omega)) | (with_reducible refine Ext.trans ?_ (by assumption)))))).mono ?_
      rintro e w1 ⟨rfl, hx1⟩
      have hy1 := hx1.size
      (try simp at hy1)
      have eW1 := useE (fun (h : Ext _ w1) => ht.ext h) (by repeat (first | (with_reducible exact Ext.refl _) | (with_reducible assumption) | (with_reducible refine Ext.alloc ?_ _) | (with_reducible refine Ext.drewN ?_ _) | (with_reducible refine Ext.drew ?_) | (with_reducible refine Ext.setCell ?_ ?_ _; rotate_left; (simp only []; omega)) | (with_reducible refine Ext.trans ?_ (by assumption))))
      replace ht := ht.ext eW1
      replace hk := hk.ext eW1
      replace hs := hs.ext eW1
      have BG : Blk w1 w.heap.size 28 (#[.int .i64 g.net.base, .int .i64 g.net.bits, .int .i64 g.out, .slice ta tn tc, .slice ka kn kc, .int .i64 g.filter, .int .i64 g.hold, .int .i64 g.now]) := by refine Blk.ext ?_ hx1; exact (by repeat (first | (with_reducible assumption) | (with_reducible exact Blk.new _ _ _) | exact Blk.newAt _ _ _ (by simp) | (with_reducible refine Blk.alloc ?_ _) | (with_reducible refine Blk.drew ?_) | (with_reducible refine Blk.drewN ?_ _) | refine Blk.far ?_ (by simp only []; omega) _ | refine Blk.rext ?_ (by assumption) (by omega) | refine Blk.ext ?_ (by assumption)))
      have BP : Blk w1 (w.heap.size+1) 33 (#[.int .i64 p.kind, .int .i64 p.fr.addr, .int .i64 p.fr.port, .int .i64 p.to_.addr, .int .i64 p.to_.port, .slice a n c]) := by refine Blk.ext ?_ hx1; exact (by repeat (first | (with_reducible assumption) | (with_reducible exact Blk.new _ _ _) | exact Blk.newAt _ _ _ (by simp) | (with_reducible refine Blk.alloc ?_ _) | (with_reducible refine Blk.drew ?_) | (with_reducible refine Blk.drewN ?_ _) | refine Blk.far ?_ (by simp only []; omega) _ | refine Blk.rext ?_ (by assumption) (by omega) | refine Blk.ext ?_ (by assumption)))
      have BQ : Blk w1 (w.heap.size+2) 33 #[.int .i64 0, .int .i64 0, .int .i64 0, .int .i64 0, .int .i64 0, .slice none 0 0] := by refine Blk.ext ?_ hx1; exact (by repeat (first | (with_reducible assumption) | (with_reducible exact Blk.new _ _ _) | exact Blk.newAt _ _ _ (by simp) | (with_reducible refine Blk.alloc ?_ _) | (with_reducible refine Blk.drew ?_) | (with_reducible refine Blk.drewN ?_ _) | refine Blk.far ?_ (by simp only []; omega) _ | refine Blk.rext ?_ (by assumption) (by omega) | refine Blk.ext ?_ (by assumption)))
      have BR : Blk w1 (w.heap.size+3) 28 #[.int .i64 0, .int .i64 0, .int .i64 0, .slice none 0 0, .slice none 0 0, .int .i64 0, .int .i64 0, .int .i64 0] := by refine Blk.ext ?_ hx1; exact (by repeat (first | (with_reducible assumption) | (with_reducible exact Blk.new _ _ _) | exact Blk.newAt _ _ _ (by simp) | (with_reducible refine Blk.alloc ?_ _) | (with_reducible refine Blk.drew ?_) | (with_reducible refine Blk.drewN ?_ _) | refine Blk.far ?_ (by simp only []; omega) _ | refine Blk.rext ?_ (by assumption) (by omega) | refine Blk.ext ?_ (by assumption)))
      have cBG := BG.cells
      have fBG := BG.frozens
      have zBG := BG.lt
      have cBP := BP.cells
      have fBP := BP.frozens
      have zBP := BP.lt
      have cBQ := BQ.cells
      have fBQ := BQ.frozens
      have zBQ := BQ.lt
      have cBR := BR.cells
      have fBR := BR.frozens
      have zBR := BR.lt
      have XU : Ext w w1 := (by repeat (first | (with_reducible exact Ext.refl _) | (with_reducible assumption) | (with_reducible refine Ext.alloc ?_ _) | (with_reducible refine Ext.drewN ?_ _) | (with_reducible refine Ext.drew ?_) | (with_reducible refine Ext.setCell ?_ ?_ _; rotate_left; (simp only []; omega)) | (with_reducible refine Ext.trans ?_ (by assumption))))
      clear hx1
      go_wp2_with fail
      refine (c4.out _ (by exact ht.ext (by repeat (first | (with_reducible exact Ext.refl _) | (with_reducible assumption) | (with_reducible refine Ext.alloc ?_ _) | (with_reducible refine Ext.drewN ?_ _) | (with_reducible refine Ext.drew ?_) | (with_reducible refine Ext.setCell ?_ ?_ _; rotate_left; (simp only []; omega)) | (with_reducible refine Ext.trans ?_ (by assumption))))) (by exact hk.ext (by repeat (first | (with_reducible exact Ext.refl _) | (with_reducible assumption) | (with_reducible refine Ext.alloc ?_ _) | (with_reducible refine Ext.drewN ?_ _) | (with_reducible refine Ext.drew ?_) | (with_reducible refine Ext.setCell ?_ ?_ _; rotate_left; (simp only []; omega)) | (with_reducible refine Ext.trans ?_ (by assumption))))) (by exact hs.ext (by repeat (first | (with_reducible exact Ext.refl _) | (with_reducible assumption) | (with_reducible refine Ext.alloc ?_ _) | (with_reducible refine Ext.drewN ?_ _) | (with_reducible refine Ext.drew ?_) | (with_reducible refine Ext.setCell ?_ ?_ _; rotate_left; (simp only []; omega)) | (with_reducible refine Ext.trans ?_ (by assumption)))))).mono ?_
      rintro e w4 ⟨A4, n4, C4, ta4, tn4, tc4, ka4, kn4, kc4, rfl, P1, P2, P3, hx4⟩
      have hy4 := hx4.size
      (try simp at hy4)
      have eW4 := useE (fun (h : Ext _ w4) => ht.ext h) (by repeat (first | (with_reducible exact Ext.refl _) | (with_reducible assumption) | (with_reducible refine Ext.alloc ?_ _) | (with_reducible refine Ext.drewN ?_ _) | (with_reducible refine Ext.drew ?_) | (with_reducible refine Ext.setCell ?_ ?_ _; rotate_left; (simp only []; omega)) | (with_reducible refine Ext.trans ?_ (by assumption))))
      replace ht := ht.ext eW4
      replace hk := hk.ext eW4
      replace hs := hs.ext eW4
      clear cBG fBG zBG
      replace BG := BG.ext eW4
      clear cBP fBP zBP
      replace BP := BP.ext eW4
      clear cBQ fBQ zBQ
      replace BQ := BQ.ext eW4
      clear cBR fBR zBR
      replace BR := BR.ext eW4
      replace XU := XU.ext eW4
      have cBG := BG.cells
      have fBG := BG.frozens
      have zBG := BG.lt
      have cBP := BP.cells
      have fBP := BP.frozens
      have zBP := BP.lt
      have cBQ := BQ.cells
      have fBQ := BQ.frozens
      have zBQ := BQ.lt
      have cBR := BR.cells
      have fBR := BR.frozens
      have zBR := BR.lt
      have X4 : Ext w w4 := XU
      clear hx4 XU ht hk hs
      go_wp2_with fail
      refine (c5.out ta4 tn4 tc4 ka4 kn4 kc4 A4 n4 C4 _ (by exact (P2.sl encM_len).ext (by repeat (first | (with_reducible exact Ext.refl _) | (with_reducible assumption) | (with_reducible refine Ext.alloc ?_ _) | (with_reducible refine Ext.drewN ?_ _) | (with_reducible refine Ext.drew ?_) | (with_reducible refine Ext.setCell ?_ ?_ _; rotate_left; (simp only []; omega)) | (with_reducible refine Ext.trans ?_ (by assumption))))) (by exact (P3.sl encC_len).ext (by repeat (first | (with_reducible exact Ext.refl _) | (with_reducible assumption) | (with_reducible refine Ext.alloc ?_ _) | (with_reducible refine Ext.drewN ?_ _) | (with_reducible refine Ext.drew ?_) | (with_reducible refine Ext.setCell ?_ ?_ _; rotate_left; (simp only []; omega)) | (with_reducible refine Ext.trans ?_ (by assumption))))) (by exact (P1.sl encI_len).ext (by repeat (first | (with_reducible exact Ext.refl _) | (with_reducible assumption) | (with_reducible refine Ext.alloc ?_ _) | (with_reducible refine Ext.drewN ?_ _) | (with_reducible refine Ext.drew ?_) | (with_reducible refine Ext.setCell ?_ ?_ _; rotate_left; (simp only []; omega)) | (with_reducible refine Ext.trans ?_ (by assumption)))))).mono ?_
      rintro e w5 ⟨A, n', C, sa, sn, sc, qa, qn, qc, rfl, O1, O2, O3, hx5⟩
      have hy5 := hx5.size
      (try simp at hy5)
      have eW5 := useE (fun (h : Ext _ w5) => BG.ext h) (by repeat (first | (with_reducible exact Ext.refl _) | (with_reducible assumption) | (with_reducible refine Ext.alloc ?_ _) | (with_reducible refine Ext.drewN ?_ _) | (with_reducible refine Ext.drew ?_) | (with_reducible refine Ext.setCell ?_ ?_ _; rotate_left; (simp only []; omega)) | (with_reducible refine Ext.trans ?_ (by assumption))))
      clear cBG fBG zBG
      replace BG := BG.ext eW5
      clear cBP fBP zBP
      replace BP := BP.ext eW5
      clear cBQ fBQ zBQ
      replace BQ := BQ.ext eW5
      clear cBR fBR zBR
      replace BR := BR.ext eW5
      have cBG := BG.cells
      have fBG := BG.frozens
      have zBG := BG.lt
      have cBP := BP.cells
      have fBP := BP.frozens
      have zBP := BP.lt
      have cBQ := BQ.cells
      have fBQ := BQ.frozens
      have zBQ := BQ.lt
      have cBR := BR.cells
      have fBR := BR.frozens
      have zBR := BR.lt
      have X5 : Ext w w5 := X4.trans (show Ext w4 w5 from (by repeat (first | (with_reducible exact Ext.refl _) | (with_reducible assumption) | (with_reducible refine Ext.alloc ?_ _) | (with_reducible refine Ext.drewN ?_ _) | (with_reducible refine Ext.drew ?_) | (with_reducible refine Ext.setCell ?_ ?_ _; rotate_left; (simp only []; omega)) | (with_reducible refine Ext.trans ?_ (by assumption)))))
      have l1 := O1.lt
      have l2 := O2.lt
      have l3 := O3.lt
      have hz : w.heap.size + 4 ≤ w4.heap.size := by omega
      have Y1 := Lib.hid (O1.rebase (b' := w.heap.size) (by (try simp); (try omega)))
      have Y2 := Lib.hid (O2.rebase (b' := w.heap.size) (by (try simp); (try omega)))
      have Y3 := Lib.hid (O3.rebase (b' := w.heap.size) (by (try simp); (try omega)))
      have n12 : ∀ x, A = some x → x.block ≠ w.heap.size + 1 + 1 := fun x e => by have := (l1 x e).1; (try simp at this); omega
      have n13 : ∀ x, A = some x → x.block ≠ w.heap.size + 1 + 1 + 1 := fun x e => by have := (l1 x e).1; (try simp at this); omega
      have n22 : ∀ x, sa = some x → x.block ≠ w.heap.size + 1 + 1 := fun x e => by have := (l2 x e).1; (try simp at this); omega
      have n23 : ∀ x, sa = some x → x.block ≠ w.heap.size + 1 + 1 + 1 := fun x e => by have := (l2 x e).1; (try simp at this); omega
      have n32 : ∀ x, qa = some x → x.block ≠ w.heap.size + 1 + 1 := fun x e => by have := (l3 x e).1; (try simp at this); omega
      have n33 : ∀ x, qa = some x → x.block ≠ w.heap.size + 1 + 1 + 1 := fun x e => by have := (l3 x e).1; (try simp at this); omega
      clear hx5 O1 O2 O3 l1 l2 l3
      go_wp2
      refine' bodyPost_ret (v := _) ?_ rfl ?_
      rotate_left
      · (simp only [results, Tryz.results23]
         go_simp
         rfl)
      refine ⟨A, n', C, sa, sn, sc, qa, qn, qc, rfl, ?_⟩
      clear cBG fBG cBP fBP cBQ fBQ cBR fBR
      refine (fun (h : Two (w.heap.size + 1 + 1) (w.heap.size + 1 + 1 + 1) w5 _) => ⟨h.ow Y1.out n12 n13, h.ow Y2.out n22 n23, h.ow Y3.out n32 n33, h.ext X5 e2 e3⟩) ?_
      clear e2 e3
      generalize w.heap.size + 1 + 1 + 1 = b2
      generalize w.heap.size + 1 + 1 = b1
      repeat (first | (with_reducible exact Two.refl _ _ _) | (with_reducible refine Two.drew ?_) | (with_reducible refine Two.alloc ?_ _) | (with_reducible refine Two.set1 ?_ _ _) | (with_reducible refine Two.set2 ?_ _ _))
set_option maxHeartbeats 2000000 in
/-- The first package's Forward. -/
theorem impl_Forward (g : GateD) (p : PktD) (ta : Option Addr) (tn tc : Nat) (ka : Option Addr) (kn kc : Nat) (a : Option Addr) (n c : Nat) (w : World) (ht : Sl encM 4 w ta tn tc g.table) (hk : Sl encC 3 w ka kn kc g.cons) (hs : Sl encI 1 w a n c p.data) :
    Calls Tryz.prog 35 #[.agg #[.int .i64 g.net.base, .int .i64 g.net.bits, .int .i64 g.out, .slice ta tn tc, .slice ka kn kc, .int .i64 g.filter, .int .i64 g.hold, .int .i64 g.now], .agg #[.int .i64 p.kind, .int .i64 p.fr.addr, .int .i64 p.fr.port, .int .i64 p.to_.addr, .int .i64 p.to_.port, .slice a n c]] w fun e w' => ∃ A n C sa sn sc qa qn qc, e = .returned (.tuple #[.agg #[.int .i64 (rP (forward g p)).kind, .int .i64 (rP (forward g p)).fr.addr, .int .i64 (rP (forward g p)).fr.port, .int .i64 (rP (forward g p)).to_.addr, .int .i64 (rP (forward g p)).to_.port, .slice A n C], .agg #[.int .i64 (rG (forward g p)).net.base, .int .i64 (rG (forward g p)).net.bits, .int .i64 (rG (forward g p)).out, .slice sa sn sc, .slice qa qn qc, .int .i64 (rG (forward g p)).filter, .int .i64 (rG (forward g p)).hold, .int .i64 (rG (forward g p)).now], .bool (forward g p).isSome]) ∧
          Ow 3 encI 1 w.heap.size w' A n C (rP (forward g p)).data ∧ Ow 86 encM 4 w.heap.size w' sa sn sc (rG (forward g p)).table ∧ Ow 99 encC 3 w.heap.size w' qa qn qc (rG (forward g p)).cons ∧ Ext w w' := by
  obtain ⟨N, hN⟩ : ∃ N, N = wayOf g p := ⟨_, rfl⟩
  have c1 := fun W h1 h2 h3 => impl_WayOf g p ta tn tc ka kn kc a n c W h1 h2 h3
  rw [← hN] at c1
  by_cases q1 : N = 1
  · subst q1
    rw [forward_one hN.symm]
    clear hN
    obtain ⟨r, hr⟩ : ∃ r, r = sendOut g p := ⟨_, rfl⟩
    have c2 := fun W x y z => impl_SendOut g p ta tn tc ka kn kc a n c W x y z
    rw [← hr] at c2 ⊢
    replace c1 := Lib.hid c1
    replace c2 := Lib.hid c2
    clear hr
    have e2 : w.heap.size ≤ w.heap.size + 1 + 1 := by omega
    have e3 : w.heap.size ≤ w.heap.size + 1 + 1 + 1 := by omega
    go_enter Tryz.func35, Tryz.ntmps35
    go_wp2_with fail
    refine (c1.out _ (by exact ht.ext (by repeat (first | (with_reducible exact Ext.refl _) | (with_reducible assumption) | (with_reducible refine Ext.alloc ?_ _) | (with_reducible refine Ext.drewN ?_ _) | (with_reducible refine Ext.drew ?_) | (with_reducible refine Ext.setCell ?_ ?_ _; rotate_left; (simp only []; omega)) | (with_reducible refine Ext.trans ?_ (by assumption))))) (by exact hk.ext (by repeat (first | (with_reducible exact Ext.refl _) | (with_reducible assumption) | (with_reducible refine Ext.alloc ?_ _) | (with_reducible refine Ext.drewN ?_ _) | (with_reducible refine Ext.drew ?_) | (with_reducible refine Ext.setCell ?_ ?_ _; rotate_left; (simp only []; omega)) | (with_reducible refine Ext.trans ?_ (by assumption))))) (by exact hs.ext (by repeat (first | (with_reducible exact Ext.refl _) | (with_reducible assumption) | (with_reducible refine Ext.alloc ?_ _) | (with_reducible refine Ext.drewN ?_ _) | (with_reducible refine Ext.drew ?_) | (with_reducible refine Ext.setCell ?_ ?_ _; rotate_left; (simp only []; omega)) | (with_reducible refine Ext.trans ?_ (by assumption)))))).mono ?_
    rintro e w1 ⟨rfl, hx1⟩
    have hy1 := hx1.size
    (try simp at hy1)
    have eW1 := useE (fun (h : Ext _ w1) => ht.ext h) (by repeat (first | (with_reducible exact Ext.refl _) | (with_reducible assumption) | (with_reducible refine Ext.alloc ?_ _) | (with_reducible refine Ext.drewN ?_ _) | (with_reducible refine Ext.drew ?_) | (with_reducible refine Ext.setCell ?_ ?_ _; rotate_left; (simp only []; omega)) | (with_reducible refine Ext.trans ?_ (by assumption))))
    replace ht := ht.ext eW1
    replace hk := hk.ext eW1
    replace hs := hs.ext eW1
    have BG : Blk w1 w.heap.size 28 (#[.int .i64 g.net.base, .int .i64 g.net.bits, .int .i64 g.out, .slice ta tn tc, .slice ka kn kc, .int .i64 g.filter, .int .i64 g.hold, .int .i64 g.now]) := by refine Blk.ext ?_ hx1; exact (by repeat (first | (with_reducible assumption) | (with_reducible exact Blk.new _ _ _) | exact Blk.newAt _ _ _ (by simp) | (with_reducible refine Blk.alloc ?_ _) | (with_reducible refine Blk.drew ?_) | (with_reducible refine Blk.drewN ?_ _) | refine Blk.far ?_ (by simp only []; omega) _ | refine Blk.rext ?_ (by assumption) (by omega) | refine Blk.ext ?_ (by assumption)))
    have BP : Blk w1 (w.heap.size+1) 33 (#[.int .i64 p.kind, .int .i64 p.fr.addr, .int .i64 p.fr.port, .int .i64 p.to_.addr, .int .i64 p.to_.port, .slice a n c]) := by refine Blk.ext ?_ hx1; exact (by repeat (first | (with_reducible assumption) | (with_reducible exact Blk.new _ _ _) | exact Blk.newAt _ _ _ (by simp) | (with_reducible refine Blk.alloc ?_ _) | (with_reducible refine Blk.drew ?_) | (with_reducible refine Blk.drewN ?_ _) | refine Blk.far ?_ (by simp only []; omega) _ | refine Blk.rext ?_ (by assumption) (by omega) | refine Blk.ext ?_ (by assumption)))
    have BQ : Blk w1 (w.heap.size+2) 33 #[.int .i64 0, .int .i64 0, .int .i64 0, .int .i64 0, .int .i64 0, .slice none 0 0] := by refine Blk.ext ?_ hx1; exact (by repeat (first | (with_reducible assumption) | (with_reducible exact Blk.new _ _ _) | exact Blk.newAt _ _ _ (by simp) | (with_reducible refine Blk.alloc ?_ _) | (with_reducible refine Blk.drew ?_) | (with_reducible refine Blk.drewN ?_ _) | refine Blk.far ?_ (by simp only []; omega) _ | refine Blk.rext ?_ (by assumption) (by omega) | refine Blk.ext ?_ (by assumption)))
    have BR : Blk w1 (w.heap.size+3) 28 #[.int .i64 0, .int .i64 0, .int .i64 0, .slice none 0 0, .slice none 0 0, .int .i64 0, .int .i64 0, .int .i64 0] := by refine Blk.ext ?_ hx1; exact (by repeat (first | (with_reducible assumption) | (with_reducible exact Blk.new _ _ _) | exact Blk.newAt _ _ _ (by simp) | (with_reducible refine Blk.alloc ?_ _) | (with_reducible refine Blk.drew ?_) | (with_reducible refine Blk.drewN ?_ _) | refine Blk.far ?_ (by simp only []; omega) _ | refine Blk.rext ?_ (by assumption) (by omega) | refine Blk.ext ?_ (by assumption)))
    have cBG := BG.cells
    have fBG := BG.frozens
    have zBG := BG.lt
    have cBP := BP.cells
    have fBP := BP.frozens
    have zBP := BP.lt
    have cBQ := BQ.cells
    have fBQ := BQ.frozens
    have zBQ := BQ.lt
    have cBR := BR.cells
    have fBR := BR.frozens
    have zBR := BR.lt
    have X1 : Ext w w1 := (by repeat (first | (with_reducible exact Ext.refl _) | (with_reducible assumption) | (with_reducible refine Ext.alloc ?_ _) | (with_reducible refine Ext.drewN ?_ _) | (with_reducible refine Ext.drew ?_) | (with_reducible refine Ext.setCell ?_ ?_ _; rotate_left; (simp only []; omega)) | (with_reducible refine Ext.trans ?_ (by assumption))))
    clear hx1
    go_wp2_with fail
    refine (c2.out _ (by exact ht.ext (by repeat (first | (with_reducible exact Ext.refl _) | (with_reducible assumption) | (with_reducible refine Ext.alloc ?_ _) | (with_reducible refine Ext.drewN ?_ _) | (with_reducible refine Ext.drew ?_) | (with_reducible refine Ext.setCell ?_ ?_ _; rotate_left; (simp only []; omega)) | (with_reducible refine Ext.trans ?_ (by assumption))))) (by exact hk.ext (by repeat (first | (with_reducible exact Ext.refl _) | (with_reducible assumption) | (with_reducible refine Ext.alloc ?_ _) | (with_reducible refine Ext.drewN ?_ _) | (with_reducible refine Ext.drew ?_) | (with_reducible refine Ext.setCell ?_ ?_ _; rotate_left; (simp only []; omega)) | (with_reducible refine Ext.trans ?_ (by assumption))))) (by exact hs.ext (by repeat (first | (with_reducible exact Ext.refl _) | (with_reducible assumption) | (with_reducible refine Ext.alloc ?_ _) | (with_reducible refine Ext.drewN ?_ _) | (with_reducible refine Ext.drew ?_) | (with_reducible refine Ext.setCell ?_ ?_ _; rotate_left; (simp only []; omega)) | (with_reducible refine Ext.trans ?_ (by assumption)))))).mono ?_
    rintro e w2 ⟨A, n', C, sa, sn, sc, qa, qn, qc, rfl, O1, O2, O3, hx2⟩
    have hy2 := hx2.size
    (try simp at hy2)
    have eW2 := useE (fun (h : Ext _ w2) => ht.ext h) (by repeat (first | (with_reducible exact Ext.refl _) | (with_reducible assumption) | (with_reducible refine Ext.alloc ?_ _) | (with_reducible refine Ext.drewN ?_ _) | (with_reducible refine Ext.drew ?_) | (with_reducible refine Ext.setCell ?_ ?_ _; rotate_left; (simp only []; omega)) | (with_reducible refine Ext.trans ?_ (by assumption))))
    replace ht := ht.ext eW2
    replace hk := hk.ext eW2
    replace hs := hs.ext eW2
    clear cBG fBG zBG
    replace BG := BG.ext eW2
    clear cBP fBP zBP
    replace BP := BP.ext eW2
    clear cBQ fBQ zBQ
    replace BQ := BQ.ext eW2
    clear cBR fBR zBR
    replace BR := BR.ext eW2
    have cBG := BG.cells
    have fBG := BG.frozens
    have zBG := BG.lt
    have cBP := BP.cells
    have fBP := BP.frozens
    have zBP := BP.lt
    have cBQ := BQ.cells
    have fBQ := BQ.frozens
    have zBQ := BQ.lt
    have cBR := BR.cells
    have fBR := BR.frozens
    have zBR := BR.lt
    have X2 : Ext w w2 := X1.trans (show Ext w1 w2 from (by repeat (first | (with_reducible exact Ext.refl _) | (with_reducible assumption) | (with_reducible refine Ext.alloc ?_ _) | (with_reducible refine Ext.drewN ?_ _) | (with_reducible refine Ext.drew ?_) | (with_reducible refine Ext.setCell ?_ ?_ _; rotate_left; (simp only []; omega)) | (with_reducible refine Ext.trans ?_ (by assumption)))))
    have l1 := O1.lt
    have l2 := O2.lt
    have l3 := O3.lt
    have hz : w.heap.size + 4 ≤ w1.heap.size := by omega
    have Y1 := Lib.hid (O1.rebase (b' := w.heap.size) (by (try simp); (try omega)))
    have Y2 := Lib.hid (O2.rebase (b' := w.heap.size) (by (try simp); (try omega)))
    have Y3 := Lib.hid (O3.rebase (b' := w.heap.size) (by (try simp); (try omega)))
    have n12 : ∀ x, A = some x → x.block ≠ w.heap.size + 1 + 1 := fun x e => by have := (l1 x e).1; (try simp at this); omega
    have n13 : ∀ x, A = some x → x.block ≠ w.heap.size + 1 + 1 + 1 := fun x e => by have := (l1 x e).1; (try simp at this); omega
    have n22 : ∀ x, sa = some x → x.block ≠ w.heap.size + 1 + 1 := fun x e => by have := (l2 x e).1; (try simp at this); omega
    have n23 : ∀ x, sa = some x → x.block ≠ w.heap.size + 1 + 1 + 1 := fun x e => by have := (l2 x e).1; (try simp at this); omega
    have n32 : ∀ x, qa = some x → x.block ≠ w.heap.size + 1 + 1 := fun x e => by have := (l3 x e).1; (try simp at this); omega
    have n33 : ∀ x, qa = some x → x.block ≠ w.heap.size + 1 + 1 + 1 := fun x e => by have := (l3 x e).1; (try simp at this); omega
    clear hx2 O1 O2 O3 l1 l2 l3
    go_wp2
    refine' bodyPost_ret (v := _) ?_ rfl ?_
    rotate_left
    · (simp only [results, Tryz.results35]
       go_simp
       rfl)
    refine ⟨A, n', C, sa, sn, sc, qa, qn, qc, rfl, ?_⟩
    clear cBG fBG cBP fBP cBQ fBQ cBR fBR
    refine (fun (h : Two (w.heap.size + 1 + 1) (w.heap.size + 1 + 1 + 1) w2 _) => ⟨h.ow Y1.out n12 n13, h.ow Y2.out n22 n23, h.ow Y3.out n32 n33, h.ext X2 e2 e3⟩) ?_
    clear e2 e3
    generalize w.heap.size + 1 + 1 + 1 = b2
    generalize w.heap.size + 1 + 1 = b1
    repeat (first | (with_reducible exact Two.refl _ _ _) | (with_reducible refine Two.drew ?_) | (with_reducible refine Two.alloc ?_ _) | (with_reducible refine Two.set1 ?_ _ _) | (with_reducible refine Two.set2 ?_ _ _))
  by_cases q2 : N = 2
  · subst q2
    rw [forward_two hN.symm]
    clear hN q1
    obtain ⟨r, hr⟩ : ∃ r, r = receiveIn g p := ⟨_, rfl⟩
    have c2 := fun W x y z => impl_ReceiveIn g p ta tn tc ka kn kc a n c W x y z
    rw [← hr] at c2 ⊢
    replace c1 := Lib.hid c1
    replace c2 := Lib.hid c2
    clear hr
    have e2 : w.heap.size ≤ w.heap.size + 1 + 1 := by omega
    have e3 : w.heap.size ≤ w.heap.size + 1 + 1 + 1 := by omega
    go_enter Tryz.func35, Tryz.ntmps35
    go_wp2_with fail
    refine (c1.out _ (by exact ht.ext (by repeat (first | (with_reducible exact Ext.refl _) | (with_reducible assumption) | (with_reducible refine Ext.alloc ?_ _) | (with_reducible refine Ext.drewN ?_ _) | (with_reducible refine Ext.drew ?_) | (with_reducible refine Ext.setCell ?_ ?_ _; rotate_left; (simp only []; omega)) | (with_reducible refine Ext.trans ?_ (by assumption))))) (by exact hk.ext (by repeat (first | (with_reducible exact Ext.refl _) | (with_reducible assumption) | (with_reducible refine Ext.alloc ?_ _) | (with_reducible refine Ext.drewN ?_ _) | (with_reducible refine Ext.drew ?_) | (with_reducible refine Ext.setCell ?_ ?_ _; rotate_left; (simp only []; omega)) | (with_reducible refine Ext.trans ?_ (by assumption))))) (by exact hs.ext (by repeat (first | (with_reducible exact Ext.refl _) | (with_reducible assumption) | (with_reducible refine Ext.alloc ?_ _) | (with_reducible refine Ext.drewN ?_ _) | (with_reducible refine Ext.drew ?_) | (with_reducible refine Ext.setCell ?_ ?_ _; rotate_left; (simp only []; omega)) | (with_reducible refine Ext.trans ?_ (by assumption)))))).mono ?_
    rintro e w1 ⟨rfl, hx1⟩
    have hy1 := hx1.size
    (try simp at hy1)
    have eW1 := useE (fun (h : Ext _ w1) => ht.ext h) (by repeat (first | (with_reducible exact Ext.refl _) | (with_reducible assumption) | (with_reducible refine Ext.alloc ?_ _) | (with_reducible refine Ext.drewN ?_ _) | (with_reducible refine Ext.drew ?_) | (with_reducible refine Ext.setCell ?_ ?_ _; rotate_left; (simp only []; omega)) | (with_reducible refine Ext.trans ?_ (by assumption))))
    replace ht := ht.ext eW1
    replace hk := hk.ext eW1
    replace hs := hs.ext eW1
    have BG : Blk w1 w.heap.size 28 (#[.int .i64 g.net.base, .int .i64 g.net.bits, .int .i64 g.out, .slice ta tn tc, .slice ka kn kc, .int .i64 g.filter, .int .i64 g.hold, .int .i64 g.now]) := by refine Blk.ext ?_ hx1; exact (by repeat (first | (with_reducible assumption) | (with_reducible exact Blk.new _ _ _) | exact Blk.newAt _ _ _ (by simp) | (with_reducible refine Blk.alloc ?_ _) | (with_reducible refine Blk.drew ?_) | (with_reducible refine Blk.drewN ?_ _) | refine Blk.far ?_ (by simp only []; omega) _ | refine Blk.rext ?_ (by assumption) (by omega) | refine Blk.ext ?_ (by assumption)))
    have BP : Blk w1 (w.heap.size+1) 33 (#[.int .i64 p.kind, .int .i64 p.fr.addr, .int .i64 p.fr.port, .int .i64 p.to_.addr, .int .i64 p.to_.port, .slice a n c]) := by refine Blk.ext ?_ hx1; exact (by repeat (first | (with_reducible assumption) | (with_reducible exact Blk.new _ _ _) | exact Blk.newAt _ _ _ (by simp) | (with_reducible refine Blk.alloc ?_ _) | (with_reducible refine Blk.drew ?_) | (with_reducible refine Blk.drewN ?_ _) | refine Blk.far ?_ (by simp only []; omega) _ | refine Blk.rext ?_ (by assumption) (by omega) | refine Blk.ext ?_ (by assumption)))
    have BQ : Blk w1 (w.heap.size+2) 33 #[.int .i64 0, .int .i64 0, .int .i64 0, .int .i64 0, .int .i64 0, .slice none 0 0] := by refine Blk.ext ?_ hx1; exact (by repeat (first | (with_reducible assumption) | (with_reducible exact Blk.new _ _ _) | exact Blk.newAt _ _ _ (by simp) | (with_reducible refine Blk.alloc ?_ _) | (with_reducible refine Blk.drew ?_) | (with_reducible refine Blk.drewN ?_ _) | refine Blk.far ?_ (by simp only []; omega) _ | refine Blk.rext ?_ (by assumption) (by omega) | refine Blk.ext ?_ (by assumption)))
    have BR : Blk w1 (w.heap.size+3) 28 #[.int .i64 0, .int .i64 0, .int .i64 0, .slice none 0 0, .slice none 0 0, .int .i64 0, .int .i64 0, .int .i64 0] := by refine Blk.ext ?_ hx1; exact (by repeat (first | (with_reducible assumption) | (with_reducible exact Blk.new _ _ _) | exact Blk.newAt _ _ _ (by simp) | (with_reducible refine Blk.alloc ?_ _) | (with_reducible refine Blk.drew ?_) | (with_reducible refine Blk.drewN ?_ _) | refine Blk.far ?_ (by simp only []; omega) _ | refine Blk.rext ?_ (by assumption) (by omega) | refine Blk.ext ?_ (by assumption)))
    have cBG := BG.cells
    have fBG := BG.frozens
    have zBG := BG.lt
    have cBP := BP.cells
    have fBP := BP.frozens
    have zBP := BP.lt
    have cBQ := BQ.cells
    have fBQ := BQ.frozens
    have zBQ := BQ.lt
    have cBR := BR.cells
    have fBR := BR.frozens
    have zBR := BR.lt
    have X1 : Ext w w1 := (by repeat (first | (with_reducible exact Ext.refl _) | (with_reducible assumption) | (with_reducible refine Ext.alloc ?_ _) | (with_reducible refine Ext.drewN ?_ _) | (with_reducible refine Ext.drew ?_) | (with_reducible refine Ext.setCell ?_ ?_ _; rotate_left; (simp only []; omega)) | (with_reducible refine Ext.trans ?_ (by assumption))))
    clear hx1
    go_wp2_with fail
    refine (c2.out _ (by exact ht.ext (by repeat (first | (with_reducible exact Ext.refl _) | (with_reducible assumption) | (with_reducible refine Ext.alloc ?_ _) | (with_reducible refine Ext.drewN ?_ _) | (with_reducible refine Ext.drew ?_) | (with_reducible refine Ext.setCell ?_ ?_ _; rotate_left; (simp only []; omega)) | (with_reducible refine Ext.trans ?_ (by assumption))))) (by exact hk.ext (by repeat (first | (with_reducible exact Ext.refl _) | (with_reducible assumption) | (with_reducible refine Ext.alloc ?_ _) | (with_reducible refine Ext.drewN ?_ _) | (with_reducible refine Ext.drew ?_) | (with_reducible refine Ext.setCell ?_ ?_ _; rotate_left; (simp only []; omega)) | (with_reducible refine Ext.trans ?_ (by assumption))))) (by exact hs.ext (by repeat (first | (with_reducible exact Ext.refl _) | (with_reducible assumption) | (with_reducible refine Ext.alloc ?_ _) | (with_reducible refine Ext.drewN ?_ _) | (with_reducible refine Ext.drew ?_) | (with_reducible refine Ext.setCell ?_ ?_ _; rotate_left; (simp only []; omega)) | (with_reducible refine Ext.trans ?_ (by assumption)))))).mono ?_
    rintro e w2 ⟨A, n', C, sa, sn, sc, qa, qn, qc, rfl, O1, O2, O3, hx2⟩
    have hy2 := hx2.size
    (try simp at hy2)
    have eW2 := useE (fun (h : Ext _ w2) => ht.ext h) (by repeat (first | (with_reducible exact Ext.refl _) | (with_reducible assumption) | (with_reducible refine Ext.alloc ?_ _) | (with_reducible refine Ext.drewN ?_ _) | (with_reducible refine Ext.drew ?_) | (with_reducible refine Ext.setCell ?_ ?_ _; rotate_left; (simp only []; omega)) | (with_reducible refine Ext.trans ?_ (by assumption))))
    replace ht := ht.ext eW2
    replace hk := hk.ext eW2
    replace hs := hs.ext eW2
    clear cBG fBG zBG
    replace BG := BG.ext eW2
    clear cBP fBP zBP
    replace BP := BP.ext eW2
    clear cBQ fBQ zBQ
    replace BQ := BQ.ext eW2
    clear cBR fBR zBR
    replace BR := BR.ext eW2
    have cBG := BG.cells
    have fBG := BG.frozens
    have zBG := BG.lt
    have cBP := BP.cells
    have fBP := BP.frozens
    have zBP := BP.lt
    have cBQ := BQ.cells
    have fBQ := BQ.frozens
    have zBQ := BQ.lt
    have cBR := BR.cells
    have fBR := BR.frozens
    have zBR := BR.lt
    have X2 : Ext w w2 := X1.trans (show Ext w1 w2 from (by repeat (first | (with_reducible exact Ext.refl _) | (with_reducible assumption) | (with_reducible refine Ext.alloc ?_ _) | (with_reducible refine Ext.drewN ?_ _) | (with_reducible refine Ext.drew ?_) | (with_reducible refine Ext.setCell ?_ ?_ _; rotate_left; (simp only []; omega)) | (with_reducible refine Ext.trans ?_ (by assumption)))))
    have l1 := O1.lt
    have l2 := O2.lt
    have l3 := O3.lt
    have hz : w.heap.size + 4 ≤ w1.heap.size := by omega
    have Y1 := Lib.hid (O1.rebase (b' := w.heap.size) (by (try simp); (try omega)))
    have Y2 := Lib.hid (O2.rebase (b' := w.heap.size) (by (try simp); (try omega)))
    have Y3 := Lib.hid (O3.rebase (b' := w.heap.size) (by (try simp); (try omega)))
    have n12 : ∀ x, A = some x → x.block ≠ w.heap.size + 1 + 1 := fun x e => by have := (l1 x e).1; (try simp at this); omega
    have n13 : ∀ x, A = some x → x.block ≠ w.heap.size + 1 + 1 + 1 := fun x e => by have := (l1 x e).1; (try simp at this); omega
    have n22 : ∀ x, sa = some x → x.block ≠ w.heap.size + 1 + 1 := fun x e => by have := (l2 x e).1; (try simp at this); omega
    have n23 : ∀ x, sa = some x → x.block ≠ w.heap.size + 1 + 1 + 1 := fun x e => by have := (l2 x e).1; (try simp at this); omega
    have n32 : ∀ x, qa = some x → x.block ≠ w.heap.size + 1 + 1 := fun x e => by have := (l3 x e).1; (try simp at this); omega
    have n33 : ∀ x, qa = some x → x.block ≠ w.heap.size + 1 + 1 + 1 := fun x e => by have := (l3 x e).1; (try simp at this); omega
    clear hx2 O1 O2 O3 l1 l2 l3
    go_wp2
    refine' bodyPost_ret (v := _) ?_ rfl ?_
    rotate_left
    · (simp only [results, Tryz.results35]
       go_simp
       rfl)
    refine ⟨A, n', C, sa, sn, sc, qa, qn, qc, rfl, ?_⟩
    clear cBG fBG cBP fBP cBQ fBQ cBR fBR
    refine (fun (h : Two (w.heap.size + 1 + 1) (w.heap.size + 1 + 1 + 1) w2 _) => ⟨h.ow Y1.out n12 n13, h.ow Y2.out n22 n23, h.ow Y3.out n32 n33, h.ext X2 e2 e3⟩) ?_
    clear e2 e3
    generalize w.heap.size + 1 + 1 + 1 = b2
    generalize w.heap.size + 1 + 1 = b1
    repeat (first | (with_reducible exact Two.refl _ _ _) | (with_reducible refine Two.drew ?_) | (with_reducible refine Two.alloc ?_ _) | (with_reducible refine Two.set1 ?_ _ _) | (with_reducible refine Two.set2 ?_ _ _))
  by_cases q3 : N = 3
  · subst q3
    rw [forward_three hN.symm]
    clear hN q1 q2
    obtain ⟨r, hr⟩ : ∃ r, r = passBetween g p := ⟨_, rfl⟩
    have c2 := fun W x y z => impl_PassBetween g p ta tn tc ka kn kc a n c W x y z
    rw [← hr] at c2 ⊢
    replace c1 := Lib.hid c1
    replace c2 := Lib.hid c2
    clear hr
    have e2 : w.heap.size ≤ w.heap.size + 1 + 1 := by omega
    have e3 : w.heap.size ≤ w.heap.size + 1 + 1 + 1 := by omega
    go_enter Tryz.func35, Tryz.ntmps35
    go_wp2_with fail
    refine (c1.out _ (by exact ht.ext (by repeat (first | (with_reducible exact Ext.refl _) | (with_reducible assumption) | (with_reducible refine Ext.alloc ?_ _) | (with_reducible refine Ext.drewN ?_ _) | (with_reducible refine Ext.drew ?_) | (with_reducible refine Ext.setCell ?_ ?_ _; rotate_left; (simp only []; omega)) | (with_reducible refine Ext.trans ?_ (by assumption))))) (by exact hk.ext (by repeat (first | (with_reducible exact Ext.refl _) | (with_reducible assumption) | (with_reducible refine Ext.alloc ?_ _) | (with_reducible refine Ext.drewN ?_ _) | (with_reducible refine Ext.drew ?_) | (with_reducible refine Ext.setCell ?_ ?_ _; rotate_left; (simp only []; omega)) | (with_reducible refine Ext.trans ?_ (by assumption))))) (by exact hs.ext (by repeat (first | (with_reducible exact Ext.refl _) | (with_reducible assumption) | (with_reducible refine Ext.alloc ?_ _) | (with_reducible refine Ext.drewN ?_ _) | (with_reducible refine Ext.drew ?_) | (with_reducible refine Ext.setCell ?_ ?_ _; rotate_left; (simp only []; omega)) | (with_reducible refine Ext.trans ?_ (by assumption)))))).mono ?_
    rintro e w1 ⟨rfl, hx1⟩
    have hy1 := hx1.size
    (try simp at hy1)
    have eW1 := useE (fun (h : Ext _ w1) => ht.ext h) (by repeat (first | (with_reducible exact Ext.refl _) | (with_reducible assumption) | (with_reducible refine Ext.alloc ?_ _) | (with_reducible refine Ext.drewN ?_ _) | (with_reducible refine Ext.drew ?_) | (with_reducible refine Ext.setCell ?_ ?_ _; rotate_left; (simp only []; omega)) | (with_reducible refine Ext.trans ?_ (by assumption))))
    replace ht := ht.ext eW1
    replace hk := hk.ext eW1
    replace hs := hs.ext eW1
    have BG : Blk w1 w.heap.size 28 (#[.int .i64 g.net.base, .int .i64 g.net.bits, .int .i64 g.out, .slice ta tn tc, .slice ka kn kc, .int .i64 g.filter, .int .i64 g.hold, .int .i64 g.now]) := by refine Blk.ext ?_ hx1; exact (by repeat (first | (with_reducible assumption) | (with_reducible exact Blk.new _ _ _) | exact Blk.newAt _ _ _ (by simp) | (with_reducible refine Blk.alloc ?_ _) | (with_reducible refine Blk.drew ?_) | (with_reducible refine Blk.drewN ?_ _) | refine Blk.far ?_ (by simp only []; omega) _ | refine Blk.rext ?_ (by assumption) (by omega) | refine Blk.ext ?_ (by assumption)))
    have BP : Blk w1 (w.heap.size+1) 33 (#[.int .i64 p.kind, .int .i64 p.fr.addr, .int .i64 p.fr.port, .int .i64 p.to_.addr, .int .i64 p.to_.port, .slice a n c]) := by refine Blk.ext ?_ hx1; exact (by repeat (first | (with_reducible assumption) | (with_reducible exact Blk.new _ _ _) | exact Blk.newAt _ _ _ (by simp) | (with_reducible refine Blk.alloc ?_ _) | (with_reducible refine Blk.drew ?_) | (with_reducible refine Blk.drewN ?_ _) | refine Blk.far ?_ (by simp only []; omega) _ | refine Blk.rext ?_ (by assumption) (by omega) | refine Blk.ext ?_ (by assumption)))
    have BQ : Blk w1 (w.heap.size+2) 33 #[.int .i64 0, .int .i64 0, .int .i64 0, .int .i64 0, .int .i64 0, .slice none 0 0] := by refine Blk.ext ?_ hx1; exact (by repeat (first | (with_reducible assumption) | (with_reducible exact Blk.new _ _ _) | exact Blk.newAt _ _ _ (by simp) | (with_reducible refine Blk.alloc ?_ _) | (with_reducible refine Blk.drew ?_) | (with_reducible refine Blk.drewN ?_ _) | refine Blk.far ?_ (by simp only []; omega) _ | refine Blk.rext ?_ (by assumption) (by omega) | refine Blk.ext ?_ (by assumption)))
    have BR : Blk w1 (w.heap.size+3) 28 #[.int .i64 0, .int .i64 0, .int .i64 0, .slice none 0 0, .slice none 0 0, .int .i64 0, .int .i64 0, .int .i64 0] := by refine Blk.ext ?_ hx1; exact (by repeat (first | (with_reducible assumption) | (with_reducible exact Blk.new _ _ _) | exact Blk.newAt _ _ _ (by simp) | (with_reducible refine Blk.alloc ?_ _) | (with_reducible refine Blk.drew ?_) | (with_reducible refine Blk.drewN ?_ _) | refine Blk.far ?_ (by simp only []; omega) _ | refine Blk.rext ?_ (by assumption) (by omega) | refine Blk.ext ?_ (by assumption)))
    have cBG := BG.cells
    have fBG := BG.frozens
    have zBG := BG.lt
    have cBP := BP.cells
    have fBP := BP.frozens
    have zBP := BP.lt
    have cBQ := BQ.cells
    have fBQ := BQ.frozens
    have zBQ := BQ.lt
    have cBR := BR.cells
    have fBR := BR.frozens
    have zBR := BR.lt
    have X1 : Ext w w1 := (by repeat (first | (with_reducible exact Ext.refl _) | (with_reducible assumption) | (with_reducible refine Ext.alloc ?_ _) | (with_reducible refine Ext.drewN ?_ _) | (with_reducible refine Ext.drew ?_) | (with_reducible refine Ext.setCell ?_ ?_ _; rotate_left; (simp only []; omega)) | (with_reducible refine Ext.trans ?_ (by assumption))))
    clear hx1
    go_wp2_with fail
    refine (c2.out _ (by exact ht.ext (by repeat (first | (with_reducible exact Ext.refl _) | (with_reducible assumption) | (with_reducible refine Ext.alloc ?_ _) | (with_reducible refine Ext.drewN ?_ _) | (with_reducible refine Ext.drew ?_) | (with_reducible refine Ext.setCell ?_ ?_ _; rotate_left; (simp only []; omega)) | (with_reducible refine Ext.trans ?_ (by assumption))))) (by exact hk.ext (by repeat (first | (with_reducible exact Ext.refl _) | (with_reducible assumption) | (with_reducible refine Ext.alloc ?_ _) | (with_reducible refine Ext.drewN ?_ _) | (with_reducible refine Ext.drew ?_) | (with_reducible refine Ext.setCell ?_ ?_ _; rotate_left; (simp only []; omega)) | (with_reducible refine Ext.trans ?_ (by assumption))))) (by exact hs.ext (by repeat (first | (with_reducible exact Ext.refl _) | (with_reducible assumption) | (with_reducible refine Ext.alloc ?_ _) | (with_reducible refine Ext.drewN ?_ _) | (with_reducible refine Ext.drew ?_) | (with_reducible refine Ext.setCell ?_ ?_ _; rotate_left; (simp only []; omega)) | (with_reducible refine Ext.trans ?_ (by assumption)))))).mono ?_
    rintro e w2 ⟨A, n', C, sa, sn, sc, qa, qn, qc, rfl, O1, O2, O3, hx2⟩
    have hy2 := hx2.size
    (try simp at hy2)
    have eW2 := useE (fun (h : Ext _ w2) => ht.ext h) (by repeat (first | (with_reducible exact Ext.refl _) | (with_reducible assumption) | (with_reducible refine Ext.alloc ?_ _) | (with_reducible refine Ext.drewN ?_ _) | (with_reducible refine Ext.drew ?_) | (with_reducible refine Ext.setCell ?_ ?_ _; rotate_left; (simp only []; omega)) | (with_reducible refine Ext.trans ?_ (by assumption))))
    replace ht := ht.ext eW2
    replace hk := hk.ext eW2
    replace hs := hs.ext eW2
    clear cBG fBG zBG
    replace BG := BG.ext eW2
    clear cBP fBP zBP
    replace BP := BP.ext eW2
    clear cBQ fBQ zBQ
    replace BQ := BQ.ext eW2
    clear cBR fBR zBR
    replace BR := BR.ext eW2
    have cBG := BG.cells
    have fBG := BG.frozens
    have zBG := BG.lt
    have cBP := BP.cells
    have fBP := BP.frozens
    have zBP := BP.lt
    have cBQ := BQ.cells
    have fBQ := BQ.frozens
    have zBQ := BQ.lt
    have cBR := BR.cells
    have fBR := BR.frozens
    have zBR := BR.lt
    have X2 : Ext w w2 := X1.trans (show Ext w1 w2 from (by repeat (first | (with_reducible exact Ext.refl _) | (with_reducible assumption) | (with_reducible refine Ext.alloc ?_ _) | (with_reducible refine Ext.drewN ?_ _) | (with_reducible refine Ext.drew ?_) | (with_reducible refine Ext.setCell ?_ ?_ _; rotate_left; (simp only []; omega)) | (with_reducible refine Ext.trans ?_ (by assumption)))))
    have l1 := O1.lt
    have l2 := O2.lt
    have l3 := O3.lt
    have hz : w.heap.size + 4 ≤ w1.heap.size := by omega
    have Y1 := Lib.hid (O1.rebase (b' := w.heap.size) (by (try simp); (try omega)))
    have Y2 := Lib.hid (O2.rebase (b' := w.heap.size) (by (try simp); (try omega)))
    have Y3 := Lib.hid (O3.rebase (b' := w.heap.size) (by (try simp); (try omega)))
    have n12 : ∀ x, A = some x → x.block ≠ w.heap.size + 1 + 1 := fun x e => by have := (l1 x e).1; (try simp at this); omega
    have n13 : ∀ x, A = some x → x.block ≠ w.heap.size + 1 + 1 + 1 := fun x e => by have := (l1 x e).1; (try simp at this); omega
    have n22 : ∀ x, sa = some x → x.block ≠ w.heap.size + 1 + 1 := fun x e => by have := (l2 x e).1; (try simp at this); omega
    have n23 : ∀ x, sa = some x → x.block ≠ w.heap.size + 1 + 1 + 1 := fun x e => by have := (l2 x e).1; (try simp at this); omega
    have n32 : ∀ x, qa = some x → x.block ≠ w.heap.size + 1 + 1 := fun x e => by have := (l3 x e).1; (try simp at this); omega
    have n33 : ∀ x, qa = some x → x.block ≠ w.heap.size + 1 + 1 + 1 := fun x e => by have := (l3 x e).1; (try simp at this); omega
    clear hx2 O1 O2 O3 l1 l2 l3
    go_wp2
    refine' bodyPost_ret (v := _) ?_ rfl ?_
    rotate_left
    · (simp only [results, Tryz.results35]
       go_simp
       rfl)
    refine ⟨A, n', C, sa, sn, sc, qa, qn, qc, rfl, ?_⟩
    clear cBG fBG cBP fBP cBQ fBQ cBR fBR
    refine (fun (h : Two (w.heap.size + 1 + 1) (w.heap.size + 1 + 1 + 1) w2 _) => ⟨h.ow Y1.out n12 n13, h.ow Y2.out n22 n23, h.ow Y3.out n32 n33, h.ext X2 e2 e3⟩) ?_
    clear e2 e3
    generalize w.heap.size + 1 + 1 + 1 = b2
    generalize w.heap.size + 1 + 1 = b1
    repeat (first | (with_reducible exact Two.refl _ _ _) | (with_reducible refine Two.drew ?_) | (with_reducible refine Two.alloc ?_ _) | (with_reducible refine Two.set1 ?_ _ _) | (with_reducible refine Two.set2 ?_ _ _))
  · have e : forward g p = none := by unfold forward; rw [← hN, if_neg q1, if_neg q2, if_neg q3]
    rw [e]
    clear e hN
    replace c1 := Lib.hid c1
    have e2 : w.heap.size ≤ w.heap.size + 1 + 1 := by omega
    have e3 : w.heap.size ≤ w.heap.size + 1 + 1 + 1 := by omega
    go_enter Tryz.func35, Tryz.ntmps35
    go_wp2_with fail
    refine (c1.out _ (by exact ht.ext (by repeat (first | (with_reducible exact Ext.refl _) | (with_reducible assumption) | (with_reducible refine Ext.alloc ?_ _) | (with_reducible refine Ext.drewN ?_ _) | (with_reducible refine Ext.drew ?_) | (with_reducible refine Ext.setCell ?_ ?_ _; rotate_left; (simp only []; omega)) | (with_reducible refine Ext.trans ?_ (by assumption))))) (by exact hk.ext (by repeat (first | (with_reducible exact Ext.refl _) | (with_reducible assumption) | (with_reducible refine Ext.alloc ?_ _) | (with_reducible refine Ext.drewN ?_ _) | (with_reducible refine Ext.drew ?_) | (with_reducible refine Ext.setCell ?_ ?_ _; rotate_left; (simp only []; omega)) | (with_reducible refine Ext.trans ?_ (by assumption))))) (by exact hs.ext (by repeat (first | (with_reducible exact Ext.refl _) | (with_reducible assumption) | (with_reducible refine Ext.alloc ?_ _) | (with_reducible refine Ext.drewN ?_ _) | (with_reducible refine Ext.drew ?_) | (with_reducible refine Ext.setCell ?_ ?_ _; rotate_left; (simp only []; omega)) | (with_reducible refine Ext.trans ?_ (by assumption)))))).mono ?_
    rintro e w1 ⟨rfl, hx1⟩
    have hy1 := hx1.size
    (try simp at hy1)
    have eW1 := useE (fun (h : Ext _ w1) => ht.ext h) (by repeat (first | (with_reducible exact Ext.refl _) | (with_reducible assumption) | (with_reducible refine Ext.alloc ?_ _) | (with_reducible refine Ext.drewN ?_ _) | (with_reducible refine Ext.drew ?_) | (with_reducible refine Ext.setCell ?_ ?_ _; rotate_left; (simp only []; omega)) | (with_reducible refine Ext.trans ?_ (by assumption))))
    replace ht := ht.ext eW1
    replace hk := hk.ext eW1
    replace hs := hs.ext eW1
    have BQ : Blk w1 (w.heap.size+2) 33 #[.int .i64 0, .int .i64 0, .int .i64 0, .int .i64 0, .int .i64 0, .slice none 0 0] := by refine Blk.ext ?_ hx1; exact (by repeat (first | (with_reducible assumption) | (with_reducible exact Blk.new _ _ _) | exact Blk.newAt _ _ _ (by simp) | (with_reducible refine Blk.alloc ?_ _) | (with_reducible refine Blk.drew ?_) | (with_reducible refine Blk.drewN ?_ _) | refine Blk.far ?_ (by simp only []; omega) _ | refine Blk.rext ?_ (by assumption) (by omega) | refine Blk.ext ?_ (by assumption)))
    have BR : Blk w1 (w.heap.size+3) 28 #[.int .i64 0, .int .i64 0, .int .i64 0, .slice none 0 0, .slice none 0 0, .int .i64 0, .int .i64 0, .int .i64 0] := by refine Blk.ext ?_ hx1; exact (by repeat (first | (with_reducible assumption) | (with_reducible exact Blk.new _ _ _) | exact Blk.newAt _ _ _ (by simp) | (with_reducible refine Blk.alloc ?_ _) | (with_reducible refine Blk.drew ?_) | (with_reducible refine Blk.drewN ?_ _) | refine Blk.far ?_ (by simp only []; omega) _ | refine Blk.rext ?_ (by assumption) (by omega) | refine Blk.ext ?_ (by assumption)))
    have cBQ := BQ.cells
    have fBQ := BQ.frozens
    have zBQ := BQ.lt
    have cBR := BR.cells
    have fBR := BR.frozens
    have zBR := BR.lt
    have X1 : Ext w w1 := (by repeat (first | (with_reducible exact Ext.refl _) | (with_reducible assumption) | (with_reducible refine Ext.alloc ?_ _) | (with_reducible refine Ext.drewN ?_ _) | (with_reducible refine Ext.drew ?_) | (with_reducible refine Ext.setCell ?_ ?_ _; rotate_left; (simp only []; omega)) | (with_reducible refine Ext.trans ?_ (by assumption))))
    clear hx1
    go_wp2
    refine' bodyPost_ret (v := _) ?_ rfl ?_
    rotate_left
    · (simp only [results, Tryz.results35]
       go_simp
       rfl)
    refine ⟨none, 0, 0, none, 0, 0, none, 0, 0, rfl, Ow.nils _, Ow.nils _, Ow.nils _, ?_⟩
    clear cBQ fBQ cBR fBR
    refine (fun (h : Two (w.heap.size + 1 + 1) (w.heap.size + 1 + 1 + 1) w1 _) => h.ext X1 e2 e3) ?_
    clear e2 e3
    generalize w.heap.size + 1 + 1 + 1 = b2
    generalize w.heap.size + 1 + 1 = b1
    repeat (first | (with_reducible exact Two.refl _ _ _) | (with_reducible refine Two.drew ?_) | (with_reducible refine Two.alloc ?_ _) | (with_reducible refine Two.set1 ?_ _ _) | (with_reducible refine Two.set2 ?_ _ _))
end Go.Proofs.YtppdcglnopoocaaGreat
