/- The words, laws and contracts that the claims of this seat share: group m. No condition. -/
import Derived.Test.YtppdcglnopoocaaKj
import Derived.Test.YtppdcglnopoocaaKi
/- Contracts: the first package's SendOut, PassBetween, Forward. -/
namespace Go.Proofs.Ytppdcglnopoocaa
set_option linter.unusedVariables false
set_option linter.unusedSimpArgs false
open Go.RowKit

set_option maxHeartbeats 2000000 in
theorem impl_SendOut_not (g : GateD) (p : PktD) (ta : Option Addr) (tn tc : Nat) (ka : Option Addr) (kn kc : Nat) (a : Option Addr) (n c : Nat) (w : World) (ht : Sl encM 4 w ta tn tc g.table) (hk : Sl encC 3 w ka kn kc g.cons) (hs : Sl encI 1 w a n c p.data) (hC : (fromIn g p && !has g.net p.to_.addr && !decide (p.to_.addr = g.out)) = false) :
    Calls Try.prog 27 #[.agg #[.int .i64 g.net.base, .int .i64 g.net.bits, .int .i64 g.out, .slice ta tn tc, .slice ka kn kc, .int .i64 g.filter, .int .i64 g.hold, .int .i64 g.now], .agg #[.int .i64 p.kind, .int .i64 p.fr.addr, .int .i64 p.fr.port, .int .i64 p.to_.addr, .int .i64 p.to_.port, .slice a n c]] w fun x w' => x = .returned (.tuple #[.agg #[.int .i64 0, .int .i64 0, .int .i64 0, .int .i64 0, .int .i64 0, .slice none 0 0], .agg #[.int .i64 0, .int .i64 0, .int .i64 0, .slice none 0 0, .slice none 0 0, .int .i64 0, .int .i64 0, .int .i64 0], .bool false]) ∧ Ext w w' := by
  have hnet : fromIn g p = true → validNet g.net = true := fun h => by
    simp only [fromIn, Bool.and_eq_true] at h
    exact (validGate_iff.1 h.1.1).net
  go_enter Try.func27, Try.ntmps27
  go_wp2_with (first | (go_at_call 77; refine (impl_from g p ta tn tc ka kn kc a n c _ (by exact ht.ext (by repeat (first | (with_reducible exact Ext.refl _) | (with_reducible assumption) | (with_reducible refine Ext.alloc ?_ _) | (with_reducible refine Ext.drewN ?_ _) | (with_reducible refine Ext.drew ?_) | (with_reducible refine Ext.setCell ?_ ?_ _; rotate_left; (simp only []; omega)) | (with_reducible refine Ext.trans ?_ (by assumption))))) (by exact hk.ext (by repeat (first | (with_reducible exact Ext.refl _) | (with_reducible assumption) | (with_reducible refine Ext.alloc ?_ _) | (with_reducible refine Ext.drewN ?_ _) | (with_reducible refine Ext.drew ?_) | (with_reducible refine Ext.setCell ?_ ?_ _; rotate_left; (simp only []; omega)) | (with_reducible refine Ext.trans ?_ (by assumption))))) (by exact hs.ext (by repeat (first | (with_reducible exact Ext.refl _) | (with_reducible assumption) | (with_reducible refine Ext.alloc ?_ _) | (with_reducible refine Ext.drewN ?_ _) | (with_reducible refine Ext.drew ?_) | (with_reducible refine Ext.setCell ?_ ?_ _; rotate_left; (simp only []; omega)) | (with_reducible refine Ext.trans ?_ (by assumption)))))).mono ?_; rintro e w1 ⟨rfl, hx⟩; have hc := hx.cells; have hf := hx.frozens; have hy := hx.size; (try simp at hy); have hz : w.heap.size < w1.heap.size ∧ w.heap.size + 1 < w1.heap.size ∧ w.heap.size + 2 < w1.heap.size ∧ w.heap.size + 3 < w1.heap.size := (by omega)) | (go_at_call 58; refine (impl_has' g.net _ _ (hnet (by assumption))).mono ?_; rintro e w1 ⟨rfl, hx⟩; have hc := hx.cells; have hf := hx.frozens; have hy := hx.size; (try simp at hy); have hz : w.heap.size < w1.heap.size ∧ w.heap.size + 1 < w1.heap.size ∧ w.heap.size + 2 < w1.heap.size ∧ w.heap.size + 3 < w1.heap.size := (by omega)))
  all_goals (try (exfalso; simp_all; done))
  all_goals
    refine' bodyPost_ret (v := _) ?_ rfl ?_
    rotate_left
    · (simp only [results, Try.results27]
       go_simp
       rfl)
    exact ⟨rfl, (by repeat (first | (with_reducible exact Ext.refl _) | (with_reducible assumption) | (with_reducible refine Ext.alloc ?_ _) | (with_reducible refine Ext.drewN ?_ _) | (with_reducible refine Ext.drew ?_) | (with_reducible refine Ext.setCell ?_ ?_ _; rotate_left; (simp only []; omega)) | (with_reducible refine Ext.trans ?_ (by assumption))))⟩
set_option maxHeartbeats 2000000 in
/-- The first package's SendOut. -/
theorem impl_SendOut (g : GateD) (p : PktD) (ta : Option Addr) (tn tc : Nat) (ka : Option Addr) (kn kc : Nat) (a : Option Addr) (n c : Nat) (w : World) (ht : Sl encM 4 w ta tn tc g.table) (hk : Sl encC 3 w ka kn kc g.cons) (hs : Sl encI 1 w a n c p.data) :
    Calls Try.prog 27 #[.agg #[.int .i64 g.net.base, .int .i64 g.net.bits, .int .i64 g.out, .slice ta tn tc, .slice ka kn kc, .int .i64 g.filter, .int .i64 g.hold, .int .i64 g.now], .agg #[.int .i64 p.kind, .int .i64 p.fr.addr, .int .i64 p.fr.port, .int .i64 p.to_.addr, .int .i64 p.to_.port, .slice a n c]] w fun e w' => ∃ A n C sa sn sc qa qn qc, e = .returned (.tuple #[.agg #[.int .i64 (rP (sendOut g p)).kind, .int .i64 (rP (sendOut g p)).fr.addr, .int .i64 (rP (sendOut g p)).fr.port, .int .i64 (rP (sendOut g p)).to_.addr, .int .i64 (rP (sendOut g p)).to_.port, .slice A n C], .agg #[.int .i64 (rG (sendOut g p)).net.base, .int .i64 (rG (sendOut g p)).net.bits, .int .i64 (rG (sendOut g p)).out, .slice sa sn sc, .slice qa qn qc, .int .i64 (rG (sendOut g p)).filter, .int .i64 (rG (sendOut g p)).hold, .int .i64 (rG (sendOut g p)).now], .bool (sendOut g p).isSome]) ∧
          Ow 3 encI 1 w.heap.size w' A n C (rP (sendOut g p)).data ∧ Ow 89 encM 4 w.heap.size w' sa sn sc (rG (sendOut g p)).table ∧ Ow 47 encC 3 w.heap.size w' qa qn qc (rG (sendOut g p)).cons ∧ Ext w w' := by
  cases hC : (fromIn g p && !has g.net p.to_.addr && !decide (p.to_.addr = g.out)) with
  | false =>
    have e : sendOut g p = none := by
      unfold sendOut goesOut
      rw [hC]; rfl
    rw [e]
    exact (impl_SendOut_not g p ta tn tc ka kn kc a n c w ht hk hs hC).mono fun _ _ ⟨h1, h2⟩ => ⟨none, 0, 0, none, 0, 0, none, 0, 0, h1, Ow.nils _, Ow.nils _, Ow.nils _, h2⟩
  | true =>
    have e : sendOut g p = send g p := by
      unfold sendOut goesOut
      rw [hC]; rfl
    rw [e]
    simp only [Bool.and_eq_true, Bool.not_eq_true', decide_eq_false_iff_not] at hC
    obtain ⟨⟨h1, h2⟩, h3⟩ := hC
    have hf := h1
    simp only [fromIn, Bool.and_eq_true] at hf
    obtain ⟨⟨v1, v2⟩, v3⟩ := hf
    have c1 := fun W x y z => impl_from g p ta tn tc ka kn kc a n c W x y z
    rw [h1] at c1
    replace c1 := Lib.hid c1
    have c2 := fun W => impl_has' g.net p.to_.addr W (validGate_iff.1 v1).net
    rw [h2] at c2
    replace c2 := Lib.hid c2
    have b3 : (p.to_.addr == g.out) = false := by simp [h3]
    have c3 := fun W x y z => impl_send_u g p ta tn tc ka kn kc a n c W x y z v1 v2 v3
    obtain ⟨r, hr⟩ : ∃ r, r = send g p := ⟨_, rfl⟩
    rw [← hr] at c3 ⊢
    replace c3 := Lib.hid c3
    clear hr e h1 h2 h3 v1 v2 v3
    have e2 : w.heap.size ≤ w.heap.size + 1 + 1 := by omega
    have e3 : w.heap.size ≤ w.heap.size + 1 + 1 + 1 := by omega
    go_enter Try.func27, Try.ntmps27
    go_wp2_with fail
    refine (c1.out _ (by exact ht.ext (by repeat (first | (with_reducible exact Ext.refl _) | (with_reducible assumption) | (with_reducible refine Ext.alloc ?_ _) | (with_reducible refine Ext.drewN ?_ _) | (with_reducible refine Ext.drew ?_) | (with_reducible refine Ext.setCell ?_ ?_ _; rotate_left; (simp only []; omega)) | (with_reducible refine Ext.trans ?_ (by assumption))))) (by exact hk.ext (by repeat (first | (with_reducible exact Ext.refl _) | (with_reducible assumption) | (with_reducible refine Ext.alloc ?_ _) | (with_reducible refine Ext.drewN ?_ _) | (with_reducible refine Ext.drew ?_) | (with_reducible refine Ext.setCell ?_ ?_ _; rotate_left; (simp only []; omega)) | (with_reducible refine Ext.trans ?_ (by assumption))))) (by exact hs.ext (by repeat (first | (with_reducible exact Ext.refl _) | (with_reducible assumption) | (with_reducible refine Ext.alloc ?_ _) | (with_reducible refine Ext.drewN ?_ _) | (with_reducible refine Ext.drew ?_) | (with_reducible refine Ext.setCell ?_ ?_ _; rotate_left; (simp only []; omega)) | (with_reducible refine Ext.trans ?_ (by assumption)))))).mono ?_
    rintro e w1 ⟨rfl, hx1⟩
    have hy1 := hx1.size
    (try simp at hy1)
    have eW1 := useE (fun (h : Ext _ w1) => ht.ext h) (by repeat (first | (with_reducible exact Ext.refl _) | (with_reducible assumption) | (with_reducible refine Ext.alloc ?_ _) | (with_reducible refine Ext.drewN ?_ _) | (with_reducible refine Ext.drew ?_) | (with_reducible refine Ext.setCell ?_ ?_ _; rotate_left; (simp only []; omega)) | (with_reducible refine Ext.trans ?_ (by assumption))))
    replace ht := ht.ext eW1
    replace hk := hk.ext eW1
    replace hs := hs.ext eW1
    have BG : Blk w1 w.heap.size 28 (#[.int .i64 g.net.base, .int .i64 g.net.bits, .int .i64 g.out, .slice ta tn tc, .slice ka kn kc, .int .i64 g.filter, .int .i64 g.hold, .int .i64 g.now]) := by refine Blk.ext ?_ hx1; exact (by repeat (first | (with_reducible assumption) | (with_reducible exact Blk.new _ _ _) | exact Blk.newAt _ _ _ (by simp) | (with_reducible refine Blk.alloc ?_ _) | (with_reducible refine Blk.drew ?_) | (with_reducible refine Blk.drewN ?_ _) | refine Blk.far ?_ (by simp only []; omega) _ | refine Blk.rext ?_ (by assumption) (by omega) | refine Blk.ext ?_ (by assumption)))
    have BP : Blk w1 (w.heap.size+1) 33 (#[.int .i64 p.kind, .int .i64 p.fr.addr, .int .i64 p.fr.port, .int .i64 p.to_.addr, .int .i64 p.to_.port, .slice a n c]) := by refine Blk.ext ?_ hx1; exact (by repeat (first | (with_reducible assumption) | (with_reducible exact Blk.new _ _ _) | exact Blk.newAt _ _ _ (by simp) | (with_reducible refine Blk.alloc ?_ _) | (with_reducible refine Blk.drew ?_) | (with_reducible refine Blk.drewN ?_ _) | refine Blk.far ?_ (by simp only []; omega) _ | refine Blk.rext ?_ (by assumption) (by omega) | refine Blk.ext ?_ (by assumption)))
    have BQ : Blk w1 (w.heap.size+2) 33 #[.int .i64 0, .int .i64 0, .int .i64 0, .int .i64 0, .int .i64 0, .slice none 0 0] := by refine Blk.ext ?_ hx1; exact (by repeat (first | (with_reducible assumption) | (with_reducible exact Blk.new _ _ _) | exact Blk.newAt _ _ _ (by simp) | (with_reducible refine Blk.alloc ?_ _) | (with_reducible refine Blk.drew ?_) | (with_reducible refine Blk.drewN ?_ _) | refine Blk.far ?_ (by simp only []; omega) _ | refine Blk.rext ?_ (by assumption) (by omega) | refine Blk.ext ?_ (by assumption)))
    have BR : Blk w1 (w.heap.size+3) 28 #[.int .i64 0, .int .i64 0, .int .i64 0, .slice none 0 0, .slice none 0 0, .int .i64 0, .int .i64 0, .int .i64 0] := by refine Blk.ext ?_ hx1; exact (by repeat (first | (with_reducible assumption) | (with_reducible exact Blk.new _ _ _) | exact Blk.newAt _ _ _ (by simp) | (with_reducible refine Blk.alloc ?_ _) | (with_reducible refine Blk.drew ?_) | (with_reducible refine Blk.drewN ?_ _) | refine Blk.far ?_ (by simp only []; omega) _ | refine Blk.rext ?_ (by assumption) (by omega) | refine Blk.ext ?_ (by assumption)))
    have cBG := BG.cells
    have fBG := BG.frozens
    have zBG := BG.lt
    have cBP := BP.cells
    have fBP := BP.frozens
    have zBP := BP.lt
    have cBQ := BQ.cells
    have fBQ := BQ.frozens
    have zBQ := BQ.lt
    have cBR := BR.cells
    have fBR := BR.frozens
    have zBR := BR.lt
    have XU : Ext w w1 := (by repeat (first | (with_reducible exact Ext.refl _) | (with_reducible assumption) | (with_reducible refine Ext.alloc ?_ _) | (with_reducible refine Ext.drewN ?_ _) | (with_reducible refine Ext.drew ?_) | (with_reducible refine Ext.setCell ?_ ?_ _; rotate_left; (simp only []; omega)) | (with_reducible refine Ext.trans ?_ (by assumption))))
    clear hx1
    go_wp2_with fail
    refine (c2.out _).mono ?_
    rintro e w2 ⟨rfl, hx2⟩
    have hy2 := hx2.size
    (try simp at hy2)
    have eW2 := useE (fun (h : Ext _ w2) => ht.ext h) (by repeat (first | (with_reducible exact Ext.refl _) | (with_reducible assumption) | (with_reducible refine Ext.alloc ?_ _) | (with_reducible refine Ext.drewN ?_ _) | (with_reducible refine Ext.drew ?_) | (with_reducible refine Ext.setCell ?_ ?_ _; rotate_left; (simp only []; omega)) | (with_reducible refine Ext.trans ?_ (by assumption))))
    replace ht := ht.ext eW2
    replace hk := hk.ext eW2
    replace hs := hs.ext eW2
    clear cBG fBG zBG
    replace BG := BG.ext eW2
    clear cBP fBP zBP
    replace BP := BP.ext eW2
    clear cBQ fBQ zBQ
    replace BQ := BQ.ext eW2
    clear cBR fBR zBR
    replace BR := BR.ext eW2
    replace XU := XU.ext eW2
    have cBG := BG.cells
    have fBG := BG.frozens
    have zBG := BG.lt
    have cBP := BP.cells
    have fBP := BP.frozens
    have zBP := BP.lt
    have cBQ := BQ.cells
    have fBQ := BQ.frozens
    have zBQ := BQ.lt
    have cBR := BR.cells
    have fBR := BR.frozens
    have zBR := BR.lt
    have X2 := XU
    clear hx2 XU
    go_wp2_with fail
    refine (c3.out _ (by exact ht.ext (by repeat (first | (with_reducible exact Ext.refl _) | (with_reducible assumption) | (with_reducible refine Ext.alloc ?_ _) | (with_reducible refine Ext.drewN ?_ _) | (with_reducible refine Ext.drew ?_) | (with_reducible refine Ext.setCell ?_ ?_ _; rotate_left; (simp only []; omega)) | (with_reducible refine Ext.trans ?_ (by assumption))))) (by exact hk.ext (by repeat (first | (with_reducible exact Ext.refl _) | (with_reducible assumption) | (with_reducible refine Ext.alloc ?_ _) | (with_reducible refine Ext.drewN ?_ _) | (with_reducible refine Ext.drew ?_) | (with_reducible refine Ext.setCell ?_ ?_ _; rotate_left; (simp only []; omega)) | (with_reducible refine Ext.trans ?_ (by assumption))))) (by exact hs.ext (by repeat (first | (with_reducible exact Ext.refl _) | (with_reducible assumption) | (with_reducible refine Ext.alloc ?_ _) | (with_reducible refine Ext.drewN ?_ _) | (with_reducible refine Ext.drew ?_) | (with_reducible refine Ext.setCell ?_ ?_ _; rotate_left; (simp only []; omega)) | (with_reducible refine Ext.trans ?_ (by assumption)))))).mono ?_
    rintro e w3 ⟨A, n', C, sa, sn, sc, qa, qn, qc, rfl, O1, O2, O3, hx3⟩
    have hy3 := hx3.size
    (try simp at hy3)
    have eW3 := useE (fun (h : Ext _ w3) => ht.ext h) (by repeat (first | (with_reducible exact Ext.refl _) | (with_reducible assumption) | (with_reducible refine Ext.alloc ?_ _) | (with_reducible refine Ext.drewN ?_ _) | (with_reducible refine Ext.drew ?_) | (with_reducible refine Ext.setCell ?_ ?_ _; rotate_left; (simp only []; omega)) | (with_reducible refine Ext.trans ?_ (by assumption))))
    replace ht := ht.ext eW3
    replace hk := hk.ext eW3
    replace hs := hs.ext eW3
    clear cBG fBG zBG
    replace BG := BG.ext eW3
    clear cBP fBP zBP
    replace BP := BP.ext eW3
    clear cBQ fBQ zBQ
    replace BQ := BQ.ext eW3
    clear cBR fBR zBR
    replace BR := BR.ext eW3
    have cBG := BG.cells
    have fBG := BG.frozens
    have zBG := BG.lt
    have cBP := BP.cells
    have fBP := BP.frozens
    have zBP := BP.lt
    have cBQ := BQ.cells
    have fBQ := BQ.frozens
    have zBQ := BQ.lt
    have cBR := BR.cells
    have fBR := BR.frozens
    have zBR := BR.lt
    have X3 : Ext w w3 := X2.trans (show Ext w2 w3 from (by repeat (first | (with_reducible exact Ext.refl _) | (with_reducible assumption) | (with_reducible refine Ext.alloc ?_ _) | (with_reducible refine Ext.drewN ?_ _) | (with_reducible refine Ext.drew ?_) | (with_reducible refine Ext.setCell ?_ ?_ _; rotate_left; (simp only []; omega)) | (with_reducible refine Ext.trans ?_ (by assumption)))))
    have l1 := O1.lt
    have l2 := O2.lt
    have l3 := O3.lt
    have hz : w.heap.size + 4 ≤ w2.heap.size := by omega
    have Y1 := Lib.hid (O1.rebase (b' := w.heap.size) (by (try simp); (try omega)))
    have Y2 := Lib.hid (O2.rebase (b' := w.heap.size) (by (try simp); (try omega)))
    have Y3 := Lib.hid (O3.rebase (b' := w.heap.size) (by (try simp); (try omega)))
    have n12 : ∀ x, A = some x → x.block ≠ w.heap.size + 1 + 1 := fun x e => by have := (l1 x e).1; (try simp at this); omega
    have n13 : ∀ x, A = some x → x.block ≠ w.heap.size + 1 + 1 + 1 := fun x e => by have := (l1 x e).1; (try simp at this); omega
    have n22 : ∀ x, sa = some x → x.block ≠ w.heap.size + 1 + 1 := fun x e => by have := (l2 x e).1; (try simp at this); omega
    have n23 : ∀ x, sa = some x → x.block ≠ w.heap.size + 1 + 1 + 1 := fun x e => by have := (l2 x e).1; (try simp at this); omega
    have n32 : ∀ x, qa = some x → x.block ≠ w.heap.size + 1 + 1 := fun x e => by have := (l3 x e).1; (try simp at this); omega
    have n33 : ∀ x, qa = some x → x.block ≠ w.heap.size + 1 + 1 + 1 := fun x e => by have := (l3 x e).1; (try simp at this); omega
    clear hx3 O1 O2 O3 l1 l2 l3
    go_wp2
    refine' bodyPost_ret (v := _) ?_ rfl ?_
    rotate_left
    · (simp only [results, Try.results27]
       go_simp
       rfl)
    refine ⟨A, n', C, sa, sn, sc, qa, qn, qc, rfl, ?_⟩
    clear cBG fBG cBP fBP cBQ fBQ cBR fBR
    refine (fun (h : Two (w.heap.size + 1 + 1) (w.heap.size + 1 + 1 + 1) w3 _) => ⟨h.ow Y1.out n12 n13, h.ow Y2.out n22 n23, h.ow Y3.out n32 n33, h.ext X3 e2 e3⟩) ?_
    clear e2 e3
    generalize w.heap.size + 1 + 1 + 1 = b2
    generalize w.heap.size + 1 + 1 = b1
    repeat (first | (with_reducible exact Two.refl _ _ _) | (with_reducible refine Two.drew ?_) | (with_reducible refine Two.alloc ?_ _) | (with_reducible refine Two.set1 ?_ _ _) | (with_reducible refine Two.set2 ?_ _ _))
end Go.Proofs.Ytppdcglnopoocaa
