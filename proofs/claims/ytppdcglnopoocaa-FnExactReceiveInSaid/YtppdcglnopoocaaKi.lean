/- The words, laws and contracts that the claims of this seat share: group i. No condition. -/
import Derived.Test.YtppdcglnopoocaaKd
import Derived.Test.YtppdcglnopoocaaKg
import Derived.Test.YtppdcglnopoocaaKb
import Derived.Test.YtppdcglnopoocaaKf
/- Contracts: the first package's ReceiveIn. -/
namespace Go.Proofs.Ytppdcglnopoocaa
set_option linter.unusedVariables false
set_option linter.unusedSimpArgs false
open Go.RowKit

set_option maxHeartbeats 2000000 in
theorem impl_ReceiveIn_not (g : GateD) (p : PktD) (ta : Option Addr) (tn tc : Nat) (ka : Option Addr) (kn kc : Nat) (a : Option Addr) (n c : Nat) (w : World) (ht : Sl encM 4 w ta tn tc g.table) (hk : Sl encC 3 w ka kn kc g.cons) (hs : Sl encI 1 w a n c p.data)
    (hC : (validGate g && validPkt p && decide (p.to_.addr = g.out) && !has g.net p.fr.addr) = false) :
    Calls Try.prog 18 #[.agg #[.int .i64 g.net.base, .int .i64 g.net.bits, .int .i64 g.out, .slice ta tn tc, .slice ka kn kc, .int .i64 g.filter, .int .i64 g.hold, .int .i64 g.now], .agg #[.int .i64 p.kind, .int .i64 p.fr.addr, .int .i64 p.fr.port, .int .i64 p.to_.addr, .int .i64 p.to_.port, .slice a n c]] w fun x w' => x = .returned (.tuple #[.agg #[.int .i64 0, .int .i64 0, .int .i64 0, .int .i64 0, .int .i64 0, .slice none 0 0], .agg #[.int .i64 0, .int .i64 0, .int .i64 0, .slice none 0 0, .slice none 0 0, .int .i64 0, .int .i64 0, .int .i64 0], .bool false]) ∧ Ext w w' := by
  go_enter Try.func18, Try.ntmps18
  go_wp2_with (first | (go_at_call 30; refine (impl_ValidGate g ta tn tc ka kn kc _ (by exact ht.ext (by repeat (first | (with_reducible exact Ext.refl _) | (with_reducible assumption) | (with_reducible refine Ext.alloc ?_ _) | (with_reducible refine Ext.drewN ?_ _) | (with_reducible refine Ext.drew ?_) | (with_reducible refine Ext.setCell ?_ ?_ _; rotate_left; (simp only []; omega)) | (with_reducible refine Ext.trans ?_ (by assumption))))) (by exact hk.ext (by repeat (first | (with_reducible exact Ext.refl _) | (with_reducible assumption) | (with_reducible refine Ext.alloc ?_ _) | (with_reducible refine Ext.drewN ?_ _) | (with_reducible refine Ext.drew ?_) | (with_reducible refine Ext.setCell ?_ ?_ _; rotate_left; (simp only []; omega)) | (with_reducible refine Ext.trans ?_ (by assumption)))))).mono ?_; rintro e w1 ⟨rfl, hx⟩; have hc := hx.cells; have hf := hx.frozens; have hy := hx.size; (try simp at hy); have hz : w.heap.size < w1.heap.size ∧ w.heap.size + 1 < w1.heap.size ∧ w.heap.size + 2 < w1.heap.size ∧ w.heap.size + 3 < w1.heap.size := (by omega)) | (go_at_call 57; refine (impl_ValidPacket' p a n c _ (by exact hs.ext (by repeat (first | (with_reducible exact Ext.refl _) | (with_reducible assumption) | (with_reducible refine Ext.alloc ?_ _) | (with_reducible refine Ext.drewN ?_ _) | (with_reducible refine Ext.drew ?_) | (with_reducible refine Ext.setCell ?_ ?_ _; rotate_left; (simp only []; omega)) | (with_reducible refine Ext.trans ?_ (by assumption)))))).mono ?_; rintro e w1 ⟨rfl, hx⟩; have hc := hx.cells; have hf := hx.frozens; have hy := hx.size; (try simp at hy); have hz : w.heap.size < w1.heap.size ∧ w.heap.size + 1 < w1.heap.size ∧ w.heap.size + 2 < w1.heap.size ∧ w.heap.size + 3 < w1.heap.size := (by omega)) | (go_at_call 58; refine (impl_has' g.net _ _ (validGate_iff.1 (by assumption)).net).mono ?_; rintro e w1 ⟨rfl, hx⟩; have hc := hx.cells; have hf := hx.frozens; have hy := hx.size; (try simp at hy); have hz : w.heap.size < w1.heap.size ∧ w.heap.size + 1 < w1.heap.size ∧ w.heap.size + 2 < w1.heap.size ∧ w.heap.size + 3 < w1.heap.size := (by omega)))
  all_goals (try (exfalso; simp_all; done))
  all_goals
    refine' bodyPost_ret (v := _) ?_ rfl ?_
    rotate_left
    · (simp only [results, Try.results18]
       go_simp
       rfl)
    exact ⟨rfl, (by repeat (first | (with_reducible exact Ext.refl _) | (with_reducible assumption) | (with_reducible refine Ext.alloc ?_ _) | (with_reducible refine Ext.drewN ?_ _) | (with_reducible refine Ext.drew ?_) | (with_reducible refine Ext.setCell ?_ ?_ _; rotate_left; (simp only []; omega)) | (with_reducible refine Ext.trans ?_ (by assumption))))⟩
set_option maxHeartbeats 2000000 in
theorem impl_ReceiveIn_none (g : GateD) (p : PktD) (ta : Option Addr) (tn tc : Nat) (ka : Option Addr) (kn kc : Nat) (a : Option Addr) (n c : Nat) (w : World) (ht : Sl encM 4 w ta tn tc g.table) (hk : Sl encC 3 w ka kn kc g.cons) (hs : Sl encI 1 w a n c p.data)
    (h1 : validGate g = true) (h2 : validPkt p = true) (h3 : p.to_.addr = g.out) (h4 : has g.net p.fr.addr = false) (at_ : Int) (hb : byPort g.table p.to_.port = at_) (lt : Bool) (hl : letsIn g.filter g.cons p.to_.port p.fr = lt) (hno : at_ < 0 ∨ lt = false) :
    Calls Try.prog 18 #[.agg #[.int .i64 g.net.base, .int .i64 g.net.bits, .int .i64 g.out, .slice ta tn tc, .slice ka kn kc, .int .i64 g.filter, .int .i64 g.hold, .int .i64 g.now], .agg #[.int .i64 p.kind, .int .i64 p.fr.addr, .int .i64 p.fr.port, .int .i64 p.to_.addr, .int .i64 p.to_.port, .slice a n c]] w fun x w' => x = .returned (.tuple #[.agg #[.int .i64 0, .int .i64 0, .int .i64 0, .int .i64 0, .int .i64 0, .slice none 0 0], .agg #[.int .i64 0, .int .i64 0, .int .i64 0, .slice none 0 0, .slice none 0 0, .int .i64 0, .int .i64 0, .int .i64 0], .bool false]) ∧ Ext w w' := by
  have c1 := fun W x y => impl_ValidGate g ta tn tc ka kn kc W x y
  rw [h1] at c1
  replace c1 := Lib.hid c1
  have c2 := fun W h => impl_ValidPacket' p a n c W h
  rw [h2] at c2
  replace c2 := Lib.hid c2
  have c3 := fun W => impl_has' g.net p.fr.addr W (validGate_iff.1 h1).net
  rw [h4] at c3
  replace c3 := Lib.hid c3
  have b3 : (p.to_.addr != g.out) = false := by simp [h3]
  have c4 := fun W x => impl_byPort p.to_.port ta tn tc g.table W x
  rw [hb] at c4
  replace c4 := Lib.hid c4
  have c5 := fun W x => impl_LetsIn g.filter ka kn kc g.cons p.to_.port p.fr W x
  rw [hl] at c5
  replace c5 := Lib.hid c5
  clear h1 h2 h3 h4 hb hl
  go_enter Try.func18, Try.ntmps18
  go_wp2_with fail
  refine (c1.out _ (by exact ht.ext (by repeat (first | (with_reducible exact Ext.refl _) | (with_reducible assumption) | (with_reducible refine Ext.alloc ?_ _) | (with_reducible refine Ext.drewN ?_ _) | (with_reducible refine Ext.drew ?_) | (with_reducible refine Ext.setCell ?_ ?_ _; rotate_left; (simp only []; omega)) | (with_reducible refine Ext.trans ?_ (by assumption))))) (by exact hk.ext (by repeat (first | (with_reducible exact Ext.refl _) | (with_reducible assumption) | (with_reducible refine Ext.alloc ?_ _) | (with_reducible refine Ext.drewN ?_ _) | (with_reducible refine Ext.drew ?_) | (with_reducible refine Ext.setCell ?_ ?_ _; rotate_left; (simp only []; omega)) | (with_reducible refine Ext.trans ?_ (by assumption)))))).mono ?_
  rintro e w1 ⟨rfl, hx1⟩
  have hy1 := hx1.size
  (try simp at hy1)
  have eW1 := useE (fun (h : Ext _ w1) => ht.ext h) (by repeat (first | (with_reducible exact Ext.refl _) | (with_reducible assumption) | (with_reducible refine Ext.alloc ?_ _) | (with_reducible refine Ext.drewN ?_ _) | (with_reducible refine Ext.drew ?_) | (with_reducible refine Ext.setCell ?_ ?_ _; rotate_left; (simp only []; omega)) | (with_reducible refine Ext.trans ?_ (by assumption))))
  replace ht := ht.ext eW1
  replace hk := hk.ext eW1
  replace hs := hs.ext eW1
  have BG : Blk w1 w.heap.size 28 (#[.int .i64 g.net.base, .int .i64 g.net.bits, .int .i64 g.out, .slice ta tn tc, .slice ka kn kc, .int .i64 g.filter, .int .i64 g.hold, .int .i64 g.now]) := by refine Blk.ext ?_ hx1; exact (by repeat (first | (with_reducible assumption) | (with_reducible exact Blk.new _ _ _) | exact Blk.newAt _ _ _ (by simp) | (with_reducible refine Blk.alloc ?_ _) | (with_reducible refine Blk.drew ?_) | (with_reducible refine Blk.drewN ?_ _) | refine Blk.far ?_ (by simp only []; omega) _ | refine Blk.rext ?_ (by assumption) (by omega) | refine Blk.ext ?_ (by assumption)))
  have BX : Blk w1 (w.heap.size+1) 33 (#[.int .i64 p.kind, .int .i64 p.fr.addr, .int .i64 p.fr.port, .int .i64 p.to_.addr, .int .i64 p.to_.port, .slice a n c]) := by refine Blk.ext ?_ hx1; exact (by repeat (first | (with_reducible assumption) | (with_reducible exact Blk.new _ _ _) | exact Blk.newAt _ _ _ (by simp) | (with_reducible refine Blk.alloc ?_ _) | (with_reducible refine Blk.drew ?_) | (with_reducible refine Blk.drewN ?_ _) | refine Blk.far ?_ (by simp only []; omega) _ | refine Blk.rext ?_ (by assumption) (by omega) | refine Blk.ext ?_ (by assumption)))
  have BQ : Blk w1 (w.heap.size+2) 33 #[.int .i64 0, .int .i64 0, .int .i64 0, .int .i64 0, .int .i64 0, .slice none 0 0] := by refine Blk.ext ?_ hx1; exact (by repeat (first | (with_reducible assumption) | (with_reducible exact Blk.new _ _ _) | exact Blk.newAt _ _ _ (by simp) | (with_reducible refine Blk.alloc ?_ _) | (with_reducible refine Blk.drew ?_) | (with_reducible refine Blk.drewN ?_ _) | refine Blk.far ?_ (by simp only []; omega) _ | refine Blk.rext ?_ (by assumption) (by omega) | refine Blk.ext ?_ (by assumption)))
  have BR : Blk w1 (w.heap.size+3) 28 #[.int .i64 0, .int .i64 0, .int .i64 0, .slice none 0 0, .slice none 0 0, .int .i64 0, .int .i64 0, .int .i64 0] := by refine Blk.ext ?_ hx1; exact (by repeat (first | (with_reducible assumption) | (with_reducible exact Blk.new _ _ _) | exact Blk.newAt _ _ _ (by simp) | (with_reducible refine Blk.alloc ?_ _) | (with_reducible refine Blk.drew ?_) | (with_reducible refine Blk.drewN ?_ _) | refine Blk.far ?_ (by simp only []; omega) _ | refine Blk.rext ?_ (by assumption) (by omega) | refine Blk.ext ?_ (by assumption)))
  have cBG := BG.cells
  have fBG := BG.frozens
  have zBG := BG.lt
  have cBX := BX.cells
  have fBX := BX.frozens
  have zBX := BX.lt
  have cBQ := BQ.cells
  have fBQ := BQ.frozens
  have zBQ := BQ.lt
  have cBR := BR.cells
  have fBR := BR.frozens
  have zBR := BR.lt
  have XU : Ext w w1 := (by repeat (first | (with_reducible exact Ext.refl _) | (with_reducible assumption) | (with_reducible refine Ext.alloc ?_ _) | (with_reducible refine Ext.drewN ?_ _) | (with_reducible refine Ext.drew ?_) | (with_reducible refine Ext.setCell ?_ ?_ _; rotate_left; (simp only []; omega)) | (with_reducible refine Ext.trans ?_ (by assumption))))
  clear hx1
  go_wp2_with fail
  refine (c2.out _ (by exact hs.ext (by repeat (first | (with_reducible exact Ext.refl _) | (with_reducible assumption) | (with_reducible refine Ext.alloc ?_ _) | (with_reducible refine Ext.drewN ?_ _) | (with_reducible refine Ext.drew ?_) | (with_reducible refine Ext.setCell ?_ ?_ _; rotate_left; (simp only []; omega)) | (with_reducible refine Ext.trans ?_ (by assumption)))))).mono ?_
  rintro e w2 ⟨rfl, hx2⟩
  have hy2 := hx2.size
  (try simp at hy2)
  have eW2 := useE (fun (h : Ext _ w2) => ht.ext h) (by repeat (first | (with_reducible exact Ext.refl _) | (with_reducible assumption) | (with_reducible refine Ext.alloc ?_ _) | (with_reducible refine Ext.drewN ?_ _) | (with_reducible refine Ext.drew ?_) | (with_reducible refine Ext.setCell ?_ ?_ _; rotate_left; (simp only []; omega)) | (with_reducible refine Ext.trans ?_ (by assumption))))
  replace ht := ht.ext eW2
  replace hk := hk.ext eW2
  replace hs := hs.ext eW2
  clear cBG fBG zBG
  replace BG := BG.ext eW2
  clear cBX fBX zBX
  replace BX := BX.ext eW2
  clear cBQ fBQ zBQ
  replace BQ := BQ.ext eW2
  clear cBR fBR zBR
  replace BR := BR.ext eW2
  replace XU := XU.ext eW2
  have cBG := BG.cells
  have fBG := BG.frozens
  have zBG := BG.lt
  have cBX := BX.cells
  have fBX := BX.frozens
  have zBX := BX.lt
  have cBQ := BQ.cells
  have fBQ := BQ.frozens
  have zBQ := BQ.lt
  have cBR := BR.cells
  have fBR := BR.frozens
  have zBR := BR.lt
  go_wp2_with fail
  refine (c3.out _).mono ?_
  rintro e w3 ⟨rfl, hx3⟩
  have hy3 := hx3.size
  (try simp at hy3)
  have eW3 := useE (fun (h : Ext _ w3) => ht.ext h) (by repeat (first | (with_reducible exact Ext.refl _) | (with_reducible assumption) | (with_reducible refine Ext.alloc ?_ _) | (with_reducible refine Ext.drewN ?_ _) | (with_reducible refine Ext.drew ?_) | (with_reducible refine Ext.setCell ?_ ?_ _; rotate_left; (simp only []; omega)) | (with_reducible refine Ext.trans ?_ (by assumption))))
  replace ht := ht.ext eW3
  replace hk := hk.ext eW3
  replace hs := hs.ext eW3
  clear cBG fBG zBG
  replace BG := BG.ext eW3
  clear cBX fBX zBX
  replace BX := BX.ext eW3
  clear cBQ fBQ zBQ
  replace BQ := BQ.ext eW3
  clear cBR fBR zBR
  replace BR := BR.ext eW3
  replace XU := XU.ext eW3
  have cBG := BG.cells
  have fBG := BG.frozens
  have zBG := BG.lt
  have cBX := BX.cells
  have fBX := BX.frozens
  have zBX := BX.lt
  have cBQ := BQ.cells
  have fBQ := BQ.frozens
  have zBQ := BQ.lt
  have cBR := BR.cells
  have fBR := BR.frozens
  have zBR := BR.lt
  go_wp2_with fail
  refine (c4.out _ (by exact ht.ext (by repeat (first | (with_reducible exact Ext.refl _) | (with_reducible assumption) | (with_reducible refine Ext.alloc ?_ _) | (with_reducible refine Ext.drewN ?_ _) | (with_reducible refine Ext.drew ?_) | (with_reducible refine Ext.setCell ?_ ?_ _; rotate_left; (simp only []; omega)) | (with_reducible refine Ext.trans ?_ (by assumption)))))).mono ?_
  rintro e w4 ⟨rfl, hx4⟩
  have hy4 := hx4.size
  (try simp at hy4)
  have eW4 := useE (fun (h : Ext _ w4) => ht.ext h) (by repeat (first | (with_reducible exact Ext.refl _) | (with_reducible assumption) | (with_reducible refine Ext.alloc ?_ _) | (with_reducible refine Ext.drewN ?_ _) | (with_reducible refine Ext.drew ?_) | (with_reducible refine Ext.setCell ?_ ?_ _; rotate_left; (simp only []; omega)) | (with_reducible refine Ext.trans ?_ (by assumption))))
  replace ht := ht.ext eW4
  replace hk := hk.ext eW4
  replace hs := hs.ext eW4
  clear cBG fBG zBG
  replace BG := BG.ext eW4
  clear cBX fBX zBX
  replace BX := BX.ext eW4
  clear cBQ fBQ zBQ
  replace BQ := BQ.ext eW4
  clear cBR fBR zBR
  replace BR := BR.ext eW4
  replace XU := XU.ext eW4
  have cBG := BG.cells
  have fBG := BG.frozens
  have zBG := BG.lt
  have cBX := BX.cells
  have fBX := BX.frozens
  have zBX := BX.lt
  have cBQ := BQ.cells
  have fBQ := BQ.frozens
  have zBQ := BQ.lt
  have cBR := BR.cells
  have fBR := BR.frozens
  have zBR := BR.lt
  clear hx2 hx3 hx4
  by_cases h0 : at_ < 0
  · go_wp2
    refine' bodyPost_ret (v := _) ?_ rfl ?_
    rotate_left
    · (simp only [results, Try.results18]
       go_simp
       rfl)
    refine ⟨rfl, ?_⟩
    repeat (refine Ext.setCell ?_ (by simp only []; omega) _)
    exact XU
  · have hlt : lt = false := hno.resolve_left h0
    subst hlt
    clear hno
    go_wp2_with fail
    refine (c5.out _ (by exact hk.ext (by repeat (first | (with_reducible exact Ext.refl _) | (with_reducible assumption) | (with_reducible refine Ext.alloc ?_ _) | (with_reducible refine Ext.drewN ?_ _) | (with_reducible refine Ext.drew ?_) | (with_reducible refine Ext.setCell ?_ ?_ _; rotate_left; (simp only []; omega)) | (with_reducible refine Ext.trans ?_ (by assumption)))))).mono ?_
    rintro e w5 ⟨rfl, hx5⟩
    have hy5 := hx5.size
    (try simp at hy5)
    have eW5 := useE (fun (h : Ext _ w5) => ht.ext h) (by repeat (first | (with_reducible exact Ext.refl _) | (with_reducible assumption) | (with_reducible refine Ext.alloc ?_ _) | (with_reducible refine Ext.drewN ?_ _) | (with_reducible refine Ext.drew ?_) | (with_reducible refine Ext.setCell ?_ ?_ _; rotate_left; (simp only []; omega)) | (with_reducible refine Ext.trans ?_ (by assumption))))
    replace ht := ht.ext eW5
    replace hk := hk.ext eW5
    replace hs := hs.ext eW5
    clear cBG fBG zBG
    replace BG := BG.ext eW5
    clear cBX fBX zBX
    replace BX := BX.ext eW5
    clear cBQ fBQ zBQ
    replace BQ := BQ.ext eW5
    clear cBR fBR zBR
    replace BR := BR.ext eW5
    replace XU := XU.ext eW5
    have cBG := BG.cells
    have fBG := BG.frozens
    have zBG := BG.lt
    have cBX := BX.cells
    have fBX := BX.frozens
    have zBX := BX.lt
    have cBQ := BQ.cells
    have fBQ := BQ.frozens
    have zBQ := BQ.lt
    have cBR := BR.cells
    have fBR := BR.frozens
    have zBR := BR.lt
    clear hx5
    go_wp2
    refine' bodyPost_ret (v := _) ?_ rfl ?_
    rotate_left
    · (simp only [results, Try.results18]
       go_simp
       rfl)
    refine ⟨rfl, ?_⟩
    repeat (refine Ext.setCell ?_ (by simp only []; omega) _)
    exact XU
set_option maxHeartbeats 4000000 in
theorem impl_ReceiveIn_some (g : GateD) (p : PktD) (ta : Option Addr) (tn tc : Nat) (ka : Option Addr) (kn kc : Nat) (a : Option Addr) (n c : Nat) (w : World) (ht : Sl encM 4 w ta tn tc g.table) (hk : Sl encC 3 w ka kn kc g.cons) (hs : Sl encI 1 w a n c p.data)
    (h1 : validGate g = true) (h2 : validPkt p = true) (h3 : p.to_.addr = g.out) (h4 : has g.net p.fr.addr = false) (k : Nat) (m : MapD) (hb : byPort g.table p.to_.port = (k : Int)) (hm : g.table[k]? = some m) (hl : letsIn g.filter g.cons p.to_.port p.fr = true) :
    Calls Try.prog 18 #[.agg #[.int .i64 g.net.base, .int .i64 g.net.bits, .int .i64 g.out, .slice ta tn tc, .slice ka kn kc, .int .i64 g.filter, .int .i64 g.hold, .int .i64 g.now], .agg #[.int .i64 p.kind, .int .i64 p.fr.addr, .int .i64 p.fr.port, .int .i64 p.to_.addr, .int .i64 p.to_.port, .slice a n c]] w fun x w' => ∃ A C sa qa, x = .returned (.tuple #[.agg #[.int .i64 ({ p with to_ := m.ins } : PktD).kind, .int .i64 ({ p with to_ := m.ins } : PktD).fr.addr, .int .i64 ({ p with to_ := m.ins } : PktD).fr.port, .int .i64 ({ p with to_ := m.ins } : PktD).to_.addr, .int .i64 ({ p with to_ := m.ins } : PktD).to_.port, .slice A n C], .agg #[.int .i64 g.net.base, .int .i64 g.net.bits, .int .i64 g.out, .slice sa tn tn, .slice qa kn kn, .int .i64 g.filter, .int .i64 g.hold, .int .i64 g.now], .bool true]) ∧ Ow 3 encI 1 w.heap.size w' A n C p.data ∧ Ow 89 encM 4 w.heap.size w' sa tn tn g.table ∧ Ow 47 encC 3 w.heap.size w' qa kn kn g.cons ∧ Ext w w' := by
  have hv := validGate_iff.1 h1
  have htn : tn ≤ 8 := by have h := table_len hv.tab; rw [ht.len] at h; exact h
  have hkn : kn ≤ 10 := by have h := cons_len hv.con; rw [hk.len] at h; exact h
  have hn12 : n ≤ 12 := by have h := (validPkt_iff.1 h2).2.2.2.1; rw [hs.len] at h; exact h
  have hk8 : k < tn := by rw [← ht.len]; exact (List.getElem?_eq_some_iff.1 hm).1
  obtain ⟨_, b, off, rfl, hbl, hc0⟩ := (ht.maps).resolve_left (by omega)
  obtain ⟨d0, d1, d2, d3⟩ := hc0 k hk8
  have hmn : nth g.table k = m := nth_of hm
  rw [hmn] at d0 d1 d2 d3
  have htle := ht.le
  have htmx := ht.max
  have c1 := fun W x y => impl_ValidGate g (some ⟨b, off, none⟩) tn tc ka kn kc W x y
  rw [h1] at c1
  replace c1 := Lib.hid c1
  have c2 := fun W h => impl_ValidPacket' p a n c W h
  rw [h2] at c2
  replace c2 := Lib.hid c2
  have c3 := fun W => impl_has' g.net p.fr.addr W hv.net
  rw [h4] at c3
  replace c3 := Lib.hid c3
  have b3 : (p.to_.addr != g.out) = false := by simp [h3]
  have c4 := fun W x => impl_byPort p.to_.port (some ⟨b, off, none⟩) tn tc g.table W x
  rw [hb] at c4
  replace c4 := Lib.hid c4
  have c5 := fun W x => impl_LetsIn g.filter ka kn kc g.cons p.to_.port p.fr W x
  rw [hl] at c5
  replace c5 := Lib.hid c5
  clear h1 h2 h3 h4 hb hl hv hm hmn hc0
  go_enter Try.func18, Try.ntmps18
  go_wp2_with fail
  refine (c1.out _ (by exact ht.ext (by repeat (first | (with_reducible exact Ext.refl _) | (with_reducible assumption) | (with_reducible refine Ext.alloc ?_ _) | (with_reducible refine Ext.drewN ?_ _) | (with_reducible refine Ext.drew ?_) | (with_reducible refine Ext.setCell ?_ ?_ _; rotate_left; (simp only []; omega)) | (with_reducible refine Ext.trans ?_ (by assumption))))) (by exact hk.ext (by repeat (first | (with_reducible exact Ext.refl _) | (with_reducible assumption) | (with_reducible refine Ext.alloc ?_ _) | (with_reducible refine Ext.drewN ?_ _) | (with_reducible refine Ext.drew ?_) | (with_reducible refine Ext.setCell ?_ ?_ _; rotate_left; (simp only []; omega)) | (with_reducible refine Ext.trans ?_ (by assumption)))))).mono ?_
  rintro e w1 ⟨rfl, hx1⟩
  have hy1 := hx1.size
  (try simp at hy1)
  have eW1 := useE (fun (h : Ext _ w1) => ht.ext h) (by repeat (first | (with_reducible exact Ext.refl _) | (with_reducible assumption) | (with_reducible refine Ext.alloc ?_ _) | (with_reducible refine Ext.drewN ?_ _) | (with_reducible refine Ext.drew ?_) | (with_reducible refine Ext.setCell ?_ ?_ _; rotate_left; (simp only []; omega)) | (with_reducible refine Ext.trans ?_ (by assumption))))
  replace ht := ht.ext eW1
  replace hk := hk.ext eW1
  replace hs := hs.ext eW1
  have BG : Blk w1 w.heap.size 28 (#[.int .i64 g.net.base, .int .i64 g.net.bits, .int .i64 g.out, .slice (some ⟨b, off, none⟩) tn tc, .slice ka kn kc, .int .i64 g.filter, .int .i64 g.hold, .int .i64 g.now]) := by refine Blk.ext ?_ hx1; exact (by repeat (first | (with_reducible assumption) | (with_reducible exact Blk.new _ _ _) | exact Blk.newAt _ _ _ (by simp) | (with_reducible refine Blk.alloc ?_ _) | (with_reducible refine Blk.drew ?_) | (with_reducible refine Blk.drewN ?_ _) | refine Blk.far ?_ (by simp only []; omega) _ | refine Blk.rext ?_ (by assumption) (by omega) | refine Blk.ext ?_ (by assumption)))
  have BP : Blk w1 (w.heap.size+1) 33 (#[.int .i64 p.kind, .int .i64 p.fr.addr, .int .i64 p.fr.port, .int .i64 p.to_.addr, .int .i64 p.to_.port, .slice a n c]) := by refine Blk.ext ?_ hx1; exact (by repeat (first | (with_reducible assumption) | (with_reducible exact Blk.new _ _ _) | exact Blk.newAt _ _ _ (by simp) | (with_reducible refine Blk.alloc ?_ _) | (with_reducible refine Blk.drew ?_) | (with_reducible refine Blk.drewN ?_ _) | refine Blk.far ?_ (by simp only []; omega) _ | refine Blk.rext ?_ (by assumption) (by omega) | refine Blk.ext ?_ (by assumption)))
  have BQ : Blk w1 (w.heap.size+2) 33 #[.int .i64 0, .int .i64 0, .int .i64 0, .int .i64 0, .int .i64 0, .slice none 0 0] := by refine Blk.ext ?_ hx1; exact (by repeat (first | (with_reducible assumption) | (with_reducible exact Blk.new _ _ _) | exact Blk.newAt _ _ _ (by simp) | (with_reducible refine Blk.alloc ?_ _) | (with_reducible refine Blk.drew ?_) | (with_reducible refine Blk.drewN ?_ _) | refine Blk.far ?_ (by simp only []; omega) _ | refine Blk.rext ?_ (by assumption) (by omega) | refine Blk.ext ?_ (by assumption)))
  have BR : Blk w1 (w.heap.size+3) 28 #[.int .i64 0, .int .i64 0, .int .i64 0, .slice none 0 0, .slice none 0 0, .int .i64 0, .int .i64 0, .int .i64 0] := by refine Blk.ext ?_ hx1; exact (by repeat (first | (with_reducible assumption) | (with_reducible exact Blk.new _ _ _) | exact Blk.newAt _ _ _ (by simp) | (with_reducible refine Blk.alloc ?_ _) | (with_reducible refine Blk.drew ?_) | (with_reducible refine Blk.drewN ?_ _) | refine Blk.far ?_ (by simp only []; omega) _ | refine Blk.rext ?_ (by assumption) (by omega) | refine Blk.ext ?_ (by assumption)))
  have cBG := BG.cells
  have fBG := BG.frozens
  have zBG := BG.lt
  have cBP := BP.cells
  have fBP := BP.frozens
  have zBP := BP.lt
  have cBQ := BQ.cells
  have fBQ := BQ.frozens
  have zBQ := BQ.lt
  have cBR := BR.cells
  have fBR := BR.frozens
  have zBR := BR.lt
  have XU : Ext w w1 := (by repeat (first | (with_reducible exact Ext.refl _) | (with_reducible assumption) | (with_reducible refine Ext.alloc ?_ _) | (with_reducible refine Ext.drewN ?_ _) | (with_reducible refine Ext.drew ?_) | (with_reducible refine Ext.setCell ?_ ?_ _; rotate_left; (simp only []; omega)) | (with_reducible refine Ext.trans ?_ (by assumption))))
  clear hx1
  go_wp2_with fail
  refine (c2.out _ (by exact hs.ext (by repeat (first | (with_reducible exact Ext.refl _) | (with_reducible assumption) | (with_reducible refine Ext.alloc ?_ _) | (with_reducible refine Ext.drewN ?_ _) | (with_reducible refine Ext.drew ?_) | (with_reducible refine Ext.setCell ?_ ?_ _; rotate_left; (simp only []; omega)) | (with_reducible refine Ext.trans ?_ (by assumption)))))).mono ?_
  rintro e w2 ⟨rfl, hx2⟩
  have hy2 := hx2.size
  (try simp at hy2)
  have eW2 := useE (fun (h : Ext _ w2) => ht.ext h) (by repeat (first | (with_reducible exact Ext.refl _) | (with_reducible assumption) | (with_reducible refine Ext.alloc ?_ _) | (with_reducible refine Ext.drewN ?_ _) | (with_reducible refine Ext.drew ?_) | (with_reducible refine Ext.setCell ?_ ?_ _; rotate_left; (simp only []; omega)) | (with_reducible refine Ext.trans ?_ (by assumption))))
  replace ht := ht.ext eW2
  replace hk := hk.ext eW2
  replace hs := hs.ext eW2
  clear cBG fBG zBG
  replace BG := BG.ext eW2
  clear cBP fBP zBP
  replace BP := BP.ext eW2
  clear cBQ fBQ zBQ
  replace BQ := BQ.ext eW2
  clear cBR fBR zBR
  replace BR := BR.ext eW2
  replace XU := XU.ext eW2
  have cBG := BG.cells
  have fBG := BG.frozens
  have zBG := BG.lt
  have cBP := BP.cells
  have fBP := BP.frozens
  have zBP := BP.lt
  have cBQ := BQ.cells
  have fBQ := BQ.frozens
  have zBQ := BQ.lt
  have cBR := BR.cells
  have fBR := BR.frozens
  have zBR := BR.lt
  go_wp2_with fail
  refine (c3.out _).mono ?_
  rintro e w3 ⟨rfl, hx3⟩
  have hy3 := hx3.size
  (try simp at hy3)
  have eW3 := useE (fun (h : Ext _ w3) => ht.ext h) (by repeat (first | (with_reducible exact Ext.refl _) | (with_reducible assumption) | (with_reducible refine Ext.alloc ?_ _) | (with_reducible refine Ext.drewN ?_ _) | (with_reducible refine Ext.drew ?_) | (with_reducible refine Ext.setCell ?_ ?_ _; rotate_left; (simp only []; omega)) | (with_reducible refine Ext.trans ?_ (by assumption))))
  replace ht := ht.ext eW3
  replace hk := hk.ext eW3
  replace hs := hs.ext eW3
  clear cBG fBG zBG
  replace BG := BG.ext eW3
  clear cBP fBP zBP
  replace BP := BP.ext eW3
  clear cBQ fBQ zBQ
  replace BQ := BQ.ext eW3
  clear cBR fBR zBR
  replace BR := BR.ext eW3
  replace XU := XU.ext eW3
  have cBG := BG.cells
  have fBG := BG.frozens
  have zBG := BG.lt
  have cBP := BP.cells
  have fBP := BP.frozens
  have zBP := BP.lt
  have cBQ := BQ.cells
  have fBQ := BQ.frozens
  have zBQ := BQ.lt
  have cBR := BR.cells
  have fBR := BR.frozens
  have zBR := BR.lt
  go_wp2_with fail
  refine (c4.out _ (by exact ht.ext (by repeat (first | (with_reducible exact Ext.refl _) | (with_reducible assumption) | (with_reducible refine Ext.alloc ?_ _) | (with_reducible refine Ext.drewN ?_ _) | (with_reducible refine Ext.drew ?_) | (with_reducible refine Ext.setCell ?_ ?_ _; rotate_left; (simp only []; omega)) | (with_reducible refine Ext.trans ?_ (by assumption)))))).mono ?_
  rintro e w4 ⟨rfl, hx4⟩
  have hy4 := hx4.size
  (try simp at hy4)
  have eW4 := useE (fun (h : Ext _ w4) => ht.ext h) (by repeat (first | (with_reducible exact Ext.refl _) | (with_reducible assumption) | (with_reducible refine Ext.alloc ?_ _) | (with_reducible refine Ext.drewN ?_ _) | (with_reducible refine Ext.drew ?_) | (with_reducible refine Ext.setCell ?_ ?_ _; rotate_left; (simp only []; omega)) | (with_reducible refine Ext.trans ?_ (by assumption))))
  replace ht := ht.ext eW4
  replace hk := hk.ext eW4
  replace hs := hs.ext eW4
  clear cBG fBG zBG
  replace BG := BG.ext eW4
  clear cBP fBP zBP
  replace BP := BP.ext eW4
  clear cBQ fBQ zBQ
  replace BQ := BQ.ext eW4
  clear cBR fBR zBR
  replace BR := BR.ext eW4
  replace XU := XU.ext eW4
  have cBG := BG.cells
  have fBG := BG.frozens
  have zBG := BG.lt
  have cBP := BP.cells
  have fBP := BP.frozens
  have zBP := BP.lt
  have cBQ := BQ.cells
  have fBQ := BQ.frozens
  have zBQ := BQ.lt
  have cBR := BR.cells
  have fBR := BR.frozens
  have zBR := BR.lt
  go_wp2_with fail
  refine (c5.out _ (by exact hk.ext (by repeat (first | (with_reducible exact Ext.refl _) | (with_reducible assumption) | (with_reducible refine Ext.alloc ?_ _) | (with_reducible refine Ext.drewN ?_ _) | (with_reducible refine Ext.drew ?_) | (with_reducible refine Ext.setCell ?_ ?_ _; rotate_left; (simp only []; omega)) | (with_reducible refine Ext.trans ?_ (by assumption)))))).mono ?_
  rintro e w5 ⟨rfl, hx5⟩
  have hy5 := hx5.size
  (try simp at hy5)
  have eW5 := useE (fun (h : Ext _ w5) => ht.ext h) (by repeat (first | (with_reducible exact Ext.refl _) | (with_reducible assumption) | (with_reducible refine Ext.alloc ?_ _) | (with_reducible refine Ext.drewN ?_ _) | (with_reducible refine Ext.drew ?_) | (with_reducible refine Ext.setCell ?_ ?_ _; rotate_left; (simp only []; omega)) | (with_reducible refine Ext.trans ?_ (by assumption))))
  replace ht := ht.ext eW5
  replace hk := hk.ext eW5
  replace hs := hs.ext eW5
  clear cBG fBG zBG
  replace BG := BG.ext eW5
  clear cBP fBP zBP
  replace BP := BP.ext eW5
  clear cBQ fBQ zBQ
  replace BQ := BQ.ext eW5
  clear cBR fBR zBR
  replace BR := BR.ext eW5
  replace XU := XU.ext eW5
  have cBG := BG.cells
  have fBG := BG.frozens
  have zBG := BG.lt
  have cBP := BP.cells
  have fBP := BP.frozens
  have zBP := BP.lt
  have cBQ := BQ.cells
  have fBQ := BQ.frozens
  have zBQ := BQ.lt
  have cBR := BR.cells
  have fBR := BR.frozens
  have zBR := BR.lt
  go_wp2_with fail
  refine (impl_pcopyOf p a n c _ (by exact hs.ext (by repeat (first | (with_reducible exact Ext.refl _) | (with_reducible assumption) | (with_reducible refine Ext.alloc ?_ _) | (with_reducible refine Ext.drewN ?_ _) | (with_reducible refine Ext.drew ?_) | (with_reducible refine Ext.setCell ?_ ?_ _; rotate_left; (simp only []; omega)) | (with_reducible refine Ext.trans ?_ (by assumption))))) (by omega)).mono ?_
  rintro e w7 ⟨A, rfl, O7, hx7⟩
  have hy7 := hx7.size
  (try simp at hy7)
  have eW7 := useE (fun (h : Ext _ w7) => ht.ext h) (by repeat (first | (with_reducible exact Ext.refl _) | (with_reducible assumption) | (with_reducible refine Ext.alloc ?_ _) | (with_reducible refine Ext.drewN ?_ _) | (with_reducible refine Ext.drew ?_) | (with_reducible refine Ext.setCell ?_ ?_ _; rotate_left; (simp only []; omega)) | (with_reducible refine Ext.trans ?_ (by assumption))))
  replace ht := ht.ext eW7
  replace hk := hk.ext eW7
  replace hs := hs.ext eW7
  clear cBG fBG zBG
  replace BG := BG.ext eW7
  clear cBP fBP zBP
  replace BP := BP.ext eW7
  clear cBQ fBQ zBQ
  replace BQ := BQ.ext eW7
  clear cBR fBR zBR
  replace BR := BR.ext eW7
  replace XU := XU.ext eW7
  have cBG := BG.cells
  have fBG := BG.frozens
  have zBG := BG.lt
  have cBP := BP.cells
  have fBP := BP.frozens
  have zBP := BP.lt
  have cBQ := BQ.cells
  have fBQ := BQ.frozens
  have zBQ := BQ.lt
  have cBR := BR.cells
  have fBR := BR.frozens
  have zBR := BR.lt
  have lO : ∀ x, A = some x → w.heap.size + 3 < x.block ∧ x.block < w7.heap.size := fun x e => by have h := O7.lt x e; (try simp at h); omega
  rw [← XU.cells _ _ hbl] at d0 d1 d2 d3
  have hb7 : b < w7.heap.size := by have := XU.size; omega
  clear hx2 hx3 hx4 hx5 hx7
  go_wp2_with fail
  clear d0 d1 d2 d3
  refine wp_gen (fun W => Ext w7 W ∧ Blk W w7.heap.size 33 #[.int .i64 p.kind, .int .i64 p.fr.addr, .int .i64 p.fr.port, .int .i64 m.ins.addr, .int .i64 m.ins.port, .slice A n n]) ⟨(by repeat (first | (with_reducible exact Ext.refl _) | (with_reducible assumption) | (with_reducible refine Ext.alloc ?_ _) | (with_reducible refine Ext.drewN ?_ _) | (with_reducible refine Ext.drew ?_) | (with_reducible refine Ext.setCell ?_ ?_ _; rotate_left; (simp only []; omega)) | (with_reducible refine Ext.trans ?_ (by assumption)))), (by first | (with_reducible exact Blk.new _ _ _) | exact Blk.new _ _ _)⟩ ?_
  rintro v8 ⟨x8, BO⟩
  have s8 := x8.size
  clear cBG fBG zBG cBP fBP zBP cBQ fBQ zBQ cBR fBR zBR
  replace BG := (BG.ext x8).drew
  replace BQ := (BQ.ext x8).drew
  replace BR := (BR.ext x8).drew
  replace BO := BO.drew
  replace ht := (ht.ext x8).drew
  replace hk := (hk.ext x8).drew
  replace O7 := (O7.ext x8).ext ((Ext.refl _).drew)
  replace XU := (XU.trans x8).drew
  have hdrS : ∀ W : World, W.drew.heap.size = W.heap.size := fun _ => rfl
  have hdrW := hdrS v8
  clear x8
  refine wp_region_eager (R := RX (fun i => i = w.heap.size + 1 + 1 ∨ i = w.heap.size + 1 + 1 + 1)) [0, 1, 2, 3, 4, 5] (by kernel_rfl) (by kernel_rfl) (RX.refl _) (fun _ _ _ => RX.trans) ?_
  generalize v8.drew = vD at *
  repeat' (first
    | (refine ChX.skip (by rfl) (by rfl) ?_
       (try simp only [Act.put, List.setIfInBounds_toArray, List.set_cons_zero, List.set_cons_succ]))
    | (refine' ChX.quiet (v := _) (by rfl) (by rfl) (by rfl) ?_ ?_
       rotate_left
       · (intro wS hS
          have cG := (BG.rx hS (by omega)).cells; have cO := (BO.rx hS (by omega)).cells
          go_simp
          with_reducible rfl)
       (try simp only [Act.put, List.setIfInBounds_toArray, List.set_cons_zero, List.set_cons_succ]))
    | (refine ChX.nil ?_)
    | (refine' ChX.guard (x := _) (by rfl) ?_ ?_ ?_
       rotate_left
       · (go_simp
          rfl)
       all_goals
         intro hg
         simp only [hg])
    | (refine' ChX.guardN (x := _) (by rfl) ?_ ?_ ?_
       rotate_left
       · (go_simp
          rfl)
       all_goals
         intro hg
         simp only [hg]))
  refine ChX.call (by rfl) (by rfl) (by rfl) (by go_simp; (constructor <;> rfl)) ?_
  refine (impl_copyOf g _ tn tc ka kn kc vD ht hk (by omega) (by omega)).mono ?_
  rintro e v9 ⟨sa, qa, rfl, P2, P3, h9⟩
  refine ⟨_, rfl, RX.of_ext h9, ?_⟩
  (try simp only [Act.put, List.setIfInBounds_toArray, List.set_cons_zero, List.set_cons_succ])
  skip
  have s9 := h9.size
  have l2 := P2.lt
  have l3 := P3.lt
  replace BQ := BQ.ext h9
  replace BR := BR.ext h9
  replace O7 := O7.ext h9
  replace XU := XU.trans h9
  clear h9
  have cQ := BQ.cells
  have fQ := BQ.frozens
  refine ChX.storeP (fun W => RExt (w.heap.size + 1 + 1) v9 W ∧ Blk W (w.heap.size + 1 + 1) 33 #[.int .i64 p.kind, .int .i64 p.fr.addr, .int .i64 p.fr.port, .int .i64 m.ins.addr, .int .i64 m.ins.port, .slice A n n]) (by rfl) (by rfl) (by rfl) ⟨_, (by go_simp; rfl), RX.of_rext (B := w.heap.size + 1 + 1) (by repeat (first | (with_reducible exact RExt.refl _ _) | (with_reducible refine RExt.putc ?_ _ _))) (.inl rfl), (by repeat (first | (with_reducible exact RExt.refl _ _) | (with_reducible refine RExt.putc ?_ _ _))), (by exact BQ.put6 _ _ _ _ _ _)⟩ ?_
  (try simp only [Act.put, List.setIfInBounds_toArray, List.set_cons_zero, List.set_cons_succ])
  rintro y1 _ ⟨z1, BQ1⟩
  clear cQ fQ
  have BR1 := BR.rext z1 (by omega)
  have cR := BR1.cells
  have fR := BR1.frozens
  refine ChX.storeP (fun W => RExt (w.heap.size + 1 + 1 + 1) y1 W ∧ Blk W (w.heap.size + 1 + 1 + 1) 28 (#[.int .i64 g.net.base, .int .i64 g.net.bits, .int .i64 g.out, .slice sa tn tn, .slice qa kn kn, .int .i64 g.filter, .int .i64 g.hold, .int .i64 g.now])) (by rfl) (by rfl) (by rfl) ⟨_, (by go_simp; rfl), RX.of_rext (B := w.heap.size + 1 + 1 + 1) (by repeat (first | (with_reducible exact RExt.refl _ _) | (with_reducible refine RExt.putc ?_ _ _))) (.inr rfl), (by repeat (first | (with_reducible exact RExt.refl _ _) | (with_reducible refine RExt.putc ?_ _ _))), (by exact BR1.put8 _ _ _ _ _ _ _ _)⟩ ?_
  (try simp only [Act.put, List.setIfInBounds_toArray, List.set_cons_zero, List.set_cons_succ])
  rintro y2 _ ⟨z2, BR2⟩
  clear cR fR BR1
  have BQ2 := BQ1.rext z2 (by omega)
  repeat' (first
    | (refine ChX.skip (by rfl) (by rfl) ?_
       (try simp only [Act.put, List.setIfInBounds_toArray, List.set_cons_zero, List.set_cons_succ]))
    | (refine' ChX.quiet (v := _) (by rfl) (by rfl) (by rfl) ?_ ?_
       rotate_left
       · (intro wS hS
          skip
          go_simp
          with_reducible rfl)
       (try simp only [Act.put, List.setIfInBounds_toArray, List.set_cons_zero, List.set_cons_succ]))
    | (refine ChX.nil ?_)
    | (refine' ChX.guard (x := _) (by rfl) ?_ ?_ ?_
       rotate_left
       · (go_simp
          rfl)
       all_goals
         intro hg
         simp only [hg])
    | (refine' ChX.guardN (x := _) (by rfl) ?_ ?_ ?_
       rotate_left
       · (go_simp
          rfl)
       all_goals
         intro hg
         simp only [hg]))
  have cQ := BQ2.cells
  have zQ := BQ2.lt
  have cR := BR2.cells
  have zR := BR2.lt
  go_wp2
  refine' bodyPost_ret (v := _) ?_ rfl ?_
  rotate_left
  · (simp only [results, Try.results18]
     go_simp
     rfl)
  refine ⟨A, n, sa, qa, rfl, ?_, ?_, ?_, ?_⟩
  · exact ((O7.rext z1 (fun x e => by have := lO x e; omega)).rext z2 (fun x e => by have := lO x e; omega)).rebase (by (try simp); (try omega))
  · exact ((P2.rext z1 (fun x e => by have := (l2 x e).1; omega)).rext z2 (fun x e => by have := (l2 x e).1; omega)).rebase (by (try simp); (try omega))
  · exact ((P3.rext z1 (fun x e => by have := (l3 x e).1; omega)).rext z2 (fun x e => by have := (l3 x e).1; omega)).rebase (by (try simp); (try omega))
  · exact RExt.new (RExt.new XU z1 (by omega)) z2 (by omega)
/-- The first package's ReceiveIn. -/
theorem impl_ReceiveIn (g : GateD) (p : PktD) (ta : Option Addr) (tn tc : Nat) (ka : Option Addr) (kn kc : Nat) (a : Option Addr) (n c : Nat) (w : World) (ht : Sl encM 4 w ta tn tc g.table) (hk : Sl encC 3 w ka kn kc g.cons) (hs : Sl encI 1 w a n c p.data) :
    Calls Try.prog 18 #[.agg #[.int .i64 g.net.base, .int .i64 g.net.bits, .int .i64 g.out, .slice ta tn tc, .slice ka kn kc, .int .i64 g.filter, .int .i64 g.hold, .int .i64 g.now], .agg #[.int .i64 p.kind, .int .i64 p.fr.addr, .int .i64 p.fr.port, .int .i64 p.to_.addr, .int .i64 p.to_.port, .slice a n c]] w fun e w' => ∃ A n C sa sn sc qa qn qc, e = .returned (.tuple #[.agg #[.int .i64 (rP (receiveIn g p)).kind, .int .i64 (rP (receiveIn g p)).fr.addr, .int .i64 (rP (receiveIn g p)).fr.port, .int .i64 (rP (receiveIn g p)).to_.addr, .int .i64 (rP (receiveIn g p)).to_.port, .slice A n C], .agg #[.int .i64 (rG (receiveIn g p)).net.base, .int .i64 (rG (receiveIn g p)).net.bits, .int .i64 (rG (receiveIn g p)).out, .slice sa sn sc, .slice qa qn qc, .int .i64 (rG (receiveIn g p)).filter, .int .i64 (rG (receiveIn g p)).hold, .int .i64 (rG (receiveIn g p)).now], .bool (receiveIn g p).isSome]) ∧
          Ow 3 encI 1 w.heap.size w' A n C (rP (receiveIn g p)).data ∧ Ow 89 encM 4 w.heap.size w' sa sn sc (rG (receiveIn g p)).table ∧ Ow 47 encC 3 w.heap.size w' qa qn qc (rG (receiveIn g p)).cons ∧ Ext w w' := by
  cases hC : (validGate g && validPkt p && decide (p.to_.addr = g.out) && !has g.net p.fr.addr) with
  | false =>
    have e : receiveIn g p = none := by unfold receiveIn comesIn; rw [hC]; rfl
    rw [e]
    exact (impl_ReceiveIn_not g p ta tn tc ka kn kc a n c w ht hk hs hC).mono fun _ _ ⟨h1, h2⟩ => ⟨none, 0, 0, none, 0, 0, none, 0, 0, h1, Ow.nils _, Ow.nils _, Ow.nils _, h2⟩
  | true =>
    have e0 : receiveIn g p = receive g p := by unfold receiveIn comesIn; rw [hC]; rfl
    simp only [Bool.and_eq_true, Bool.not_eq_true', decide_eq_true_eq] at hC
    obtain ⟨⟨⟨h1, h2⟩, h3⟩, h4⟩ := hC
    have hv := validGate_iff.1 h1
    obtain ⟨lt, hl⟩ : ∃ lt, lets g.filter g.cons p.to_.port p.fr = lt := ⟨_, rfl⟩
    have hl2 : letsIn g.filter g.cons p.to_.port p.fr = lt := by unfold letsIn; rw [hv.fil, hv.con, hl]; rfl
    rw [e0]
    by_cases hb : 0 ≤ byPort g.table p.to_.port
    · obtain ⟨k, m, b1, b2, b3, b4⟩ := byPort_some hb
      cases lt with
      | true =>
        have e : receive g p = some ({ p with to_ := m.ins }, g) := by unfold receive; rw [hl, b4]; simp [hb]
        rw [e]
        exact (impl_ReceiveIn_some g p ta tn tc ka kn kc a n c w ht hk hs h1 h2 h3 h4 k m b1 b2 hl2).mono fun _ _ ⟨A, C, sa, qa, e1, e2, e3, e4, e5⟩ => ⟨A, n, C, sa, tn, tn, qa, kn, kn, e1, e2, e3, e4, e5⟩
      | false =>
        have e : receive g p = none := by unfold receive; rw [hl]; simp
        rw [e]
        exact (impl_ReceiveIn_none g p ta tn tc ka kn kc a n c w ht hk hs h1 h2 h3 h4 _ rfl _ hl2 (.inr rfl)).mono fun _ _ ⟨h1, h2⟩ => ⟨none, 0, 0, none, 0, 0, none, 0, 0, h1, Ow.nils _, Ow.nils _, Ow.nils _, h2⟩
    · have e : receive g p = none := by unfold receive; simp [hb]
      rw [e]
      exact (impl_ReceiveIn_none g p ta tn tc ka kn kc a n c w ht hk hs h1 h2 h3 h4 _ rfl _ hl2 (.inl (by omega))).mono fun _ _ ⟨h1, h2⟩ => ⟨none, 0, 0, none, 0, 0, none, 0, 0, h1, Ow.nils _, Ow.nils _, Ow.nils _, h2⟩
end Go.Proofs.Ytppdcglnopoocaa
/- Contracts: the second package's lets, receive, ReceiveIn. -/
namespace Go.Proofs.Ytppdcglnopoocaa
set_option linter.unusedVariables false
set_option linter.unusedSimpArgs false
open Go.RowKit

def letOk (kind port : Int) (fr : EndD) (d : ConD) : Bool := decide (d.port = port) && decide (d.to_.addr = fr.addr) && (decide (kind = 1) || decide (d.to_.port = fr.port))
theorem lets_hit {kind port : Int} {fr : EndD} {L : List ConD} {k : Nat} (hk : k < L.length) (h : letOk kind port fr (nth L k) = true) : (L.any fun d => letOk kind port fr d) = true :=
  List.any_eq_true.2 ⟨nth L k, nth_mem hk, h⟩
theorem lets_no {kind port : Int} {fr : EndD} {L : List ConD} (h : ∀ j, j < L.length → letOk kind port fr (nth L j) = false) : (L.any fun d => letOk kind port fr d) = false := by
  rw [List.any_eq_false]
  intro y hy
  obtain ⟨j, hj, rfl⟩ := List.mem_iff_getElem.1 hy
  have h1 := h j hj
  rw [nth_of (List.getElem?_eq_getElem hj)] at h1
  simp [h1]
set_option maxHeartbeats 1000000 in
theorem spec_lets (kind : Int) (a : Option Addr) (n c : Nat) (L : List ConD) (port : Int) (fr : EndD) (w : World) (hs : Sl encC 3 w a n c L) :
    Calls Try.prog 126 #[.int .i64 kind, .slice a n c, .int .i64 port, .agg #[.int .i64 fr.addr, .int .i64 fr.port]] w fun r w' => r = .returned (.bool (lets kind L port fr)) ∧ Ext w w' := by
  have hle := hs.le
  have hmax := hs.max
  have hlen := Lib.hid hs.len
  have hR := Lib.hid (show lets kind L port fr = (decide (kind = 0) || L.any fun d => letOk kind port fr d) from rfl)
  generalize lets kind L port fr = R at *
  by_cases h0 : kind = 0
  · subst h0
    have hR2 := Lib.hid (show R = true by rw [hR.out]; simp)
    clear hR hs
    go_enter Try.func126, Try.ntmps126
    go_wp2
    go_ret
    exact ⟨ret_bool hR2.out.symm, (by repeat (first | (with_reducible exact Ext.refl _) | (with_reducible assumption) | (with_reducible refine Ext.alloc ?_ _) | (with_reducible refine Ext.drewN ?_ _) | (with_reducible refine Ext.drew ?_) | (with_reducible refine Ext.setCell ?_ ?_ _; rotate_left; (simp only []; omega)) | (with_reducible refine Ext.trans ?_ (by assumption))))⟩
  have hR2 := Lib.hid (show R = (L.any fun d => letOk kind port fr d) by rw [hR.out]; simp [h0])
  clear hR
  have h00 : (kind == 0) = false := by simpa using h0
  rcases hs.cons with ⟨hn0, hL⟩ | ⟨hn0, b, off, ha, hb, hc⟩
  · subst hn0
    subst hL
    clear hs hlen
    go_enter Try.func126, Try.ntmps126
    go_wp2
    go_loopw [9] (fun i wr => i = .int .i64 0 ∧ Ext w wr) (fun _ _ => 0)
    case atStart => exact ⟨rfl, (by repeat (first | (with_reducible exact Ext.refl _) | (with_reducible assumption) | (with_reducible refine Ext.alloc ?_ _) | (with_reducible refine Ext.drewN ?_ _) | (with_reducible refine Ext.drew ?_) | (with_reducible refine Ext.setCell ?_ ?_ _; rotate_left; (simp only []; omega)) | (with_reducible refine Ext.trans ?_ (by assumption))))⟩
    case round =>
      obtain ⟨rfl, hX⟩ := hrel
      go_wp2
      go_ret
      exact ⟨ret_bool (by rw [hR2.out]; rfl), hX⟩
  · subst ha
    have HC2 := Lib.hid hc
    clear hs hc
    go_enter Try.func126, Try.ntmps126
    go_wp2
    go_loopw [9] (fun i wr => ∃ k : Nat, k ≤ n ∧ i = .int .i64 k ∧ (∀ j, j < k → letOk kind port fr (nth L j) = false) ∧ Blk wr w.heap.size 30 #[.int .i64 fr.addr, .int .i64 fr.port] ∧ Ext w wr) (fun i _ => n - (intOf i).toNat)
    case atStart => exact ⟨0, Nat.zero_le _, rfl, by omega, Blk.new _ _ _, (by repeat (first | (with_reducible exact Ext.refl _) | (with_reducible assumption) | (with_reducible refine Ext.alloc ?_ _) | (with_reducible refine Ext.drewN ?_ _) | (with_reducible refine Ext.drew ?_) | (with_reducible refine Ext.setCell ?_ ?_ _; rotate_left; (simp only []; omega)) | (with_reducible refine Ext.trans ?_ (by assumption))))⟩
    case round =>
      obtain ⟨k, hk, rfl, hall, hB, hX⟩ := hrel
      have HA := Lib.hid hall
      clear hall
      have hcB := hB.cells
      have hzB := hB.lt
      by_cases hlt : k < n
      · obtain ⟨d0, d1, d2⟩ := HC2.out k hlt
        rw [← hX.cells _ _ hb] at d0 d1 d2
        have hbr : b < wr.heap.size := by have := hX.size; omega
        have HX := Lib.hid hX
        have HN := Lib.hid (fun (h : letOk kind port fr (nth L k) = false) (j : Nat) (hj : j < k + 1) => show letOk kind port fr (nth L j) = false by
            rcases Nat.lt_or_ge j k with h' | h'
            · exact HA.out j h'
            · have e : j = k := by omega
              rw [e]; exact h)
        have HY := Lib.hid (fun (h : letOk kind port fr (nth L k) = true) => show R = true by rw [hR2.out]; exact lets_hit (by rw [hlen.out]; exact hlt) h)
        have HV := Lib.hid (show letOk kind port fr (nth L k) = (((nth L k).port == port) && ((nth L k).to_.addr == fr.addr) && ((kind == 1) || ((nth L k).to_.port == fr.port))) from rfl)
        generalize letOk kind port fr (nth L k) = V at *
        generalize (nth L k).port = x0 at *
        generalize (nth L k).to_.addr = x1 at *
        generalize (nth L k).to_.port = x2 at *
        clear hX
        cases q0 : (x0 == port) <;> cases q1 : (x1 == fr.addr) <;> cases q2 : (kind == 1) <;> cases q3 : (x2 == fr.port)
        all_goals
          go_wp2
          first
            | (go_ret
               exact ⟨ret_bool (HY.out (by rw [HV.out, q0, q1, q2, q3]; rfl)).symm, (show Ext w wr from HX.out).trans (by repeat (first | (with_reducible exact Ext.refl _) | (with_reducible assumption) | (with_reducible refine Ext.alloc ?_ _) | (with_reducible refine Ext.drewN ?_ _) | (with_reducible refine Ext.drew ?_) | (with_reducible refine Ext.setCell ?_ ?_ _; rotate_left; (simp only []; omega)) | (with_reducible refine Ext.trans ?_ (by assumption))))⟩)
            | (go_roundw
               case rel => exact ⟨k + 1, hlt, by go_num, HN.out (by rw [HV.out, q0, q1, q2, q3]; rfl), hB.ext (by repeat (first | (with_reducible exact Ext.refl _) | (with_reducible assumption) | (with_reducible refine Ext.alloc ?_ _) | (with_reducible refine Ext.drewN ?_ _) | (with_reducible refine Ext.drew ?_) | (with_reducible refine Ext.setCell ?_ ?_ _; rotate_left; (simp only []; omega)) | (with_reducible refine Ext.trans ?_ (by assumption)))), (show Ext w wr from HX.out).trans (by repeat (first | (with_reducible exact Ext.refl _) | (with_reducible assumption) | (with_reducible refine Ext.alloc ?_ _) | (with_reducible refine Ext.drewN ?_ _) | (with_reducible refine Ext.drew ?_) | (with_reducible refine Ext.setCell ?_ ?_ _; rotate_left; (simp only []; omega)) | (with_reducible refine Ext.trans ?_ (by assumption))))⟩
               case measure => simp [intOf]; omega)
      · have e : k = n := by omega
        have HX := Lib.hid hX
        clear hX
        subst e
        go_wp2
        go_ret
        exact ⟨ret_bool (by rw [hR2.out]; exact (lets_no fun j hj => HA.out j (by rw [← hlen.out]; exact hj)).symm), HX.out⟩
set_option maxHeartbeats 2000000 in
theorem spec_receive_none (g : GateD) (p : PktD) (ta : Option Addr) (tn tc : Nat) (ka : Option Addr) (kn kc : Nat) (a : Option Addr) (n c : Nat) (w : World) (ht : Sl encM 4 w ta tn tc g.table) (hk : Sl encC 3 w ka kn kc g.cons) (hs : Sl encI 1 w a n c p.data)
    (at_ : Int) (hb : byPort g.table p.to_.port = at_) (lt : Bool) (hl : lets g.filter g.cons p.to_.port p.fr = lt) (hno : at_ < 0 ∨ lt = false) :
    Calls Try.prog 63 #[.agg #[.int .i64 g.net.base, .int .i64 g.net.bits, .int .i64 g.out, .slice ta tn tc, .slice ka kn kc, .int .i64 g.filter, .int .i64 g.hold, .int .i64 g.now], .agg #[.int .i64 p.kind, .int .i64 p.fr.addr, .int .i64 p.fr.port, .int .i64 p.to_.addr, .int .i64 p.to_.port, .slice a n c]] w fun x w' => x = .returned (.tuple #[.agg #[.int .i64 0, .int .i64 0, .int .i64 0, .int .i64 0, .int .i64 0, .slice none 0 0], .agg #[.int .i64 0, .int .i64 0, .int .i64 0, .slice none 0 0, .slice none 0 0, .int .i64 0, .int .i64 0, .int .i64 0], .bool false]) ∧ Ext w w' := by
  have c4 := fun W x => spec_byPort p.to_.port ta tn tc g.table W x
  rw [hb] at c4
  replace c4 := Lib.hid c4
  have c5 := fun W x => spec_lets g.filter ka kn kc g.cons p.to_.port p.fr W x
  rw [hl] at c5
  replace c5 := Lib.hid c5
  clear hb hl
  go_enter Try.func63, Try.ntmps63
  by_cases h0 : at_ < 0
  · go_wp2_with fail
    refine (c4.out _ (by exact ht.ext (by repeat (first | (with_reducible exact Ext.refl _) | (with_reducible assumption) | (with_reducible refine Ext.alloc ?_ _) | (with_reducible refine Ext.drewN ?_ _) | (with_reducible refine Ext.drew ?_) | (with_reducible refine Ext.setCell ?_ ?_ _; rotate_left; (simp only []; omega)) | (with_reducible refine Ext.trans ?_ (by assumption)))))).mono ?_
    rintro e _ ⟨rfl, rfl⟩
    go_wp2
    refine' bodyPost_ret (v := _) ?_ rfl ?_
    rotate_left
    · (simp only [results, Try.results63]
       go_simp
       rfl)
    exact ⟨rfl, (by repeat (first | (with_reducible exact Ext.refl _) | (with_reducible assumption) | (with_reducible refine Ext.alloc ?_ _) | (with_reducible refine Ext.drewN ?_ _) | (with_reducible refine Ext.drew ?_) | (with_reducible refine Ext.setCell ?_ ?_ _; rotate_left; (simp only []; omega)) | (with_reducible refine Ext.trans ?_ (by assumption))))⟩
  · have hlt : lt = false := hno.resolve_left h0
    subst hlt
    clear hno
    go_wp2_with fail
    refine (c4.out _ (by exact ht.ext (by repeat (first | (with_reducible exact Ext.refl _) | (with_reducible assumption) | (with_reducible refine Ext.alloc ?_ _) | (with_reducible refine Ext.drewN ?_ _) | (with_reducible refine Ext.drew ?_) | (with_reducible refine Ext.setCell ?_ ?_ _; rotate_left; (simp only []; omega)) | (with_reducible refine Ext.trans ?_ (by assumption)))))).mono ?_
    rintro e _ ⟨rfl, rfl⟩
    go_wp2_with fail
    refine (c5.out _ (by exact hk.ext (by repeat (first | (with_reducible exact Ext.refl _) | (with_reducible assumption) | (with_reducible refine Ext.alloc ?_ _) | (with_reducible refine Ext.drewN ?_ _) | (with_reducible refine Ext.drew ?_) | (with_reducible refine Ext.setCell ?_ ?_ _; rotate_left; (simp only []; omega)) | (with_reducible refine Ext.trans ?_ (by assumption)))))).mono ?_
    rintro e w5 ⟨rfl, hx5⟩
    have hy5 := hx5.size
    (try simp at hy5)
    have eW5 := useE (fun (h : Ext _ w5) => hk.ext h) (by repeat (first | (with_reducible exact Ext.refl _) | (with_reducible assumption) | (with_reducible refine Ext.alloc ?_ _) | (with_reducible refine Ext.drewN ?_ _) | (with_reducible refine Ext.drew ?_) | (with_reducible refine Ext.setCell ?_ ?_ _; rotate_left; (simp only []; omega)) | (with_reducible refine Ext.trans ?_ (by assumption))))
    replace hk := hk.ext eW5
    have BG : Blk w5 w.heap.size 28 (#[.int .i64 g.net.base, .int .i64 g.net.bits, .int .i64 g.out, .slice ta tn tc, .slice ka kn kc, .int .i64 g.filter, .int .i64 g.hold, .int .i64 g.now]) := by refine Blk.ext ?_ hx5; exact (by repeat (first | (with_reducible assumption) | (with_reducible exact Blk.new _ _ _) | exact Blk.newAt _ _ _ (by simp) | (with_reducible refine Blk.alloc ?_ _) | (with_reducible refine Blk.drew ?_) | (with_reducible refine Blk.drewN ?_ _) | refine Blk.far ?_ (by simp only []; omega) _ | refine Blk.rext ?_ (by assumption) (by omega) | refine Blk.ext ?_ (by assumption)))
    have BP : Blk w5 (w.heap.size+1) 33 (#[.int .i64 p.kind, .int .i64 p.fr.addr, .int .i64 p.fr.port, .int .i64 p.to_.addr, .int .i64 p.to_.port, .slice a n c]) := by refine Blk.ext ?_ hx5; exact (by repeat (first | (with_reducible assumption) | (with_reducible exact Blk.new _ _ _) | exact Blk.newAt _ _ _ (by simp) | (with_reducible refine Blk.alloc ?_ _) | (with_reducible refine Blk.drew ?_) | (with_reducible refine Blk.drewN ?_ _) | refine Blk.far ?_ (by simp only []; omega) _ | refine Blk.rext ?_ (by assumption) (by omega) | refine Blk.ext ?_ (by assumption)))
    have BQ : Blk w5 (w.heap.size+2) 33 #[.int .i64 0, .int .i64 0, .int .i64 0, .int .i64 0, .int .i64 0, .slice none 0 0] := by refine Blk.ext ?_ hx5; exact (by repeat (first | (with_reducible assumption) | (with_reducible exact Blk.new _ _ _) | exact Blk.newAt _ _ _ (by simp) | (with_reducible refine Blk.alloc ?_ _) | (with_reducible refine Blk.drew ?_) | (with_reducible refine Blk.drewN ?_ _) | refine Blk.far ?_ (by simp only []; omega) _ | refine Blk.rext ?_ (by assumption) (by omega) | refine Blk.ext ?_ (by assumption)))
    have BR : Blk w5 (w.heap.size+3) 28 #[.int .i64 0, .int .i64 0, .int .i64 0, .slice none 0 0, .slice none 0 0, .int .i64 0, .int .i64 0, .int .i64 0] := by refine Blk.ext ?_ hx5; exact (by repeat (first | (with_reducible assumption) | (with_reducible exact Blk.new _ _ _) | exact Blk.newAt _ _ _ (by simp) | (with_reducible refine Blk.alloc ?_ _) | (with_reducible refine Blk.drew ?_) | (with_reducible refine Blk.drewN ?_ _) | refine Blk.far ?_ (by simp only []; omega) _ | refine Blk.rext ?_ (by assumption) (by omega) | refine Blk.ext ?_ (by assumption)))
    have cBG := BG.cells
    have fBG := BG.frozens
    have zBG := BG.lt
    have cBP := BP.cells
    have fBP := BP.frozens
    have zBP := BP.lt
    have cBQ := BQ.cells
    have fBQ := BQ.frozens
    have zBQ := BQ.lt
    have cBR := BR.cells
    have fBR := BR.frozens
    have zBR := BR.lt
    have XU : Ext w w5 := (by repeat (first | (with_reducible exact Ext.refl _) | (with_reducible assumption) | (with_reducible refine Ext.alloc ?_ _) | (with_reducible refine Ext.drewN ?_ _) | (with_reducible refine Ext.drew ?_) | (with_reducible refine Ext.setCell ?_ ?_ _; rotate_left; (simp only []; omega)) | (with_reducible refine Ext.trans ?_ (by assumption))))
    clear hx5
    go_wp2
    refine' bodyPost_ret (v := _) ?_ rfl ?_
    rotate_left
    · (simp only [results, Try.results63]
       go_simp
       rfl)
    refine ⟨rfl, ?_⟩
    repeat (refine Ext.setCell ?_ (by simp only []; omega) _)
    exact XU
set_option maxHeartbeats 4000000 in
theorem spec_receive_some (g : GateD) (p : PktD) (ta : Option Addr) (tn tc : Nat) (ka : Option Addr) (kn kc : Nat) (a : Option Addr) (n c : Nat) (w : World) (ht : Sl encM 4 w ta tn tc g.table) (hk : Sl encC 3 w ka kn kc g.cons) (hs : Sl encI 1 w a n c p.data)
    (htn : tn ≤ 8) (hkn : kn ≤ 10) (hn12 : n ≤ 12) (k : Nat) (m : MapD) (hb : byPort g.table p.to_.port = (k : Int)) (hm : g.table[k]? = some m) (hl : lets g.filter g.cons p.to_.port p.fr = true) :
    Calls Try.prog 63 #[.agg #[.int .i64 g.net.base, .int .i64 g.net.bits, .int .i64 g.out, .slice ta tn tc, .slice ka kn kc, .int .i64 g.filter, .int .i64 g.hold, .int .i64 g.now], .agg #[.int .i64 p.kind, .int .i64 p.fr.addr, .int .i64 p.fr.port, .int .i64 p.to_.addr, .int .i64 p.to_.port, .slice a n c]] w fun x w' => ∃ A C sa sc qa qc, x = .returned (.tuple #[.agg #[.int .i64 ({ p with to_ := m.ins } : PktD).kind, .int .i64 ({ p with to_ := m.ins } : PktD).fr.addr, .int .i64 ({ p with to_ := m.ins } : PktD).fr.port, .int .i64 ({ p with to_ := m.ins } : PktD).to_.addr, .int .i64 ({ p with to_ := m.ins } : PktD).to_.port, .slice A n C], .agg #[.int .i64 g.net.base, .int .i64 g.net.bits, .int .i64 g.out, .slice sa tn sc, .slice qa kn qc, .int .i64 g.filter, .int .i64 g.hold, .int .i64 g.now], .bool true]) ∧ Ow 3 encI 1 w.heap.size w' A n C p.data ∧ Ow 89 encM 4 w.heap.size w' sa tn sc g.table ∧ Ow 47 encC 3 w.heap.size w' qa kn qc g.cons ∧ Ext w w' := by
  have hk8 : k < tn := by rw [← ht.len]; exact (List.getElem?_eq_some_iff.1 hm).1
  obtain ⟨_, b, off, rfl, hbl, hc0⟩ := (ht.maps).resolve_left (by omega)
  obtain ⟨d0, d1, d2, d3⟩ := hc0 k hk8
  have hmn : nth g.table k = m := nth_of hm
  rw [hmn] at d0 d1 d2 d3
  have htle := ht.le
  have htmx := ht.max
  have c4 := fun W x => spec_byPort p.to_.port (some ⟨b, off, none⟩) tn tc g.table W x
  rw [hb] at c4
  replace c4 := Lib.hid c4
  have c5 := fun W x => spec_lets g.filter ka kn kc g.cons p.to_.port p.fr W x
  rw [hl] at c5
  replace c5 := Lib.hid c5
  clear hb hl hm hmn hc0
  go_enter Try.func63, Try.ntmps63
  go_wp2_with fail
  refine (c4.out _ (by exact ht.ext (by repeat (first | (with_reducible exact Ext.refl _) | (with_reducible assumption) | (with_reducible refine Ext.alloc ?_ _) | (with_reducible refine Ext.drewN ?_ _) | (with_reducible refine Ext.drew ?_) | (with_reducible refine Ext.setCell ?_ ?_ _; rotate_left; (simp only []; omega)) | (with_reducible refine Ext.trans ?_ (by assumption)))))).mono ?_
  rintro e _ ⟨rfl, rfl⟩
  go_wp2_with fail
  refine (c5.out _ (by exact hk.ext (by repeat (first | (with_reducible exact Ext.refl _) | (with_reducible assumption) | (with_reducible refine Ext.alloc ?_ _) | (with_reducible refine Ext.drewN ?_ _) | (with_reducible refine Ext.drew ?_) | (with_reducible refine Ext.setCell ?_ ?_ _; rotate_left; (simp only []; omega)) | (with_reducible refine Ext.trans ?_ (by assumption)))))).mono ?_
  rintro e w5 ⟨rfl, hx5⟩
  have hy5 := hx5.size
  (try simp at hy5)
  have eW5 := useE (fun (h : Ext _ w5) => ht.ext h) (by repeat (first | (with_reducible exact Ext.refl _) | (with_reducible assumption) | (with_reducible refine Ext.alloc ?_ _) | (with_reducible refine Ext.drewN ?_ _) | (with_reducible refine Ext.drew ?_) | (with_reducible refine Ext.setCell ?_ ?_ _; rotate_left; (simp only []; omega)) | (with_reducible refine Ext.trans ?_ (by assumption))))
  replace ht := ht.ext eW5
  replace hk := hk.ext eW5
  replace hs := hs.ext eW5
  have BG : Blk w5 w.heap.size 28 (#[.int .i64 g.net.base, .int .i64 g.net.bits, .int .i64 g.out, .slice (some ⟨b, off, none⟩) tn tc, .slice ka kn kc, .int .i64 g.filter, .int .i64 g.hold, .int .i64 g.now]) := by refine Blk.ext ?_ hx5; exact (by repeat (first | (with_reducible assumption) | (with_reducible exact Blk.new _ _ _) | exact Blk.newAt _ _ _ (by simp) | (with_reducible refine Blk.alloc ?_ _) | (with_reducible refine Blk.drew ?_) | (with_reducible refine Blk.drewN ?_ _) | refine Blk.far ?_ (by simp only []; omega) _ | refine Blk.rext ?_ (by assumption) (by omega) | refine Blk.ext ?_ (by assumption)))
  have BP : Blk w5 (w.heap.size+1) 33 (#[.int .i64 p.kind, .int .i64 p.fr.addr, .int .i64 p.fr.port, .int .i64 p.to_.addr, .int .i64 p.to_.port, .slice a n c]) := by refine Blk.ext ?_ hx5; exact (by repeat (first | (with_reducible assumption) | (with_reducible exact Blk.new _ _ _) | exact Blk.newAt _ _ _ (by simp) | (with_reducible refine Blk.alloc ?_ _) | (with_reducible refine Blk.drew ?_) | (with_reducible refine Blk.drewN ?_ _) | refine Blk.far ?_ (by simp only []; omega) _ | refine Blk.rext ?_ (by assumption) (by omega) | refine Blk.ext ?_ (by assumption)))
  have BQ : Blk w5 (w.heap.size+2) 33 #[.int .i64 0, .int .i64 0, .int .i64 0, .int .i64 0, .int .i64 0, .slice none 0 0] := by refine Blk.ext ?_ hx5; exact (by repeat (first | (with_reducible assumption) | (with_reducible exact Blk.new _ _ _) | exact Blk.newAt _ _ _ (by simp) | (with_reducible refine Blk.alloc ?_ _) | (with_reducible refine Blk.drew ?_) | (with_reducible refine Blk.drewN ?_ _) | refine Blk.far ?_ (by simp only []; omega) _ | refine Blk.rext ?_ (by assumption) (by omega) | refine Blk.ext ?_ (by assumption)))
  have BR : Blk w5 (w.heap.size+3) 28 #[.int .i64 0, .int .i64 0, .int .i64 0, .slice none 0 0, .slice none 0 0, .int .i64 0, .int .i64 0, .int .i64 0] := by refine Blk.ext ?_ hx5; exact (by repeat (first | (with_reducible assumption) | (with_reducible exact Blk.new _ _ _) | exact Blk.newAt _ _ _ (by simp) | (with_reducible refine Blk.alloc ?_ _) | (with_reducible refine Blk.drew ?_) | (with_reducible refine Blk.drewN ?_ _) | refine Blk.far ?_ (by simp only []; omega) _ | refine Blk.rext ?_ (by assumption) (by omega) | refine Blk.ext ?_ (by assumption)))
  have cBG := BG.cells
  have fBG := BG.frozens
  have zBG := BG.lt
  have cBP := BP.cells
  have fBP := BP.frozens
  have zBP := BP.lt
  have cBQ := BQ.cells
  have fBQ := BQ.frozens
  have zBQ := BQ.lt
  have cBR := BR.cells
  have fBR := BR.frozens
  have zBR := BR.lt
  have XU : Ext w w5 := (by repeat (first | (with_reducible exact Ext.refl _) | (with_reducible assumption) | (with_reducible refine Ext.alloc ?_ _) | (with_reducible refine Ext.drewN ?_ _) | (with_reducible refine Ext.drew ?_) | (with_reducible refine Ext.setCell ?_ ?_ _; rotate_left; (simp only []; omega)) | (with_reducible refine Ext.trans ?_ (by assumption))))
  clear hx5
  go_wp2_with fail
  refine (spec_copyPacket p.kind p.fr.addr p.fr.port p.to_.addr p.to_.port a n c p.data _ (by exact hs.ext (by repeat (first | (with_reducible exact Ext.refl _) | (with_reducible assumption) | (with_reducible refine Ext.alloc ?_ _) | (with_reducible refine Ext.drewN ?_ _) | (with_reducible refine Ext.drew ?_) | (with_reducible refine Ext.setCell ?_ ?_ _; rotate_left; (simp only []; omega)) | (with_reducible refine Ext.trans ?_ (by assumption))))) (by omega)).mono ?_
  rintro e w7 ⟨A, C, rfl, O7, hx7⟩
  have hy7 := hx7.size
  (try simp at hy7)
  have eW7 := useE (fun (h : Ext _ w7) => ht.ext h) (by repeat (first | (with_reducible exact Ext.refl _) | (with_reducible assumption) | (with_reducible refine Ext.alloc ?_ _) | (with_reducible refine Ext.drewN ?_ _) | (with_reducible refine Ext.drew ?_) | (with_reducible refine Ext.setCell ?_ ?_ _; rotate_left; (simp only []; omega)) | (with_reducible refine Ext.trans ?_ (by assumption))))
  replace ht := ht.ext eW7
  replace hk := hk.ext eW7
  replace hs := hs.ext eW7
  clear cBG fBG zBG
  replace BG := BG.ext eW7
  clear cBP fBP zBP
  replace BP := BP.ext eW7
  clear cBQ fBQ zBQ
  replace BQ := BQ.ext eW7
  clear cBR fBR zBR
  replace BR := BR.ext eW7
  replace XU := XU.ext eW7
  have cBG := BG.cells
  have fBG := BG.frozens
  have zBG := BG.lt
  have cBP := BP.cells
  have fBP := BP.frozens
  have zBP := BP.lt
  have cBQ := BQ.cells
  have fBQ := BQ.frozens
  have zBQ := BQ.lt
  have cBR := BR.cells
  have fBR := BR.frozens
  have zBR := BR.lt
  have lO : ∀ x, A = some x → w.heap.size + 3 < x.block ∧ x.block < w7.heap.size := fun x e => by have h := O7.lt x e; (try simp at h); omega
  rw [← XU.cells _ _ hbl] at d0 d1 d2 d3
  have hb7 : b < w7.heap.size := by have := XU.size; omega
  clear hx7
  go_wp2_with fail
  clear d0 d1 d2 d3
  refine wp_gen (fun W => Ext w7 W ∧ Blk W w7.heap.size 33 #[.int .i64 p.kind, .int .i64 p.fr.addr, .int .i64 p.fr.port, .int .i64 m.ins.addr, .int .i64 m.ins.port, .slice A n C]) ⟨(by repeat (first | (with_reducible exact Ext.refl _) | (with_reducible assumption) | (with_reducible refine Ext.alloc ?_ _) | (with_reducible refine Ext.drewN ?_ _) | (with_reducible refine Ext.drew ?_) | (with_reducible refine Ext.setCell ?_ ?_ _; rotate_left; (simp only []; omega)) | (with_reducible refine Ext.trans ?_ (by assumption)))), (by first | (with_reducible exact Blk.new _ _ _) | exact Blk.new _ _ _)⟩ ?_
  rintro v8 ⟨x8, BO⟩
  have s8 := x8.size
  clear cBG fBG zBG cBP fBP zBP cBQ fBQ zBQ cBR fBR zBR
  replace BG := (BG.ext x8).drew
  replace BQ := (BQ.ext x8).drew
  replace BR := (BR.ext x8).drew
  replace BO := BO.drew
  replace ht := (ht.ext x8).drew
  replace hk := (hk.ext x8).drew
  replace O7 := (O7.ext x8).ext ((Ext.refl _).drew)
  replace XU := (XU.trans x8).drew
  have hdrS : ∀ W : World, W.drew.heap.size = W.heap.size := fun _ => rfl
  have hdrW := hdrS v8
  clear x8
  refine wp_region_eager (R := RX (fun i => i = w.heap.size + 1 + 1 ∨ i = w.heap.size + 1 + 1 + 1)) [0, 1, 2, 3, 4, 5] (by kernel_rfl) (by kernel_rfl) (RX.refl _) (fun _ _ _ => RX.trans) ?_
  generalize v8.drew = vD at *
  repeat' (first
    | (refine ChX.skip (by rfl) (by rfl) ?_
       (try simp only [Act.put, List.setIfInBounds_toArray, List.set_cons_zero, List.set_cons_succ]))
    | (refine' ChX.quiet (v := _) (by rfl) (by rfl) (by rfl) ?_ ?_
       rotate_left
       · (intro wS hS
          have cG := (BG.rx hS (by omega)).cells; have cO := (BO.rx hS (by omega)).cells
          go_simp
          with_reducible rfl)
       (try simp only [Act.put, List.setIfInBounds_toArray, List.set_cons_zero, List.set_cons_succ]))
    | (refine ChX.nil ?_)
    | (refine' ChX.guard (x := _) (by rfl) ?_ ?_ ?_
       rotate_left
       · (go_simp
          rfl)
       all_goals
         intro hg
         simp only [hg])
    | (refine' ChX.guardN (x := _) (by rfl) ?_ ?_ ?_
       rotate_left
       · (go_simp
          rfl)
       all_goals
         intro hg
         simp only [hg]))
  refine ChX.call (by rfl) (by rfl) (by rfl) (by go_simp; (constructor <;> rfl)) ?_
  refine (spec_copyGate g _ tn tc ka kn kc vD ht hk (by omega) (by omega)).mono ?_
  rintro e v9 ⟨sa, sc, qa, qc, rfl, P2, P3, h9⟩
  refine ⟨_, rfl, RX.of_ext h9, ?_⟩
  (try simp only [Act.put, List.setIfInBounds_toArray, List.set_cons_zero, List.set_cons_succ])
  replace P2 := P2.ow encM_len (by omega); replace P3 := P3.ow encC_len (by omega)
  have s9 := h9.size
  have l2 := P2.lt
  have l3 := P3.lt
  replace BQ := BQ.ext h9
  replace BR := BR.ext h9
  replace O7 := O7.ext h9
  replace XU := XU.trans h9
  clear h9
  have cQ := BQ.cells
  have fQ := BQ.frozens
  refine ChX.storeP (fun W => RExt (w.heap.size + 1 + 1) v9 W ∧ Blk W (w.heap.size + 1 + 1) 33 #[.int .i64 p.kind, .int .i64 p.fr.addr, .int .i64 p.fr.port, .int .i64 m.ins.addr, .int .i64 m.ins.port, .slice A n C]) (by rfl) (by rfl) (by rfl) ⟨_, (by go_simp; rfl), RX.of_rext (B := w.heap.size + 1 + 1) (by repeat (first | (with_reducible exact RExt.refl _ _) | (with_reducible refine RExt.putc ?_ _ _))) (.inl rfl), (by repeat (first | (with_reducible exact RExt.refl _ _) | (with_reducible refine RExt.putc ?_ _ _))), (by exact BQ.put6 _ _ _ _ _ _)⟩ ?_
  (try simp only [Act.put, List.setIfInBounds_toArray, List.set_cons_zero, List.set_cons_succ])
  rintro y1 _ ⟨z1, BQ1⟩
  clear cQ fQ
  have BR1 := BR.rext z1 (by omega)
  have cR := BR1.cells
  have fR := BR1.frozens
  refine ChX.storeP (fun W => RExt (w.heap.size + 1 + 1 + 1) y1 W ∧ Blk W (w.heap.size + 1 + 1 + 1) 28 (#[.int .i64 g.net.base, .int .i64 g.net.bits, .int .i64 g.out, .slice sa tn sc, .slice qa kn qc, .int .i64 g.filter, .int .i64 g.hold, .int .i64 g.now])) (by rfl) (by rfl) (by rfl) ⟨_, (by go_simp; rfl), RX.of_rext (B := w.heap.size + 1 + 1 + 1) (by repeat (first | (with_reducible exact RExt.refl _ _) | (with_reducible refine RExt.putc ?_ _ _))) (.inr rfl), (by repeat (first | (with_reducible exact RExt.refl _ _) | (with_reducible refine RExt.putc ?_ _ _))), (by exact BR1.put8 _ _ _ _ _ _ _ _)⟩ ?_
  (try simp only [Act.put, List.setIfInBounds_toArray, List.set_cons_zero, List.set_cons_succ])
  rintro y2 _ ⟨z2, BR2⟩
  clear cR fR BR1
  have BQ2 := BQ1.rext z2 (by omega)
  repeat' (first
    | (refine ChX.skip (by rfl) (by rfl) ?_
       (try simp only [Act.put, List.setIfInBounds_toArray, List.set_cons_zero, List.set_cons_succ]))
    | (refine' ChX.quiet (v := _) (by rfl) (by rfl) (by rfl) ?_ ?_
       rotate_left
       · (intro wS hS
          skip
          go_simp
          with_reducible rfl)
       (try simp only [Act.put, List.setIfInBounds_toArray, List.set_cons_zero, List.set_cons_succ]))
    | (refine ChX.nil ?_)
    | (refine' ChX.guard (x := _) (by rfl) ?_ ?_ ?_
       rotate_left
       · (go_simp
          rfl)
       all_goals
         intro hg
         simp only [hg])
    | (refine' ChX.guardN (x := _) (by rfl) ?_ ?_ ?_
       rotate_left
       · (go_simp
          rfl)
       all_goals
         intro hg
         simp only [hg]))
  have cQ := BQ2.cells
  have zQ := BQ2.lt
  have cR := BR2.cells
  have zR := BR2.lt
  go_wp2
  refine' bodyPost_ret (v := _) ?_ rfl ?_
  rotate_left
  · (simp only [results, Try.results63]
     go_simp
     rfl)
  refine ⟨A, C, sa, sc, qa, qc, rfl, ?_, ?_, ?_, ?_⟩
  · exact ((O7.rext z1 (fun x e => by have := lO x e; omega)).rext z2 (fun x e => by have := lO x e; omega)).rebase (by (try simp); (try omega))
  · exact ((P2.rext z1 (fun x e => by have := (l2 x e).1; omega)).rext z2 (fun x e => by have := (l2 x e).1; omega)).rebase (by (try simp); (try omega))
  · exact ((P3.rext z1 (fun x e => by have := (l3 x e).1; omega)).rext z2 (fun x e => by have := (l3 x e).1; omega)).rebase (by (try simp); (try omega))
  · exact RExt.new (RExt.new XU z1 (by omega)) z2 (by omega)
end Go.Proofs.Ytppdcglnopoocaa
