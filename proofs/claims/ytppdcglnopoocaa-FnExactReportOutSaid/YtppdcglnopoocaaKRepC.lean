/- Contracts: reports that come in, the second package's. -/
import Derived.Test.YtppdcglnopoocaaKg
import Derived.Test.YtppdcglnopoocaaKb
namespace Go.Proofs.Ytppdcglnopoocaa
set_option linter.unusedVariables false
set_option linter.unusedSimpArgs false
open Go.RowKit

theorem spec_validReport' (e : RepD) (a : Option Addr) (n c : Nat) (w : World) (hs : Sl encI 1 w a n c e.about.data) :
    Calls Try.prog 90 #[.agg #[.int .i64 e.code, .int .i64 e.sender, .int .i64 e.to_, .int .i64 e.about.kind, .int .i64 e.about.fr.addr, .int .i64 e.about.fr.port, .int .i64 e.about.to_.addr, .int .i64 e.about.to_.port, .slice a n c]] w fun x w' => x = .returned (.bool (validRep e)) ∧ Ext w w' := spec_validReport _ _ _ _ _ _ _ _ a n c e.about.data w hs
theorem spec_copyReport (e : RepD) (a : Option Addr) (n c : Nat) (w : World) (hs : Sl encI 1 w a n c e.about.data) (hn : n ≤ 1048576) :
    Calls Try.prog 93 #[.agg #[.int .i64 e.code, .int .i64 e.sender, .int .i64 e.to_, .int .i64 e.about.kind, .int .i64 e.about.fr.addr, .int .i64 e.about.fr.port, .int .i64 e.about.to_.addr, .int .i64 e.about.to_.port, .slice a n c]] w fun x w' => ∃ A C, x = .returned (.agg #[.int .i64 e.code, .int .i64 e.sender, .int .i64 e.to_, .int .i64 e.about.kind, .int .i64 e.about.fr.addr, .int .i64 e.about.fr.port, .int .i64 e.about.to_.addr, .int .i64 e.about.to_.port, .slice A n C]) ∧ Ow 3 encI 1 w.heap.size w' A n C e.about.data ∧ Ext w w' := by
  go_enter Try.func93, Try.ntmps93
  go_wp2_with fail
  refine (spec_copyPacket e.about.kind e.about.fr.addr e.about.fr.port e.about.to_.addr e.about.to_.port a n c e.about.data _ (by exact hs.ext (by repeat (first | (with_reducible exact Ext.refl _) | (with_reducible assumption) | (with_reducible refine Ext.alloc ?_ _) | (with_reducible refine Ext.drewN ?_ _) | (with_reducible refine Ext.drew ?_) | (with_reducible refine Ext.setCell ?_ ?_ _; rotate_left; (simp only []; omega)) | (with_reducible refine Ext.trans ?_ (by assumption))))) hn).mono ?_
  rintro e w1 ⟨A, C, rfl, O1, hx1⟩
  have hy1 := hx1.size
  (try simp at hy1)
  have eW1 := useE (fun (h : Ext _ w1) => hs.ext h) (by repeat (first | (with_reducible exact Ext.refl _) | (with_reducible assumption) | (with_reducible refine Ext.alloc ?_ _) | (with_reducible refine Ext.drewN ?_ _) | (with_reducible refine Ext.drew ?_) | (with_reducible refine Ext.setCell ?_ ?_ _; rotate_left; (simp only []; omega)) | (with_reducible refine Ext.trans ?_ (by assumption))))
  replace hs := hs.ext eW1
  have BX : Blk w1 w.heap.size 63 (#[.int .i64 e.code, .int .i64 e.sender, .int .i64 e.to_, .int .i64 e.about.kind, .int .i64 e.about.fr.addr, .int .i64 e.about.fr.port, .int .i64 e.about.to_.addr, .int .i64 e.about.to_.port, .slice a n c]) := by refine Blk.ext ?_ hx1; exact (by repeat (first | (with_reducible assumption) | (with_reducible exact Blk.new _ _ _) | exact Blk.newAt _ _ _ (by simp) | (with_reducible refine Blk.alloc ?_ _) | (with_reducible refine Blk.drew ?_) | (with_reducible refine Blk.drewN ?_ _) | refine Blk.far ?_ (by simp only []; omega) _ | refine Blk.rext ?_ (by assumption) (by omega) | refine Blk.ext ?_ (by assumption)))
  have BR : Blk w1 (w.heap.size+1) 63 #[.int .i64 0, .int .i64 0, .int .i64 0, .int .i64 0, .int .i64 0, .int .i64 0, .int .i64 0, .int .i64 0, .slice none 0 0] := by refine Blk.ext ?_ hx1; exact (by repeat (first | (with_reducible assumption) | (with_reducible exact Blk.new _ _ _) | exact Blk.newAt _ _ _ (by simp) | (with_reducible refine Blk.alloc ?_ _) | (with_reducible refine Blk.drew ?_) | (with_reducible refine Blk.drewN ?_ _) | refine Blk.far ?_ (by simp only []; omega) _ | refine Blk.rext ?_ (by assumption) (by omega) | refine Blk.ext ?_ (by assumption)))
  have cBX := BX.cells
  have fBX := BX.frozens
  have zBX := BX.lt
  have cBR := BR.cells
  have fBR := BR.frozens
  have zBR := BR.lt
  have XU : Ext w w1 := (by repeat (first | (with_reducible exact Ext.refl _) | (with_reducible assumption) | (with_reducible refine Ext.alloc ?_ _) | (with_reducible refine Ext.drewN ?_ _) | (with_reducible refine Ext.drew ?_) | (with_reducible refine Ext.setCell ?_ ?_ _; rotate_left; (simp only []; omega)) | (with_reducible refine Ext.trans ?_ (by assumption))))
  have lO : ∀ x, A = some x → w.heap.size + 1 < x.block ∧ x.block < w1.heap.size := fun x e => by have h := O1.lt x e; (try simp at h); omega
  replace O1 := Lib.hid (O1.rebase (b' := w.heap.size) (by (try simp); (try omega)))
  clear hx1
  go_wp2
  refine' bodyPost_ret (v := _) ?_ rfl ?_
  rotate_left
  · (simp only [results, Try.results93]
     go_simp
     rfl)
  refine ⟨A, C, rfl, ?_, ?_⟩
  · repeat (refine Ow.setCell ?_ (fun y hy => by have := lO y hy; simp only []; omega) _)
    exact O1.out
  · repeat (refine Ext.setCell ?_ (by simp only []; omega) _)
    exact XU
set_option maxHeartbeats 2000000 in
theorem spec_ReportIn_not (g : GateD) (e : RepD) (ta : Option Addr) (tn tc : Nat) (ka : Option Addr) (kn kc : Nat) (a : Option Addr) (n c : Nat) (w : World) (ht : Sl encM 4 w ta tn tc g.table) (hk : Sl encC 3 w ka kn kc g.cons) (hs : Sl encI 1 w a n c e.about.data)
    (hC : (validGate g && validRep e && decide (e.to_ = g.out) && decide (e.about.fr.addr = g.out) && !has g.net e.sender) = false) :
    Calls Try.prog 33 #[.agg #[.int .i64 g.net.base, .int .i64 g.net.bits, .int .i64 g.out, .slice ta tn tc, .slice ka kn kc, .int .i64 g.filter, .int .i64 g.hold, .int .i64 g.now], .agg #[.int .i64 e.code, .int .i64 e.sender, .int .i64 e.to_, .int .i64 e.about.kind, .int .i64 e.about.fr.addr, .int .i64 e.about.fr.port, .int .i64 e.about.to_.addr, .int .i64 e.about.to_.port, .slice a n c]] w fun x w' => x = .returned (.tuple #[.agg #[.int .i64 0, .int .i64 0, .int .i64 0, .int .i64 0, .int .i64 0, .int .i64 0, .int .i64 0, .int .i64 0, .slice none 0 0], .bool false]) ∧ Ext w w' := by
  go_enter Try.func33, Try.ntmps33
  go_wp2_with (first | (go_at_call 89; refine (spec_validGate g ta tn tc ka kn kc _ (by exact ht.ext (by repeat (first | (with_reducible exact Ext.refl _) | (with_reducible assumption) | (with_reducible refine Ext.alloc ?_ _) | (with_reducible refine Ext.drewN ?_ _) | (with_reducible refine Ext.drew ?_) | (with_reducible refine Ext.setCell ?_ ?_ _; rotate_left; (simp only []; omega)) | (with_reducible refine Ext.trans ?_ (by assumption))))) (by exact hk.ext (by repeat (first | (with_reducible exact Ext.refl _) | (with_reducible assumption) | (with_reducible refine Ext.alloc ?_ _) | (with_reducible refine Ext.drewN ?_ _) | (with_reducible refine Ext.drew ?_) | (with_reducible refine Ext.setCell ?_ ?_ _; rotate_left; (simp only []; omega)) | (with_reducible refine Ext.trans ?_ (by assumption)))))).mono ?_; rintro e w1 ⟨rfl, hx⟩; have hc := hx.cells; have hf := hx.frozens; have hy := hx.size; (try simp at hy); have hz : w.heap.size < w1.heap.size ∧ w.heap.size + 1 < w1.heap.size ∧ w.heap.size + 2 < w1.heap.size := (by omega)) | (go_at_call 90; refine (spec_validReport' e a n c _ (by exact hs.ext (by repeat (first | (with_reducible exact Ext.refl _) | (with_reducible assumption) | (with_reducible refine Ext.alloc ?_ _) | (with_reducible refine Ext.drewN ?_ _) | (with_reducible refine Ext.drew ?_) | (with_reducible refine Ext.setCell ?_ ?_ _; rotate_left; (simp only []; omega)) | (with_reducible refine Ext.trans ?_ (by assumption)))))).mono ?_; rintro e w1 ⟨rfl, hx⟩; have hc := hx.cells; have hf := hx.frozens; have hy := hx.size; (try simp at hy); have hz : w.heap.size < w1.heap.size ∧ w.heap.size + 1 < w1.heap.size ∧ w.heap.size + 2 < w1.heap.size := (by omega)) | (go_at_call 91; refine (spec_inNet' g.net _ _ (validGate_iff.1 (by assumption)).net).mono ?_; rintro e w1 ⟨rfl, hx⟩; have hc := hx.cells; have hf := hx.frozens; have hy := hx.size; (try simp at hy); have hz : w.heap.size < w1.heap.size ∧ w.heap.size + 1 < w1.heap.size ∧ w.heap.size + 2 < w1.heap.size := (by omega)))
  all_goals (try (exfalso; simp_all; done))
  all_goals
    refine' bodyPost_ret (v := _) ?_ rfl ?_
    rotate_left
    · (simp only [results, Try.results33]
       go_simp
       rfl)
    exact ⟨rfl, (by repeat (first | (with_reducible exact Ext.refl _) | (with_reducible assumption) | (with_reducible refine Ext.alloc ?_ _) | (with_reducible refine Ext.drewN ?_ _) | (with_reducible refine Ext.drew ?_) | (with_reducible refine Ext.setCell ?_ ?_ _; rotate_left; (simp only []; omega)) | (with_reducible refine Ext.trans ?_ (by assumption))))⟩
set_option maxHeartbeats 2000000 in
theorem spec_ReportIn_none (g : GateD) (e : RepD) (ta : Option Addr) (tn tc : Nat) (ka : Option Addr) (kn kc : Nat) (a : Option Addr) (n c : Nat) (w : World) (ht : Sl encM 4 w ta tn tc g.table) (hk : Sl encC 3 w ka kn kc g.cons) (hs : Sl encI 1 w a n c e.about.data) (h1 : validGate g = true) (h2 : validRep e = true) (h3 : e.to_ = g.out) (h4 : e.about.fr.addr = g.out) (h5 : has g.net e.sender = false) (hb : byPort g.table e.about.fr.port = -1) :
    Calls Try.prog 33 #[.agg #[.int .i64 g.net.base, .int .i64 g.net.bits, .int .i64 g.out, .slice ta tn tc, .slice ka kn kc, .int .i64 g.filter, .int .i64 g.hold, .int .i64 g.now], .agg #[.int .i64 e.code, .int .i64 e.sender, .int .i64 e.to_, .int .i64 e.about.kind, .int .i64 e.about.fr.addr, .int .i64 e.about.fr.port, .int .i64 e.about.to_.addr, .int .i64 e.about.to_.port, .slice a n c]] w fun x w' => x = .returned (.tuple #[.agg #[.int .i64 0, .int .i64 0, .int .i64 0, .int .i64 0, .int .i64 0, .int .i64 0, .int .i64 0, .int .i64 0, .slice none 0 0], .bool false]) ∧ Ext w w' := by
  have c1 := fun W x y => spec_validGate g ta tn tc ka kn kc W x y
  rw [h1] at c1
  replace c1 := Lib.hid c1
  have c2 := fun W h => spec_validReport' e a n c W h
  rw [h2] at c2
  replace c2 := Lib.hid c2
  have c3 := fun W => spec_inNet' g.net e.sender W (validGate_iff.1 h1).net
  rw [h5] at c3
  replace c3 := Lib.hid c3
  have b3 : (e.to_ != g.out) = false := by simp [h3]
  have b4 : (e.about.fr.addr != g.out) = false := by simp [h4]
  clear h3 h4 h5
  have c6 := fun W a => spec_byPort e.about.fr.port ta tn tc g.table W a
  rw [hb] at c6
  replace c6 := Lib.hid c6
  clear hb
  go_enter Try.func33, Try.ntmps33
  go_wp2_with fail
  refine (c1.out _ (by exact ht.ext (by repeat (first | (with_reducible exact Ext.refl _) | (with_reducible assumption) | (with_reducible refine Ext.alloc ?_ _) | (with_reducible refine Ext.drewN ?_ _) | (with_reducible refine Ext.drew ?_) | (with_reducible refine Ext.setCell ?_ ?_ _; rotate_left; (simp only []; omega)) | (with_reducible refine Ext.trans ?_ (by assumption))))) (by exact hk.ext (by repeat (first | (with_reducible exact Ext.refl _) | (with_reducible assumption) | (with_reducible refine Ext.alloc ?_ _) | (with_reducible refine Ext.drewN ?_ _) | (with_reducible refine Ext.drew ?_) | (with_reducible refine Ext.setCell ?_ ?_ _; rotate_left; (simp only []; omega)) | (with_reducible refine Ext.trans ?_ (by assumption)))))).mono ?_
  rintro e w1 ⟨rfl, hx1⟩
  have hy1 := hx1.size
  (try simp at hy1)
  have eW1 := useE (fun (h : Ext _ w1) => ht.ext h) (by repeat (first | (with_reducible exact Ext.refl _) | (with_reducible assumption) | (with_reducible refine Ext.alloc ?_ _) | (with_reducible refine Ext.drewN ?_ _) | (with_reducible refine Ext.drew ?_) | (with_reducible refine Ext.setCell ?_ ?_ _; rotate_left; (simp only []; omega)) | (with_reducible refine Ext.trans ?_ (by assumption))))
  replace ht := ht.ext eW1
  replace hk := hk.ext eW1
  replace hs := hs.ext eW1
  have BG : Blk w1 w.heap.size 28 (#[.int .i64 g.net.base, .int .i64 g.net.bits, .int .i64 g.out, .slice ta tn tc, .slice ka kn kc, .int .i64 g.filter, .int .i64 g.hold, .int .i64 g.now]) := by refine Blk.ext ?_ hx1; exact (by repeat (first | (with_reducible assumption) | (with_reducible exact Blk.new _ _ _) | exact Blk.newAt _ _ _ (by simp) | (with_reducible refine Blk.alloc ?_ _) | (with_reducible refine Blk.drew ?_) | (with_reducible refine Blk.drewN ?_ _) | refine Blk.far ?_ (by simp only []; omega) _ | refine Blk.rext ?_ (by assumption) (by omega) | refine Blk.ext ?_ (by assumption)))
  have BX : Blk w1 (w.heap.size+1) 63 (#[.int .i64 e.code, .int .i64 e.sender, .int .i64 e.to_, .int .i64 e.about.kind, .int .i64 e.about.fr.addr, .int .i64 e.about.fr.port, .int .i64 e.about.to_.addr, .int .i64 e.about.to_.port, .slice a n c]) := by refine Blk.ext ?_ hx1; exact (by repeat (first | (with_reducible assumption) | (with_reducible exact Blk.new _ _ _) | exact Blk.newAt _ _ _ (by simp) | (with_reducible refine Blk.alloc ?_ _) | (with_reducible refine Blk.drew ?_) | (with_reducible refine Blk.drewN ?_ _) | refine Blk.far ?_ (by simp only []; omega) _ | refine Blk.rext ?_ (by assumption) (by omega) | refine Blk.ext ?_ (by assumption)))
  have BR : Blk w1 (w.heap.size+2) 63 #[.int .i64 0, .int .i64 0, .int .i64 0, .int .i64 0, .int .i64 0, .int .i64 0, .int .i64 0, .int .i64 0, .slice none 0 0] := by refine Blk.ext ?_ hx1; exact (by repeat (first | (with_reducible assumption) | (with_reducible exact Blk.new _ _ _) | exact Blk.newAt _ _ _ (by simp) | (with_reducible refine Blk.alloc ?_ _) | (with_reducible refine Blk.drew ?_) | (with_reducible refine Blk.drewN ?_ _) | refine Blk.far ?_ (by simp only []; omega) _ | refine Blk.rext ?_ (by assumption) (by omega) | refine Blk.ext ?_ (by assumption)))
  have cBG := BG.cells
  have fBG := BG.frozens
  have zBG := BG.lt
  have cBX := BX.cells
  have fBX := BX.frozens
  have zBX := BX.lt
  have cBR := BR.cells
  have fBR := BR.frozens
  have zBR := BR.lt
  have XU : Ext w w1 := (by repeat (first | (with_reducible exact Ext.refl _) | (with_reducible assumption) | (with_reducible refine Ext.alloc ?_ _) | (with_reducible refine Ext.drewN ?_ _) | (with_reducible refine Ext.drew ?_) | (with_reducible refine Ext.setCell ?_ ?_ _; rotate_left; (simp only []; omega)) | (with_reducible refine Ext.trans ?_ (by assumption))))
  clear hx1
  go_wp2_with fail
  refine (c2.out _ (by exact hs.ext (by repeat (first | (with_reducible exact Ext.refl _) | (with_reducible assumption) | (with_reducible refine Ext.alloc ?_ _) | (with_reducible refine Ext.drewN ?_ _) | (with_reducible refine Ext.drew ?_) | (with_reducible refine Ext.setCell ?_ ?_ _; rotate_left; (simp only []; omega)) | (with_reducible refine Ext.trans ?_ (by assumption)))))).mono ?_
  rintro e w2 ⟨rfl, hx2⟩
  have hy2 := hx2.size
  (try simp at hy2)
  have eW2 := useE (fun (h : Ext _ w2) => ht.ext h) (by repeat (first | (with_reducible exact Ext.refl _) | (with_reducible assumption) | (with_reducible refine Ext.alloc ?_ _) | (with_reducible refine Ext.drewN ?_ _) | (with_reducible refine Ext.drew ?_) | (with_reducible refine Ext.setCell ?_ ?_ _; rotate_left; (simp only []; omega)) | (with_reducible refine Ext.trans ?_ (by assumption))))
  replace ht := ht.ext eW2
  replace hk := hk.ext eW2
  replace hs := hs.ext eW2
  clear cBG fBG zBG
  replace BG := BG.ext eW2
  clear cBX fBX zBX
  replace BX := BX.ext eW2
  clear cBR fBR zBR
  replace BR := BR.ext eW2
  replace XU := XU.ext eW2
  have cBG := BG.cells
  have fBG := BG.frozens
  have zBG := BG.lt
  have cBX := BX.cells
  have fBX := BX.frozens
  have zBX := BX.lt
  have cBR := BR.cells
  have fBR := BR.frozens
  have zBR := BR.lt
  go_wp2_with fail
  refine (c3.out _).mono ?_
  rintro e w3 ⟨rfl, hx3⟩
  have hy3 := hx3.size
  (try simp at hy3)
  have eW3 := useE (fun (h : Ext _ w3) => ht.ext h) (by repeat (first | (with_reducible exact Ext.refl _) | (with_reducible assumption) | (with_reducible refine Ext.alloc ?_ _) | (with_reducible refine Ext.drewN ?_ _) | (with_reducible refine Ext.drew ?_) | (with_reducible refine Ext.setCell ?_ ?_ _; rotate_left; (simp only []; omega)) | (with_reducible refine Ext.trans ?_ (by assumption))))
  replace ht := ht.ext eW3
  replace hk := hk.ext eW3
  replace hs := hs.ext eW3
  clear cBG fBG zBG
  replace BG := BG.ext eW3
  clear cBX fBX zBX
  replace BX := BX.ext eW3
  clear cBR fBR zBR
  replace BR := BR.ext eW3
  replace XU := XU.ext eW3
  have cBG := BG.cells
  have fBG := BG.frozens
  have zBG := BG.lt
  have cBX := BX.cells
  have fBX := BX.frozens
  have zBX := BX.lt
  have cBR := BR.cells
  have fBR := BR.frozens
  have zBR := BR.lt
  go_wp2_with fail
  refine (c6.out _ (by exact ht.ext (by repeat (first | (with_reducible exact Ext.refl _) | (with_reducible assumption) | (with_reducible refine Ext.alloc ?_ _) | (with_reducible refine Ext.drewN ?_ _) | (with_reducible refine Ext.drew ?_) | (with_reducible refine Ext.setCell ?_ ?_ _; rotate_left; (simp only []; omega)) | (with_reducible refine Ext.trans ?_ (by assumption)))))).mono ?_
  rintro e _ ⟨rfl, rfl⟩
  go_wp2
  refine' bodyPost_ret (v := _) ?_ rfl ?_
  rotate_left
  · (simp only [results, Try.results33]
     go_simp
     rfl)
  refine ⟨rfl, ?_⟩
  clear hx2 hx3
  repeat (refine Ext.setCell ?_ (by simp only []; omega) _)
  exact XU
set_option maxHeartbeats 2000000 in
theorem spec_ReportIn_some (g : GateD) (e : RepD) (ta : Option Addr) (tn tc : Nat) (ka : Option Addr) (kn kc : Nat) (a : Option Addr) (n c : Nat) (w : World) (ht : Sl encM 4 w ta tn tc g.table) (hk : Sl encC 3 w ka kn kc g.cons) (hs : Sl encI 1 w a n c e.about.data) (h1 : validGate g = true) (h2 : validRep e = true) (h3 : e.to_ = g.out) (h4 : e.about.fr.addr = g.out) (h5 : has g.net e.sender = false) (k : Nat) (m : MapD) (hb : byPort g.table e.about.fr.port = (k : Int)) (hm : g.table[k]? = some m) :
    Calls Try.prog 33 #[.agg #[.int .i64 g.net.base, .int .i64 g.net.bits, .int .i64 g.out, .slice ta tn tc, .slice ka kn kc, .int .i64 g.filter, .int .i64 g.hold, .int .i64 g.now], .agg #[.int .i64 e.code, .int .i64 e.sender, .int .i64 e.to_, .int .i64 e.about.kind, .int .i64 e.about.fr.addr, .int .i64 e.about.fr.port, .int .i64 e.about.to_.addr, .int .i64 e.about.to_.port, .slice a n c]] w fun x w' => ∃ A C, x = .returned (.tuple #[.agg #[.int .i64 ({ e with to_ := m.ins.addr, about := { e.about with fr := m.ins } } : RepD).code, .int .i64 ({ e with to_ := m.ins.addr, about := { e.about with fr := m.ins } } : RepD).sender, .int .i64 ({ e with to_ := m.ins.addr, about := { e.about with fr := m.ins } } : RepD).to_, .int .i64 ({ e with to_ := m.ins.addr, about := { e.about with fr := m.ins } } : RepD).about.kind, .int .i64 ({ e with to_ := m.ins.addr, about := { e.about with fr := m.ins } } : RepD).about.fr.addr, .int .i64 ({ e with to_ := m.ins.addr, about := { e.about with fr := m.ins } } : RepD).about.fr.port, .int .i64 ({ e with to_ := m.ins.addr, about := { e.about with fr := m.ins } } : RepD).about.to_.addr, .int .i64 ({ e with to_ := m.ins.addr, about := { e.about with fr := m.ins } } : RepD).about.to_.port, .slice A n C], .bool true]) ∧ Ow 3 encI 1 w.heap.size w' A n C e.about.data ∧ Ext w w' := by
  have hk8 : k < tn := by rw [← ht.len]; exact (List.getElem?_eq_some_iff.1 hm).1
  have hn12 : n ≤ 12 := by have h := (validPkt_iff.1 (validRep_iff.1 h2).2.2.2).2.2.2.1; rw [hs.len] at h; exact h
  obtain ⟨_, b, off, rfl, hbl, hc0⟩ := (ht.maps).resolve_left (by omega)
  obtain ⟨d0, d1, d2, d3⟩ := hc0 k hk8
  have hmn : nth g.table k = m := nth_of hm
  rw [hmn] at d0 d1 d2 d3
  have htle := ht.le
  have htmx := ht.max
  have c1 := fun W x y => spec_validGate g (some ⟨b, off, none⟩) tn tc ka kn kc W x y
  rw [h1] at c1
  replace c1 := Lib.hid c1
  have c2 := fun W h => spec_validReport' e a n c W h
  rw [h2] at c2
  replace c2 := Lib.hid c2
  have c3 := fun W => spec_inNet' g.net e.sender W (validGate_iff.1 h1).net
  rw [h5] at c3
  replace c3 := Lib.hid c3
  have b3 : (e.to_ != g.out) = false := by simp [h3]
  have b4 : (e.about.fr.addr != g.out) = false := by simp [h4]
  clear h3 h4 h5
  have c6 := fun W a => spec_byPort e.about.fr.port (some ⟨b, off, none⟩) tn tc g.table W a
  rw [hb] at c6
  replace c6 := Lib.hid c6
  clear hb hm hmn hc0
  go_enter Try.func33, Try.ntmps33
  go_wp2_with fail
  refine (c1.out _ (by exact ht.ext (by repeat (first | (with_reducible exact Ext.refl _) | (with_reducible assumption) | (with_reducible refine Ext.alloc ?_ _) | (with_reducible refine Ext.drewN ?_ _) | (with_reducible refine Ext.drew ?_) | (with_reducible refine Ext.setCell ?_ ?_ _; rotate_left; (simp only []; omega)) | (with_reducible refine Ext.trans ?_ (by assumption))))) (by exact hk.ext (by repeat (first | (with_reducible exact Ext.refl _) | (with_reducible assumption) | (with_reducible refine Ext.alloc ?_ _) | (with_reducible refine Ext.drewN ?_ _) | (with_reducible refine Ext.drew ?_) | (with_reducible refine Ext.setCell ?_ ?_ _; rotate_left; (simp only []; omega)) | (with_reducible refine Ext.trans ?_ (by assumption)))))).mono ?_
  rintro e w1 ⟨rfl, hx1⟩
  have hy1 := hx1.size
  (try simp at hy1)
  have eW1 := useE (fun (h : Ext _ w1) => ht.ext h) (by repeat (first | (with_reducible exact Ext.refl _) | (with_reducible assumption) | (with_reducible refine Ext.alloc ?_ _) | (with_reducible refine Ext.drewN ?_ _) | (with_reducible refine Ext.drew ?_) | (with_reducible refine Ext.setCell ?_ ?_ _; rotate_left; (simp only []; omega)) | (with_reducible refine Ext.trans ?_ (by assumption))))
  replace ht := ht.ext eW1
  replace hk := hk.ext eW1
  replace hs := hs.ext eW1
  have BG : Blk w1 w.heap.size 28 (#[.int .i64 g.net.base, .int .i64 g.net.bits, .int .i64 g.out, .slice (some ⟨b, off, none⟩) tn tc, .slice ka kn kc, .int .i64 g.filter, .int .i64 g.hold, .int .i64 g.now]) := by refine Blk.ext ?_ hx1; exact (by repeat (first | (with_reducible assumption) | (with_reducible exact Blk.new _ _ _) | exact Blk.newAt _ _ _ (by simp) | (with_reducible refine Blk.alloc ?_ _) | (with_reducible refine Blk.drew ?_) | (with_reducible refine Blk.drewN ?_ _) | refine Blk.far ?_ (by simp only []; omega) _ | refine Blk.rext ?_ (by assumption) (by omega) | refine Blk.ext ?_ (by assumption)))
  have BX : Blk w1 (w.heap.size+1) 63 (#[.int .i64 e.code, .int .i64 e.sender, .int .i64 e.to_, .int .i64 e.about.kind, .int .i64 e.about.fr.addr, .int .i64 e.about.fr.port, .int .i64 e.about.to_.addr, .int .i64 e.about.to_.port, .slice a n c]) := by refine Blk.ext ?_ hx1; exact (by repeat (first | (with_reducible assumption) | (with_reducible exact Blk.new _ _ _) | exact Blk.newAt _ _ _ (by simp) | (with_reducible refine Blk.alloc ?_ _) | (with_reducible refine Blk.drew ?_) | (with_reducible refine Blk.drewN ?_ _) | refine Blk.far ?_ (by simp only []; omega) _ | refine Blk.rext ?_ (by assumption) (by omega) | refine Blk.ext ?_ (by assumption)))
  have BR : Blk w1 (w.heap.size+2) 63 #[.int .i64 0, .int .i64 0, .int .i64 0, .int .i64 0, .int .i64 0, .int .i64 0, .int .i64 0, .int .i64 0, .slice none 0 0] := by refine Blk.ext ?_ hx1; exact (by repeat (first | (with_reducible assumption) | (with_reducible exact Blk.new _ _ _) | exact Blk.newAt _ _ _ (by simp) | (with_reducible refine Blk.alloc ?_ _) | (with_reducible refine Blk.drew ?_) | (with_reducible refine Blk.drewN ?_ _) | refine Blk.far ?_ (by simp only []; omega) _ | refine Blk.rext ?_ (by assumption) (by omega) | refine Blk.ext ?_ (by assumption)))
  have cBG := BG.cells
  have fBG := BG.frozens
  have zBG := BG.lt
  have cBX := BX.cells
  have fBX := BX.frozens
  have zBX := BX.lt
  have cBR := BR.cells
  have fBR := BR.frozens
  have zBR := BR.lt
  have XU : Ext w w1 := (by repeat (first | (with_reducible exact Ext.refl _) | (with_reducible assumption) | (with_reducible refine Ext.alloc ?_ _) | (with_reducible refine Ext.drewN ?_ _) | (with_reducible refine Ext.drew ?_) | (with_reducible refine Ext.setCell ?_ ?_ _; rotate_left; (simp only []; omega)) | (with_reducible refine Ext.trans ?_ (by assumption))))
  clear hx1
  go_wp2_with fail
  refine (c2.out _ (by exact hs.ext (by repeat (first | (with_reducible exact Ext.refl _) | (with_reducible assumption) | (with_reducible refine Ext.alloc ?_ _) | (with_reducible refine Ext.drewN ?_ _) | (with_reducible refine Ext.drew ?_) | (with_reducible refine Ext.setCell ?_ ?_ _; rotate_left; (simp only []; omega)) | (with_reducible refine Ext.trans ?_ (by assumption)))))).mono ?_
  rintro e w2 ⟨rfl, hx2⟩
  have hy2 := hx2.size
  (try simp at hy2)
  have eW2 := useE (fun (h : Ext _ w2) => ht.ext h) (by repeat (first | (with_reducible exact Ext.refl _) | (with_reducible assumption) | (with_reducible refine Ext.alloc ?_ _) | (with_reducible refine Ext.drewN ?_ _) | (with_reducible refine Ext.drew ?_) | (with_reducible refine Ext.setCell ?_ ?_ _; rotate_left; (simp only []; omega)) | (with_reducible refine Ext.trans ?_ (by assumption))))
  replace ht := ht.ext eW2
  replace hk := hk.ext eW2
  replace hs := hs.ext eW2
  clear cBG fBG zBG
  replace BG := BG.ext eW2
  clear cBX fBX zBX
  replace BX := BX.ext eW2
  clear cBR fBR zBR
  replace BR := BR.ext eW2
  replace XU := XU.ext eW2
  have cBG := BG.cells
  have fBG := BG.frozens
  have zBG := BG.lt
  have cBX := BX.cells
  have fBX := BX.frozens
  have zBX := BX.lt
  have cBR := BR.cells
  have fBR := BR.frozens
  have zBR := BR.lt
  go_wp2_with fail
  refine (c3.out _).mono ?_
  rintro e w3 ⟨rfl, hx3⟩
  have hy3 := hx3.size
  (try simp at hy3)
  have eW3 := useE (fun (h : Ext _ w3) => ht.ext h) (by repeat (first | (with_reducible exact Ext.refl _) | (with_reducible assumption) | (with_reducible refine Ext.alloc ?_ _) | (with_reducible refine Ext.drewN ?_ _) | (with_reducible refine Ext.drew ?_) | (with_reducible refine Ext.setCell ?_ ?_ _; rotate_left; (simp only []; omega)) | (with_reducible refine Ext.trans ?_ (by assumption))))
  replace ht := ht.ext eW3
  replace hk := hk.ext eW3
  replace hs := hs.ext eW3
  clear cBG fBG zBG
  replace BG := BG.ext eW3
  clear cBX fBX zBX
  replace BX := BX.ext eW3
  clear cBR fBR zBR
  replace BR := BR.ext eW3
  replace XU := XU.ext eW3
  have cBG := BG.cells
  have fBG := BG.frozens
  have zBG := BG.lt
  have cBX := BX.cells
  have fBX := BX.frozens
  have zBX := BX.lt
  have cBR := BR.cells
  have fBR := BR.frozens
  have zBR := BR.lt
  go_wp2_with fail
  refine (c6.out _ (by exact ht.ext (by repeat (first | (with_reducible exact Ext.refl _) | (with_reducible assumption) | (with_reducible refine Ext.alloc ?_ _) | (with_reducible refine Ext.drewN ?_ _) | (with_reducible refine Ext.drew ?_) | (with_reducible refine Ext.setCell ?_ ?_ _; rotate_left; (simp only []; omega)) | (with_reducible refine Ext.trans ?_ (by assumption)))))).mono ?_
  rintro e _ ⟨rfl, rfl⟩
  go_wp2_with fail
  refine (spec_copyReport e a n c _ (by exact hs.ext (by repeat (first | (with_reducible exact Ext.refl _) | (with_reducible assumption) | (with_reducible refine Ext.alloc ?_ _) | (with_reducible refine Ext.drewN ?_ _) | (with_reducible refine Ext.drew ?_) | (with_reducible refine Ext.setCell ?_ ?_ _; rotate_left; (simp only []; omega)) | (with_reducible refine Ext.trans ?_ (by assumption))))) (by omega)).mono ?_
  rintro e w7 ⟨A, C, rfl, O7, hx7⟩
  have hy7 := hx7.size
  (try simp at hy7)
  have eW7 := useE (fun (h : Ext _ w7) => ht.ext h) (by repeat (first | (with_reducible exact Ext.refl _) | (with_reducible assumption) | (with_reducible refine Ext.alloc ?_ _) | (with_reducible refine Ext.drewN ?_ _) | (with_reducible refine Ext.drew ?_) | (with_reducible refine Ext.setCell ?_ ?_ _; rotate_left; (simp only []; omega)) | (with_reducible refine Ext.trans ?_ (by assumption))))
  replace ht := ht.ext eW7
  replace hk := hk.ext eW7
  replace hs := hs.ext eW7
  clear cBG fBG zBG
  replace BG := BG.ext eW7
  clear cBX fBX zBX
  replace BX := BX.ext eW7
  clear cBR fBR zBR
  replace BR := BR.ext eW7
  replace XU := XU.ext eW7
  have cBG := BG.cells
  have fBG := BG.frozens
  have zBG := BG.lt
  have cBX := BX.cells
  have fBX := BX.frozens
  have zBX := BX.lt
  have cBR := BR.cells
  have fBR := BR.frozens
  have zBR := BR.lt
  have lO : ∀ x, A = some x → w.heap.size + 2 < x.block ∧ x.block < w7.heap.size := fun x e => by have h := O7.lt x e; (try simp at h); omega
  have XT : Ext w w7 := XU
  rw [← XT.cells _ _ hbl] at d0 d1 d2 d3
  have hb7 : b < w7.heap.size := by omega
  replace O7 := Lib.hid O7
  clear hx2 hx3 hx7
  go_wp2
  refine' bodyPost_ret (v := _) ?_ rfl ?_
  rotate_left
  · (simp only [results, Try.results33]
     go_simp
     rfl)
  refine ⟨A, C, rfl, ?_⟩
  have m1 : ∀ x, A = some x → x.block ≠ w7.heap.size := fun x e => by have := lO x e; omega
  have m2 : ∀ x, A = some x → x.block ≠ w.heap.size + 1 + 1 := fun x e => by have := lO x e; omega
  have e1 : w.heap.size ≤ w7.heap.size := by omega
  have e2 : w.heap.size ≤ w.heap.size + 1 + 1 := by omega
  have Y7 := Lib.hid ((O7.out).rebase (b' := w.heap.size) (by (try simp); (try omega)))
  refine (fun (h : Two (w7.heap.size) (w.heap.size + 1 + 1) w7 _) => ⟨h.ow Y7.out m1 m2, h.ext XT e1 e2⟩) ?_
  clear m1 m2 e1 e2 cBG fBG zBG cBX fBX zBX cBR fBR zBR d0 d1 d2 d3
  generalize w.heap.size + 1 + 1 = b2
  repeat (first | (with_reducible exact Two.refl _ _ _) | (with_reducible refine Two.drew ?_) | (with_reducible refine Two.alloc ?_ _) | (with_reducible refine Two.set1 ?_ _ _) | (with_reducible refine Two.set2 ?_ _ _))
theorem spec_ReportIn (g : GateD) (r : RepD) (ta : Option Addr) (tn tc : Nat) (ka : Option Addr) (kn kc : Nat) (a : Option Addr) (n c : Nat) (w : World) (ht : Sl encM 4 w ta tn tc g.table) (hk : Sl encC 3 w ka kn kc g.cons) (hs : Sl encI 1 w a n c r.about.data) :
    Calls Try.prog 33 #[.agg #[.int .i64 g.net.base, .int .i64 g.net.bits, .int .i64 g.out, .slice ta tn tc, .slice ka kn kc, .int .i64 g.filter, .int .i64 g.hold, .int .i64 g.now], .agg #[.int .i64 r.code, .int .i64 r.sender, .int .i64 r.to_, .int .i64 r.about.kind, .int .i64 r.about.fr.addr, .int .i64 r.about.fr.port, .int .i64 r.about.to_.addr, .int .i64 r.about.to_.port, .slice a n c]] w fun e w' => ∃ A n C, e = .returned (.tuple #[.agg #[.int .i64 (rR (reportIn g r)).code, .int .i64 (rR (reportIn g r)).sender, .int .i64 (rR (reportIn g r)).to_, .int .i64 (rR (reportIn g r)).about.kind, .int .i64 (rR (reportIn g r)).about.fr.addr, .int .i64 (rR (reportIn g r)).about.fr.port, .int .i64 (rR (reportIn g r)).about.to_.addr, .int .i64 (rR (reportIn g r)).about.to_.port, .slice A n C], .bool (reportIn g r).isSome]) ∧ Ow 3 encI 1 w.heap.size w' A n C (rR (reportIn g r)).about.data ∧ Ext w w' := by
  cases hC : (validGate g && validRep r && decide (r.to_ = g.out) && decide (r.about.fr.addr = g.out) && !has g.net r.sender) with
  | false =>
    have e : reportIn g r = none := by unfold reportIn; rw [hC]; rfl
    rw [e]
    exact (spec_ReportIn_not g r ta tn tc ka kn kc a n c w ht hk hs hC).mono fun _ _ ⟨h1, h2⟩ => ⟨none, 0, 0, h1, Ow.nils _, h2⟩
  | true =>
    have hC2 := hC
    simp only [Bool.and_eq_true, Bool.not_eq_true', decide_eq_true_eq, decide_eq_false_iff_not] at hC2
    obtain ⟨⟨⟨⟨h1, h2⟩, h3⟩, h4⟩, h5⟩ := hC2
    by_cases hb : 0 ≤ byPort g.table r.about.fr.port
    · obtain ⟨k, m, b1, b2, b3, b4⟩ := byPort_some hb
      have e : reportIn g r = some { r with to_ := m.ins.addr, about := { r.about with fr := m.ins } } := by unfold reportIn; rw [hC, b4]; simp [hb]
      rw [e]
      exact (spec_ReportIn_some g r ta tn tc ka kn kc a n c w ht hk hs h1 h2 h3 h4 h5 k m b1 b2).mono fun _ _ ⟨A, C, e1, e2, e3⟩ => ⟨A, n, C, e1, e2, e3⟩
    · have e : reportIn g r = none := by unfold reportIn; rw [hC]; simp [hb]
      have hge := ix_ge (fun m => decide (m.port = r.about.fr.port)) g.table
      rw [e]
      exact (spec_ReportIn_none g r ta tn tc ka kn kc a n c w ht hk hs h1 h2 h3 h4 h5 (by unfold byPort at hb ⊢; omega)).mono fun _ _ ⟨h1, h2⟩ => ⟨none, 0, 0, h1, Ow.nils _, h2⟩
end Go.Proofs.Ytppdcglnopoocaa
