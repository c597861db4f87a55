/- The exact law on ReportOut, walked. No condition. -/
import Derived.Test.YtppdcglnopoocaaKExk
import Derived.Test.YtppdcglnopoocaaKRepB
import Derived.Test.YtppdcglnopoocaaKRepD
namespace Go.Proofs.Ytppdcglnopoocaa
set_option linter.unusedVariables false
set_option linter.unusedSimpArgs false
open Go.RowKit

theorem lens_ReportOut (g : GateD) (p : RepD) : (rR (reportOut g p)).about.data.length ≤ 1000 := by
  cases h : reportOut g p with
  | none => simp [rR, rpN]
  | some o =>
    have hl := (validPkt_iff.1 (validRep_iff.1 (law_reportOut h).2.2.2.2.2.2.2).2.2.2).2.2.2.1
    simp only [rR]
    omega
set_option maxRecDepth 4000 in
set_option maxHeartbeats 8000000 in
theorem law_FnExactReportOut_gen (g : GateD) (p : RepD) (ta : Option Addr) (tn tc : Nat) (ka : Option Addr) (kn kc : Nat) (a : Option Addr) (n c : Nat) (u : World) (ht : Sl encM 4 u ta tn tc g.table) (hk : Sl encC 3 u ka kn kc g.cons) (hs : Sl encI 1 u a n c p.about.data) (hg : (tn : Int) + kn ≤ 1048576) (hg2 : (n : Int) ≤ 1048576 - tn - kn) (P : RepD) (ok : Bool) (rn : Nat) (hrn : rn ≤ 1000) 
    (cI : ∀ (A B D : Option Addr) (W : World), Sl encM 4 W A tn tn g.table → Sl encC 3 W B kn kn g.cons → Sl encI 1 W D n n p.about.data → Calls Try.prog 44 #[.agg #[.int .i64 g.net.base, .int .i64 g.net.bits, .int .i64 g.out, .slice A tn tn, .slice B kn kn, .int .i64 g.filter, .int .i64 g.hold, .int .i64 g.now], .agg #[.int .i64 p.code, .int .i64 p.sender, .int .i64 p.to_, .int .i64 p.about.kind, .int .i64 p.about.fr.addr, .int .i64 p.about.fr.port, .int .i64 p.about.to_.addr, .int .i64 p.about.to_.port, .slice D n n]] W fun e w' => ∃ d z, e = .returned (.tuple #[.agg #[.int .i64 P.code, .int .i64 P.sender, .int .i64 P.to_, .int .i64 P.about.kind, .int .i64 P.about.fr.addr, .int .i64 P.about.fr.port, .int .i64 P.about.to_.addr, .int .i64 P.about.to_.port, .slice d rn z], .bool ok]) ∧ Ow 3 encI 1 W.heap.size w' d rn z P.about.data ∧ Ext W w')
    (cS : ∀ (A B D : Option Addr) (W : World), Sl encM 4 W A tn tn g.table → Sl encC 3 W B kn kn g.cons → Sl encI 1 W D n n p.about.data → Calls Try.prog 46 #[.agg #[.int .i64 g.net.base, .int .i64 g.net.bits, .int .i64 g.out, .slice A tn tn, .slice B kn kn, .int .i64 g.filter, .int .i64 g.hold, .int .i64 g.now], .agg #[.int .i64 p.code, .int .i64 p.sender, .int .i64 p.to_, .int .i64 p.about.kind, .int .i64 p.about.fr.addr, .int .i64 p.about.fr.port, .int .i64 p.about.to_.addr, .int .i64 p.about.to_.port, .slice D n n]] W fun e w' => ∃ d z, e = .returned (.tuple #[.agg #[.int .i64 P.code, .int .i64 P.sender, .int .i64 P.to_, .int .i64 P.about.kind, .int .i64 P.about.fr.addr, .int .i64 P.about.fr.port, .int .i64 P.about.to_.addr, .int .i64 P.about.to_.port, .slice d rn z], .bool ok]) ∧ Ow 3 encI 1 W.heap.size w' d rn z P.about.data ∧ Ext W w') :
    Calls Try.prog 12 #[.agg #[.int .i64 g.net.base, .int .i64 g.net.bits, .int .i64 g.out, .slice ta tn tc, .slice ka kn kc, .int .i64 g.filter, .int .i64 g.hold, .int .i64 g.now], .agg #[.int .i64 p.code, .int .i64 p.sender, .int .i64 p.to_, .int .i64 p.about.kind, .int .i64 p.about.fr.addr, .int .i64 p.about.fr.port, .int .i64 p.about.to_.addr, .int .i64 p.about.to_.port, .slice a n c]] u fun e w' => e = .returned (.bool true) ∧ Ext u w' := by
  have m1 := ht.max
  have m2 := hk.max
  have m3 := hs.max
  have l1 := ht.le
  have l2 := hk.le
  have l3 := hs.le
  have c1 := fun w => szGate_any g ta tn tc ka kn kc 1048576 w (by omega) (by omega) (by omega) (by omega)
  rw [if_pos hg] at c1
  have c2 := fun w => szReport_any p.code p.sender p.to_ p.about.kind p.about.fr.addr p.about.fr.port p.about.to_.addr p.about.to_.port a n c (1048576 - (tn : Int) - kn) w (by omega) (by omega) (by omega)
  rw [if_pos hg2] at c2
  replace c1 := Lib.hid c1
  replace c2 := Lib.hid c2
  replace cI := Lib.hid cI
  replace cS := Lib.hid cS
  have hm1 : ¬ (1048576 : Int) - tn - kn < 0 := by omega
  have hm2 : ¬ (1048576 : Int) - tn - kn - n < 0 := by omega
  have hm3 : ¬ 1 + 4 * (tn : Int) + 3 * (kn : Int) + (n : Int) < 0 := by omega
  have hm4 : ¬ 1 + (rn : Int) < 0 := by omega
  have T0 := ht
  have K0 := hk
  have S0 := hs
  have XU := Ext.refl u
  have T0l := Lib.hid (fun (h : 0 < tn) => ht.lt h)
  have K0l := Lib.hid (fun (h : 0 < kn) => hk.lt h)
  have S0l := Lib.hid (fun (h : 0 < n) => hs.lt h)
  clear ht hk hs
  go_enter Try.func12, Try.ntmps12
  go_wp2_with fail
  refine (c1.out _).mono ?_
  rintro e w1 ⟨rfl, hx1⟩
  have hy1 := hx1.size
  (try simp at hy1)
  have eW1 := useE (fun (h : Ext _ w1) => T0.ext h) (by repeat (first | (with_reducible exact Ext.refl _) | (with_reducible assumption) | (with_reducible refine Ext.alloc ?_ _) | (with_reducible refine Ext.drewN ?_ _) | (with_reducible refine Ext.drew ?_) | (with_reducible refine Ext.setCell ?_ ?_ _; rotate_left; (simp only []; omega)) | (with_reducible refine Ext.trans ?_ (by assumption))))
  replace T0 := T0.ext eW1
  replace K0 := K0.ext eW1
  replace S0 := S0.ext eW1
  have BG : Blk w1 u.heap.size 54 (#[.int .i64 g.net.base, .int .i64 g.net.bits, .int .i64 g.out, .slice ta tn tc, .slice ka kn kc, .int .i64 g.filter, .int .i64 g.hold, .int .i64 g.now]) := by refine Blk.ext ?_ hx1; exact (by repeat (first | (with_reducible assumption) | (with_reducible exact Blk.new _ _ _) | exact Blk.newAt _ _ _ (by simp) | (with_reducible refine Blk.alloc ?_ _) | (with_reducible refine Blk.drew ?_) | (with_reducible refine Blk.drewN ?_ _) | refine Blk.far ?_ (by simp only []; omega) _ | refine Blk.rext ?_ (by assumption) (by omega) | refine Blk.ext ?_ (by assumption)))
  have BP : Blk w1 (u.heap.size+1) 59 (#[.int .i64 p.code, .int .i64 p.sender, .int .i64 p.to_, .int .i64 p.about.kind, .int .i64 p.about.fr.addr, .int .i64 p.about.fr.port, .int .i64 p.about.to_.addr, .int .i64 p.about.to_.port, .slice a n c]) := by refine Blk.ext ?_ hx1; exact (by repeat (first | (with_reducible assumption) | (with_reducible exact Blk.new _ _ _) | exact Blk.newAt _ _ _ (by simp) | (with_reducible refine Blk.alloc ?_ _) | (with_reducible refine Blk.drew ?_) | (with_reducible refine Blk.drewN ?_ _) | refine Blk.far ?_ (by simp only []; omega) _ | refine Blk.rext ?_ (by assumption) (by omega) | refine Blk.ext ?_ (by assumption)))
  replace XU := XU.ext eW1
  have cBG := BG.cells
  have fBG := BG.frozens
  have zBG := BG.lt
  have cBP := BP.cells
  have fBP := BP.frozens
  have zBP := BP.lt
  go_wp2_with fail
  refine (c2.out _).mono ?_
  rintro e w2 ⟨rfl, hx2⟩
  have hy2 := hx2.size
  (try simp at hy2)
  have eW2 := useE (fun (h : Ext _ w2) => T0.ext h) (by repeat (first | (with_reducible exact Ext.refl _) | (with_reducible assumption) | (with_reducible refine Ext.alloc ?_ _) | (with_reducible refine Ext.drewN ?_ _) | (with_reducible refine Ext.drew ?_) | (with_reducible refine Ext.setCell ?_ ?_ _; rotate_left; (simp only []; omega)) | (with_reducible refine Ext.trans ?_ (by assumption))))
  replace T0 := T0.ext eW2
  replace K0 := K0.ext eW2
  replace S0 := S0.ext eW2
  clear cBG fBG zBG
  replace BG := BG.ext eW2
  clear cBP fBP zBP
  replace BP := BP.ext eW2
  replace XU := XU.ext eW2
  have cBG := BG.cells
  have fBG := BG.frozens
  have zBG := BG.lt
  have cBP := BP.cells
  have fBP := BP.frozens
  have zBP := BP.lt
  go_wp2_with fail
  clear cBG fBG zBG
  clear cBP fBP zBP
  have kBG : u.heap.size < w2.heap.size := BG.lt
  have kBP : u.heap.size + 1 < w2.heap.size := BP.lt
  have kU : u.heap.size ≤ w2.heap.size := XU.size
  replace T0 := T0.ext ((Ext.refl _).drew)
  replace K0 := K0.ext ((Ext.refl _).drew)
  replace S0 := S0.ext ((Ext.refl _).drew)
  replace XU := XU.ext ((Ext.refl _).drew)
  replace BG := BG.ext ((Ext.refl _).drew)
  replace BP := BP.ext ((Ext.refl _).drew)
  have hdrS : ∀ W : World, W.drew.heap.size = W.heap.size := fun _ => rfl
  refine wp_region_float (R := Ext) (base := w2.heap.size) (Ts := [(63, #[.int .i64 0, .int .i64 0, .int .i64 0, .int .i64 0, .int .i64 0, .int .i64 0, .int .i64 0, .int .i64 0, .slice none 0 0])]) [0, 2, 1, 3, 4, 5, 6, 7, 8, 9, 10] (by kernel_rfl) (by kernel_rfl) Ext.refl (fun _ _ _ => Ext.trans) (fun _ _ h => h) (fun _ _ h => h.size) (fun _ _ b _ _ hb hB hR => hB.ext hR) (by intro x hx; simp only [List.mem_cons, List.not_mem_nil, or_false] at hx; subst hx; all_goals (intro wS; kernel_rfl)) (by omega) ?_
  have hdrW := hdrS w2
  generalize w2.drew = v0a at *
  repeat' (first
    | (refine' ChF.pure (v := _) (by rfl) (by rfl) (by rfl) ?_ ?_
       rotate_left
       · (intro wS
          go_simp
          with_reducible rfl)
       (try simp only [Act.put, List.setIfInBounds_toArray, List.set_cons_zero, List.set_cons_succ]))
    | (refine' ChF.quiet (v := _) (by rfl) (by rfl) (by rfl) (by rfl) ?_ ?_
       rotate_left
       · (intro wS hS
          have cG := (BG.ext hS).cells; have cP := (BP.ext hS).cells
          go_simp
          with_reducible rfl)
       (try simp only [Act.put, List.setIfInBounds_toArray, List.set_cons_zero, List.set_cons_succ]))
    | fail)
  refine ChF.call (by rfl) (by rfl) (by rfl) (by rfl) (by rfl) (by intro wS; go_simp; (constructor <;> rfl)) ?_
  intro u1a eu1a
  replace T0 := T0.ext eu1a
  replace K0 := K0.ext eu1a
  replace S0 := S0.ext eu1a
  replace XU := XU.ext eu1a
  replace BG := BG.ext eu1a
  replace BP := BP.ext eu1a
  have su1a := eu1a.size
  clear eu1a
  refine (toGate_any g ta tn tc ka kn kc _ T0 K0 (by omega) (by omega)).mono ?_
  rintro e v1a ⟨sA, qA, rfl, PA, PB, h1⟩
  refine ⟨_, rfl, h1, ?_⟩
  (try simp only [Act.put, List.setIfInBounds_toArray, List.set_cons_zero, List.set_cons_succ])
  replace T0 := T0.ext h1
  replace K0 := K0.ext h1
  replace S0 := S0.ext h1
  replace XU := XU.ext h1
  replace BG := BG.ext h1
  replace BP := BP.ext h1
  have sv1a := h1.size
  clear h1
  repeat' (first
    | (refine' ChF.pure (v := _) (by rfl) (by rfl) (by rfl) ?_ ?_
       rotate_left
       · (intro wS
          go_simp
          with_reducible rfl)
       (try simp only [Act.put, List.setIfInBounds_toArray, List.set_cons_zero, List.set_cons_succ]))
    | (refine' ChF.quiet (v := _) (by rfl) (by rfl) (by rfl) (by rfl) ?_ ?_
       rotate_left
       · (intro wS hS
          skip
          go_simp
          with_reducible rfl)
       (try simp only [Act.put, List.setIfInBounds_toArray, List.set_cons_zero, List.set_cons_succ]))
    | fail)
  refine ChF.call (by rfl) (by rfl) (by rfl) (by rfl) (by rfl) (by intro wS; go_simp; (constructor <;> rfl)) ?_
  intro u2a eu2a
  replace T0 := T0.ext eu2a
  replace K0 := K0.ext eu2a
  replace S0 := S0.ext eu2a
  replace XU := XU.ext eu2a
  replace BG := BG.ext eu2a
  replace BP := BP.ext eu2a
  replace PA := PA.ext eu2a
  replace PB := PB.ext eu2a
  have su2a := eu2a.size
  clear eu2a
  refine (toReport_any p.code p.sender p.to_ p.about.kind p.about.fr.addr p.about.fr.port p.about.to_.addr p.about.to_.port a n c p.about.data _ S0 (by omega)).mono ?_
  rintro e v2a ⟨dA, rfl, PD, h2⟩
  refine ⟨_, rfl, h2, ?_⟩
  (try simp only [Act.put, List.setIfInBounds_toArray, List.set_cons_zero, List.set_cons_succ])
  replace T0 := T0.ext h2
  replace K0 := K0.ext h2
  replace S0 := S0.ext h2
  replace XU := XU.ext h2
  replace BG := BG.ext h2
  replace BP := BP.ext h2
  replace PA := PA.ext h2
  replace PB := PB.ext h2
  have sv2a := h2.size
  clear h2
  repeat' (first
    | (refine' ChF.pure (v := _) (by rfl) (by rfl) (by rfl) ?_ ?_
       rotate_left
       · (intro wS
          go_simp
          with_reducible rfl)
       (try simp only [Act.put, List.setIfInBounds_toArray, List.set_cons_zero, List.set_cons_succ]))
    | (refine' ChF.quiet (v := _) (by rfl) (by rfl) (by rfl) (by rfl) ?_ ?_
       rotate_left
       · (intro wS hS
          skip
          go_simp
          with_reducible rfl)
       (try simp only [Act.put, List.setIfInBounds_toArray, List.set_cons_zero, List.set_cons_succ]))
    | fail)
  refine ChF.call (by rfl) (by rfl) (by rfl) (by rfl) (by rfl) (by intro wS; go_simp; (constructor <;> rfl)) ?_
  intro u3a eu3a
  replace T0 := T0.ext eu3a
  replace K0 := K0.ext eu3a
  replace S0 := S0.ext eu3a
  replace XU := XU.ext eu3a
  replace BG := BG.ext eu3a
  replace BP := BP.ext eu3a
  replace PA := PA.ext eu3a
  replace PB := PB.ext eu3a
  replace PD := PD.ext eu3a
  have su3a := eu3a.size
  clear eu3a
  refine (cS.out sA qA dA _ (PA.sl encM_len) (PB.sl encC_len) (PD.sl encI_len)).mono ?_
  rintro e v3a ⟨dW, zW, rfl, DW, h3⟩
  refine ⟨_, rfl, h3, ?_⟩
  (try simp only [Act.put, List.setIfInBounds_toArray, List.set_cons_zero, List.set_cons_succ])
  replace T0 := T0.ext h3
  replace K0 := K0.ext h3
  replace S0 := S0.ext h3
  replace XU := XU.ext h3
  replace BG := BG.ext h3
  replace BP := BP.ext h3
  have sv3a := h3.size
  clear h3 PA PB PD
  replace DW := DW.rebase (b' := u.heap.size) (by omega)
  repeat' (first
    | (refine' ChF.pure (v := _) (by rfl) (by rfl) (by rfl) ?_ ?_
       rotate_left
       · (intro wS
          go_simp
          with_reducible rfl)
       (try simp only [Act.put, List.setIfInBounds_toArray, List.set_cons_zero, List.set_cons_succ]))
    | (refine' ChF.quiet (v := _) (by rfl) (by rfl) (by rfl) (by rfl) ?_ ?_
       rotate_left
       · (intro wS hS
          skip
          go_simp
          with_reducible rfl)
       (try simp only [Act.put, List.setIfInBounds_toArray, List.set_cons_zero, List.set_cons_succ]))
    | fail)
  refine ChF.box (by rfl) (by rfl) (by rfl) ?_
  intro v4a b1a h4 hb1a B1
  replace B1 : Blk v4a b1a 63 #[.int .i64 0, .int .i64 0, .int .i64 0, .int .i64 0, .int .i64 0, .int .i64 0, .int .i64 0, .int .i64 0, .slice none 0 0] := B1
  (try simp only [Act.put, List.setIfInBounds_toArray, List.set_cons_zero, List.set_cons_succ])
  replace T0 := T0.ext h4
  replace K0 := K0.ext h4
  replace S0 := S0.ext h4
  replace XU := XU.ext h4
  replace BG := BG.ext h4
  replace BP := BP.ext h4
  replace DW := DW.ext h4
  have sv4a := h4.size
  clear h4
  have oDWB1 := DW.apartB B1 (by decide)
  repeat' (first
    | (refine' ChF.pure (v := _) (by rfl) (by rfl) (by rfl) ?_ ?_
       rotate_left
       · (intro wS
          go_simp
          with_reducible rfl)
       (try simp only [Act.put, List.setIfInBounds_toArray, List.set_cons_zero, List.set_cons_succ]))
    | (refine' ChF.quiet (v := _) (by rfl) (by rfl) (by rfl) (by rfl) ?_ ?_
       rotate_left
       · (intro wS hS
          skip
          go_simp
          with_reducible rfl)
       (try simp only [Act.put, List.setIfInBounds_toArray, List.set_cons_zero, List.set_cons_succ]))
    | fail)
  have cB1 := B1.cells
  have fB1 := B1.frozens
  refine ChF.storeP (fun W => RExt b1a v4a W ∧ Blk W b1a 63 (#[.int .i64 P.code, .int .i64 P.sender, .int .i64 P.to_, .int .i64 P.about.kind, .int .i64 P.about.fr.addr, .int .i64 P.about.fr.port, .int .i64 P.about.to_.addr, .int .i64 P.about.to_.port, .slice dW rn zW])) (by rfl) (by rfl) (by rfl) ⟨_, (by go_simp; rfl), (by simp [World.setCell]), (by repeat (first | (with_reducible exact RExt.refl _ _) | (with_reducible refine RExt.putc ?_ _ _))), (by exact B1.put9 _ _ _ _ _ _ _ _ _)⟩ ?_
  (try simp only [Act.put, List.setIfInBounds_toArray, List.set_cons_zero, List.set_cons_succ])
  rintro v6a sv6a ⟨x6, B1'⟩
  clear cB1 fB1 B1
  replace T0 := T0.rextFar x6 (fun hn x e => by have := T0l.out hn x e; omega)
  replace K0 := K0.rextFar x6 (fun hn x e => by have := K0l.out hn x e; omega)
  replace S0 := S0.rextFar x6 (fun hn x e => by have := S0l.out hn x e; omega)
  replace XU := RExt.new XU x6 (by omega)
  replace BG := BG.rext x6 (by omega)
  replace BP := BP.rext x6 (by omega)
  replace DW := DW.rext x6 oDWB1
  clear x6
  repeat' (first
    | (refine' ChF.pure (v := _) (by rfl) (by rfl) (by rfl) ?_ ?_
       rotate_left
       · (intro wS
          go_simp
          with_reducible rfl)
       (try simp only [Act.put, List.setIfInBounds_toArray, List.set_cons_zero, List.set_cons_succ]))
    | (refine' ChF.quiet (v := _) (by rfl) (by rfl) (by rfl) (by rfl) ?_ ?_
       rotate_left
       · (intro wS hS
          skip
          go_simp
          with_reducible rfl)
       (try simp only [Act.put, List.setIfInBounds_toArray, List.set_cons_zero, List.set_cons_succ]))
    | fail)
  refine ChF.nil ?_
  have BW1 := B1'
  have lBW1 : b1a < v6a.heap.size := B1'.lt
  clear B1'
  clear kBG
  clear kBP
  have lDW := Lib.hid (show ∀ x, _ = some x → x.block < v6a.heap.size from fun x e => (DW.lt x e).2.1)
  have cBG := BG.cells
  have fBG := BG.frozens
  have zBG := BG.lt
  have cBP := BP.cells
  have fBP := BP.frozens
  have zBP := BP.lt
  have cBW1 := BW1.cells
  have fBW1 := BW1.frozens
  have zBW1 := BW1.lt
  go_wp2_with fail
  refine (toGate_any g ta tn tc ka kn kc _ (by exact T0.ext (by repeat (first | (with_reducible exact Ext.refl _) | (with_reducible assumption) | (with_reducible refine Ext.alloc ?_ _) | (with_reducible refine Ext.drewN ?_ _) | (with_reducible refine Ext.drew ?_) | (with_reducible refine Ext.setCell ?_ ?_ _; rotate_left; (simp only []; omega)) | (with_reducible refine Ext.trans ?_ (by assumption))))) (by exact K0.ext (by repeat (first | (with_reducible exact Ext.refl _) | (with_reducible assumption) | (with_reducible refine Ext.alloc ?_ _) | (with_reducible refine Ext.drewN ?_ _) | (with_reducible refine Ext.drew ?_) | (with_reducible refine Ext.setCell ?_ ?_ _; rotate_left; (simp only []; omega)) | (with_reducible refine Ext.trans ?_ (by assumption))))) (by omega) (by omega)).mono ?_
  rintro e w4 ⟨sb, qb, rfl, PM, PC, hx4⟩
  have hy4 := hx4.size
  (try simp at hy4)
  have eW4 := useE (fun (h : Ext _ w4) => T0.ext h) (by repeat (first | (with_reducible exact Ext.refl _) | (with_reducible assumption) | (with_reducible refine Ext.alloc ?_ _) | (with_reducible refine Ext.drewN ?_ _) | (with_reducible refine Ext.drew ?_) | (with_reducible refine Ext.setCell ?_ ?_ _; rotate_left; (simp only []; omega)) | (with_reducible refine Ext.trans ?_ (by assumption))))
  replace T0 := T0.ext eW4
  replace K0 := K0.ext eW4
  replace S0 := S0.ext eW4
  clear cBG fBG zBG
  replace BG := BG.ext eW4
  clear cBP fBP zBP
  replace BP := BP.ext eW4
  replace DW := DW.ext eW4
  clear cBW1 fBW1 zBW1
  replace BW1 := BW1.ext eW4
  replace XU := XU.ext eW4
  have cBG := BG.cells
  have fBG := BG.frozens
  have zBG := BG.lt
  have cBP := BP.cells
  have fBP := BP.frozens
  have zBP := BP.lt
  have cBW1 := BW1.cells
  have fBW1 := BW1.frozens
  have zBW1 := BW1.lt
  have lPM := Lib.hid (show ∀ x, sb = some x → v6a.heap.size ≤ x.block ∧ x.block < w4.heap.size from fun x e => by have h := PM.lt x e; (try simp at h); omega)
  have lPC := Lib.hid (show ∀ x, qb = some x → v6a.heap.size ≤ x.block ∧ x.block < w4.heap.size from fun x e => by have h := PC.lt x e; (try simp at h); omega)
  go_wp2_with fail
  refine (toReport_any p.code p.sender p.to_ p.about.kind p.about.fr.addr p.about.fr.port p.about.to_.addr p.about.to_.port a n c p.about.data _ (by exact S0.ext (by repeat (first | (with_reducible exact Ext.refl _) | (with_reducible assumption) | (with_reducible refine Ext.alloc ?_ _) | (with_reducible refine Ext.drewN ?_ _) | (with_reducible refine Ext.drew ?_) | (with_reducible refine Ext.setCell ?_ ?_ _; rotate_left; (simp only []; omega)) | (with_reducible refine Ext.trans ?_ (by assumption))))) (by omega)).mono ?_
  rintro e w5 ⟨db, rfl, PD, hx5⟩
  have hy5 := hx5.size
  (try simp at hy5)
  have eW5 := useE (fun (h : Ext _ w5) => T0.ext h) (by repeat (first | (with_reducible exact Ext.refl _) | (with_reducible assumption) | (with_reducible refine Ext.alloc ?_ _) | (with_reducible refine Ext.drewN ?_ _) | (with_reducible refine Ext.drew ?_) | (with_reducible refine Ext.setCell ?_ ?_ _; rotate_left; (simp only []; omega)) | (with_reducible refine Ext.trans ?_ (by assumption))))
  replace T0 := T0.ext eW5
  replace K0 := K0.ext eW5
  replace S0 := S0.ext eW5
  clear cBG fBG zBG
  replace BG := BG.ext eW5
  clear cBP fBP zBP
  replace BP := BP.ext eW5
  replace DW := DW.ext eW5
  clear cBW1 fBW1 zBW1
  replace BW1 := BW1.ext eW5
  replace PM := PM.ext eW5
  replace PC := PC.ext eW5
  have BX : Blk w5 w4.heap.size 28 (#[.int .i64 g.net.base, .int .i64 g.net.bits, .int .i64 g.out, .slice sb tn tn, .slice qb kn kn, .int .i64 g.filter, .int .i64 g.hold, .int .i64 g.now]) := by refine Blk.ext ?_ hx5; exact (by repeat (first | (with_reducible assumption) | (with_reducible exact Blk.new _ _ _) | exact Blk.newAt _ _ _ (by simp) | (with_reducible refine Blk.alloc ?_ _) | (with_reducible refine Blk.drew ?_) | (with_reducible refine Blk.drewN ?_ _) | refine Blk.far ?_ (by simp only []; omega) _ | refine Blk.rext ?_ (by assumption) (by omega) | refine Blk.ext ?_ (by assumption)))
  replace XU := XU.ext eW5
  have cBG := BG.cells
  have fBG := BG.frozens
  have zBG := BG.lt
  have cBP := BP.cells
  have fBP := BP.frozens
  have zBP := BP.lt
  have cBW1 := BW1.cells
  have fBW1 := BW1.frozens
  have zBW1 := BW1.lt
  have cBX := BX.cells
  have fBX := BX.frozens
  have zBX := BX.lt
  have lPD := Lib.hid (show ∀ x, db = some x → w4.heap.size < x.block ∧ x.block < w5.heap.size from fun x e => by have h := PD.lt x e; (try simp at h); omega)
  go_wp2_with fail
  refine (cI.out sb qb db _ (by exact (PM.sl encM_len).ext (by repeat (first | (with_reducible exact Ext.refl _) | (with_reducible assumption) | (with_reducible refine Ext.alloc ?_ _) | (with_reducible refine Ext.drewN ?_ _) | (with_reducible refine Ext.drew ?_) | (with_reducible refine Ext.setCell ?_ ?_ _; rotate_left; (simp only []; omega)) | (with_reducible refine Ext.trans ?_ (by assumption))))) (by exact (PC.sl encC_len).ext (by repeat (first | (with_reducible exact Ext.refl _) | (with_reducible assumption) | (with_reducible refine Ext.alloc ?_ _) | (with_reducible refine Ext.drewN ?_ _) | (with_reducible refine Ext.drew ?_) | (with_reducible refine Ext.setCell ?_ ?_ _; rotate_left; (simp only []; omega)) | (with_reducible refine Ext.trans ?_ (by assumption))))) (by exact (PD.sl encI_len).ext (by repeat (first | (with_reducible exact Ext.refl _) | (with_reducible assumption) | (with_reducible refine Ext.alloc ?_ _) | (with_reducible refine Ext.drewN ?_ _) | (with_reducible refine Ext.drew ?_) | (with_reducible refine Ext.setCell ?_ ?_ _; rotate_left; (simp only []; omega)) | (with_reducible refine Ext.trans ?_ (by assumption)))))).mono ?_
  rintro e w6 ⟨d1, z1, rfl, GD, hx6⟩
  have hy6 := hx6.size
  (try simp at hy6)
  have eW6 := useE (fun (h : Ext _ w6) => T0.ext h) (by repeat (first | (with_reducible exact Ext.refl _) | (with_reducible assumption) | (with_reducible refine Ext.alloc ?_ _) | (with_reducible refine Ext.drewN ?_ _) | (with_reducible refine Ext.drew ?_) | (with_reducible refine Ext.setCell ?_ ?_ _; rotate_left; (simp only []; omega)) | (with_reducible refine Ext.trans ?_ (by assumption))))
  replace T0 := T0.ext eW6
  replace K0 := K0.ext eW6
  replace S0 := S0.ext eW6
  clear cBG fBG zBG
  replace BG := BG.ext eW6
  clear cBP fBP zBP
  replace BP := BP.ext eW6
  replace DW := DW.ext eW6
  clear cBW1 fBW1 zBW1
  replace BW1 := BW1.ext eW6
  replace PM := PM.ext eW6
  replace PC := PC.ext eW6
  clear cBX fBX zBX
  replace BX := BX.ext eW6
  replace PD := PD.ext eW6
  have BX1 : Blk w6 w5.heap.size 63 (#[.int .i64 p.code, .int .i64 p.sender, .int .i64 p.to_, .int .i64 p.about.kind, .int .i64 p.about.fr.addr, .int .i64 p.about.fr.port, .int .i64 p.about.to_.addr, .int .i64 p.about.to_.port, .slice db n n]) := by refine Blk.ext ?_ hx6; exact (by repeat (first | (with_reducible assumption) | (with_reducible exact Blk.new _ _ _) | exact Blk.newAt _ _ _ (by simp) | (with_reducible refine Blk.alloc ?_ _) | (with_reducible refine Blk.drew ?_) | (with_reducible refine Blk.drewN ?_ _) | refine Blk.far ?_ (by simp only []; omega) _ | refine Blk.rext ?_ (by assumption) (by omega) | refine Blk.ext ?_ (by assumption)))
  replace XU := XU.ext eW6
  have cBG := BG.cells
  have fBG := BG.frozens
  have zBG := BG.lt
  have cBP := BP.cells
  have fBP := BP.frozens
  have zBP := BP.lt
  have cBW1 := BW1.cells
  have fBW1 := BW1.frozens
  have zBW1 := BW1.lt
  have cBX := BX.cells
  have fBX := BX.frozens
  have zBX := BX.lt
  have cBX1 := BX1.cells
  have fBX1 := BX1.frozens
  have zBX1 := BX1.lt
  have lGD := Lib.hid (show ∀ x, d1 = some x → w5.heap.size < x.block ∧ x.block < w6.heap.size from fun x e => by have h := GD.lt x e; (try simp at h); omega)
  go_wp2_with fail
  refine (eqReport_same _ _ _ _ _ _ _ _ d1 dW rn z1 zW P.about.data _ (by exact (GD.sl encI_len).ext (by repeat (first | (with_reducible exact Ext.refl _) | (with_reducible assumption) | (with_reducible refine Ext.alloc ?_ _) | (with_reducible refine Ext.drewN ?_ _) | (with_reducible refine Ext.drew ?_) | (with_reducible refine Ext.setCell ?_ ?_ _; rotate_left; (simp only []; omega)) | (with_reducible refine Ext.trans ?_ (by assumption))))) (by exact (DW.sl encI_len).ext (by repeat (first | (with_reducible exact Ext.refl _) | (with_reducible assumption) | (with_reducible refine Ext.alloc ?_ _) | (with_reducible refine Ext.drewN ?_ _) | (with_reducible refine Ext.drew ?_) | (with_reducible refine Ext.setCell ?_ ?_ _; rotate_left; (simp only []; omega)) | (with_reducible refine Ext.trans ?_ (by assumption)))))).mono ?_
  rintro e w7 ⟨rfl, hx7⟩
  have hy7 := hx7.size
  (try simp at hy7)
  have eW7 := useE (fun (h : Ext _ w7) => T0.ext h) (by repeat (first | (with_reducible exact Ext.refl _) | (with_reducible assumption) | (with_reducible refine Ext.alloc ?_ _) | (with_reducible refine Ext.drewN ?_ _) | (with_reducible refine Ext.drew ?_) | (with_reducible refine Ext.setCell ?_ ?_ _; rotate_left; (simp only []; omega)) | (with_reducible refine Ext.trans ?_ (by assumption))))
  replace T0 := T0.ext eW7
  replace K0 := K0.ext eW7
  replace S0 := S0.ext eW7
  clear cBG fBG zBG
  replace BG := BG.ext eW7
  clear cBP fBP zBP
  replace BP := BP.ext eW7
  replace DW := DW.ext eW7
  clear cBW1 fBW1 zBW1
  replace BW1 := BW1.ext eW7
  replace PM := PM.ext eW7
  replace PC := PC.ext eW7
  clear cBX fBX zBX
  replace BX := BX.ext eW7
  replace PD := PD.ext eW7
  clear cBX1 fBX1 zBX1
  replace BX1 := BX1.ext eW7
  replace GD := GD.ext eW7
  have BY : Blk w7 w6.heap.size 63 (#[.int .i64 P.code, .int .i64 P.sender, .int .i64 P.to_, .int .i64 P.about.kind, .int .i64 P.about.fr.addr, .int .i64 P.about.fr.port, .int .i64 P.about.to_.addr, .int .i64 P.about.to_.port, .slice d1 rn z1]) := by refine Blk.ext ?_ hx7; exact (by repeat (first | (with_reducible assumption) | (with_reducible exact Blk.new _ _ _) | exact Blk.newAt _ _ _ (by simp) | (with_reducible refine Blk.alloc ?_ _) | (with_reducible refine Blk.drew ?_) | (with_reducible refine Blk.drewN ?_ _) | refine Blk.far ?_ (by simp only []; omega) _ | refine Blk.rext ?_ (by assumption) (by omega) | refine Blk.ext ?_ (by assumption)))
  replace XU := XU.ext eW7
  have cBG := BG.cells
  have fBG := BG.frozens
  have zBG := BG.lt
  have cBP := BP.cells
  have fBP := BP.frozens
  have zBP := BP.lt
  have cBW1 := BW1.cells
  have fBW1 := BW1.frozens
  have zBW1 := BW1.lt
  have cBX := BX.cells
  have fBX := BX.frozens
  have zBX := BX.lt
  have cBX1 := BX1.cells
  have fBX1 := BX1.frozens
  have zBX1 := BX1.lt
  have cBY := BY.cells
  have fBY := BY.frozens
  have zBY := BY.lt
  go_wp2_with fail
  have hdrS : ∀ W : World, W.drew.heap.size = W.heap.size := fun _ => rfl
  refine wp_region_eager (R := Ext) [0, 1, 2, 3, 4] (by kernel_rfl) (by kernel_rfl) Ext.refl (fun _ _ _ => Ext.trans) ?_
  repeat' (first
    | (refine ChX.skip (by rfl) (by rfl) ?_
       (try simp only [Act.put, List.setIfInBounds_toArray, List.set_cons_zero, List.set_cons_succ]))
    | (refine' ChX.quiet (v := _) (by rfl) (by rfl) (by rfl) ?_ ?_
       rotate_left
       · (intro wS hS
          have hcS := Ext.cells hS
          go_simp
          with_reducible rfl)
       (try simp only [Act.put, List.setIfInBounds_toArray, List.set_cons_zero, List.set_cons_succ]))
    | (refine ChX.nil ?_)
    | (refine' ChX.guard (x := _) (by rfl) ?_ ?_ ?_
       rotate_left
       · (go_simp
          rfl)
       all_goals
         intro hg
         simp only [hg])
    | (refine' ChX.guardN (x := _) (by rfl) ?_ ?_ ?_
       rotate_left
       · (go_simp
          rfl)
       all_goals
         intro hg
         simp only [hg]))
  refine ChX.call (by rfl) (by rfl) (by rfl) (by go_simp; (constructor <;> rfl)) ?_
  refine (toGate_any g ta tn tc ka kn kc _ (by exact T0.ext (by repeat (first | (with_reducible exact Ext.refl _) | (with_reducible assumption) | (with_reducible refine Ext.alloc ?_ _) | (with_reducible refine Ext.drewN ?_ _) | (with_reducible refine Ext.drew ?_) | (with_reducible refine Ext.setCell ?_ ?_ _; rotate_left; (simp only []; omega)) | (with_reducible refine Ext.trans ?_ (by assumption))))) (by exact K0.ext (by repeat (first | (with_reducible exact Ext.refl _) | (with_reducible assumption) | (with_reducible refine Ext.alloc ?_ _) | (with_reducible refine Ext.drewN ?_ _) | (with_reducible refine Ext.drew ?_) | (with_reducible refine Ext.setCell ?_ ?_ _; rotate_left; (simp only []; omega)) | (with_reducible refine Ext.trans ?_ (by assumption))))) (by omega) (by omega)).mono ?_
  rintro e w9 ⟨sd, qd, rfl, QM, QC, hx9⟩
  refine ⟨_, rfl, hx9, ?_⟩
  (try simp only [Act.put, List.setIfInBounds_toArray, List.set_cons_zero, List.set_cons_succ])
  have hy9 := hx9.size
  (try simp at hy9)
  have eW9 := useE (fun (h : Ext _ w9) => T0.ext h) (by repeat (first | (with_reducible exact Ext.refl _) | (with_reducible assumption) | (with_reducible refine Ext.alloc ?_ _) | (with_reducible refine Ext.drewN ?_ _) | (with_reducible refine Ext.drew ?_) | (with_reducible refine Ext.setCell ?_ ?_ _; rotate_left; (simp only []; omega)) | (with_reducible refine Ext.trans ?_ (by assumption))))
  replace T0 := T0.ext eW9
  replace K0 := K0.ext eW9
  replace S0 := S0.ext eW9
  clear cBG fBG zBG
  replace BG := BG.ext eW9
  clear cBP fBP zBP
  replace BP := BP.ext eW9
  replace DW := DW.ext eW9
  clear cBW1 fBW1 zBW1
  replace BW1 := BW1.ext eW9
  replace PM := PM.ext eW9
  replace PC := PC.ext eW9
  clear cBX fBX zBX
  replace BX := BX.ext eW9
  replace PD := PD.ext eW9
  clear cBX1 fBX1 zBX1
  replace BX1 := BX1.ext eW9
  replace GD := GD.ext eW9
  clear cBY fBY zBY
  replace BY := BY.ext eW9
  replace XU := XU.ext eW9
  have cBG := BG.cells
  have fBG := BG.frozens
  have zBG := BG.lt
  have cBP := BP.cells
  have fBP := BP.frozens
  have zBP := BP.lt
  have cBW1 := BW1.cells
  have fBW1 := BW1.frozens
  have zBW1 := BW1.lt
  have cBX := BX.cells
  have fBX := BX.frozens
  have zBX := BX.lt
  have cBX1 := BX1.cells
  have fBX1 := BX1.frozens
  have zBX1 := BX1.lt
  have cBY := BY.cells
  have fBY := BY.frozens
  have zBY := BY.lt
  repeat' (first
    | (refine ChX.skip (by rfl) (by rfl) ?_
       (try simp only [Act.put, List.setIfInBounds_toArray, List.set_cons_zero, List.set_cons_succ]))
    | (refine' ChX.quiet (v := _) (by rfl) (by rfl) (by rfl) ?_ ?_
       rotate_left
       · (intro wS hS
          have hcS := Ext.cells hS
          go_simp
          with_reducible rfl)
       (try simp only [Act.put, List.setIfInBounds_toArray, List.set_cons_zero, List.set_cons_succ]))
    | (refine ChX.nil ?_)
    | (refine' ChX.guard (x := _) (by rfl) ?_ ?_ ?_
       rotate_left
       · (go_simp
          rfl)
       all_goals
         intro hg
         simp only [hg])
    | (refine' ChX.guardN (x := _) (by rfl) ?_ ?_ ?_
       rotate_left
       · (go_simp
          rfl)
       all_goals
         intro hg
         simp only [hg]))
  refine ChX.call (by rfl) (by rfl) (by rfl) (by go_simp; (constructor <;> rfl)) ?_
  refine (eqGate_same g sb tn tn qb kn kn sd tn qd kn _ (by exact (PM.sl encM_len).ext (by repeat (first | (with_reducible exact Ext.refl _) | (with_reducible assumption) | (with_reducible refine Ext.alloc ?_ _) | (with_reducible refine Ext.drewN ?_ _) | (with_reducible refine Ext.drew ?_) | (with_reducible refine Ext.setCell ?_ ?_ _; rotate_left; (simp only []; omega)) | (with_reducible refine Ext.trans ?_ (by assumption))))) (by exact (PC.sl encC_len).ext (by repeat (first | (with_reducible exact Ext.refl _) | (with_reducible assumption) | (with_reducible refine Ext.alloc ?_ _) | (with_reducible refine Ext.drewN ?_ _) | (with_reducible refine Ext.drew ?_) | (with_reducible refine Ext.setCell ?_ ?_ _; rotate_left; (simp only []; omega)) | (with_reducible refine Ext.trans ?_ (by assumption))))) (by exact (QM.sl encM_len).ext (by repeat (first | (with_reducible exact Ext.refl _) | (with_reducible assumption) | (with_reducible refine Ext.alloc ?_ _) | (with_reducible refine Ext.drewN ?_ _) | (with_reducible refine Ext.drew ?_) | (with_reducible refine Ext.setCell ?_ ?_ _; rotate_left; (simp only []; omega)) | (with_reducible refine Ext.trans ?_ (by assumption))))) (by exact (QC.sl encC_len).ext (by repeat (first | (with_reducible exact Ext.refl _) | (with_reducible assumption) | (with_reducible refine Ext.alloc ?_ _) | (with_reducible refine Ext.drewN ?_ _) | (with_reducible refine Ext.drew ?_) | (with_reducible refine Ext.setCell ?_ ?_ _; rotate_left; (simp only []; omega)) | (with_reducible refine Ext.trans ?_ (by assumption)))))).mono ?_
  rintro e w10 ⟨rfl, hx10⟩
  refine ⟨_, rfl, hx10, ?_⟩
  (try simp only [Act.put, List.setIfInBounds_toArray, List.set_cons_zero, List.set_cons_succ])
  have hy10 := hx10.size
  (try simp at hy10)
  have eW10 := useE (fun (h : Ext _ w10) => T0.ext h) (by repeat (first | (with_reducible exact Ext.refl _) | (with_reducible assumption) | (with_reducible refine Ext.alloc ?_ _) | (with_reducible refine Ext.drewN ?_ _) | (with_reducible refine Ext.drew ?_) | (with_reducible refine Ext.setCell ?_ ?_ _; rotate_left; (simp only []; omega)) | (with_reducible refine Ext.trans ?_ (by assumption))))
  replace T0 := T0.ext eW10
  replace K0 := K0.ext eW10
  replace S0 := S0.ext eW10
  clear cBG fBG zBG
  replace BG := BG.ext eW10
  clear cBP fBP zBP
  replace BP := BP.ext eW10
  replace DW := DW.ext eW10
  clear cBW1 fBW1 zBW1
  replace BW1 := BW1.ext eW10
  replace PM := PM.ext eW10
  replace PC := PC.ext eW10
  clear cBX fBX zBX
  replace BX := BX.ext eW10
  replace PD := PD.ext eW10
  clear cBX1 fBX1 zBX1
  replace BX1 := BX1.ext eW10
  replace GD := GD.ext eW10
  clear cBY fBY zBY
  replace BY := BY.ext eW10
  replace QM := QM.ext eW10
  replace QC := QC.ext eW10
  replace XU := XU.ext eW10
  have cBG := BG.cells
  have fBG := BG.frozens
  have zBG := BG.lt
  have cBP := BP.cells
  have fBP := BP.frozens
  have zBP := BP.lt
  have cBW1 := BW1.cells
  have fBW1 := BW1.frozens
  have zBW1 := BW1.lt
  have cBX := BX.cells
  have fBX := BX.frozens
  have zBX := BX.lt
  have cBX1 := BX1.cells
  have fBX1 := BX1.frozens
  have zBX1 := BX1.lt
  have cBY := BY.cells
  have fBY := BY.frozens
  have zBY := BY.lt
  repeat' (first
    | (refine ChX.skip (by rfl) (by rfl) ?_
       (try simp only [Act.put, List.setIfInBounds_toArray, List.set_cons_zero, List.set_cons_succ]))
    | (refine' ChX.quiet (v := _) (by rfl) (by rfl) (by rfl) ?_ ?_
       rotate_left
       · (intro wS hS
          have hcS := Ext.cells hS
          go_simp
          with_reducible rfl)
       (try simp only [Act.put, List.setIfInBounds_toArray, List.set_cons_zero, List.set_cons_succ]))
    | (refine ChX.nil ?_)
    | (refine' ChX.guard (x := _) (by rfl) ?_ ?_ ?_
       rotate_left
       · (go_simp
          rfl)
       all_goals
         intro hg
         simp only [hg])
    | (refine' ChX.guardN (x := _) (by rfl) ?_ ?_ ?_
       rotate_left
       · (go_simp
          rfl)
       all_goals
         intro hg
         simp only [hg]))
  clear QM QC
  go_wp2_with fail
  have hdrS : ∀ W : World, W.drew.heap.size = W.heap.size := fun _ => rfl
  refine wp_region_eager (R := Ext) [0, 1, 2, 3, 4] (by kernel_rfl) (by kernel_rfl) Ext.refl (fun _ _ _ => Ext.trans) ?_
  repeat' (first
    | (refine ChX.skip (by rfl) (by rfl) ?_
       (try simp only [Act.put, List.setIfInBounds_toArray, List.set_cons_zero, List.set_cons_succ]))
    | (refine' ChX.quiet (v := _) (by rfl) (by rfl) (by rfl) ?_ ?_
       rotate_left
       · (intro wS hS
          have hcS := Ext.cells hS
          go_simp
          with_reducible rfl)
       (try simp only [Act.put, List.setIfInBounds_toArray, List.set_cons_zero, List.set_cons_succ]))
    | (refine ChX.nil ?_)
    | (refine' ChX.guard (x := _) (by rfl) ?_ ?_ ?_
       rotate_left
       · (go_simp
          rfl)
       all_goals
         intro hg
         simp only [hg])
    | (refine' ChX.guardN (x := _) (by rfl) ?_ ?_ ?_
       rotate_left
       · (go_simp
          rfl)
       all_goals
         intro hg
         simp only [hg]))
  refine ChX.call (by rfl) (by rfl) (by rfl) (by go_simp; (constructor <;> rfl)) ?_
  refine (toReport_any p.code p.sender p.to_ p.about.kind p.about.fr.addr p.about.fr.port p.about.to_.addr p.about.to_.port a n c p.about.data _ (by exact S0.ext (by repeat (first | (with_reducible exact Ext.refl _) | (with_reducible assumption) | (with_reducible refine Ext.alloc ?_ _) | (with_reducible refine Ext.drewN ?_ _) | (with_reducible refine Ext.drew ?_) | (with_reducible refine Ext.setCell ?_ ?_ _; rotate_left; (simp only []; omega)) | (with_reducible refine Ext.trans ?_ (by assumption))))) (by omega)).mono ?_
  rintro e w11 ⟨dd, rfl, QD, hx11⟩
  refine ⟨_, rfl, hx11, ?_⟩
  (try simp only [Act.put, List.setIfInBounds_toArray, List.set_cons_zero, List.set_cons_succ])
  have hy11 := hx11.size
  (try simp at hy11)
  have eW11 := useE (fun (h : Ext _ w11) => T0.ext h) (by repeat (first | (with_reducible exact Ext.refl _) | (with_reducible assumption) | (with_reducible refine Ext.alloc ?_ _) | (with_reducible refine Ext.drewN ?_ _) | (with_reducible refine Ext.drew ?_) | (with_reducible refine Ext.setCell ?_ ?_ _; rotate_left; (simp only []; omega)) | (with_reducible refine Ext.trans ?_ (by assumption))))
  replace T0 := T0.ext eW11
  replace K0 := K0.ext eW11
  replace S0 := S0.ext eW11
  clear cBG fBG zBG
  replace BG := BG.ext eW11
  clear cBP fBP zBP
  replace BP := BP.ext eW11
  replace DW := DW.ext eW11
  clear cBW1 fBW1 zBW1
  replace BW1 := BW1.ext eW11
  replace PM := PM.ext eW11
  replace PC := PC.ext eW11
  clear cBX fBX zBX
  replace BX := BX.ext eW11
  replace PD := PD.ext eW11
  clear cBX1 fBX1 zBX1
  replace BX1 := BX1.ext eW11
  replace GD := GD.ext eW11
  clear cBY fBY zBY
  replace BY := BY.ext eW11
  replace XU := XU.ext eW11
  have cBG := BG.cells
  have fBG := BG.frozens
  have zBG := BG.lt
  have cBP := BP.cells
  have fBP := BP.frozens
  have zBP := BP.lt
  have cBW1 := BW1.cells
  have fBW1 := BW1.frozens
  have zBW1 := BW1.lt
  have cBX := BX.cells
  have fBX := BX.frozens
  have zBX := BX.lt
  have cBX1 := BX1.cells
  have fBX1 := BX1.frozens
  have zBX1 := BX1.lt
  have cBY := BY.cells
  have fBY := BY.frozens
  have zBY := BY.lt
  repeat' (first
    | (refine ChX.skip (by rfl) (by rfl) ?_
       (try simp only [Act.put, List.setIfInBounds_toArray, List.set_cons_zero, List.set_cons_succ]))
    | (refine' ChX.quiet (v := _) (by rfl) (by rfl) (by rfl) ?_ ?_
       rotate_left
       · (intro wS hS
          have hcS := Ext.cells hS
          go_simp
          with_reducible rfl)
       (try simp only [Act.put, List.setIfInBounds_toArray, List.set_cons_zero, List.set_cons_succ]))
    | (refine ChX.nil ?_)
    | (refine' ChX.guard (x := _) (by rfl) ?_ ?_ ?_
       rotate_left
       · (go_simp
          rfl)
       all_goals
         intro hg
         simp only [hg])
    | (refine' ChX.guardN (x := _) (by rfl) ?_ ?_ ?_
       rotate_left
       · (go_simp
          rfl)
       all_goals
         intro hg
         simp only [hg]))
  refine ChX.call (by rfl) (by rfl) (by rfl) (by go_simp; (constructor <;> rfl)) ?_
  refine (eqReport_same _ _ _ _ _ _ _ _ db dd n n n p.about.data _ (by exact (PD.sl encI_len).ext (by repeat (first | (with_reducible exact Ext.refl _) | (with_reducible assumption) | (with_reducible refine Ext.alloc ?_ _) | (with_reducible refine Ext.drewN ?_ _) | (with_reducible refine Ext.drew ?_) | (with_reducible refine Ext.setCell ?_ ?_ _; rotate_left; (simp only []; omega)) | (with_reducible refine Ext.trans ?_ (by assumption))))) (by exact (QD.sl encI_len).ext (by repeat (first | (with_reducible exact Ext.refl _) | (with_reducible assumption) | (with_reducible refine Ext.alloc ?_ _) | (with_reducible refine Ext.drewN ?_ _) | (with_reducible refine Ext.drew ?_) | (with_reducible refine Ext.setCell ?_ ?_ _; rotate_left; (simp only []; omega)) | (with_reducible refine Ext.trans ?_ (by assumption)))))).mono ?_
  rintro e w12 ⟨rfl, hx12⟩
  refine ⟨_, rfl, hx12, ?_⟩
  (try simp only [Act.put, List.setIfInBounds_toArray, List.set_cons_zero, List.set_cons_succ])
  have hy12 := hx12.size
  (try simp at hy12)
  have eW12 := useE (fun (h : Ext _ w12) => T0.ext h) (by repeat (first | (with_reducible exact Ext.refl _) | (with_reducible assumption) | (with_reducible refine Ext.alloc ?_ _) | (with_reducible refine Ext.drewN ?_ _) | (with_reducible refine Ext.drew ?_) | (with_reducible refine Ext.setCell ?_ ?_ _; rotate_left; (simp only []; omega)) | (with_reducible refine Ext.trans ?_ (by assumption))))
  replace T0 := T0.ext eW12
  replace K0 := K0.ext eW12
  replace S0 := S0.ext eW12
  clear cBG fBG zBG
  replace BG := BG.ext eW12
  clear cBP fBP zBP
  replace BP := BP.ext eW12
  replace DW := DW.ext eW12
  clear cBW1 fBW1 zBW1
  replace BW1 := BW1.ext eW12
  replace PM := PM.ext eW12
  replace PC := PC.ext eW12
  clear cBX fBX zBX
  replace BX := BX.ext eW12
  replace PD := PD.ext eW12
  clear cBX1 fBX1 zBX1
  replace BX1 := BX1.ext eW12
  replace GD := GD.ext eW12
  clear cBY fBY zBY
  replace BY := BY.ext eW12
  replace QD := QD.ext eW12
  replace XU := XU.ext eW12
  have cBG := BG.cells
  have fBG := BG.frozens
  have zBG := BG.lt
  have cBP := BP.cells
  have fBP := BP.frozens
  have zBP := BP.lt
  have cBW1 := BW1.cells
  have fBW1 := BW1.frozens
  have zBW1 := BW1.lt
  have cBX := BX.cells
  have fBX := BX.frozens
  have zBX := BX.lt
  have cBX1 := BX1.cells
  have fBX1 := BX1.frozens
  have zBX1 := BX1.lt
  have cBY := BY.cells
  have fBY := BY.frozens
  have zBY := BY.lt
  repeat' (first
    | (refine ChX.skip (by rfl) (by rfl) ?_
       (try simp only [Act.put, List.setIfInBounds_toArray, List.set_cons_zero, List.set_cons_succ]))
    | (refine' ChX.quiet (v := _) (by rfl) (by rfl) (by rfl) ?_ ?_
       rotate_left
       · (intro wS hS
          have hcS := Ext.cells hS
          go_simp
          with_reducible rfl)
       (try simp only [Act.put, List.setIfInBounds_toArray, List.set_cons_zero, List.set_cons_succ]))
    | (refine ChX.nil ?_)
    | (refine' ChX.guard (x := _) (by rfl) ?_ ?_ ?_
       rotate_left
       · (go_simp
          rfl)
       all_goals
         intro hg
         simp only [hg])
    | (refine' ChX.guardN (x := _) (by rfl) ?_ ?_ ?_
       rotate_left
       · (go_simp
          rfl)
       all_goals
         intro hg
         simp only [hg]))
  clear QD
  have aPM := fun x y e1 e2 => PD.apart PM (by decide) x y e1 e2
  have aPC := fun x y e1 e2 => PD.apart PC (by decide) x y e1 e2
  go_wp2_with fail
  refine (markGate_any _ _ _ _ _ _ sb tn tn _ g.table qb kn kn _ g.cons 1 _ (by exact PM.ext (by repeat (first | (with_reducible exact Ext.refl _) | (with_reducible assumption) | (with_reducible refine Ext.alloc ?_ _) | (with_reducible refine Ext.drewN ?_ _) | (with_reducible refine Ext.drew ?_) | (with_reducible refine Ext.setCell ?_ ?_ _; rotate_left; (simp only []; omega)) | (with_reducible refine Ext.trans ?_ (by assumption))))) (by exact PC.ext (by repeat (first | (with_reducible exact Ext.refl _) | (with_reducible assumption) | (with_reducible refine Ext.alloc ?_ _) | (with_reducible refine Ext.drewN ?_ _) | (with_reducible refine Ext.drew ?_) | (with_reducible refine Ext.setCell ?_ ?_ _; rotate_left; (simp only []; omega)) | (with_reducible refine Ext.trans ?_ (by assumption))))) (by omega) (by omega) (by omega) (by omega)).mono ?_
  rintro e w13 ⟨rfl, _, _, v13, hgA, hgB⟩
  have hyA := hgA.size
  have hyB := hgB.size
  (try simp at hyA)
  clear cBG fBG zBG cBP fBP zBP cBW1 fBW1 zBW1 cBX fBX zBX cBX1 fBX1 zBX1 cBY fBY zBY
  clear BX PM PC
  replace T0 := (((T0.ext (show Ext _ _ from (by repeat (first | (with_reducible exact Ext.refl _) | (with_reducible assumption) | (with_reducible refine Ext.alloc ?_ _) | (with_reducible refine Ext.drewN ?_ _) | (with_reducible refine Ext.drew ?_) | (with_reducible refine Ext.setCell ?_ ?_ _; rotate_left; (simp only []; omega)) | (with_reducible refine Ext.trans ?_ (by assumption)))))).mark hgA (fun hn x y e1 e2 => by have := T0l.out hn x e1; have := lPM.out y e2; omega)).mark hgB (fun hn x y e1 e2 => by have := T0l.out hn x e1; have := lPC.out y e2; omega))
  replace K0 := (((K0.ext (show Ext _ _ from (by repeat (first | (with_reducible exact Ext.refl _) | (with_reducible assumption) | (with_reducible refine Ext.alloc ?_ _) | (with_reducible refine Ext.drewN ?_ _) | (with_reducible refine Ext.drew ?_) | (with_reducible refine Ext.setCell ?_ ?_ _; rotate_left; (simp only []; omega)) | (with_reducible refine Ext.trans ?_ (by assumption)))))).mark hgA (fun hn x y e1 e2 => by have := K0l.out hn x e1; have := lPM.out y e2; omega)).mark hgB (fun hn x y e1 e2 => by have := K0l.out hn x e1; have := lPC.out y e2; omega))
  replace S0 := (((S0.ext (show Ext _ _ from (by repeat (first | (with_reducible exact Ext.refl _) | (with_reducible assumption) | (with_reducible refine Ext.alloc ?_ _) | (with_reducible refine Ext.drewN ?_ _) | (with_reducible refine Ext.drew ?_) | (with_reducible refine Ext.setCell ?_ ?_ _; rotate_left; (simp only []; omega)) | (with_reducible refine Ext.trans ?_ (by assumption)))))).mark hgA (fun hn x y e1 e2 => by have := S0l.out hn x e1; have := lPM.out y e2; omega)).mark hgB (fun hn x y e1 e2 => by have := S0l.out hn x e1; have := lPC.out y e2; omega))
  replace XU := (((XU.ext (show Ext _ _ from (by repeat (first | (with_reducible exact Ext.refl _) | (with_reducible assumption) | (with_reducible refine Ext.alloc ?_ _) | (with_reducible refine Ext.drewN ?_ _) | (with_reducible refine Ext.drew ?_) | (with_reducible refine Ext.setCell ?_ ?_ _; rotate_left; (simp only []; omega)) | (with_reducible refine Ext.trans ?_ (by assumption)))))).mark hgA (fun x e => by have := lPM.out x e; omega)).mark hgB (fun x e => by have := lPC.out x e; omega))
  replace BG := (((BG.ext (show Ext _ _ from (by repeat (first | (with_reducible exact Ext.refl _) | (with_reducible assumption) | (with_reducible refine Ext.alloc ?_ _) | (with_reducible refine Ext.drewN ?_ _) | (with_reducible refine Ext.drew ?_) | (with_reducible refine Ext.setCell ?_ ?_ _; rotate_left; (simp only []; omega)) | (with_reducible refine Ext.trans ?_ (by assumption)))))).mark hgA (fun x e => by have := lPM.out x e; omega)).mark hgB (fun x e => by have := lPC.out x e; omega))
  replace BP := (((BP.ext (show Ext _ _ from (by repeat (first | (with_reducible exact Ext.refl _) | (with_reducible assumption) | (with_reducible refine Ext.alloc ?_ _) | (with_reducible refine Ext.drewN ?_ _) | (with_reducible refine Ext.drew ?_) | (with_reducible refine Ext.setCell ?_ ?_ _; rotate_left; (simp only []; omega)) | (with_reducible refine Ext.trans ?_ (by assumption)))))).mark hgA (fun x e => by have := lPM.out x e; omega)).mark hgB (fun x e => by have := lPC.out x e; omega))
  replace DW := (((DW.ext (show Ext _ _ from (by repeat (first | (with_reducible exact Ext.refl _) | (with_reducible assumption) | (with_reducible refine Ext.alloc ?_ _) | (with_reducible refine Ext.drewN ?_ _) | (with_reducible refine Ext.drew ?_) | (with_reducible refine Ext.setCell ?_ ?_ _; rotate_left; (simp only []; omega)) | (with_reducible refine Ext.trans ?_ (by assumption)))))).mark hgA (fun x y e1 e2 => by have := lDW.out x e1; have := lPM.out y e2; omega)).mark hgB (fun x y e1 e2 => by have := lDW.out x e1; have := lPC.out y e2; omega))
  replace BW1 := (((BW1.ext (show Ext _ _ from (by repeat (first | (with_reducible exact Ext.refl _) | (with_reducible assumption) | (with_reducible refine Ext.alloc ?_ _) | (with_reducible refine Ext.drewN ?_ _) | (with_reducible refine Ext.drew ?_) | (with_reducible refine Ext.setCell ?_ ?_ _; rotate_left; (simp only []; omega)) | (with_reducible refine Ext.trans ?_ (by assumption)))))).mark hgA (fun x e => by have := lPM.out x e; omega)).mark hgB (fun x e => by have := lPC.out x e; omega))
  replace PD := (((PD.ext (show Ext _ _ from (by repeat (first | (with_reducible exact Ext.refl _) | (with_reducible assumption) | (with_reducible refine Ext.alloc ?_ _) | (with_reducible refine Ext.drewN ?_ _) | (with_reducible refine Ext.drew ?_) | (with_reducible refine Ext.setCell ?_ ?_ _; rotate_left; (simp only []; omega)) | (with_reducible refine Ext.trans ?_ (by assumption)))))).mark hgA (fun x y e1 e2 => aPM x y e1 e2)).mark hgB (fun x y e1 e2 => aPC x y e1 e2))
  replace BX1 := (((BX1.ext (show Ext _ _ from (by repeat (first | (with_reducible exact Ext.refl _) | (with_reducible assumption) | (with_reducible refine Ext.alloc ?_ _) | (with_reducible refine Ext.drewN ?_ _) | (with_reducible refine Ext.drew ?_) | (with_reducible refine Ext.setCell ?_ ?_ _; rotate_left; (simp only []; omega)) | (with_reducible refine Ext.trans ?_ (by assumption)))))).mark hgA (fun x e => by have := lPM.out x e; omega)).mark hgB (fun x e => by have := lPC.out x e; omega))
  replace GD := (((GD.ext (show Ext _ _ from (by repeat (first | (with_reducible exact Ext.refl _) | (with_reducible assumption) | (with_reducible refine Ext.alloc ?_ _) | (with_reducible refine Ext.drewN ?_ _) | (with_reducible refine Ext.drew ?_) | (with_reducible refine Ext.setCell ?_ ?_ _; rotate_left; (simp only []; omega)) | (with_reducible refine Ext.trans ?_ (by assumption)))))).mark hgA (fun x y e1 e2 => by have := lGD.out x e1; have := lPM.out y e2; omega)).mark hgB (fun x y e1 e2 => by have := lGD.out x e1; have := lPC.out y e2; omega))
  replace BY := (((BY.ext (show Ext _ _ from (by repeat (first | (with_reducible exact Ext.refl _) | (with_reducible assumption) | (with_reducible refine Ext.alloc ?_ _) | (with_reducible refine Ext.drewN ?_ _) | (with_reducible refine Ext.drew ?_) | (with_reducible refine Ext.setCell ?_ ?_ _; rotate_left; (simp only []; omega)) | (with_reducible refine Ext.trans ?_ (by assumption)))))).mark hgA (fun x e => by have := lPM.out x e; omega)).mark hgB (fun x e => by have := lPC.out x e; omega))
  clear hgA hgB aPM aPC
  have cBG := BG.cells
  have fBG := BG.frozens
  have zBG := BG.lt
  have cBP := BP.cells
  have fBP := BP.frozens
  have zBP := BP.lt
  have cBW1 := BW1.cells
  have fBW1 := BW1.frozens
  have zBW1 := BW1.lt
  have cBX1 := BX1.cells
  have fBX1 := BX1.frozens
  have zBX1 := BX1.lt
  have cBY := BY.cells
  have fBY := BY.frozens
  have zBY := BY.lt
  go_wp2_with fail
  refine (markReport_any _ _ _ _ _ _ _ _ db n n _ p.about.data _ _ (by exact PD.ext (by repeat (first | (with_reducible exact Ext.refl _) | (with_reducible assumption) | (with_reducible refine Ext.alloc ?_ _) | (with_reducible refine Ext.drewN ?_ _) | (with_reducible refine Ext.drew ?_) | (with_reducible refine Ext.setCell ?_ ?_ _; rotate_left; (simp only []; omega)) | (with_reducible refine Ext.trans ?_ (by assumption))))) (by omega) (by omega) (by omega)).mono ?_
  rintro e w14 ⟨rfl, _, hgC⟩
  have hyC := hgC.size
  (try simp at hyC)
  clear cBG fBG zBG cBP fBP zBP cBW1 fBW1 zBW1 cBX1 fBX1 zBX1 cBY fBY zBY
  clear BX1 PD
  replace T0 := ((T0.ext (show Ext _ _ from (by repeat (first | (with_reducible exact Ext.refl _) | (with_reducible assumption) | (with_reducible refine Ext.alloc ?_ _) | (with_reducible refine Ext.drewN ?_ _) | (with_reducible refine Ext.drew ?_) | (with_reducible refine Ext.setCell ?_ ?_ _; rotate_left; (simp only []; omega)) | (with_reducible refine Ext.trans ?_ (by assumption)))))).mark hgC (fun hn x y e1 e2 => by have := T0l.out hn x e1; have := lPD.out y e2; omega))
  replace K0 := ((K0.ext (show Ext _ _ from (by repeat (first | (with_reducible exact Ext.refl _) | (with_reducible assumption) | (with_reducible refine Ext.alloc ?_ _) | (with_reducible refine Ext.drewN ?_ _) | (with_reducible refine Ext.drew ?_) | (with_reducible refine Ext.setCell ?_ ?_ _; rotate_left; (simp only []; omega)) | (with_reducible refine Ext.trans ?_ (by assumption)))))).mark hgC (fun hn x y e1 e2 => by have := K0l.out hn x e1; have := lPD.out y e2; omega))
  replace S0 := ((S0.ext (show Ext _ _ from (by repeat (first | (with_reducible exact Ext.refl _) | (with_reducible assumption) | (with_reducible refine Ext.alloc ?_ _) | (with_reducible refine Ext.drewN ?_ _) | (with_reducible refine Ext.drew ?_) | (with_reducible refine Ext.setCell ?_ ?_ _; rotate_left; (simp only []; omega)) | (with_reducible refine Ext.trans ?_ (by assumption)))))).mark hgC (fun hn x y e1 e2 => by have := S0l.out hn x e1; have := lPD.out y e2; omega))
  replace XU := ((XU.ext (show Ext _ _ from (by repeat (first | (with_reducible exact Ext.refl _) | (with_reducible assumption) | (with_reducible refine Ext.alloc ?_ _) | (with_reducible refine Ext.drewN ?_ _) | (with_reducible refine Ext.drew ?_) | (with_reducible refine Ext.setCell ?_ ?_ _; rotate_left; (simp only []; omega)) | (with_reducible refine Ext.trans ?_ (by assumption)))))).mark hgC (fun x e => by have := lPD.out x e; omega))
  replace BG := ((BG.ext (show Ext _ _ from (by repeat (first | (with_reducible exact Ext.refl _) | (with_reducible assumption) | (with_reducible refine Ext.alloc ?_ _) | (with_reducible refine Ext.drewN ?_ _) | (with_reducible refine Ext.drew ?_) | (with_reducible refine Ext.setCell ?_ ?_ _; rotate_left; (simp only []; omega)) | (with_reducible refine Ext.trans ?_ (by assumption)))))).mark hgC (fun x e => by have := lPD.out x e; omega))
  replace BP := ((BP.ext (show Ext _ _ from (by repeat (first | (with_reducible exact Ext.refl _) | (with_reducible assumption) | (with_reducible refine Ext.alloc ?_ _) | (with_reducible refine Ext.drewN ?_ _) | (with_reducible refine Ext.drew ?_) | (with_reducible refine Ext.setCell ?_ ?_ _; rotate_left; (simp only []; omega)) | (with_reducible refine Ext.trans ?_ (by assumption)))))).mark hgC (fun x e => by have := lPD.out x e; omega))
  replace DW := ((DW.ext (show Ext _ _ from (by repeat (first | (with_reducible exact Ext.refl _) | (with_reducible assumption) | (with_reducible refine Ext.alloc ?_ _) | (with_reducible refine Ext.drewN ?_ _) | (with_reducible refine Ext.drew ?_) | (with_reducible refine Ext.setCell ?_ ?_ _; rotate_left; (simp only []; omega)) | (with_reducible refine Ext.trans ?_ (by assumption)))))).mark hgC (fun x y e1 e2 => by have := lDW.out x e1; have := lPD.out y e2; omega))
  replace BW1 := ((BW1.ext (show Ext _ _ from (by repeat (first | (with_reducible exact Ext.refl _) | (with_reducible assumption) | (with_reducible refine Ext.alloc ?_ _) | (with_reducible refine Ext.drewN ?_ _) | (with_reducible refine Ext.drew ?_) | (with_reducible refine Ext.setCell ?_ ?_ _; rotate_left; (simp only []; omega)) | (with_reducible refine Ext.trans ?_ (by assumption)))))).mark hgC (fun x e => by have := lPD.out x e; omega))
  replace GD := ((GD.ext (show Ext _ _ from (by repeat (first | (with_reducible exact Ext.refl _) | (with_reducible assumption) | (with_reducible refine Ext.alloc ?_ _) | (with_reducible refine Ext.drewN ?_ _) | (with_reducible refine Ext.drew ?_) | (with_reducible refine Ext.setCell ?_ ?_ _; rotate_left; (simp only []; omega)) | (with_reducible refine Ext.trans ?_ (by assumption)))))).mark hgC (fun x y e1 e2 => by have := lGD.out x e1; have := lPD.out y e2; omega))
  replace BY := ((BY.ext (show Ext _ _ from (by repeat (first | (with_reducible exact Ext.refl _) | (with_reducible assumption) | (with_reducible refine Ext.alloc ?_ _) | (with_reducible refine Ext.drewN ?_ _) | (with_reducible refine Ext.drew ?_) | (with_reducible refine Ext.setCell ?_ ?_ _; rotate_left; (simp only []; omega)) | (with_reducible refine Ext.trans ?_ (by assumption)))))).mark hgC (fun x e => by have := lPD.out x e; omega))
  clear hgC
  have cBG := BG.cells
  have fBG := BG.frozens
  have zBG := BG.lt
  have cBP := BP.cells
  have fBP := BP.frozens
  have zBP := BP.lt
  have cBW1 := BW1.cells
  have fBW1 := BW1.frozens
  have zBW1 := BW1.lt
  have cBY := BY.cells
  have fBY := BY.frozens
  have zBY := BY.lt
  go_wp2_with fail
  refine (eqReport_same _ _ _ _ _ _ _ _ d1 dW rn z1 zW P.about.data _ (by exact (GD.sl encI_len).ext (by repeat (first | (with_reducible exact Ext.refl _) | (with_reducible assumption) | (with_reducible refine Ext.alloc ?_ _) | (with_reducible refine Ext.drewN ?_ _) | (with_reducible refine Ext.drew ?_) | (with_reducible refine Ext.setCell ?_ ?_ _; rotate_left; (simp only []; omega)) | (with_reducible refine Ext.trans ?_ (by assumption))))) (by exact (DW.sl encI_len).ext (by repeat (first | (with_reducible exact Ext.refl _) | (with_reducible assumption) | (with_reducible refine Ext.alloc ?_ _) | (with_reducible refine Ext.drewN ?_ _) | (with_reducible refine Ext.drew ?_) | (with_reducible refine Ext.setCell ?_ ?_ _; rotate_left; (simp only []; omega)) | (with_reducible refine Ext.trans ?_ (by assumption)))))).mono ?_
  rintro e w15 ⟨rfl, hx15⟩
  have hy15 := hx15.size
  (try simp at hy15)
  have eW15 := useE (fun (h : Ext _ w15) => T0.ext h) (by repeat (first | (with_reducible exact Ext.refl _) | (with_reducible assumption) | (with_reducible refine Ext.alloc ?_ _) | (with_reducible refine Ext.drewN ?_ _) | (with_reducible refine Ext.drew ?_) | (with_reducible refine Ext.setCell ?_ ?_ _; rotate_left; (simp only []; omega)) | (with_reducible refine Ext.trans ?_ (by assumption))))
  replace T0 := T0.ext eW15
  replace K0 := K0.ext eW15
  replace S0 := S0.ext eW15
  clear cBG fBG zBG
  replace BG := BG.ext eW15
  clear cBP fBP zBP
  replace BP := BP.ext eW15
  replace DW := DW.ext eW15
  clear cBW1 fBW1 zBW1
  replace BW1 := BW1.ext eW15
  replace GD := GD.ext eW15
  clear cBY fBY zBY
  replace BY := BY.ext eW15
  replace XU := XU.ext eW15
  have cBG := BG.cells
  have fBG := BG.frozens
  have zBG := BG.lt
  have cBP := BP.cells
  have fBP := BP.frozens
  have zBP := BP.lt
  have cBW1 := BW1.cells
  have fBW1 := BW1.frozens
  have zBW1 := BW1.lt
  have cBY := BY.cells
  have fBY := BY.frozens
  have zBY := BY.lt
  go_wp2_with fail
  refine (markReport_any _ _ _ _ _ _ _ _ d1 rn z1 _ P.about.data 1 _ (by exact GD.ext (by repeat (first | (with_reducible exact Ext.refl _) | (with_reducible assumption) | (with_reducible refine Ext.alloc ?_ _) | (with_reducible refine Ext.drewN ?_ _) | (with_reducible refine Ext.drew ?_) | (with_reducible refine Ext.setCell ?_ ?_ _; rotate_left; (simp only []; omega)) | (with_reducible refine Ext.trans ?_ (by assumption))))) (by omega) (by omega) (by omega)).mono ?_
  rintro e w17 ⟨rfl, HD, hgD⟩
  have hyD := hgD.size
  (try simp at hyD)
  clear cBG fBG zBG cBP fBP zBP cBW1 fBW1 zBW1 cBY fBY zBY
  clear GD
  replace T0 := ((T0.ext (show Ext _ _ from (by repeat (first | (with_reducible exact Ext.refl _) | (with_reducible assumption) | (with_reducible refine Ext.alloc ?_ _) | (with_reducible refine Ext.drewN ?_ _) | (with_reducible refine Ext.drew ?_) | (with_reducible refine Ext.setCell ?_ ?_ _; rotate_left; (simp only []; omega)) | (with_reducible refine Ext.trans ?_ (by assumption)))))).mark hgD (fun hn x y e1 e2 => by have := T0l.out hn x e1; have := lGD.out y e2; omega))
  replace K0 := ((K0.ext (show Ext _ _ from (by repeat (first | (with_reducible exact Ext.refl _) | (with_reducible assumption) | (with_reducible refine Ext.alloc ?_ _) | (with_reducible refine Ext.drewN ?_ _) | (with_reducible refine Ext.drew ?_) | (with_reducible refine Ext.setCell ?_ ?_ _; rotate_left; (simp only []; omega)) | (with_reducible refine Ext.trans ?_ (by assumption)))))).mark hgD (fun hn x y e1 e2 => by have := K0l.out hn x e1; have := lGD.out y e2; omega))
  replace S0 := ((S0.ext (show Ext _ _ from (by repeat (first | (with_reducible exact Ext.refl _) | (with_reducible assumption) | (with_reducible refine Ext.alloc ?_ _) | (with_reducible refine Ext.drewN ?_ _) | (with_reducible refine Ext.drew ?_) | (with_reducible refine Ext.setCell ?_ ?_ _; rotate_left; (simp only []; omega)) | (with_reducible refine Ext.trans ?_ (by assumption)))))).mark hgD (fun hn x y e1 e2 => by have := S0l.out hn x e1; have := lGD.out y e2; omega))
  replace XU := ((XU.ext (show Ext _ _ from (by repeat (first | (with_reducible exact Ext.refl _) | (with_reducible assumption) | (with_reducible refine Ext.alloc ?_ _) | (with_reducible refine Ext.drewN ?_ _) | (with_reducible refine Ext.drew ?_) | (with_reducible refine Ext.setCell ?_ ?_ _; rotate_left; (simp only []; omega)) | (with_reducible refine Ext.trans ?_ (by assumption)))))).mark hgD (fun x e => by have := lGD.out x e; omega))
  replace BG := ((BG.ext (show Ext _ _ from (by repeat (first | (with_reducible exact Ext.refl _) | (with_reducible assumption) | (with_reducible refine Ext.alloc ?_ _) | (with_reducible refine Ext.drewN ?_ _) | (with_reducible refine Ext.drew ?_) | (with_reducible refine Ext.setCell ?_ ?_ _; rotate_left; (simp only []; omega)) | (with_reducible refine Ext.trans ?_ (by assumption)))))).mark hgD (fun x e => by have := lGD.out x e; omega))
  replace BP := ((BP.ext (show Ext _ _ from (by repeat (first | (with_reducible exact Ext.refl _) | (with_reducible assumption) | (with_reducible refine Ext.alloc ?_ _) | (with_reducible refine Ext.drewN ?_ _) | (with_reducible refine Ext.drew ?_) | (with_reducible refine Ext.setCell ?_ ?_ _; rotate_left; (simp only []; omega)) | (with_reducible refine Ext.trans ?_ (by assumption)))))).mark hgD (fun x e => by have := lGD.out x e; omega))
  replace DW := ((DW.ext (show Ext _ _ from (by repeat (first | (with_reducible exact Ext.refl _) | (with_reducible assumption) | (with_reducible refine Ext.alloc ?_ _) | (with_reducible refine Ext.drewN ?_ _) | (with_reducible refine Ext.drew ?_) | (with_reducible refine Ext.setCell ?_ ?_ _; rotate_left; (simp only []; omega)) | (with_reducible refine Ext.trans ?_ (by assumption)))))).mark hgD (fun x y e1 e2 => by have := lDW.out x e1; have := lGD.out y e2; omega))
  replace BW1 := ((BW1.ext (show Ext _ _ from (by repeat (first | (with_reducible exact Ext.refl _) | (with_reducible assumption) | (with_reducible refine Ext.alloc ?_ _) | (with_reducible refine Ext.drewN ?_ _) | (with_reducible refine Ext.drew ?_) | (with_reducible refine Ext.setCell ?_ ?_ _; rotate_left; (simp only []; omega)) | (with_reducible refine Ext.trans ?_ (by assumption)))))).mark hgD (fun x e => by have := lGD.out x e; omega))
  replace BY := ((BY.ext (show Ext _ _ from (by repeat (first | (with_reducible exact Ext.refl _) | (with_reducible assumption) | (with_reducible refine Ext.alloc ?_ _) | (with_reducible refine Ext.drewN ?_ _) | (with_reducible refine Ext.drew ?_) | (with_reducible refine Ext.setCell ?_ ?_ _; rotate_left; (simp only []; omega)) | (with_reducible refine Ext.trans ?_ (by assumption)))))).mark hgD (fun x e => by have := lGD.out x e; omega))
  clear hgD
  have lHD := lGD
  have cBG := BG.cells
  have fBG := BG.frozens
  have zBG := BG.lt
  have cBP := BP.cells
  have fBP := BP.frozens
  have zBP := BP.lt
  have cBW1 := BW1.cells
  have fBW1 := BW1.frozens
  have zBW1 := BW1.lt
  have cBY := BY.cells
  have fBY := BY.frozens
  have zBY := BY.lt
  go_wp2_with fail
  refine (heldReport_any _ _ _ _ _ _ _ _ d1 rn z1 1 _ (by exact (HD.sl encI_len).ext (by repeat (first | (with_reducible exact Ext.refl _) | (with_reducible assumption) | (with_reducible refine Ext.alloc ?_ _) | (with_reducible refine Ext.drewN ?_ _) | (with_reducible refine Ext.drew ?_) | (with_reducible refine Ext.setCell ?_ ?_ _; rotate_left; (simp only []; omega)) | (with_reducible refine Ext.trans ?_ (by assumption))))) (by omega) (by omega) (by omega)).mono ?_
  rintro e w19 ⟨rfl, hx19⟩
  have hy19 := hx19.size
  (try simp at hy19)
  have eW19 := useE (fun (h : Ext _ w19) => T0.ext h) (by repeat (first | (with_reducible exact Ext.refl _) | (with_reducible assumption) | (with_reducible refine Ext.alloc ?_ _) | (with_reducible refine Ext.drewN ?_ _) | (with_reducible refine Ext.drew ?_) | (with_reducible refine Ext.setCell ?_ ?_ _; rotate_left; (simp only []; omega)) | (with_reducible refine Ext.trans ?_ (by assumption))))
  replace T0 := T0.ext eW19
  replace K0 := K0.ext eW19
  replace S0 := S0.ext eW19
  clear cBG fBG zBG
  replace BG := BG.ext eW19
  clear cBP fBP zBP
  replace BP := BP.ext eW19
  replace DW := DW.ext eW19
  clear cBW1 fBW1 zBW1
  replace BW1 := BW1.ext eW19
  clear cBY fBY zBY
  replace BY := BY.ext eW19
  replace HD := HD.ext eW19
  replace XU := XU.ext eW19
  have cBG := BG.cells
  have fBG := BG.frozens
  have zBG := BG.lt
  have cBP := BP.cells
  have fBP := BP.frozens
  have zBP := BP.lt
  have cBW1 := BW1.cells
  have fBW1 := BW1.frozens
  have zBW1 := BW1.lt
  have cBY := BY.cells
  have fBY := BY.frozens
  have zBY := BY.lt
  go_wp2_with fail
  clear cBG fBG zBG
  clear cBP fBP zBP
  clear cBW1 fBW1 zBW1
  clear cBY fBY zBY
  have kBG : u.heap.size < w19.heap.size := BG.lt
  have kBP : u.heap.size + 1 < w19.heap.size := BP.lt
  have kDW := Lib.hid (show ∀ x, _ = some x → x.block < w19.heap.size from fun x e => (DW.lt x e).2.1)
  have kBW1 : b1a < w19.heap.size := BW1.lt
  have kBY : w6.heap.size < w19.heap.size := BY.lt
  have kHD := Lib.hid (show ∀ x, _ = some x → x.block < w19.heap.size from fun x e => (HD.lt x e).2.1)
  have kU : u.heap.size ≤ w19.heap.size := XU.size
  replace T0 := T0.ext ((Ext.refl _).drew)
  replace K0 := K0.ext ((Ext.refl _).drew)
  replace S0 := S0.ext ((Ext.refl _).drew)
  replace XU := XU.ext ((Ext.refl _).drew)
  replace BG := BG.ext ((Ext.refl _).drew)
  replace BP := BP.ext ((Ext.refl _).drew)
  replace DW := DW.ext ((Ext.refl _).drew)
  replace BW1 := BW1.ext ((Ext.refl _).drew)
  replace BY := BY.ext ((Ext.refl _).drew)
  replace HD := HD.ext ((Ext.refl _).drew)
  have hdrS : ∀ W : World, W.drew.heap.size = W.heap.size := fun _ => rfl
  refine wp_region_float (R := Ext) (base := w19.heap.size) (Ts := [(63, #[.int .i64 0, .int .i64 0, .int .i64 0, .int .i64 0, .int .i64 0, .int .i64 0, .int .i64 0, .int .i64 0, .slice none 0 0])]) [0, 2, 1, 3, 4, 5, 6, 7, 8, 9, 10] (by kernel_rfl) (by kernel_rfl) Ext.refl (fun _ _ _ => Ext.trans) (fun _ _ h => h) (fun _ _ h => h.size) (fun _ _ b _ _ hb hB hR => hB.ext hR) (by intro x hx; simp only [List.mem_cons, List.not_mem_nil, or_false] at hx; subst hx; all_goals (intro wS; kernel_rfl)) (by omega) ?_
  have hdrW := hdrS w19
  generalize w19.drew = v0h at *
  repeat' (first
    | (refine' ChF.pure (v := _) (by rfl) (by rfl) (by rfl) ?_ ?_
       rotate_left
       · (intro wS
          go_simp
          with_reducible rfl)
       (try simp only [Act.put, List.setIfInBounds_toArray, List.set_cons_zero, List.set_cons_succ]))
    | (refine' ChF.quiet (v := _) (by rfl) (by rfl) (by rfl) (by rfl) ?_ ?_
       rotate_left
       · (intro wS hS
          have cG := (BG.ext hS).cells; have cP := (BP.ext hS).cells
          go_simp
          with_reducible rfl)
       (try simp only [Act.put, List.setIfInBounds_toArray, List.set_cons_zero, List.set_cons_succ]))
    | fail)
  refine ChF.call (by rfl) (by rfl) (by rfl) (by rfl) (by rfl) (by intro wS; go_simp; (constructor <;> rfl)) ?_
  intro u1h eu1h
  replace T0 := T0.ext eu1h
  replace K0 := K0.ext eu1h
  replace S0 := S0.ext eu1h
  replace XU := XU.ext eu1h
  replace BG := BG.ext eu1h
  replace BP := BP.ext eu1h
  replace DW := DW.ext eu1h
  replace BW1 := BW1.ext eu1h
  replace BY := BY.ext eu1h
  replace HD := HD.ext eu1h
  have su1h := eu1h.size
  clear eu1h
  refine (toGate_any g ta tn tc ka kn kc _ T0 K0 (by omega) (by omega)).mono ?_
  rintro e v1h ⟨sA, qA, rfl, PA, PB, h1⟩
  refine ⟨_, rfl, h1, ?_⟩
  (try simp only [Act.put, List.setIfInBounds_toArray, List.set_cons_zero, List.set_cons_succ])
  replace T0 := T0.ext h1
  replace K0 := K0.ext h1
  replace S0 := S0.ext h1
  replace XU := XU.ext h1
  replace BG := BG.ext h1
  replace BP := BP.ext h1
  replace DW := DW.ext h1
  replace BW1 := BW1.ext h1
  replace BY := BY.ext h1
  replace HD := HD.ext h1
  have sv1h := h1.size
  clear h1
  repeat' (first
    | (refine' ChF.pure (v := _) (by rfl) (by rfl) (by rfl) ?_ ?_
       rotate_left
       · (intro wS
          go_simp
          with_reducible rfl)
       (try simp only [Act.put, List.setIfInBounds_toArray, List.set_cons_zero, List.set_cons_succ]))
    | (refine' ChF.quiet (v := _) (by rfl) (by rfl) (by rfl) (by rfl) ?_ ?_
       rotate_left
       · (intro wS hS
          skip
          go_simp
          with_reducible rfl)
       (try simp only [Act.put, List.setIfInBounds_toArray, List.set_cons_zero, List.set_cons_succ]))
    | fail)
  refine ChF.call (by rfl) (by rfl) (by rfl) (by rfl) (by rfl) (by intro wS; go_simp; (constructor <;> rfl)) ?_
  intro u2h eu2h
  replace T0 := T0.ext eu2h
  replace K0 := K0.ext eu2h
  replace S0 := S0.ext eu2h
  replace XU := XU.ext eu2h
  replace BG := BG.ext eu2h
  replace BP := BP.ext eu2h
  replace DW := DW.ext eu2h
  replace BW1 := BW1.ext eu2h
  replace BY := BY.ext eu2h
  replace HD := HD.ext eu2h
  replace PA := PA.ext eu2h
  replace PB := PB.ext eu2h
  have su2h := eu2h.size
  clear eu2h
  refine (toReport_any p.code p.sender p.to_ p.about.kind p.about.fr.addr p.about.fr.port p.about.to_.addr p.about.to_.port a n c p.about.data _ S0 (by omega)).mono ?_
  rintro e v2h ⟨dA, rfl, PD, h2⟩
  refine ⟨_, rfl, h2, ?_⟩
  (try simp only [Act.put, List.setIfInBounds_toArray, List.set_cons_zero, List.set_cons_succ])
  replace T0 := T0.ext h2
  replace K0 := K0.ext h2
  replace S0 := S0.ext h2
  replace XU := XU.ext h2
  replace BG := BG.ext h2
  replace BP := BP.ext h2
  replace DW := DW.ext h2
  replace BW1 := BW1.ext h2
  replace BY := BY.ext h2
  replace HD := HD.ext h2
  replace PA := PA.ext h2
  replace PB := PB.ext h2
  have sv2h := h2.size
  clear h2
  repeat' (first
    | (refine' ChF.pure (v := _) (by rfl) (by rfl) (by rfl) ?_ ?_
       rotate_left
       · (intro wS
          go_simp
          with_reducible rfl)
       (try simp only [Act.put, List.setIfInBounds_toArray, List.set_cons_zero, List.set_cons_succ]))
    | (refine' ChF.quiet (v := _) (by rfl) (by rfl) (by rfl) (by rfl) ?_ ?_
       rotate_left
       · (intro wS hS
          skip
          go_simp
          with_reducible rfl)
       (try simp only [Act.put, List.setIfInBounds_toArray, List.set_cons_zero, List.set_cons_succ]))
    | fail)
  refine ChF.call (by rfl) (by rfl) (by rfl) (by rfl) (by rfl) (by intro wS; go_simp; (constructor <;> rfl)) ?_
  intro u3h eu3h
  replace T0 := T0.ext eu3h
  replace K0 := K0.ext eu3h
  replace S0 := S0.ext eu3h
  replace XU := XU.ext eu3h
  replace BG := BG.ext eu3h
  replace BP := BP.ext eu3h
  replace DW := DW.ext eu3h
  replace BW1 := BW1.ext eu3h
  replace BY := BY.ext eu3h
  replace HD := HD.ext eu3h
  replace PA := PA.ext eu3h
  replace PB := PB.ext eu3h
  replace PD := PD.ext eu3h
  have su3h := eu3h.size
  clear eu3h
  refine (cI.out sA qA dA _ (PA.sl encM_len) (PB.sl encC_len) (PD.sl encI_len)).mono ?_
  rintro e v3h ⟨dH, zH, rfl, DH, h3⟩
  refine ⟨_, rfl, h3, ?_⟩
  (try simp only [Act.put, List.setIfInBounds_toArray, List.set_cons_zero, List.set_cons_succ])
  replace T0 := T0.ext h3
  replace K0 := K0.ext h3
  replace S0 := S0.ext h3
  replace XU := XU.ext h3
  replace BG := BG.ext h3
  replace BP := BP.ext h3
  replace DW := DW.ext h3
  replace BW1 := BW1.ext h3
  replace BY := BY.ext h3
  replace HD := HD.ext h3
  have sv3h := h3.size
  clear h3 PA PB PD
  replace DH := DH.rebase (b' := u.heap.size) (by omega)
  repeat' (first
    | (refine' ChF.pure (v := _) (by rfl) (by rfl) (by rfl) ?_ ?_
       rotate_left
       · (intro wS
          go_simp
          with_reducible rfl)
       (try simp only [Act.put, List.setIfInBounds_toArray, List.set_cons_zero, List.set_cons_succ]))
    | (refine' ChF.quiet (v := _) (by rfl) (by rfl) (by rfl) (by rfl) ?_ ?_
       rotate_left
       · (intro wS hS
          skip
          go_simp
          with_reducible rfl)
       (try simp only [Act.put, List.setIfInBounds_toArray, List.set_cons_zero, List.set_cons_succ]))
    | fail)
  refine ChF.box (by rfl) (by rfl) (by rfl) ?_
  intro v4h b1h h4 hb1h B1
  replace B1 : Blk v4h b1h 63 #[.int .i64 0, .int .i64 0, .int .i64 0, .int .i64 0, .int .i64 0, .int .i64 0, .int .i64 0, .int .i64 0, .slice none 0 0] := B1
  (try simp only [Act.put, List.setIfInBounds_toArray, List.set_cons_zero, List.set_cons_succ])
  replace T0 := T0.ext h4
  replace K0 := K0.ext h4
  replace S0 := S0.ext h4
  replace XU := XU.ext h4
  replace BG := BG.ext h4
  replace BP := BP.ext h4
  replace DW := DW.ext h4
  replace BW1 := BW1.ext h4
  replace BY := BY.ext h4
  replace HD := HD.ext h4
  replace DH := DH.ext h4
  have sv4h := h4.size
  clear h4
  have oDHB1 := DH.apartB B1 (by decide)
  repeat' (first
    | (refine' ChF.pure (v := _) (by rfl) (by rfl) (by rfl) ?_ ?_
       rotate_left
       · (intro wS
          go_simp
          with_reducible rfl)
       (try simp only [Act.put, List.setIfInBounds_toArray, List.set_cons_zero, List.set_cons_succ]))
    | (refine' ChF.quiet (v := _) (by rfl) (by rfl) (by rfl) (by rfl) ?_ ?_
       rotate_left
       · (intro wS hS
          skip
          go_simp
          with_reducible rfl)
       (try simp only [Act.put, List.setIfInBounds_toArray, List.set_cons_zero, List.set_cons_succ]))
    | fail)
  have cB1 := B1.cells
  have fB1 := B1.frozens
  refine ChF.storeP (fun W => RExt b1h v4h W ∧ Blk W b1h 63 (#[.int .i64 P.code, .int .i64 P.sender, .int .i64 P.to_, .int .i64 P.about.kind, .int .i64 P.about.fr.addr, .int .i64 P.about.fr.port, .int .i64 P.about.to_.addr, .int .i64 P.about.to_.port, .slice dH rn zH])) (by rfl) (by rfl) (by rfl) ⟨_, (by go_simp; rfl), (by simp [World.setCell]), (by repeat (first | (with_reducible exact RExt.refl _ _) | (with_reducible refine RExt.putc ?_ _ _))), (by exact B1.put9 _ _ _ _ _ _ _ _ _)⟩ ?_
  (try simp only [Act.put, List.setIfInBounds_toArray, List.set_cons_zero, List.set_cons_succ])
  rintro v6h sv6h ⟨x6, B1'⟩
  clear cB1 fB1 B1
  replace T0 := T0.rextFar x6 (fun hn x e => by have := T0l.out hn x e; omega)
  replace K0 := K0.rextFar x6 (fun hn x e => by have := K0l.out hn x e; omega)
  replace S0 := S0.rextFar x6 (fun hn x e => by have := S0l.out hn x e; omega)
  replace XU := RExt.new XU x6 (by omega)
  replace BG := BG.rext x6 (by omega)
  replace BP := BP.rext x6 (by omega)
  replace DW := DW.rext x6 (fun x e => by have := kDW.out x e; omega)
  replace BW1 := BW1.rext x6 (by omega)
  replace BY := BY.rext x6 (by omega)
  replace HD := HD.rext x6 (fun x e => by have := kHD.out x e; omega)
  replace DH := DH.rext x6 oDHB1
  clear x6
  repeat' (first
    | (refine' ChF.pure (v := _) (by rfl) (by rfl) (by rfl) ?_ ?_
       rotate_left
       · (intro wS
          go_simp
          with_reducible rfl)
       (try simp only [Act.put, List.setIfInBounds_toArray, List.set_cons_zero, List.set_cons_succ]))
    | (refine' ChF.quiet (v := _) (by rfl) (by rfl) (by rfl) (by rfl) ?_ ?_
       rotate_left
       · (intro wS hS
          skip
          go_simp
          with_reducible rfl)
       (try simp only [Act.put, List.setIfInBounds_toArray, List.set_cons_zero, List.set_cons_succ]))
    | fail)
  refine ChF.nil ?_
  have BH1 := B1'
  have lBH1 : b1h < v6h.heap.size := B1'.lt
  clear B1'
  clear kBG
  clear kBP
  clear kBW1
  clear kBY
  have cBG := BG.cells
  have fBG := BG.frozens
  have zBG := BG.lt
  have cBP := BP.cells
  have fBP := BP.frozens
  have zBP := BP.lt
  have cBW1 := BW1.cells
  have fBW1 := BW1.frozens
  have zBW1 := BW1.lt
  have cBY := BY.cells
  have fBY := BY.frozens
  have zBY := BY.lt
  have cBH1 := BH1.cells
  have fBH1 := BH1.frozens
  have zBH1 := BH1.lt
  go_wp2_with fail
  refine (eqReport_same _ _ _ _ _ _ _ _ dH dW rn zH zW P.about.data _ (by exact (DH.sl encI_len).ext (by repeat (first | (with_reducible exact Ext.refl _) | (with_reducible assumption) | (with_reducible refine Ext.alloc ?_ _) | (with_reducible refine Ext.drewN ?_ _) | (with_reducible refine Ext.drew ?_) | (with_reducible refine Ext.setCell ?_ ?_ _; rotate_left; (simp only []; omega)) | (with_reducible refine Ext.trans ?_ (by assumption))))) (by exact (DW.sl encI_len).ext (by repeat (first | (with_reducible exact Ext.refl _) | (with_reducible assumption) | (with_reducible refine Ext.alloc ?_ _) | (with_reducible refine Ext.drewN ?_ _) | (with_reducible refine Ext.drew ?_) | (with_reducible refine Ext.setCell ?_ ?_ _; rotate_left; (simp only []; omega)) | (with_reducible refine Ext.trans ?_ (by assumption)))))).mono ?_
  rintro e w24 ⟨rfl, hx24⟩
  have hy24 := hx24.size
  (try simp at hy24)
  have eW24 := useE (fun (h : Ext _ w24) => T0.ext h) (by repeat (first | (with_reducible exact Ext.refl _) | (with_reducible assumption) | (with_reducible refine Ext.alloc ?_ _) | (with_reducible refine Ext.drewN ?_ _) | (with_reducible refine Ext.drew ?_) | (with_reducible refine Ext.setCell ?_ ?_ _; rotate_left; (simp only []; omega)) | (with_reducible refine Ext.trans ?_ (by assumption))))
  replace T0 := T0.ext eW24
  replace K0 := K0.ext eW24
  replace S0 := S0.ext eW24
  clear cBG fBG zBG
  replace BG := BG.ext eW24
  clear cBP fBP zBP
  replace BP := BP.ext eW24
  replace DW := DW.ext eW24
  clear cBW1 fBW1 zBW1
  replace BW1 := BW1.ext eW24
  clear cBY fBY zBY
  replace BY := BY.ext eW24
  replace HD := HD.ext eW24
  replace DH := DH.ext eW24
  clear cBH1 fBH1 zBH1
  replace BH1 := BH1.ext eW24
  replace XU := XU.ext eW24
  have cBG := BG.cells
  have fBG := BG.frozens
  have zBG := BG.lt
  have cBP := BP.cells
  have fBP := BP.frozens
  have zBP := BP.lt
  have cBW1 := BW1.cells
  have fBW1 := BW1.frozens
  have zBW1 := BW1.lt
  have cBY := BY.cells
  have fBY := BY.frozens
  have zBY := BY.lt
  have cBH1 := BH1.cells
  have fBH1 := BH1.frozens
  have zBH1 := BH1.lt
  go_wp2_with fail
  refine (heldReport_any _ _ _ _ _ _ _ _ d1 rn z1 1 _ (by exact (HD.sl encI_len).ext (by repeat (first | (with_reducible exact Ext.refl _) | (with_reducible assumption) | (with_reducible refine Ext.alloc ?_ _) | (with_reducible refine Ext.drewN ?_ _) | (with_reducible refine Ext.drew ?_) | (with_reducible refine Ext.setCell ?_ ?_ _; rotate_left; (simp only []; omega)) | (with_reducible refine Ext.trans ?_ (by assumption))))) (by omega) (by omega) (by omega)).mono ?_
  rintro e w26 ⟨rfl, hx26⟩
  have hy26 := hx26.size
  (try simp at hy26)
  have eW26 := useE (fun (h : Ext _ w26) => T0.ext h) (by repeat (first | (with_reducible exact Ext.refl _) | (with_reducible assumption) | (with_reducible refine Ext.alloc ?_ _) | (with_reducible refine Ext.drewN ?_ _) | (with_reducible refine Ext.drew ?_) | (with_reducible refine Ext.setCell ?_ ?_ _; rotate_left; (simp only []; omega)) | (with_reducible refine Ext.trans ?_ (by assumption))))
  replace T0 := T0.ext eW26
  replace K0 := K0.ext eW26
  replace S0 := S0.ext eW26
  clear cBG fBG zBG
  replace BG := BG.ext eW26
  clear cBP fBP zBP
  replace BP := BP.ext eW26
  replace DW := DW.ext eW26
  clear cBW1 fBW1 zBW1
  replace BW1 := BW1.ext eW26
  clear cBY fBY zBY
  replace BY := BY.ext eW26
  replace HD := HD.ext eW26
  replace DH := DH.ext eW26
  clear cBH1 fBH1 zBH1
  replace BH1 := BH1.ext eW26
  replace XU := XU.ext eW26
  have cBG := BG.cells
  have fBG := BG.frozens
  have zBG := BG.lt
  have cBP := BP.cells
  have fBP := BP.frozens
  have zBP := BP.lt
  have cBW1 := BW1.cells
  have fBW1 := BW1.frozens
  have zBW1 := BW1.lt
  have cBY := BY.cells
  have fBY := BY.frozens
  have zBY := BY.lt
  have cBH1 := BH1.cells
  have fBH1 := BH1.frozens
  have zBH1 := BH1.lt
  go_wp2
  go_ret
  exact ⟨rfl, XU.trans (show Ext _ _ from (by repeat (first | (with_reducible exact Ext.refl _) | (with_reducible assumption) | (with_reducible refine Ext.alloc ?_ _) | (with_reducible refine Ext.drewN ?_ _) | (with_reducible refine Ext.drew ?_) | (with_reducible refine Ext.setCell ?_ ?_ _; rotate_left; (simp only []; omega)) | (with_reducible refine Ext.trans ?_ (by assumption)))))⟩
theorem law_FnExactReportOut (b i o : Int) (ta : Option Addr) (tn tc : Nat) (T : List MapD) (ka : Option Addr) (kn kc : Nat) (K : List ConD) (f d t : Int) (x0 x1 x2 x3 x4 x5 x6 x7 : Int) (a : Option Addr) (n c : Nat) (S : List Int) (u : World) (ht : Sl encM 4 u ta tn tc T) (hk : Sl encC 3 u ka kn kc K) (hs : Sl encI 1 u a n c S) :
    Calls Try.prog 12 #[.agg #[.int .i64 b, .int .i64 i, .int .i64 o, .slice ta tn tc, .slice ka kn kc, .int .i64 f, .int .i64 d, .int .i64 t], .agg #[.int .i64 x0, .int .i64 x1, .int .i64 x2, .int .i64 x3, .int .i64 x4, .int .i64 x5, .int .i64 x6, .int .i64 x7, .slice a n c]] u fun e w' => e = .returned (.bool true) ∧ Ext u w' := by
  have m1 := ht.max
  have m2 := hk.max
  have m3 := hs.max
  have l1 := ht.le
  have l2 := hk.le
  have l3 := hs.le
  obtain ⟨g, hgd⟩ : ∃ g : GateD, g = ⟨⟨b, i⟩, o, T, K, f, d, t⟩ := ⟨_, rfl⟩
  obtain ⟨p, hpd⟩ : ∃ p : RepD, p = ⟨x0, x1, x2, ⟨x3, ⟨x4, x5⟩, ⟨x6, x7⟩, S⟩⟩ := ⟨_, rfl⟩
  have e0 : (.agg #[.int .i64 g.net.base, .int .i64 g.net.bits, .int .i64 g.out, .slice ta tn tc, .slice ka kn kc, .int .i64 g.filter, .int .i64 g.hold, .int .i64 g.now]) = (.agg #[.int .i64 b, .int .i64 i, .int .i64 o, .slice ta tn tc, .slice ka kn kc, .int .i64 f, .int .i64 d, .int .i64 t] : Value) := by rw [hgd]
  have e1 : (.agg #[.int .i64 p.code, .int .i64 p.sender, .int .i64 p.to_, .int .i64 p.about.kind, .int .i64 p.about.fr.addr, .int .i64 p.about.fr.port, .int .i64 p.about.to_.addr, .int .i64 p.about.to_.port, .slice a n c]) = (.agg #[.int .i64 x0, .int .i64 x1, .int .i64 x2, .int .i64 x3, .int .i64 x4, .int .i64 x5, .int .i64 x6, .int .i64 x7, .slice a n c] : Value) := by rw [hpd]
  rw [← e0, ← e1]
  replace ht : Sl encM 4 u ta tn tc g.table := by rw [hgd]; exact ht
  replace hk : Sl encC 3 u ka kn kc g.cons := by rw [hgd]; exact hk
  replace hs : Sl encI 1 u a n c p.about.data := by rw [hpd]; exact hs
  clear e0 e1 hgd hpd
  by_cases hg : (tn : Int) + kn ≤ 1048576
  · by_cases hg2 : (n : Int) ≤ 1048576 - tn - kn
    · have q1 := lens_ReportOut g p
      refine law_FnExactReportOut_gen g p ta tn tc ka kn kc a n c u ht hk hs hg hg2 (rR (reportOut g p)) (reportOut g p).isSome _ q1 (fun A B D W h1 h2 h3 => ?_) (fun A B D W h1 h2 h3 => ?_)
      · exact (impl_ReportOut g p A tn tn B kn kn D n n W h1 h2 h3).mono fun e w' ⟨d, m, z, h1, h2, h3⟩ => by
          obtain rfl := h2.1
          exact ⟨d, z, h1, h2, h3⟩
      · exact (spec_ReportOut g p A tn tn B kn kn D n n W h1 h2 h3).mono fun e w' ⟨d, m, z, h1, h2, h3⟩ => by
          obtain rfl := h2.1
          exact ⟨d, z, h1, h2, h3⟩
    · have c1 := fun w => szGate_any g ta tn tc ka kn kc 1048576 w (by omega) (by omega) (by omega) (by omega)
      rw [if_pos hg] at c1
      have c2 := fun w => szReport_any p.code p.sender p.to_ p.about.kind p.about.fr.addr p.about.fr.port p.about.to_.addr p.about.to_.port a n c (1048576 - (tn : Int) - kn) w (by omega) (by omega) (by omega)
      rw [if_neg hg2] at c2
      have hm1 : ¬ (1048576 : Int) - tn - kn < 0 := by omega
      replace c1 := Lib.hid c1
      replace c2 := Lib.hid c2
      have XU := Ext.refl u
      clear ht hk hs
      go_enter Try.func12, Try.ntmps12
      go_wp2_with fail
      refine (c1.out _).mono ?_
      rintro e w1 ⟨rfl, hx1⟩
      have hy1 := hx1.size
      (try simp at hy1)
      have eW1 := useE (fun (h : Ext _ w1) => XU.ext h) (by repeat (first | (with_reducible exact Ext.refl _) | (with_reducible assumption) | (with_reducible refine Ext.alloc ?_ _) | (with_reducible refine Ext.drewN ?_ _) | (with_reducible refine Ext.drew ?_) | (with_reducible refine Ext.setCell ?_ ?_ _; rotate_left; (simp only []; omega)) | (with_reducible refine Ext.trans ?_ (by assumption))))
      have BG : Blk w1 u.heap.size 54 (#[.int .i64 g.net.base, .int .i64 g.net.bits, .int .i64 g.out, .slice ta tn tc, .slice ka kn kc, .int .i64 g.filter, .int .i64 g.hold, .int .i64 g.now]) := by refine Blk.ext ?_ hx1; exact (by repeat (first | (with_reducible assumption) | (with_reducible exact Blk.new _ _ _) | exact Blk.newAt _ _ _ (by simp) | (with_reducible refine Blk.alloc ?_ _) | (with_reducible refine Blk.drew ?_) | (with_reducible refine Blk.drewN ?_ _) | refine Blk.far ?_ (by simp only []; omega) _ | refine Blk.rext ?_ (by assumption) (by omega) | refine Blk.ext ?_ (by assumption)))
      have BP : Blk w1 (u.heap.size+1) 59 (#[.int .i64 p.code, .int .i64 p.sender, .int .i64 p.to_, .int .i64 p.about.kind, .int .i64 p.about.fr.addr, .int .i64 p.about.fr.port, .int .i64 p.about.to_.addr, .int .i64 p.about.to_.port, .slice a n c]) := by refine Blk.ext ?_ hx1; exact (by repeat (first | (with_reducible assumption) | (with_reducible exact Blk.new _ _ _) | exact Blk.newAt _ _ _ (by simp) | (with_reducible refine Blk.alloc ?_ _) | (with_reducible refine Blk.drew ?_) | (with_reducible refine Blk.drewN ?_ _) | refine Blk.far ?_ (by simp only []; omega) _ | refine Blk.rext ?_ (by assumption) (by omega) | refine Blk.ext ?_ (by assumption)))
      replace XU := XU.ext eW1
      have cBG := BG.cells
      have fBG := BG.frozens
      have zBG := BG.lt
      have cBP := BP.cells
      have fBP := BP.frozens
      have zBP := BP.lt
      go_wp2_with fail
      refine (c2.out _).mono ?_
      rintro e w2 ⟨rfl, hx2⟩
      have hy2 := hx2.size
      (try simp at hy2)
      have eW2 := useE (fun (h : Ext _ w2) => XU.ext h) (by repeat (first | (with_reducible exact Ext.refl _) | (with_reducible assumption) | (with_reducible refine Ext.alloc ?_ _) | (with_reducible refine Ext.drewN ?_ _) | (with_reducible refine Ext.drew ?_) | (with_reducible refine Ext.setCell ?_ ?_ _; rotate_left; (simp only []; omega)) | (with_reducible refine Ext.trans ?_ (by assumption))))
      clear cBG fBG zBG
      replace BG := BG.ext eW2
      clear cBP fBP zBP
      replace BP := BP.ext eW2
      replace XU := XU.ext eW2
      have cBG := BG.cells
      have fBG := BG.frozens
      have zBG := BG.lt
      have cBP := BP.cells
      have fBP := BP.frozens
      have zBP := BP.lt
      go_wp2
      go_ret
      exact ⟨rfl, XU.trans (show Ext _ _ from (by repeat (first | (with_reducible exact Ext.refl _) | (with_reducible assumption) | (with_reducible refine Ext.alloc ?_ _) | (with_reducible refine Ext.drewN ?_ _) | (with_reducible refine Ext.drew ?_) | (with_reducible refine Ext.setCell ?_ ?_ _; rotate_left; (simp only []; omega)) | (with_reducible refine Ext.trans ?_ (by assumption)))))⟩
  · have c1 := fun w => szGate_any g ta tn tc ka kn kc 1048576 w (by omega) (by omega) (by omega) (by omega)
    rw [if_neg hg] at c1
    replace c1 := Lib.hid c1
    have XU := Ext.refl u
    clear ht hk hs
    go_enter Try.func12, Try.ntmps12
    go_wp2_with fail
    refine (c1.out _).mono ?_
    rintro e w1 ⟨rfl, hx1⟩
    have hy1 := hx1.size
    (try simp at hy1)
    have eW1 := useE (fun (h : Ext _ w1) => XU.ext h) (by repeat (first | (with_reducible exact Ext.refl _) | (with_reducible assumption) | (with_reducible refine Ext.alloc ?_ _) | (with_reducible refine Ext.drewN ?_ _) | (with_reducible refine Ext.drew ?_) | (with_reducible refine Ext.setCell ?_ ?_ _; rotate_left; (simp only []; omega)) | (with_reducible refine Ext.trans ?_ (by assumption))))
    replace XU := XU.ext eW1
    go_wp2
    go_ret
    exact ⟨rfl, XU.trans (show Ext _ _ from (by repeat (first | (with_reducible exact Ext.refl _) | (with_reducible assumption) | (with_reducible refine Ext.alloc ?_ _) | (with_reducible refine Ext.drewN ?_ _) | (with_reducible refine Ext.drew ?_) | (with_reducible refine Ext.setCell ?_ ?_ _; rotate_left; (simp only []; omega)) | (with_reducible refine Ext.trans ?_ (by assumption)))))⟩
end Go.Proofs.Ytppdcglnopoocaa
