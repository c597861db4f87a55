/- The exact law on ReceiveIn, walked. No condition. -/
import Derived.Test.YtppdcglnopoocaaKExk
import Derived.Test.YtppdcglnopoocaaKi
import Derived.Test.YtppdcglnopoocaaKl
namespace Go.Proofs.Ytppdcglnopoocaa
set_option linter.unusedVariables false
set_option linter.unusedSimpArgs false
open Go.RowKit

theorem lens_ReceiveIn (g : GateD) (p : PktD) : (rP (receiveIn g p)).data.length ≤ 1000 ∧ (rG (receiveIn g p)).table.length ≤ 1000 ∧ (rG (receiveIn g p)).cons.length ≤ 1000 :=
  lens_of fun q h e => by
    have hL := law_receive e
    obtain ⟨a, b, _⟩ := receiveIn_some e
    rw [hL.2.2.2.2.1, hL.2.2.2.1]
    exact ⟨a.tab, a.con, (validPkt_iff.1 b).2.2.2.1⟩
set_option maxRecDepth 4000 in
set_option maxHeartbeats 8000000 in
theorem law_FnExactReceiveIn_gen (g : GateD) (p : PktD) (ta : Option Addr) (tn tc : Nat) (ka : Option Addr) (kn kc : Nat) (a : Option Addr) (n c : Nat) (u : World) (ht : Sl encM 4 u ta tn tc g.table) (hk : Sl encC 3 u ka kn kc g.cons) (hs : Sl encI 1 u a n c p.data) (hg : (tn : Int) + kn ≤ 1048576) (hg2 : (n : Int) ≤ 1048576 - tn - kn) (P : PktD) (R : GateD) (ok : Bool) (rn rt rc : Nat) (hrn : rn ≤ 1000) (hrt : rt ≤ 1000) (hrc : rc ≤ 1000)
    (cI : ∀ (A B D : Option Addr) (W : World), Sl encM 4 W A tn tn g.table → Sl encC 3 W B kn kn g.cons → Sl encI 1 W D n n p.data → Calls Try.prog 18 #[.agg #[.int .i64 g.net.base, .int .i64 g.net.bits, .int .i64 g.out, .slice A tn tn, .slice B kn kn, .int .i64 g.filter, .int .i64 g.hold, .int .i64 g.now], .agg #[.int .i64 p.kind, .int .i64 p.fr.addr, .int .i64 p.fr.port, .int .i64 p.to_.addr, .int .i64 p.to_.port, .slice D n n]] W fun e w' => ∃ d z a x b y, e = .returned (.tuple #[.agg #[.int .i64 P.kind, .int .i64 P.fr.addr, .int .i64 P.fr.port, .int .i64 P.to_.addr, .int .i64 P.to_.port, .slice d rn z], .agg #[.int .i64 R.net.base, .int .i64 R.net.bits, .int .i64 R.out, .slice a rt x, .slice b rc y, .int .i64 R.filter, .int .i64 R.hold, .int .i64 R.now], .bool ok]) ∧ Ow 3 encI 1 W.heap.size w' d rn z P.data ∧ Ow 89 encM 4 W.heap.size w' a rt x R.table ∧ Ow 47 encC 3 W.heap.size w' b rc y R.cons ∧ Ext W w')
    (cS : ∀ (A B D : Option Addr) (W : World), Sl encM 4 W A tn tn g.table → Sl encC 3 W B kn kn g.cons → Sl encI 1 W D n n p.data → Calls Try.prog 19 #[.agg #[.int .i64 g.net.base, .int .i64 g.net.bits, .int .i64 g.out, .slice A tn tn, .slice B kn kn, .int .i64 g.filter, .int .i64 g.hold, .int .i64 g.now], .agg #[.int .i64 p.kind, .int .i64 p.fr.addr, .int .i64 p.fr.port, .int .i64 p.to_.addr, .int .i64 p.to_.port, .slice D n n]] W fun e w' => ∃ d z a x b y, e = .returned (.tuple #[.agg #[.int .i64 P.kind, .int .i64 P.fr.addr, .int .i64 P.fr.port, .int .i64 P.to_.addr, .int .i64 P.to_.port, .slice d rn z], .agg #[.int .i64 R.net.base, .int .i64 R.net.bits, .int .i64 R.out, .slice a rt x, .slice b rc y, .int .i64 R.filter, .int .i64 R.hold, .int .i64 R.now], .bool ok]) ∧ Ow 3 encI 1 W.heap.size w' d rn z P.data ∧ Ow 89 encM 4 W.heap.size w' a rt x R.table ∧ Ow 47 encC 3 W.heap.size w' b rc y R.cons ∧ Ext W w') :
    Calls Try.prog 16 #[.agg #[.int .i64 g.net.base, .int .i64 g.net.bits, .int .i64 g.out, .slice ta tn tc, .slice ka kn kc, .int .i64 g.filter, .int .i64 g.hold, .int .i64 g.now], .agg #[.int .i64 p.kind, .int .i64 p.fr.addr, .int .i64 p.fr.port, .int .i64 p.to_.addr, .int .i64 p.to_.port, .slice a n c]] u fun e w' => e = .returned (.bool true) ∧ Ext u w' := by
  have m1 := ht.max
  have m2 := hk.max
  have m3 := hs.max
  have l1 := ht.le
  have l2 := hk.le
  have l3 := hs.le
  have c1 := fun w => szGate_any g ta tn tc ka kn kc 1048576 w (by omega) (by omega) (by omega) (by omega)
  rw [if_pos hg] at c1
  have c2 := fun w => szPacket_any p.kind p.fr.addr p.fr.port p.to_.addr p.to_.port a n c (1048576 - (tn : Int) - kn) w (by omega) (by omega) (by omega)
  rw [if_pos hg2] at c2
  replace c1 := Lib.hid c1
  replace c2 := Lib.hid c2
  replace cI := Lib.hid cI
  replace cS := Lib.hid cS
  have hm1 : ¬ (1048576 : Int) - tn - kn < 0 := by omega
  have hm2 : ¬ (1048576 : Int) - tn - kn - n < 0 := by omega
  have hm3 : ¬ 1 + 4 * (tn : Int) + 3 * (kn : Int) + (n : Int) < 0 := by omega
  have hm4 : ¬ 1 + (rn : Int) < 0 := by omega
  have hm5 : ¬ 1 + (rn : Int) + 4 * (rt : Int) + 3 * (rc : Int) < 0 := by omega
  have T0 := ht
  have K0 := hk
  have S0 := hs
  have XU := Ext.refl u
  have T0l := Lib.hid (fun (h : 0 < tn) => ht.lt h)
  have K0l := Lib.hid (fun (h : 0 < kn) => hk.lt h)
  have S0l := Lib.hid (fun (h : 0 < n) => hs.lt h)
  clear ht hk hs
  go_enter Try.func16, Try.ntmps16
  go_wp2_with fail
  refine (c1.out _).mono ?_
  rintro e w1 ⟨rfl, hx1⟩
  have hy1 := hx1.size
  (try simp at hy1)
  have eW1 := useE (fun (h : Ext _ w1) => T0.ext h) (by repeat (first | (with_reducible exact Ext.refl _) | (with_reducible assumption) | (with_reducible refine Ext.alloc ?_ _) | (with_reducible refine Ext.drewN ?_ _) | (with_reducible refine Ext.drew ?_) | (with_reducible refine Ext.setCell ?_ ?_ _; rotate_left; (simp only []; omega)) | (with_reducible refine Ext.trans ?_ (by assumption))))
  replace T0 := T0.ext eW1
  replace K0 := K0.ext eW1
  replace S0 := S0.ext eW1
  have BG : Blk w1 u.heap.size 54 (#[.int .i64 g.net.base, .int .i64 g.net.bits, .int .i64 g.out, .slice ta tn tc, .slice ka kn kc, .int .i64 g.filter, .int .i64 g.hold, .int .i64 g.now]) := by refine Blk.ext ?_ hx1; exact (by repeat (first | (with_reducible assumption) | (with_reducible exact Blk.new _ _ _) | exact Blk.newAt _ _ _ (by simp) | (with_reducible refine Blk.alloc ?_ _) | (with_reducible refine Blk.drew ?_) | (with_reducible refine Blk.drewN ?_ _) | refine Blk.far ?_ (by simp only []; omega) _ | refine Blk.rext ?_ (by assumption) (by omega) | refine Blk.ext ?_ (by assumption)))
  have BP : Blk w1 (u.heap.size+1) 57 (#[.int .i64 p.kind, .int .i64 p.fr.addr, .int .i64 p.fr.port, .int .i64 p.to_.addr, .int .i64 p.to_.port, .slice a n c]) := by refine Blk.ext ?_ hx1; exact (by repeat (first | (with_reducible assumption) | (with_reducible exact Blk.new _ _ _) | exact Blk.newAt _ _ _ (by simp) | (with_reducible refine Blk.alloc ?_ _) | (with_reducible refine Blk.drew ?_) | (with_reducible refine Blk.drewN ?_ _) | refine Blk.far ?_ (by simp only []; omega) _ | refine Blk.rext ?_ (by assumption) (by omega) | refine Blk.ext ?_ (by assumption)))
  replace XU := XU.ext eW1
  have cBG := BG.cells
  have fBG := BG.frozens
  have zBG := BG.lt
  have cBP := BP.cells
  have fBP := BP.frozens
  have zBP := BP.lt
  go_wp2_with fail
  refine (c2.out _).mono ?_
  rintro e w2 ⟨rfl, hx2⟩
  have hy2 := hx2.size
  (try simp at hy2)
  have eW2 := useE (fun (h : Ext _ w2) => T0.ext h) (by repeat (first | (with_reducible exact Ext.refl _) | (with_reducible assumption) | (with_reducible refine Ext.alloc ?_ _) | (with_reducible refine Ext.drewN ?_ _) | (with_reducible refine Ext.drew ?_) | (with_reducible refine Ext.setCell ?_ ?_ _; rotate_left; (simp only []; omega)) | (with_reducible refine Ext.trans ?_ (by assumption))))
  replace T0 := T0.ext eW2
  replace K0 := K0.ext eW2
  replace S0 := S0.ext eW2
  clear cBG fBG zBG
  replace BG := BG.ext eW2
  clear cBP fBP zBP
  replace BP := BP.ext eW2
  replace XU := XU.ext eW2
  have cBG := BG.cells
  have fBG := BG.frozens
  have zBG := BG.lt
  have cBP := BP.cells
  have fBP := BP.frozens
  have zBP := BP.lt
  go_wp2_with fail
  clear cBG fBG zBG
  clear cBP fBP zBP
  have kBG : u.heap.size < w2.heap.size := BG.lt
  have kBP : u.heap.size + 1 < w2.heap.size := BP.lt
  have kU : u.heap.size ≤ w2.heap.size := XU.size
  replace T0 := T0.ext ((Ext.refl _).drew)
  replace K0 := K0.ext ((Ext.refl _).drew)
  replace S0 := S0.ext ((Ext.refl _).drew)
  replace XU := XU.ext ((Ext.refl _).drew)
  replace BG := BG.ext ((Ext.refl _).drew)
  replace BP := BP.ext ((Ext.refl _).drew)
  have hdrS : ∀ W : World, W.drew.heap.size = W.heap.size := fun _ => rfl
  refine wp_region_float (R := Ext) (base := w2.heap.size) (Ts := [(33, #[.int .i64 0, .int .i64 0, .int .i64 0, .int .i64 0, .int .i64 0, .slice none 0 0]), (28, #[.int .i64 0, .int .i64 0, .int .i64 0, .slice none 0 0, .slice none 0 0, .int .i64 0, .int .i64 0, .int .i64 0])]) [0, 2, 1, 3, 4, 5, 6, 7, 8, 9, 10, 11, 12, 13] (by kernel_rfl) (by kernel_rfl) Ext.refl (fun _ _ _ => Ext.trans) (fun _ _ h => h) (fun _ _ h => h.size) (fun _ _ b _ _ hb hB hR => hB.ext hR) (by intro x hx; simp only [List.mem_cons, List.not_mem_nil, or_false] at hx; rcases hx with rfl | rfl; all_goals (intro wS; kernel_rfl)) (by omega) ?_
  have hdrW := hdrS w2
  generalize w2.drew = v0a at *
  repeat' (first
    | (refine' ChF.pure (v := _) (by rfl) (by rfl) (by rfl) ?_ ?_
       rotate_left
       · (intro wS
          go_simp
          with_reducible rfl)
       (try simp only [Act.put, List.setIfInBounds_toArray, List.set_cons_zero, List.set_cons_succ]))
    | (refine' ChF.quiet (v := _) (by rfl) (by rfl) (by rfl) (by rfl) ?_ ?_
       rotate_left
       · (intro wS hS
          have cG := (BG.ext hS).cells; have cP := (BP.ext hS).cells
          go_simp
          with_reducible rfl)
       (try simp only [Act.put, List.setIfInBounds_toArray, List.set_cons_zero, List.set_cons_succ]))
    | fail)
  refine ChF.call (by rfl) (by rfl) (by rfl) (by rfl) (by rfl) (by intro wS; go_simp; (constructor <;> rfl)) ?_
  intro u1a eu1a
  replace T0 := T0.ext eu1a
  replace K0 := K0.ext eu1a
  replace S0 := S0.ext eu1a
  replace XU := XU.ext eu1a
  replace BG := BG.ext eu1a
  replace BP := BP.ext eu1a
  have su1a := eu1a.size
  clear eu1a
  refine (toGate_any g ta tn tc ka kn kc _ T0 K0 (by omega) (by omega)).mono ?_
  rintro e v1a ⟨sA, qA, rfl, PA, PB, h1⟩
  refine ⟨_, rfl, h1, ?_⟩
  (try simp only [Act.put, List.setIfInBounds_toArray, List.set_cons_zero, List.set_cons_succ])
  replace T0 := T0.ext h1
  replace K0 := K0.ext h1
  replace S0 := S0.ext h1
  replace XU := XU.ext h1
  replace BG := BG.ext h1
  replace BP := BP.ext h1
  have sv1a := h1.size
  clear h1
  repeat' (first
    | (refine' ChF.pure (v := _) (by rfl) (by rfl) (by rfl) ?_ ?_
       rotate_left
       · (intro wS
          go_simp
          with_reducible rfl)
       (try simp only [Act.put, List.setIfInBounds_toArray, List.set_cons_zero, List.set_cons_succ]))
    | (refine' ChF.quiet (v := _) (by rfl) (by rfl) (by rfl) (by rfl) ?_ ?_
       rotate_left
       · (intro wS hS
          skip
          go_simp
          with_reducible rfl)
       (try simp only [Act.put, List.setIfInBounds_toArray, List.set_cons_zero, List.set_cons_succ]))
    | fail)
  refine ChF.call (by rfl) (by rfl) (by rfl) (by rfl) (by rfl) (by intro wS; go_simp; (constructor <;> rfl)) ?_
  intro u2a eu2a
  replace T0 := T0.ext eu2a
  replace K0 := K0.ext eu2a
  replace S0 := S0.ext eu2a
  replace XU := XU.ext eu2a
  replace BG := BG.ext eu2a
  replace BP := BP.ext eu2a
  replace PA := PA.ext eu2a
  replace PB := PB.ext eu2a
  have su2a := eu2a.size
  clear eu2a
  refine (toPacket_any p.kind p.fr.addr p.fr.port p.to_.addr p.to_.port a n c p.data _ S0 (by omega)).mono ?_
  rintro e v2a ⟨dA, rfl, PD, h2⟩
  refine ⟨_, rfl, h2, ?_⟩
  (try simp only [Act.put, List.setIfInBounds_toArray, List.set_cons_zero, List.set_cons_succ])
  replace T0 := T0.ext h2
  replace K0 := K0.ext h2
  replace S0 := S0.ext h2
  replace XU := XU.ext h2
  replace BG := BG.ext h2
  replace BP := BP.ext h2
  replace PA := PA.ext h2
  replace PB := PB.ext h2
  have sv2a := h2.size
  clear h2
  repeat' (first
    | (refine' ChF.pure (v := _) (by rfl) (by rfl) (by rfl) ?_ ?_
       rotate_left
       · (intro wS
          go_simp
          with_reducible rfl)
       (try simp only [Act.put, List.setIfInBounds_toArray, List.set_cons_zero, List.set_cons_succ]))
    | (refine' ChF.quiet (v := _) (by rfl) (by rfl) (by rfl) (by rfl) ?_ ?_
       rotate_left
       · (intro wS hS
          skip
          go_simp
          with_reducible rfl)
       (try simp only [Act.put, List.setIfInBounds_toArray, List.set_cons_zero, List.set_cons_succ]))
    | fail)
  refine ChF.call (by rfl) (by rfl) (by rfl) (by rfl) (by rfl) (by intro wS; go_simp; (constructor <;> rfl)) ?_
  intro u3a eu3a
  replace T0 := T0.ext eu3a
  replace K0 := K0.ext eu3a
  replace S0 := S0.ext eu3a
  replace XU := XU.ext eu3a
  replace BG := BG.ext eu3a
  replace BP := BP.ext eu3a
  replace PA := PA.ext eu3a
  replace PB := PB.ext eu3a
  replace PD := PD.ext eu3a
  have su3a := eu3a.size
  clear eu3a
  refine (cS.out sA qA dA _ (PA.sl encM_len) (PB.sl encC_len) (PD.sl encI_len)).mono ?_
  rintro e v3a ⟨dW, zW, aW, xW, bW, yW, rfl, DW, MW, KW, h3⟩
  refine ⟨_, rfl, h3, ?_⟩
  (try simp only [Act.put, List.setIfInBounds_toArray, List.set_cons_zero, List.set_cons_succ])
  replace T0 := T0.ext h3
  replace K0 := K0.ext h3
  replace S0 := S0.ext h3
  replace XU := XU.ext h3
  replace BG := BG.ext h3
  replace BP := BP.ext h3
  have sv3a := h3.size
  clear h3 PA PB PD
  replace DW := DW.rebase (b' := u.heap.size) (by omega)
  replace MW := MW.rebase (b' := u.heap.size) (by omega)
  replace KW := KW.rebase (b' := u.heap.size) (by omega)
  repeat' (first
    | (refine' ChF.pure (v := _) (by rfl) (by rfl) (by rfl) ?_ ?_
       rotate_left
       · (intro wS
          go_simp
          with_reducible rfl)
       (try simp only [Act.put, List.setIfInBounds_toArray, List.set_cons_zero, List.set_cons_succ]))
    | (refine' ChF.quiet (v := _) (by rfl) (by rfl) (by rfl) (by rfl) ?_ ?_
       rotate_left
       · (intro wS hS
          skip
          go_simp
          with_reducible rfl)
       (try simp only [Act.put, List.setIfInBounds_toArray, List.set_cons_zero, List.set_cons_succ]))
    | fail)
  refine ChF.box (by rfl) (by rfl) (by rfl) ?_
  intro v4a b1a h4 hb1a B1
  replace B1 : Blk v4a b1a 33 #[.int .i64 0, .int .i64 0, .int .i64 0, .int .i64 0, .int .i64 0, .slice none 0 0] := B1
  (try simp only [Act.put, List.setIfInBounds_toArray, List.set_cons_zero, List.set_cons_succ])
  replace T0 := T0.ext h4
  replace K0 := K0.ext h4
  replace S0 := S0.ext h4
  replace XU := XU.ext h4
  replace BG := BG.ext h4
  replace BP := BP.ext h4
  replace DW := DW.ext h4
  replace MW := MW.ext h4
  replace KW := KW.ext h4
  have sv4a := h4.size
  clear h4
  repeat' (first
    | (refine' ChF.pure (v := _) (by rfl) (by rfl) (by rfl) ?_ ?_
       rotate_left
       · (intro wS
          go_simp
          with_reducible rfl)
       (try simp only [Act.put, List.setIfInBounds_toArray, List.set_cons_zero, List.set_cons_succ]))
    | (refine' ChF.quiet (v := _) (by rfl) (by rfl) (by rfl) (by rfl) ?_ ?_
       rotate_left
       · (intro wS hS
          skip
          go_simp
          with_reducible rfl)
       (try simp only [Act.put, List.setIfInBounds_toArray, List.set_cons_zero, List.set_cons_succ]))
    | fail)
  refine ChF.box (by rfl) (by rfl) (by rfl) ?_
  intro v5a b2a h5 hb2a B2
  replace B2 : Blk v5a b2a 28 #[.int .i64 0, .int .i64 0, .int .i64 0, .slice none 0 0, .slice none 0 0, .int .i64 0, .int .i64 0, .int .i64 0] := B2
  (try simp only [Act.put, List.setIfInBounds_toArray, List.set_cons_zero, List.set_cons_succ])
  replace T0 := T0.ext h5
  replace K0 := K0.ext h5
  replace S0 := S0.ext h5
  replace XU := XU.ext h5
  replace BG := BG.ext h5
  replace BP := BP.ext h5
  replace DW := DW.ext h5
  replace MW := MW.ext h5
  replace KW := KW.ext h5
  replace B1 := B1.ext h5
  have sv5a := h5.size
  clear h5
  have n12a : b1a ≠ b2a := B1.apart B2 (by decide)
  have oDWB1 := DW.apartB B1 (by decide)
  have oMWB1 := MW.apartB B1 (by decide)
  have oKWB1 := KW.apartB B1 (by decide)
  have oDWB2 := DW.apartB B2 (by decide)
  have oMWB2 := MW.apartB B2 (by decide)
  have oKWB2 := KW.apartB B2 (by decide)
  repeat' (first
    | (refine' ChF.pure (v := _) (by rfl) (by rfl) (by rfl) ?_ ?_
       rotate_left
       · (intro wS
          go_simp
          with_reducible rfl)
       (try simp only [Act.put, List.setIfInBounds_toArray, List.set_cons_zero, List.set_cons_succ]))
    | (refine' ChF.quiet (v := _) (by rfl) (by rfl) (by rfl) (by rfl) ?_ ?_
       rotate_left
       · (intro wS hS
          skip
          go_simp
          with_reducible rfl)
       (try simp only [Act.put, List.setIfInBounds_toArray, List.set_cons_zero, List.set_cons_succ]))
    | fail)
  have cB1 := B1.cells
  have fB1 := B1.frozens
  refine ChF.storeP (fun W => RExt b1a v5a W ∧ Blk W b1a 33 (#[.int .i64 P.kind, .int .i64 P.fr.addr, .int .i64 P.fr.port, .int .i64 P.to_.addr, .int .i64 P.to_.port, .slice dW rn zW])) (by rfl) (by rfl) (by rfl) ⟨_, (by go_simp; rfl), (by simp [World.setCell]), (by repeat (first | (with_reducible exact RExt.refl _ _) | (with_reducible refine RExt.putc ?_ _ _))), (by exact B1.put6 _ _ _ _ _ _)⟩ ?_
  (try simp only [Act.put, List.setIfInBounds_toArray, List.set_cons_zero, List.set_cons_succ])
  rintro v6a sv6a ⟨x6, B1'⟩
  clear cB1 fB1 B1
  replace T0 := T0.rextFar x6 (fun hn x e => by have := T0l.out hn x e; omega)
  replace K0 := K0.rextFar x6 (fun hn x e => by have := K0l.out hn x e; omega)
  replace S0 := S0.rextFar x6 (fun hn x e => by have := S0l.out hn x e; omega)
  replace XU := RExt.new XU x6 (by omega)
  replace BG := BG.rext x6 (by omega)
  replace BP := BP.rext x6 (by omega)
  replace DW := DW.rext x6 oDWB1
  replace MW := MW.rext x6 oMWB1
  replace KW := KW.rext x6 oKWB1
  replace B2 := B2.rext x6 (by omega)
  clear x6
  repeat' (first
    | (refine' ChF.pure (v := _) (by rfl) (by rfl) (by rfl) ?_ ?_
       rotate_left
       · (intro wS
          go_simp
          with_reducible rfl)
       (try simp only [Act.put, List.setIfInBounds_toArray, List.set_cons_zero, List.set_cons_succ]))
    | (refine' ChF.quiet (v := _) (by rfl) (by rfl) (by rfl) (by rfl) ?_ ?_
       rotate_left
       · (intro wS hS
          skip
          go_simp
          with_reducible rfl)
       (try simp only [Act.put, List.setIfInBounds_toArray, List.set_cons_zero, List.set_cons_succ]))
    | fail)
  have cB2 := B2.cells
  have fB2 := B2.frozens
  refine ChF.storeP (fun W => RExt b2a v6a W ∧ Blk W b2a 28 (#[.int .i64 R.net.base, .int .i64 R.net.bits, .int .i64 R.out, .slice aW rt xW, .slice bW rc yW, .int .i64 R.filter, .int .i64 R.hold, .int .i64 R.now])) (by rfl) (by rfl) (by rfl) ⟨_, (by go_simp; rfl), (by simp [World.setCell]), (by repeat (first | (with_reducible exact RExt.refl _ _) | (with_reducible refine RExt.putc ?_ _ _))), (by exact B2.put8 _ _ _ _ _ _ _ _)⟩ ?_
  (try simp only [Act.put, List.setIfInBounds_toArray, List.set_cons_zero, List.set_cons_succ])
  rintro v7a sv7a ⟨x6, B2'⟩
  clear cB2 fB2 B2
  replace T0 := T0.rextFar x6 (fun hn x e => by have := T0l.out hn x e; omega)
  replace K0 := K0.rextFar x6 (fun hn x e => by have := K0l.out hn x e; omega)
  replace S0 := S0.rextFar x6 (fun hn x e => by have := S0l.out hn x e; omega)
  replace XU := RExt.new XU x6 (by omega)
  replace BG := BG.rext x6 (by omega)
  replace BP := BP.rext x6 (by omega)
  replace DW := DW.rext x6 oDWB2
  replace MW := MW.rext x6 oMWB2
  replace KW := KW.rext x6 oKWB2
  replace B1' := B1'.rext x6 (by omega)
  clear x6
  repeat' (first
    | (refine' ChF.pure (v := _) (by rfl) (by rfl) (by rfl) ?_ ?_
       rotate_left
       · (intro wS
          go_simp
          with_reducible rfl)
       (try simp only [Act.put, List.setIfInBounds_toArray, List.set_cons_zero, List.set_cons_succ]))
    | (refine' ChF.quiet (v := _) (by rfl) (by rfl) (by rfl) (by rfl) ?_ ?_
       rotate_left
       · (intro wS hS
          skip
          go_simp
          with_reducible rfl)
       (try simp only [Act.put, List.setIfInBounds_toArray, List.set_cons_zero, List.set_cons_succ]))
    | fail)
  refine ChF.nil ?_
  have BW1 := B1'
  have lBW1 : b1a < v7a.heap.size := B1'.lt
  clear B1'
  have BW2 := B2'
  have lBW2 : b2a < v7a.heap.size := B2'.lt
  clear B2'
  clear kBG
  clear kBP
  have lDW := Lib.hid (show ∀ x, _ = some x → x.block < v7a.heap.size from fun x e => (DW.lt x e).2.1)
  have lMW := Lib.hid (show ∀ x, _ = some x → x.block < v7a.heap.size from fun x e => (MW.lt x e).2.1)
  have lKW := Lib.hid (show ∀ x, _ = some x → x.block < v7a.heap.size from fun x e => (KW.lt x e).2.1)
  have cBG := BG.cells
  have fBG := BG.frozens
  have zBG := BG.lt
  have cBP := BP.cells
  have fBP := BP.frozens
  have zBP := BP.lt
  have cBW1 := BW1.cells
  have fBW1 := BW1.frozens
  have zBW1 := BW1.lt
  have cBW2 := BW2.cells
  have fBW2 := BW2.frozens
  have zBW2 := BW2.lt
  go_wp2_with fail
  refine (toGate_any g ta tn tc ka kn kc _ (by exact T0.ext (by repeat (first | (with_reducible exact Ext.refl _) | (with_reducible assumption) | (with_reducible refine Ext.alloc ?_ _) | (with_reducible refine Ext.drewN ?_ _) | (with_reducible refine Ext.drew ?_) | (with_reducible refine Ext.setCell ?_ ?_ _; rotate_left; (simp only []; omega)) | (with_reducible refine Ext.trans ?_ (by assumption))))) (by exact K0.ext (by repeat (first | (with_reducible exact Ext.refl _) | (with_reducible assumption) | (with_reducible refine Ext.alloc ?_ _) | (with_reducible refine Ext.drewN ?_ _) | (with_reducible refine Ext.drew ?_) | (with_reducible refine Ext.setCell ?_ ?_ _; rotate_left; (simp only []; omega)) | (with_reducible refine Ext.trans ?_ (by assumption))))) (by omega) (by omega)).mono ?_
  rintro e w4 ⟨sb, qb, rfl, PM, PC, hx4⟩
  have hy4 := hx4.size
  (try simp at hy4)
  have eW4 := useE (fun (h : Ext _ w4) => T0.ext h) (by repeat (first | (with_reducible exact Ext.refl _) | (with_reducible assumption) | (with_reducible refine Ext.alloc ?_ _) | (with_reducible refine Ext.drewN ?_ _) | (with_reducible refine Ext.drew ?_) | (with_reducible refine Ext.setCell ?_ ?_ _; rotate_left; (simp only []; omega)) | (with_reducible refine Ext.trans ?_ (by assumption))))
  replace T0 := T0.ext eW4
  replace K0 := K0.ext eW4
  replace S0 := S0.ext eW4
  clear cBG fBG zBG
  replace BG := BG.ext eW4
  clear cBP fBP zBP
  replace BP := BP.ext eW4
  replace DW := DW.ext eW4
  replace MW := MW.ext eW4
  replace KW := KW.ext eW4
  clear cBW1 fBW1 zBW1
  replace BW1 := BW1.ext eW4
  clear cBW2 fBW2 zBW2
  replace BW2 := BW2.ext eW4
  replace XU := XU.ext eW4
  have cBG := BG.cells
  have fBG := BG.frozens
  have zBG := BG.lt
  have cBP := BP.cells
  have fBP := BP.frozens
  have zBP := BP.lt
  have cBW1 := BW1.cells
  have fBW1 := BW1.frozens
  have zBW1 := BW1.lt
  have cBW2 := BW2.cells
  have fBW2 := BW2.frozens
  have zBW2 := BW2.lt
  have lPM := Lib.hid (show ∀ x, sb = some x → v7a.heap.size ≤ x.block ∧ x.block < w4.heap.size from fun x e => by have h := PM.lt x e; (try simp at h); omega)
  have lPC := Lib.hid (show ∀ x, qb = some x → v7a.heap.size ≤ x.block ∧ x.block < w4.heap.size from fun x e => by have h := PC.lt x e; (try simp at h); omega)
  go_wp2_with fail
  refine (toPacket_any p.kind p.fr.addr p.fr.port p.to_.addr p.to_.port a n c p.data _ (by exact S0.ext (by repeat (first | (with_reducible exact Ext.refl _) | (with_reducible assumption) | (with_reducible refine Ext.alloc ?_ _) | (with_reducible refine Ext.drewN ?_ _) | (with_reducible refine Ext.drew ?_) | (with_reducible refine Ext.setCell ?_ ?_ _; rotate_left; (simp only []; omega)) | (with_reducible refine Ext.trans ?_ (by assumption))))) (by omega)).mono ?_
  rintro e w5 ⟨db, rfl, PD, hx5⟩
  have hy5 := hx5.size
  (try simp at hy5)
  have eW5 := useE (fun (h : Ext _ w5) => T0.ext h) (by repeat (first | (with_reducible exact Ext.refl _) | (with_reducible assumption) | (with_reducible refine Ext.alloc ?_ _) | (with_reducible refine Ext.drewN ?_ _) | (with_reducible refine Ext.drew ?_) | (with_reducible refine Ext.setCell ?_ ?_ _; rotate_left; (simp only []; omega)) | (with_reducible refine Ext.trans ?_ (by assumption))))
  replace T0 := T0.ext eW5
  replace K0 := K0.ext eW5
  replace S0 := S0.ext eW5
  clear cBG fBG zBG
  replace BG := BG.ext eW5
  clear cBP fBP zBP
  replace BP := BP.ext eW5
  replace DW := DW.ext eW5
  replace MW := MW.ext eW5
  replace KW := KW.ext eW5
  clear cBW1 fBW1 zBW1
  replace BW1 := BW1.ext eW5
  clear cBW2 fBW2 zBW2
  replace BW2 := BW2.ext eW5
  replace PM := PM.ext eW5
  replace PC := PC.ext eW5
  have BX : Blk w5 w4.heap.size 28 (#[.int .i64 g.net.base, .int .i64 g.net.bits, .int .i64 g.out, .slice sb tn tn, .slice qb kn kn, .int .i64 g.filter, .int .i64 g.hold, .int .i64 g.now]) := by refine Blk.ext ?_ hx5; exact (by repeat (first | (with_reducible assumption) | (with_reducible exact Blk.new _ _ _) | exact Blk.newAt _ _ _ (by simp) | (with_reducible refine Blk.alloc ?_ _) | (with_reducible refine Blk.drew ?_) | (with_reducible refine Blk.drewN ?_ _) | refine Blk.far ?_ (by simp only []; omega) _ | refine Blk.rext ?_ (by assumption) (by omega) | refine Blk.ext ?_ (by assumption)))
  replace XU := XU.ext eW5
  have cBG := BG.cells
  have fBG := BG.frozens
  have zBG := BG.lt
  have cBP := BP.cells
  have fBP := BP.frozens
  have zBP := BP.lt
  have cBW1 := BW1.cells
  have fBW1 := BW1.frozens
  have zBW1 := BW1.lt
  have cBW2 := BW2.cells
  have fBW2 := BW2.frozens
  have zBW2 := BW2.lt
  have cBX := BX.cells
  have fBX := BX.frozens
  have zBX := BX.lt
  have lPD := Lib.hid (show ∀ x, db = some x → w4.heap.size < x.block ∧ x.block < w5.heap.size from fun x e => by have h := PD.lt x e; (try simp at h); omega)
  go_wp2_with fail
  refine (cI.out sb qb db _ (by exact (PM.sl encM_len).ext (by repeat (first | (with_reducible exact Ext.refl _) | (with_reducible assumption) | (with_reducible refine Ext.alloc ?_ _) | (with_reducible refine Ext.drewN ?_ _) | (with_reducible refine Ext.drew ?_) | (with_reducible refine Ext.setCell ?_ ?_ _; rotate_left; (simp only []; omega)) | (with_reducible refine Ext.trans ?_ (by assumption))))) (by exact (PC.sl encC_len).ext (by repeat (first | (with_reducible exact Ext.refl _) | (with_reducible assumption) | (with_reducible refine Ext.alloc ?_ _) | (with_reducible refine Ext.drewN ?_ _) | (with_reducible refine Ext.drew ?_) | (with_reducible refine Ext.setCell ?_ ?_ _; rotate_left; (simp only []; omega)) | (with_reducible refine Ext.trans ?_ (by assumption))))) (by exact (PD.sl encI_len).ext (by repeat (first | (with_reducible exact Ext.refl _) | (with_reducible assumption) | (with_reducible refine Ext.alloc ?_ _) | (with_reducible refine Ext.drewN ?_ _) | (with_reducible refine Ext.drew ?_) | (with_reducible refine Ext.setCell ?_ ?_ _; rotate_left; (simp only []; omega)) | (with_reducible refine Ext.trans ?_ (by assumption)))))).mono ?_
  rintro e w6 ⟨d1, z1, a1, x1, b1, y1, rfl, GD, GM, GC, hx6⟩
  have hy6 := hx6.size
  (try simp at hy6)
  have eW6 := useE (fun (h : Ext _ w6) => T0.ext h) (by repeat (first | (with_reducible exact Ext.refl _) | (with_reducible assumption) | (with_reducible refine Ext.alloc ?_ _) | (with_reducible refine Ext.drewN ?_ _) | (with_reducible refine Ext.drew ?_) | (with_reducible refine Ext.setCell ?_ ?_ _; rotate_left; (simp only []; omega)) | (with_reducible refine Ext.trans ?_ (by assumption))))
  replace T0 := T0.ext eW6
  replace K0 := K0.ext eW6
  replace S0 := S0.ext eW6
  clear cBG fBG zBG
  replace BG := BG.ext eW6
  clear cBP fBP zBP
  replace BP := BP.ext eW6
  replace DW := DW.ext eW6
  replace MW := MW.ext eW6
  replace KW := KW.ext eW6
  clear cBW1 fBW1 zBW1
  replace BW1 := BW1.ext eW6
  clear cBW2 fBW2 zBW2
  replace BW2 := BW2.ext eW6
  replace PM := PM.ext eW6
  replace PC := PC.ext eW6
  clear cBX fBX zBX
  replace BX := BX.ext eW6
  replace PD := PD.ext eW6
  have BX1 : Blk w6 w5.heap.size 33 (#[.int .i64 p.kind, .int .i64 p.fr.addr, .int .i64 p.fr.port, .int .i64 p.to_.addr, .int .i64 p.to_.port, .slice db n n]) := by refine Blk.ext ?_ hx6; exact (by repeat (first | (with_reducible assumption) | (with_reducible exact Blk.new _ _ _) | exact Blk.newAt _ _ _ (by simp) | (with_reducible refine Blk.alloc ?_ _) | (with_reducible refine Blk.drew ?_) | (with_reducible refine Blk.drewN ?_ _) | refine Blk.far ?_ (by simp only []; omega) _ | refine Blk.rext ?_ (by assumption) (by omega) | refine Blk.ext ?_ (by assumption)))
  replace XU := XU.ext eW6
  have cBG := BG.cells
  have fBG := BG.frozens
  have zBG := BG.lt
  have cBP := BP.cells
  have fBP := BP.frozens
  have zBP := BP.lt
  have cBW1 := BW1.cells
  have fBW1 := BW1.frozens
  have zBW1 := BW1.lt
  have cBW2 := BW2.cells
  have fBW2 := BW2.frozens
  have zBW2 := BW2.lt
  have cBX := BX.cells
  have fBX := BX.frozens
  have zBX := BX.lt
  have cBX1 := BX1.cells
  have fBX1 := BX1.frozens
  have zBX1 := BX1.lt
  have lGD := Lib.hid (show ∀ x, d1 = some x → w5.heap.size < x.block ∧ x.block < w6.heap.size from fun x e => by have h := GD.lt x e; (try simp at h); omega)
  have lGM := Lib.hid (show ∀ x, a1 = some x → w5.heap.size < x.block ∧ x.block < w6.heap.size from fun x e => by have h := GM.lt x e; (try simp at h); omega)
  have lGC := Lib.hid (show ∀ x, b1 = some x → w5.heap.size < x.block ∧ x.block < w6.heap.size from fun x e => by have h := GC.lt x e; (try simp at h); omega)
  go_wp2_with fail
  refine (eqPacket_same _ _ _ _ _ d1 dW rn z1 zW P.data _ (by exact (GD.sl encI_len).ext (by repeat (first | (with_reducible exact Ext.refl _) | (with_reducible assumption) | (with_reducible refine Ext.alloc ?_ _) | (with_reducible refine Ext.drewN ?_ _) | (with_reducible refine Ext.drew ?_) | (with_reducible refine Ext.setCell ?_ ?_ _; rotate_left; (simp only []; omega)) | (with_reducible refine Ext.trans ?_ (by assumption))))) (by exact (DW.sl encI_len).ext (by repeat (first | (with_reducible exact Ext.refl _) | (with_reducible assumption) | (with_reducible refine Ext.alloc ?_ _) | (with_reducible refine Ext.drewN ?_ _) | (with_reducible refine Ext.drew ?_) | (with_reducible refine Ext.setCell ?_ ?_ _; rotate_left; (simp only []; omega)) | (with_reducible refine Ext.trans ?_ (by assumption)))))).mono ?_
  rintro e w7 ⟨rfl, hx7⟩
  have hy7 := hx7.size
  (try simp at hy7)
  have eW7 := useE (fun (h : Ext _ w7) => T0.ext h) (by repeat (first | (with_reducible exact Ext.refl _) | (with_reducible assumption) | (with_reducible refine Ext.alloc ?_ _) | (with_reducible refine Ext.drewN ?_ _) | (with_reducible refine Ext.drew ?_) | (with_reducible refine Ext.setCell ?_ ?_ _; rotate_left; (simp only []; omega)) | (with_reducible refine Ext.trans ?_ (by assumption))))
  replace T0 := T0.ext eW7
  replace K0 := K0.ext eW7
  replace S0 := S0.ext eW7
  clear cBG fBG zBG
  replace BG := BG.ext eW7
  clear cBP fBP zBP
  replace BP := BP.ext eW7
  replace DW := DW.ext eW7
  replace MW := MW.ext eW7
  replace KW := KW.ext eW7
  clear cBW1 fBW1 zBW1
  replace BW1 := BW1.ext eW7
  clear cBW2 fBW2 zBW2
  replace BW2 := BW2.ext eW7
  replace PM := PM.ext eW7
  replace PC := PC.ext eW7
  clear cBX fBX zBX
  replace BX := BX.ext eW7
  replace PD := PD.ext eW7
  clear cBX1 fBX1 zBX1
  replace BX1 := BX1.ext eW7
  replace GD := GD.ext eW7
  replace GM := GM.ext eW7
  replace GC := GC.ext eW7
  have BY : Blk w7 w6.heap.size 33 (#[.int .i64 P.kind, .int .i64 P.fr.addr, .int .i64 P.fr.port, .int .i64 P.to_.addr, .int .i64 P.to_.port, .slice d1 rn z1]) := by refine Blk.ext ?_ hx7; exact (by repeat (first | (with_reducible assumption) | (with_reducible exact Blk.new _ _ _) | exact Blk.newAt _ _ _ (by simp) | (with_reducible refine Blk.alloc ?_ _) | (with_reducible refine Blk.drew ?_) | (with_reducible refine Blk.drewN ?_ _) | refine Blk.far ?_ (by simp only []; omega) _ | refine Blk.rext ?_ (by assumption) (by omega) | refine Blk.ext ?_ (by assumption)))
  have BY1 : Blk w7 (w6.heap.size + 1) 28 (#[.int .i64 R.net.base, .int .i64 R.net.bits, .int .i64 R.out, .slice a1 rt x1, .slice b1 rc y1, .int .i64 R.filter, .int .i64 R.hold, .int .i64 R.now]) := by refine Blk.ext ?_ hx7; exact (by repeat (first | (with_reducible assumption) | (with_reducible exact Blk.new _ _ _) | exact Blk.newAt _ _ _ (by simp) | (with_reducible refine Blk.alloc ?_ _) | (with_reducible refine Blk.drew ?_) | (with_reducible refine Blk.drewN ?_ _) | refine Blk.far ?_ (by simp only []; omega) _ | refine Blk.rext ?_ (by assumption) (by omega) | refine Blk.ext ?_ (by assumption)))
  replace XU := XU.ext eW7
  have cBG := BG.cells
  have fBG := BG.frozens
  have zBG := BG.lt
  have cBP := BP.cells
  have fBP := BP.frozens
  have zBP := BP.lt
  have cBW1 := BW1.cells
  have fBW1 := BW1.frozens
  have zBW1 := BW1.lt
  have cBW2 := BW2.cells
  have fBW2 := BW2.frozens
  have zBW2 := BW2.lt
  have cBX := BX.cells
  have fBX := BX.frozens
  have zBX := BX.lt
  have cBX1 := BX1.cells
  have fBX1 := BX1.frozens
  have zBX1 := BX1.lt
  have cBY := BY.cells
  have fBY := BY.frozens
  have zBY := BY.lt
  have cBY1 := BY1.cells
  have fBY1 := BY1.frozens
  have zBY1 := BY1.lt
  go_wp2_with fail
  refine (eqGate_same R a1 rt x1 b1 rc y1 aW xW bW yW _ (by exact (GM.sl encM_len).ext (by repeat (first | (with_reducible exact Ext.refl _) | (with_reducible assumption) | (with_reducible refine Ext.alloc ?_ _) | (with_reducible refine Ext.drewN ?_ _) | (with_reducible refine Ext.drew ?_) | (with_reducible refine Ext.setCell ?_ ?_ _; rotate_left; (simp only []; omega)) | (with_reducible refine Ext.trans ?_ (by assumption))))) (by exact (GC.sl encC_len).ext (by repeat (first | (with_reducible exact Ext.refl _) | (with_reducible assumption) | (with_reducible refine Ext.alloc ?_ _) | (with_reducible refine Ext.drewN ?_ _) | (with_reducible refine Ext.drew ?_) | (with_reducible refine Ext.setCell ?_ ?_ _; rotate_left; (simp only []; omega)) | (with_reducible refine Ext.trans ?_ (by assumption))))) (by exact (MW.sl encM_len).ext (by repeat (first | (with_reducible exact Ext.refl _) | (with_reducible assumption) | (with_reducible refine Ext.alloc ?_ _) | (with_reducible refine Ext.drewN ?_ _) | (with_reducible refine Ext.drew ?_) | (with_reducible refine Ext.setCell ?_ ?_ _; rotate_left; (simp only []; omega)) | (with_reducible refine Ext.trans ?_ (by assumption))))) (by exact (KW.sl encC_len).ext (by repeat (first | (with_reducible exact Ext.refl _) | (with_reducible assumption) | (with_reducible refine Ext.alloc ?_ _) | (with_reducible refine Ext.drewN ?_ _) | (with_reducible refine Ext.drew ?_) | (with_reducible refine Ext.setCell ?_ ?_ _; rotate_left; (simp only []; omega)) | (with_reducible refine Ext.trans ?_ (by assumption)))))).mono ?_
  rintro e w8 ⟨rfl, hx8⟩
  have hy8 := hx8.size
  (try simp at hy8)
  have eW8 := useE (fun (h : Ext _ w8) => T0.ext h) (by repeat (first | (with_reducible exact Ext.refl _) | (with_reducible assumption) | (with_reducible refine Ext.alloc ?_ _) | (with_reducible refine Ext.drewN ?_ _) | (with_reducible refine Ext.drew ?_) | (with_reducible refine Ext.setCell ?_ ?_ _; rotate_left; (simp only []; omega)) | (with_reducible refine Ext.trans ?_ (by assumption))))
  replace T0 := T0.ext eW8
  replace K0 := K0.ext eW8
  replace S0 := S0.ext eW8
  clear cBG fBG zBG
  replace BG := BG.ext eW8
  clear cBP fBP zBP
  replace BP := BP.ext eW8
  replace DW := DW.ext eW8
  replace MW := MW.ext eW8
  replace KW := KW.ext eW8
  clear cBW1 fBW1 zBW1
  replace BW1 := BW1.ext eW8
  clear cBW2 fBW2 zBW2
  replace BW2 := BW2.ext eW8
  replace PM := PM.ext eW8
  replace PC := PC.ext eW8
  clear cBX fBX zBX
  replace BX := BX.ext eW8
  replace PD := PD.ext eW8
  clear cBX1 fBX1 zBX1
  replace BX1 := BX1.ext eW8
  replace GD := GD.ext eW8
  replace GM := GM.ext eW8
  replace GC := GC.ext eW8
  clear cBY fBY zBY
  replace BY := BY.ext eW8
  clear cBY1 fBY1 zBY1
  replace BY1 := BY1.ext eW8
  replace XU := XU.ext eW8
  have cBG := BG.cells
  have fBG := BG.frozens
  have zBG := BG.lt
  have cBP := BP.cells
  have fBP := BP.frozens
  have zBP := BP.lt
  have cBW1 := BW1.cells
  have fBW1 := BW1.frozens
  have zBW1 := BW1.lt
  have cBW2 := BW2.cells
  have fBW2 := BW2.frozens
  have zBW2 := BW2.lt
  have cBX := BX.cells
  have fBX := BX.frozens
  have zBX := BX.lt
  have cBX1 := BX1.cells
  have fBX1 := BX1.frozens
  have zBX1 := BX1.lt
  have cBY := BY.cells
  have fBY := BY.frozens
  have zBY := BY.lt
  have cBY1 := BY1.cells
  have fBY1 := BY1.frozens
  have zBY1 := BY1.lt
  go_wp2_with fail
  have hdrS : ∀ W : World, W.drew.heap.size = W.heap.size := fun _ => rfl
  refine wp_region_eager (R := Ext) [0, 1, 2, 3, 4] (by kernel_rfl) (by kernel_rfl) Ext.refl (fun _ _ _ => Ext.trans) ?_
  repeat' (first
    | (refine ChX.skip (by rfl) (by rfl) ?_
       (try simp only [Act.put, List.setIfInBounds_toArray, List.set_cons_zero, List.set_cons_succ]))
    | (refine' ChX.quiet (v := _) (by rfl) (by rfl) (by rfl) ?_ ?_
       rotate_left
       · (intro wS hS
          have hcS := Ext.cells hS
          go_simp
          with_reducible rfl)
       (try simp only [Act.put, List.setIfInBounds_toArray, List.set_cons_zero, List.set_cons_succ]))
    | (refine ChX.nil ?_)
    | (refine' ChX.guard (x := _) (by rfl) ?_ ?_ ?_
       rotate_left
       · (go_simp
          rfl)
       all_goals
         intro hg
         simp only [hg])
    | (refine' ChX.guardN (x := _) (by rfl) ?_ ?_ ?_
       rotate_left
       · (go_simp
          rfl)
       all_goals
         intro hg
         simp only [hg]))
  refine ChX.call (by rfl) (by rfl) (by rfl) (by go_simp; (constructor <;> rfl)) ?_
  refine (toGate_any g ta tn tc ka kn kc _ (by exact T0.ext (by repeat (first | (with_reducible exact Ext.refl _) | (with_reducible assumption) | (with_reducible refine Ext.alloc ?_ _) | (with_reducible refine Ext.drewN ?_ _) | (with_reducible refine Ext.drew ?_) | (with_reducible refine Ext.setCell ?_ ?_ _; rotate_left; (simp only []; omega)) | (with_reducible refine Ext.trans ?_ (by assumption))))) (by exact K0.ext (by repeat (first | (with_reducible exact Ext.refl _) | (with_reducible assumption) | (with_reducible refine Ext.alloc ?_ _) | (with_reducible refine Ext.drewN ?_ _) | (with_reducible refine Ext.drew ?_) | (with_reducible refine Ext.setCell ?_ ?_ _; rotate_left; (simp only []; omega)) | (with_reducible refine Ext.trans ?_ (by assumption))))) (by omega) (by omega)).mono ?_
  rintro e w9 ⟨sd, qd, rfl, QM, QC, hx9⟩
  refine ⟨_, rfl, hx9, ?_⟩
  (try simp only [Act.put, List.setIfInBounds_toArray, List.set_cons_zero, List.set_cons_succ])
  have hy9 := hx9.size
  (try simp at hy9)
  have eW9 := useE (fun (h : Ext _ w9) => T0.ext h) (by repeat (first | (with_reducible exact Ext.refl _) | (with_reducible assumption) | (with_reducible refine Ext.alloc ?_ _) | (with_reducible refine Ext.drewN ?_ _) | (with_reducible refine Ext.drew ?_) | (with_reducible refine Ext.setCell ?_ ?_ _; rotate_left; (simp only []; omega)) | (with_reducible refine Ext.trans ?_ (by assumption))))
  replace T0 := T0.ext eW9
  replace K0 := K0.ext eW9
  replace S0 := S0.ext eW9
  clear cBG fBG zBG
  replace BG := BG.ext eW9
  clear cBP fBP zBP
  replace BP := BP.ext eW9
  replace DW := DW.ext eW9
  replace MW := MW.ext eW9
  replace KW := KW.ext eW9
  clear cBW1 fBW1 zBW1
  replace BW1 := BW1.ext eW9
  clear cBW2 fBW2 zBW2
  replace BW2 := BW2.ext eW9
  replace PM := PM.ext eW9
  replace PC := PC.ext eW9
  clear cBX fBX zBX
  replace BX := BX.ext eW9
  replace PD := PD.ext eW9
  clear cBX1 fBX1 zBX1
  replace BX1 := BX1.ext eW9
  replace GD := GD.ext eW9
  replace GM := GM.ext eW9
  replace GC := GC.ext eW9
  clear cBY fBY zBY
  replace BY := BY.ext eW9
  clear cBY1 fBY1 zBY1
  replace BY1 := BY1.ext eW9
  replace XU := XU.ext eW9
  have cBG := BG.cells
  have fBG := BG.frozens
  have zBG := BG.lt
  have cBP := BP.cells
  have fBP := BP.frozens
  have zBP := BP.lt
  have cBW1 := BW1.cells
  have fBW1 := BW1.frozens
  have zBW1 := BW1.lt
  have cBW2 := BW2.cells
  have fBW2 := BW2.frozens
  have zBW2 := BW2.lt
  have cBX := BX.cells
  have fBX := BX.frozens
  have zBX := BX.lt
  have cBX1 := BX1.cells
  have fBX1 := BX1.frozens
  have zBX1 := BX1.lt
  have cBY := BY.cells
  have fBY := BY.frozens
  have zBY := BY.lt
  have cBY1 := BY1.cells
  have fBY1 := BY1.frozens
  have zBY1 := BY1.lt
  repeat' (first
    | (refine ChX.skip (by rfl) (by rfl) ?_
       (try simp only [Act.put, List.setIfInBounds_toArray, List.set_cons_zero, List.set_cons_succ]))
    | (refine' ChX.quiet (v := _) (by rfl) (by rfl) (by rfl) ?_ ?_
       rotate_left
       · (intro wS hS
          have hcS := Ext.cells hS
          go_simp
          with_reducible rfl)
       (try simp only [Act.put, List.setIfInBounds_toArray, List.set_cons_zero, List.set_cons_succ]))
    | (refine ChX.nil ?_)
    | (refine' ChX.guard (x := _) (by rfl) ?_ ?_ ?_
       rotate_left
       · (go_simp
          rfl)
       all_goals
         intro hg
         simp only [hg])
    | (refine' ChX.guardN (x := _) (by rfl) ?_ ?_ ?_
       rotate_left
       · (go_simp
          rfl)
       all_goals
         intro hg
         simp only [hg]))
  refine ChX.call (by rfl) (by rfl) (by rfl) (by go_simp; (constructor <;> rfl)) ?_
  refine (eqGate_same g sb tn tn qb kn kn sd tn qd kn _ (by exact (PM.sl encM_len).ext (by repeat (first | (with_reducible exact Ext.refl _) | (with_reducible assumption) | (with_reducible refine Ext.alloc ?_ _) | (with_reducible refine Ext.drewN ?_ _) | (with_reducible refine Ext.drew ?_) | (with_reducible refine Ext.setCell ?_ ?_ _; rotate_left; (simp only []; omega)) | (with_reducible refine Ext.trans ?_ (by assumption))))) (by exact (PC.sl encC_len).ext (by repeat (first | (with_reducible exact Ext.refl _) | (with_reducible assumption) | (with_reducible refine Ext.alloc ?_ _) | (with_reducible refine Ext.drewN ?_ _) | (with_reducible refine Ext.drew ?_) | (with_reducible refine Ext.setCell ?_ ?_ _; rotate_left; (simp only []; omega)) | (with_reducible refine Ext.trans ?_ (by assumption))))) (by exact (QM.sl encM_len).ext (by repeat (first | (with_reducible exact Ext.refl _) | (with_reducible assumption) | (with_reducible refine Ext.alloc ?_ _) | (with_reducible refine Ext.drewN ?_ _) | (with_reducible refine Ext.drew ?_) | (with_reducible refine Ext.setCell ?_ ?_ _; rotate_left; (simp only []; omega)) | (with_reducible refine Ext.trans ?_ (by assumption))))) (by exact (QC.sl encC_len).ext (by repeat (first | (with_reducible exact Ext.refl _) | (with_reducible assumption) | (with_reducible refine Ext.alloc ?_ _) | (with_reducible refine Ext.drewN ?_ _) | (with_reducible refine Ext.drew ?_) | (with_reducible refine Ext.setCell ?_ ?_ _; rotate_left; (simp only []; omega)) | (with_reducible refine Ext.trans ?_ (by assumption)))))).mono ?_
  rintro e w10 ⟨rfl, hx10⟩
  refine ⟨_, rfl, hx10, ?_⟩
  (try simp only [Act.put, List.setIfInBounds_toArray, List.set_cons_zero, List.set_cons_succ])
  have hy10 := hx10.size
  (try simp at hy10)
  have eW10 := useE (fun (h : Ext _ w10) => T0.ext h) (by repeat (first | (with_reducible exact Ext.refl _) | (with_reducible assumption) | (with_reducible refine Ext.alloc ?_ _) | (with_reducible refine Ext.drewN ?_ _) | (with_reducible refine Ext.drew ?_) | (with_reducible refine Ext.setCell ?_ ?_ _; rotate_left; (simp only []; omega)) | (with_reducible refine Ext.trans ?_ (by assumption))))
  replace T0 := T0.ext eW10
  replace K0 := K0.ext eW10
  replace S0 := S0.ext eW10
  clear cBG fBG zBG
  replace BG := BG.ext eW10
  clear cBP fBP zBP
  replace BP := BP.ext eW10
  replace DW := DW.ext eW10
  replace MW := MW.ext eW10
  replace KW := KW.ext eW10
  clear cBW1 fBW1 zBW1
  replace BW1 := BW1.ext eW10
  clear cBW2 fBW2 zBW2
  replace BW2 := BW2.ext eW10
  replace PM := PM.ext eW10
  replace PC := PC.ext eW10
  clear cBX fBX zBX
  replace BX := BX.ext eW10
  replace PD := PD.ext eW10
  clear cBX1 fBX1 zBX1
  replace BX1 := BX1.ext eW10
  replace GD := GD.ext eW10
  replace GM := GM.ext eW10
  replace GC := GC.ext eW10
  clear cBY fBY zBY
  replace BY := BY.ext eW10
  clear cBY1 fBY1 zBY1
  replace BY1 := BY1.ext eW10
  replace QM := QM.ext eW10
  replace QC := QC.ext eW10
  replace XU := XU.ext eW10
  have cBG := BG.cells
  have fBG := BG.frozens
  have zBG := BG.lt
  have cBP := BP.cells
  have fBP := BP.frozens
  have zBP := BP.lt
  have cBW1 := BW1.cells
  have fBW1 := BW1.frozens
  have zBW1 := BW1.lt
  have cBW2 := BW2.cells
  have fBW2 := BW2.frozens
  have zBW2 := BW2.lt
  have cBX := BX.cells
  have fBX := BX.frozens
  have zBX := BX.lt
  have cBX1 := BX1.cells
  have fBX1 := BX1.frozens
  have zBX1 := BX1.lt
  have cBY := BY.cells
  have fBY := BY.frozens
  have zBY := BY.lt
  have cBY1 := BY1.cells
  have fBY1 := BY1.frozens
  have zBY1 := BY1.lt
  repeat' (first
    | (refine ChX.skip (by rfl) (by rfl) ?_
       (try simp only [Act.put, List.setIfInBounds_toArray, List.set_cons_zero, List.set_cons_succ]))
    | (refine' ChX.quiet (v := _) (by rfl) (by rfl) (by rfl) ?_ ?_
       rotate_left
       · (intro wS hS
          have hcS := Ext.cells hS
          go_simp
          with_reducible rfl)
       (try simp only [Act.put, List.setIfInBounds_toArray, List.set_cons_zero, List.set_cons_succ]))
    | (refine ChX.nil ?_)
    | (refine' ChX.guard (x := _) (by rfl) ?_ ?_ ?_
       rotate_left
       · (go_simp
          rfl)
       all_goals
         intro hg
         simp only [hg])
    | (refine' ChX.guardN (x := _) (by rfl) ?_ ?_ ?_
       rotate_left
       · (go_simp
          rfl)
       all_goals
         intro hg
         simp only [hg]))
  clear QM QC
  go_wp2_with fail
  have hdrS : ∀ W : World, W.drew.heap.size = W.heap.size := fun _ => rfl
  refine wp_region_eager (R := Ext) [0, 1, 2, 3, 4] (by kernel_rfl) (by kernel_rfl) Ext.refl (fun _ _ _ => Ext.trans) ?_
  repeat' (first
    | (refine ChX.skip (by rfl) (by rfl) ?_
       (try simp only [Act.put, List.setIfInBounds_toArray, List.set_cons_zero, List.set_cons_succ]))
    | (refine' ChX.quiet (v := _) (by rfl) (by rfl) (by rfl) ?_ ?_
       rotate_left
       · (intro wS hS
          have hcS := Ext.cells hS
          go_simp
          with_reducible rfl)
       (try simp only [Act.put, List.setIfInBounds_toArray, List.set_cons_zero, List.set_cons_succ]))
    | (refine ChX.nil ?_)
    | (refine' ChX.guard (x := _) (by rfl) ?_ ?_ ?_
       rotate_left
       · (go_simp
          rfl)
       all_goals
         intro hg
         simp only [hg])
    | (refine' ChX.guardN (x := _) (by rfl) ?_ ?_ ?_
       rotate_left
       · (go_simp
          rfl)
       all_goals
         intro hg
         simp only [hg]))
  refine ChX.call (by rfl) (by rfl) (by rfl) (by go_simp; (constructor <;> rfl)) ?_
  refine (toPacket_any p.kind p.fr.addr p.fr.port p.to_.addr p.to_.port a n c p.data _ (by exact S0.ext (by repeat (first | (with_reducible exact Ext.refl _) | (with_reducible assumption) | (with_reducible refine Ext.alloc ?_ _) | (with_reducible refine Ext.drewN ?_ _) | (with_reducible refine Ext.drew ?_) | (with_reducible refine Ext.setCell ?_ ?_ _; rotate_left; (simp only []; omega)) | (with_reducible refine Ext.trans ?_ (by assumption))))) (by omega)).mono ?_
  rintro e w11 ⟨dd, rfl, QD, hx11⟩
  refine ⟨_, rfl, hx11, ?_⟩
  (try simp only [Act.put, List.setIfInBounds_toArray, List.set_cons_zero, List.set_cons_succ])
  have hy11 := hx11.size
  (try simp at hy11)
  have eW11 := useE (fun (h : Ext _ w11) => T0.ext h) (by repeat (first | (with_reducible exact Ext.refl _) | (with_reducible assumption) | (with_reducible refine Ext.alloc ?_ _) | (with_reducible refine Ext.drewN ?_ _) | (with_reducible refine Ext.drew ?_) | (with_reducible refine Ext.setCell ?_ ?_ _; rotate_left; (simp only []; omega)) | (with_reducible refine Ext.trans ?_ (by assumption))))
  replace T0 := T0.ext eW11
  replace K0 := K0.ext eW11
  replace S0 := S0.ext eW11
  clear cBG fBG zBG
  replace BG := BG.ext eW11
  clear cBP fBP zBP
  replace BP := BP.ext eW11
  replace DW := DW.ext eW11
  replace MW := MW.ext eW11
  replace KW := KW.ext eW11
  clear cBW1 fBW1 zBW1
  replace BW1 := BW1.ext eW11
  clear cBW2 fBW2 zBW2
  replace BW2 := BW2.ext eW11
  replace PM := PM.ext eW11
  replace PC := PC.ext eW11
  clear cBX fBX zBX
  replace BX := BX.ext eW11
  replace PD := PD.ext eW11
  clear cBX1 fBX1 zBX1
  replace BX1 := BX1.ext eW11
  replace GD := GD.ext eW11
  replace GM := GM.ext eW11
  replace GC := GC.ext eW11
  clear cBY fBY zBY
  replace BY := BY.ext eW11
  clear cBY1 fBY1 zBY1
  replace BY1 := BY1.ext eW11
  replace XU := XU.ext eW11
  have cBG := BG.cells
  have fBG := BG.frozens
  have zBG := BG.lt
  have cBP := BP.cells
  have fBP := BP.frozens
  have zBP := BP.lt
  have cBW1 := BW1.cells
  have fBW1 := BW1.frozens
  have zBW1 := BW1.lt
  have cBW2 := BW2.cells
  have fBW2 := BW2.frozens
  have zBW2 := BW2.lt
  have cBX := BX.cells
  have fBX := BX.frozens
  have zBX := BX.lt
  have cBX1 := BX1.cells
  have fBX1 := BX1.frozens
  have zBX1 := BX1.lt
  have cBY := BY.cells
  have fBY := BY.frozens
  have zBY := BY.lt
  have cBY1 := BY1.cells
  have fBY1 := BY1.frozens
  have zBY1 := BY1.lt
  repeat' (first
    | (refine ChX.skip (by rfl) (by rfl) ?_
       (try simp only [Act.put, List.setIfInBounds_toArray, List.set_cons_zero, List.set_cons_succ]))
    | (refine' ChX.quiet (v := _) (by rfl) (by rfl) (by rfl) ?_ ?_
       rotate_left
       · (intro wS hS
          have hcS := Ext.cells hS
          go_simp
          with_reducible rfl)
       (try simp only [Act.put, List.setIfInBounds_toArray, List.set_cons_zero, List.set_cons_succ]))
    | (refine ChX.nil ?_)
    | (refine' ChX.guard (x := _) (by rfl) ?_ ?_ ?_
       rotate_left
       · (go_simp
          rfl)
       all_goals
         intro hg
         simp only [hg])
    | (refine' ChX.guardN (x := _) (by rfl) ?_ ?_ ?_
       rotate_left
       · (go_simp
          rfl)
       all_goals
         intro hg
         simp only [hg]))
  refine ChX.call (by rfl) (by rfl) (by rfl) (by go_simp; (constructor <;> rfl)) ?_
  refine (eqPacket_same _ _ _ _ _ db dd n n n p.data _ (by exact (PD.sl encI_len).ext (by repeat (first | (with_reducible exact Ext.refl _) | (with_reducible assumption) | (with_reducible refine Ext.alloc ?_ _) | (with_reducible refine Ext.drewN ?_ _) | (with_reducible refine Ext.drew ?_) | (with_reducible refine Ext.setCell ?_ ?_ _; rotate_left; (simp only []; omega)) | (with_reducible refine Ext.trans ?_ (by assumption))))) (by exact (QD.sl encI_len).ext (by repeat (first | (with_reducible exact Ext.refl _) | (with_reducible assumption) | (with_reducible refine Ext.alloc ?_ _) | (with_reducible refine Ext.drewN ?_ _) | (with_reducible refine Ext.drew ?_) | (with_reducible refine Ext.setCell ?_ ?_ _; rotate_left; (simp only []; omega)) | (with_reducible refine Ext.trans ?_ (by assumption)))))).mono ?_
  rintro e w12 ⟨rfl, hx12⟩
  refine ⟨_, rfl, hx12, ?_⟩
  (try simp only [Act.put, List.setIfInBounds_toArray, List.set_cons_zero, List.set_cons_succ])
  have hy12 := hx12.size
  (try simp at hy12)
  have eW12 := useE (fun (h : Ext _ w12) => T0.ext h) (by repeat (first | (with_reducible exact Ext.refl _) | (with_reducible assumption) | (with_reducible refine Ext.alloc ?_ _) | (with_reducible refine Ext.drewN ?_ _) | (with_reducible refine Ext.drew ?_) | (with_reducible refine Ext.setCell ?_ ?_ _; rotate_left; (simp only []; omega)) | (with_reducible refine Ext.trans ?_ (by assumption))))
  replace T0 := T0.ext eW12
  replace K0 := K0.ext eW12
  replace S0 := S0.ext eW12
  clear cBG fBG zBG
  replace BG := BG.ext eW12
  clear cBP fBP zBP
  replace BP := BP.ext eW12
  replace DW := DW.ext eW12
  replace MW := MW.ext eW12
  replace KW := KW.ext eW12
  clear cBW1 fBW1 zBW1
  replace BW1 := BW1.ext eW12
  clear cBW2 fBW2 zBW2
  replace BW2 := BW2.ext eW12
  replace PM := PM.ext eW12
  replace PC := PC.ext eW12
  clear cBX fBX zBX
  replace BX := BX.ext eW12
  replace PD := PD.ext eW12
  clear cBX1 fBX1 zBX1
  replace BX1 := BX1.ext eW12
  replace GD := GD.ext eW12
  replace GM := GM.ext eW12
  replace GC := GC.ext eW12
  clear cBY fBY zBY
  replace BY := BY.ext eW12
  clear cBY1 fBY1 zBY1
  replace BY1 := BY1.ext eW12
  replace QD := QD.ext eW12
  replace XU := XU.ext eW12
  have cBG := BG.cells
  have fBG := BG.frozens
  have zBG := BG.lt
  have cBP := BP.cells
  have fBP := BP.frozens
  have zBP := BP.lt
  have cBW1 := BW1.cells
  have fBW1 := BW1.frozens
  have zBW1 := BW1.lt
  have cBW2 := BW2.cells
  have fBW2 := BW2.frozens
  have zBW2 := BW2.lt
  have cBX := BX.cells
  have fBX := BX.frozens
  have zBX := BX.lt
  have cBX1 := BX1.cells
  have fBX1 := BX1.frozens
  have zBX1 := BX1.lt
  have cBY := BY.cells
  have fBY := BY.frozens
  have zBY := BY.lt
  have cBY1 := BY1.cells
  have fBY1 := BY1.frozens
  have zBY1 := BY1.lt
  repeat' (first
    | (refine ChX.skip (by rfl) (by rfl) ?_
       (try simp only [Act.put, List.setIfInBounds_toArray, List.set_cons_zero, List.set_cons_succ]))
    | (refine' ChX.quiet (v := _) (by rfl) (by rfl) (by rfl) ?_ ?_
       rotate_left
       · (intro wS hS
          have hcS := Ext.cells hS
          go_simp
          with_reducible rfl)
       (try simp only [Act.put, List.setIfInBounds_toArray, List.set_cons_zero, List.set_cons_succ]))
    | (refine ChX.nil ?_)
    | (refine' ChX.guard (x := _) (by rfl) ?_ ?_ ?_
       rotate_left
       · (go_simp
          rfl)
       all_goals
         intro hg
         simp only [hg])
    | (refine' ChX.guardN (x := _) (by rfl) ?_ ?_ ?_
       rotate_left
       · (go_simp
          rfl)
       all_goals
         intro hg
         simp only [hg]))
  clear QD
  have aPM := fun x y e1 e2 => PD.apart PM (by decide) x y e1 e2
  have aPC := fun x y e1 e2 => PD.apart PC (by decide) x y e1 e2
  go_wp2_with fail
  refine (markGate_any _ _ _ _ _ _ sb tn tn _ g.table qb kn kn _ g.cons 1 _ (by exact PM.ext (by repeat (first | (with_reducible exact Ext.refl _) | (with_reducible assumption) | (with_reducible refine Ext.alloc ?_ _) | (with_reducible refine Ext.drewN ?_ _) | (with_reducible refine Ext.drew ?_) | (with_reducible refine Ext.setCell ?_ ?_ _; rotate_left; (simp only []; omega)) | (with_reducible refine Ext.trans ?_ (by assumption))))) (by exact PC.ext (by repeat (first | (with_reducible exact Ext.refl _) | (with_reducible assumption) | (with_reducible refine Ext.alloc ?_ _) | (with_reducible refine Ext.drewN ?_ _) | (with_reducible refine Ext.drew ?_) | (with_reducible refine Ext.setCell ?_ ?_ _; rotate_left; (simp only []; omega)) | (with_reducible refine Ext.trans ?_ (by assumption))))) (by omega) (by omega) (by omega) (by omega)).mono ?_
  rintro e w13 ⟨rfl, _, _, v13, hgA, hgB⟩
  have hyA := hgA.size
  have hyB := hgB.size
  (try simp at hyA)
  clear cBG fBG zBG cBP fBP zBP cBW1 fBW1 zBW1 cBW2 fBW2 zBW2 cBX fBX zBX cBX1 fBX1 zBX1 cBY fBY zBY cBY1 fBY1 zBY1
  clear BX PM PC
  replace T0 := (((T0.ext (show Ext _ _ from (by repeat (first | (with_reducible exact Ext.refl _) | (with_reducible assumption) | (with_reducible refine Ext.alloc ?_ _) | (with_reducible refine Ext.drewN ?_ _) | (with_reducible refine Ext.drew ?_) | (with_reducible refine Ext.setCell ?_ ?_ _; rotate_left; (simp only []; omega)) | (with_reducible refine Ext.trans ?_ (by assumption)))))).mark hgA (fun hn x y e1 e2 => by have := T0l.out hn x e1; have := lPM.out y e2; omega)).mark hgB (fun hn x y e1 e2 => by have := T0l.out hn x e1; have := lPC.out y e2; omega))
  replace K0 := (((K0.ext (show Ext _ _ from (by repeat (first | (with_reducible exact Ext.refl _) | (with_reducible assumption) | (with_reducible refine Ext.alloc ?_ _) | (with_reducible refine Ext.drewN ?_ _) | (with_reducible refine Ext.drew ?_) | (with_reducible refine Ext.setCell ?_ ?_ _; rotate_left; (simp only []; omega)) | (with_reducible refine Ext.trans ?_ (by assumption)))))).mark hgA (fun hn x y e1 e2 => by have := K0l.out hn x e1; have := lPM.out y e2; omega)).mark hgB (fun hn x y e1 e2 => by have := K0l.out hn x e1; have := lPC.out y e2; omega))
  replace S0 := (((S0.ext (show Ext _ _ from (by repeat (first | (with_reducible exact Ext.refl _) | (with_reducible assumption) | (with_reducible refine Ext.alloc ?_ _) | (with_reducible refine Ext.drewN ?_ _) | (with_reducible refine Ext.drew ?_) | (with_reducible refine Ext.setCell ?_ ?_ _; rotate_left; (simp only []; omega)) | (with_reducible refine Ext.trans ?_ (by assumption)))))).mark hgA (fun hn x y e1 e2 => by have := S0l.out hn x e1; have := lPM.out y e2; omega)).mark hgB (fun hn x y e1 e2 => by have := S0l.out hn x e1; have := lPC.out y e2; omega))
  replace XU := (((XU.ext (show Ext _ _ from (by repeat (first | (with_reducible exact Ext.refl _) | (with_reducible assumption) | (with_reducible refine Ext.alloc ?_ _) | (with_reducible refine Ext.drewN ?_ _) | (with_reducible refine Ext.drew ?_) | (with_reducible refine Ext.setCell ?_ ?_ _; rotate_left; (simp only []; omega)) | (with_reducible refine Ext.trans ?_ (by assumption)))))).mark hgA (fun x e => by have := lPM.out x e; omega)).mark hgB (fun x e => by have := lPC.out x e; omega))
  replace BG := (((BG.ext (show Ext _ _ from (by repeat (first | (with_reducible exact Ext.refl _) | (with_reducible assumption) | (with_reducible refine Ext.alloc ?_ _) | (with_reducible refine Ext.drewN ?_ _) | (with_reducible refine Ext.drew ?_) | (with_reducible refine Ext.setCell ?_ ?_ _; rotate_left; (simp only []; omega)) | (with_reducible refine Ext.trans ?_ (by assumption)))))).mark hgA (fun x e => by have := lPM.out x e; omega)).mark hgB (fun x e => by have := lPC.out x e; omega))
  replace BP := (((BP.ext (show Ext _ _ from (by repeat (first | (with_reducible exact Ext.refl _) | (with_reducible assumption) | (with_reducible refine Ext.alloc ?_ _) | (with_reducible refine Ext.drewN ?_ _) | (with_reducible refine Ext.drew ?_) | (with_reducible refine Ext.setCell ?_ ?_ _; rotate_left; (simp only []; omega)) | (with_reducible refine Ext.trans ?_ (by assumption)))))).mark hgA (fun x e => by have := lPM.out x e; omega)).mark hgB (fun x e => by have := lPC.out x e; omega))
  replace DW := (((DW.ext (show Ext _ _ from (by repeat (first | (with_reducible exact Ext.refl _) | (with_reducible assumption) | (with_reducible refine Ext.alloc ?_ _) | (with_reducible refine Ext.drewN ?_ _) | (with_reducible refine Ext.drew ?_) | (with_reducible refine Ext.setCell ?_ ?_ _; rotate_left; (simp only []; omega)) | (with_reducible refine Ext.trans ?_ (by assumption)))))).mark hgA (fun x y e1 e2 => by have := lDW.out x e1; have := lPM.out y e2; omega)).mark hgB (fun x y e1 e2 => by have := lDW.out x e1; have := lPC.out y e2; omega))
  replace MW := (((MW.ext (show Ext _ _ from (by repeat (first | (with_reducible exact Ext.refl _) | (with_reducible assumption) | (with_reducible refine Ext.alloc ?_ _) | (with_reducible refine Ext.drewN ?_ _) | (with_reducible refine Ext.drew ?_) | (with_reducible refine Ext.setCell ?_ ?_ _; rotate_left; (simp only []; omega)) | (with_reducible refine Ext.trans ?_ (by assumption)))))).mark hgA (fun x y e1 e2 => by have := lMW.out x e1; have := lPM.out y e2; omega)).mark hgB (fun x y e1 e2 => by have := lMW.out x e1; have := lPC.out y e2; omega))
  replace KW := (((KW.ext (show Ext _ _ from (by repeat (first | (with_reducible exact Ext.refl _) | (with_reducible assumption) | (with_reducible refine Ext.alloc ?_ _) | (with_reducible refine Ext.drewN ?_ _) | (with_reducible refine Ext.drew ?_) | (with_reducible refine Ext.setCell ?_ ?_ _; rotate_left; (simp only []; omega)) | (with_reducible refine Ext.trans ?_ (by assumption)))))).mark hgA (fun x y e1 e2 => by have := lKW.out x e1; have := lPM.out y e2; omega)).mark hgB (fun x y e1 e2 => by have := lKW.out x e1; have := lPC.out y e2; omega))
  replace BW1 := (((BW1.ext (show Ext _ _ from (by repeat (first | (with_reducible exact Ext.refl _) | (with_reducible assumption) | (with_reducible refine Ext.alloc ?_ _) | (with_reducible refine Ext.drewN ?_ _) | (with_reducible refine Ext.drew ?_) | (with_reducible refine Ext.setCell ?_ ?_ _; rotate_left; (simp only []; omega)) | (with_reducible refine Ext.trans ?_ (by assumption)))))).mark hgA (fun x e => by have := lPM.out x e; omega)).mark hgB (fun x e => by have := lPC.out x e; omega))
  replace BW2 := (((BW2.ext (show Ext _ _ from (by repeat (first | (with_reducible exact Ext.refl _) | (with_reducible assumption) | (with_reducible refine Ext.alloc ?_ _) | (with_reducible refine Ext.drewN ?_ _) | (with_reducible refine Ext.drew ?_) | (with_reducible refine Ext.setCell ?_ ?_ _; rotate_left; (simp only []; omega)) | (with_reducible refine Ext.trans ?_ (by assumption)))))).mark hgA (fun x e => by have := lPM.out x e; omega)).mark hgB (fun x e => by have := lPC.out x e; omega))
  replace PD := (((PD.ext (show Ext _ _ from (by repeat (first | (with_reducible exact Ext.refl _) | (with_reducible assumption) | (with_reducible refine Ext.alloc ?_ _) | (with_reducible refine Ext.drewN ?_ _) | (with_reducible refine Ext.drew ?_) | (with_reducible refine Ext.setCell ?_ ?_ _; rotate_left; (simp only []; omega)) | (with_reducible refine Ext.trans ?_ (by assumption)))))).mark hgA (fun x y e1 e2 => aPM x y e1 e2)).mark hgB (fun x y e1 e2 => aPC x y e1 e2))
  replace BX1 := (((BX1.ext (show Ext _ _ from (by repeat (first | (with_reducible exact Ext.refl _) | (with_reducible assumption) | (with_reducible refine Ext.alloc ?_ _) | (with_reducible refine Ext.drewN ?_ _) | (with_reducible refine Ext.drew ?_) | (with_reducible refine Ext.setCell ?_ ?_ _; rotate_left; (simp only []; omega)) | (with_reducible refine Ext.trans ?_ (by assumption)))))).mark hgA (fun x e => by have := lPM.out x e; omega)).mark hgB (fun x e => by have := lPC.out x e; omega))
  replace GD := (((GD.ext (show Ext _ _ from (by repeat (first | (with_reducible exact Ext.refl _) | (with_reducible assumption) | (with_reducible refine Ext.alloc ?_ _) | (with_reducible refine Ext.drewN ?_ _) | (with_reducible refine Ext.drew ?_) | (with_reducible refine Ext.setCell ?_ ?_ _; rotate_left; (simp only []; omega)) | (with_reducible refine Ext.trans ?_ (by assumption)))))).mark hgA (fun x y e1 e2 => by have := lGD.out x e1; have := lPM.out y e2; omega)).mark hgB (fun x y e1 e2 => by have := lGD.out x e1; have := lPC.out y e2; omega))
  replace GM := (((GM.ext (show Ext _ _ from (by repeat (first | (with_reducible exact Ext.refl _) | (with_reducible assumption) | (with_reducible refine Ext.alloc ?_ _) | (with_reducible refine Ext.drewN ?_ _) | (with_reducible refine Ext.drew ?_) | (with_reducible refine Ext.setCell ?_ ?_ _; rotate_left; (simp only []; omega)) | (with_reducible refine Ext.trans ?_ (by assumption)))))).mark hgA (fun x y e1 e2 => by have := lGM.out x e1; have := lPM.out y e2; omega)).mark hgB (fun x y e1 e2 => by have := lGM.out x e1; have := lPC.out y e2; omega))
  replace GC := (((GC.ext (show Ext _ _ from (by repeat (first | (with_reducible exact Ext.refl _) | (with_reducible assumption) | (with_reducible refine Ext.alloc ?_ _) | (with_reducible refine Ext.drewN ?_ _) | (with_reducible refine Ext.drew ?_) | (with_reducible refine Ext.setCell ?_ ?_ _; rotate_left; (simp only []; omega)) | (with_reducible refine Ext.trans ?_ (by assumption)))))).mark hgA (fun x y e1 e2 => by have := lGC.out x e1; have := lPM.out y e2; omega)).mark hgB (fun x y e1 e2 => by have := lGC.out x e1; have := lPC.out y e2; omega))
  replace BY := (((BY.ext (show Ext _ _ from (by repeat (first | (with_reducible exact Ext.refl _) | (with_reducible assumption) | (with_reducible refine Ext.alloc ?_ _) | (with_reducible refine Ext.drewN ?_ _) | (with_reducible refine Ext.drew ?_) | (with_reducible refine Ext.setCell ?_ ?_ _; rotate_left; (simp only []; omega)) | (with_reducible refine Ext.trans ?_ (by assumption)))))).mark hgA (fun x e => by have := lPM.out x e; omega)).mark hgB (fun x e => by have := lPC.out x e; omega))
  replace BY1 := (((BY1.ext (show Ext _ _ from (by repeat (first | (with_reducible exact Ext.refl _) | (with_reducible assumption) | (with_reducible refine Ext.alloc ?_ _) | (with_reducible refine Ext.drewN ?_ _) | (with_reducible refine Ext.drew ?_) | (with_reducible refine Ext.setCell ?_ ?_ _; rotate_left; (simp only []; omega)) | (with_reducible refine Ext.trans ?_ (by assumption)))))).mark hgA (fun x e => by have := lPM.out x e; omega)).mark hgB (fun x e => by have := lPC.out x e; omega))
  clear hgA hgB aPM aPC
  have cBG := BG.cells
  have fBG := BG.frozens
  have zBG := BG.lt
  have cBP := BP.cells
  have fBP := BP.frozens
  have zBP := BP.lt
  have cBW1 := BW1.cells
  have fBW1 := BW1.frozens
  have zBW1 := BW1.lt
  have cBW2 := BW2.cells
  have fBW2 := BW2.frozens
  have zBW2 := BW2.lt
  have cBX1 := BX1.cells
  have fBX1 := BX1.frozens
  have zBX1 := BX1.lt
  have cBY := BY.cells
  have fBY := BY.frozens
  have zBY := BY.lt
  have cBY1 := BY1.cells
  have fBY1 := BY1.frozens
  have zBY1 := BY1.lt
  go_wp2_with fail
  refine (markPacket_any _ _ _ _ _ db n n _ p.data _ _ (by exact PD.ext (by repeat (first | (with_reducible exact Ext.refl _) | (with_reducible assumption) | (with_reducible refine Ext.alloc ?_ _) | (with_reducible refine Ext.drewN ?_ _) | (with_reducible refine Ext.drew ?_) | (with_reducible refine Ext.setCell ?_ ?_ _; rotate_left; (simp only []; omega)) | (with_reducible refine Ext.trans ?_ (by assumption))))) (by omega) (by omega) (by omega)).mono ?_
  rintro e w14 ⟨rfl, _, hgC⟩
  have hyC := hgC.size
  (try simp at hyC)
  clear cBG fBG zBG cBP fBP zBP cBW1 fBW1 zBW1 cBW2 fBW2 zBW2 cBX1 fBX1 zBX1 cBY fBY zBY cBY1 fBY1 zBY1
  clear BX1 PD
  replace T0 := ((T0.ext (show Ext _ _ from (by repeat (first | (with_reducible exact Ext.refl _) | (with_reducible assumption) | (with_reducible refine Ext.alloc ?_ _) | (with_reducible refine Ext.drewN ?_ _) | (with_reducible refine Ext.drew ?_) | (with_reducible refine Ext.setCell ?_ ?_ _; rotate_left; (simp only []; omega)) | (with_reducible refine Ext.trans ?_ (by assumption)))))).mark hgC (fun hn x y e1 e2 => by have := T0l.out hn x e1; have := lPD.out y e2; omega))
  replace K0 := ((K0.ext (show Ext _ _ from (by repeat (first | (with_reducible exact Ext.refl _) | (with_reducible assumption) | (with_reducible refine Ext.alloc ?_ _) | (with_reducible refine Ext.drewN ?_ _) | (with_reducible refine Ext.drew ?_) | (with_reducible refine Ext.setCell ?_ ?_ _; rotate_left; (simp only []; omega)) | (with_reducible refine Ext.trans ?_ (by assumption)))))).mark hgC (fun hn x y e1 e2 => by have := K0l.out hn x e1; have := lPD.out y e2; omega))
  replace S0 := ((S0.ext (show Ext _ _ from (by repeat (first | (with_reducible exact Ext.refl _) | (with_reducible assumption) | (with_reducible refine Ext.alloc ?_ _) | (with_reducible refine Ext.drewN ?_ _) | (with_reducible refine Ext.drew ?_) | (with_reducible refine Ext.setCell ?_ ?_ _; rotate_left; (simp only []; omega)) | (with_reducible refine Ext.trans ?_ (by assumption)))))).mark hgC (fun hn x y e1 e2 => by have := S0l.out hn x e1; have := lPD.out y e2; omega))
  replace XU := ((XU.ext (show Ext _ _ from (by repeat (first | (with_reducible exact Ext.refl _) | (with_reducible assumption) | (with_reducible refine Ext.alloc ?_ _) | (with_reducible refine Ext.drewN ?_ _) | (with_reducible refine Ext.drew ?_) | (with_reducible refine Ext.setCell ?_ ?_ _; rotate_left; (simp only []; omega)) | (with_reducible refine Ext.trans ?_ (by assumption)))))).mark hgC (fun x e => by have := lPD.out x e; omega))
  replace BG := ((BG.ext (show Ext _ _ from (by repeat (first | (with_reducible exact Ext.refl _) | (with_reducible assumption) | (with_reducible refine Ext.alloc ?_ _) | (with_reducible refine Ext.drewN ?_ _) | (with_reducible refine Ext.drew ?_) | (with_reducible refine Ext.setCell ?_ ?_ _; rotate_left; (simp only []; omega)) | (with_reducible refine Ext.trans ?_ (by assumption)))))).mark hgC (fun x e => by have := lPD.out x e; omega))
  replace BP := ((BP.ext (show Ext _ _ from (by repeat (first | (with_reducible exact Ext.refl _) | (with_reducible assumption) | (with_reducible refine Ext.alloc ?_ _) | (with_reducible refine Ext.drewN ?_ _) | (with_reducible refine Ext.drew ?_) | (with_reducible refine Ext.setCell ?_ ?_ _; rotate_left; (simp only []; omega)) | (with_reducible refine Ext.trans ?_ (by assumption)))))).mark hgC (fun x e => by have := lPD.out x e; omega))
  replace DW := ((DW.ext (show Ext _ _ from (by repeat (first | (with_reducible exact Ext.refl _) | (with_reducible assumption) | (with_reducible refine Ext.alloc ?_ _) | (with_reducible refine Ext.drewN ?_ _) | (with_reducible refine Ext.drew ?_) | (with_reducible refine Ext.setCell ?_ ?_ _; rotate_left; (simp only []; omega)) | (with_reducible refine Ext.trans ?_ (by assumption)))))).mark hgC (fun x y e1 e2 => by have := lDW.out x e1; have := lPD.out y e2; omega))
  replace MW := ((MW.ext (show Ext _ _ from (by repeat (first | (with_reducible exact Ext.refl _) | (with_reducible assumption) | (with_reducible refine Ext.alloc ?_ _) | (with_reducible refine Ext.drewN ?_ _) | (with_reducible refine Ext.drew ?_) | (with_reducible refine Ext.setCell ?_ ?_ _; rotate_left; (simp only []; omega)) | (with_reducible refine Ext.trans ?_ (by assumption)))))).mark hgC (fun x y e1 e2 => by have := lMW.out x e1; have := lPD.out y e2; omega))
  replace KW := ((KW.ext (show Ext _ _ from (by repeat (first | (with_reducible exact Ext.refl _) | (with_reducible assumption) | (with_reducible refine Ext.alloc ?_ _) | (with_reducible refine Ext.drewN ?_ _) | (with_reducible refine Ext.drew ?_) | (with_reducible refine Ext.setCell ?_ ?_ _; rotate_left; (simp only []; omega)) | (with_reducible refine Ext.trans ?_ (by assumption)))))).mark hgC (fun x y e1 e2 => by have := lKW.out x e1; have := lPD.out y e2; omega))
  replace BW1 := ((BW1.ext (show Ext _ _ from (by repeat (first | (with_reducible exact Ext.refl _) | (with_reducible assumption) | (with_reducible refine Ext.alloc ?_ _) | (with_reducible refine Ext.drewN ?_ _) | (with_reducible refine Ext.drew ?_) | (with_reducible refine Ext.setCell ?_ ?_ _; rotate_left; (simp only []; omega)) | (with_reducible refine Ext.trans ?_ (by assumption)))))).mark hgC (fun x e => by have := lPD.out x e; omega))
  replace BW2 := ((BW2.ext (show Ext _ _ from (by repeat (first | (with_reducible exact Ext.refl _) | (with_reducible assumption) | (with_reducible refine Ext.alloc ?_ _) | (with_reducible refine Ext.drewN ?_ _) | (with_reducible refine Ext.drew ?_) | (with_reducible refine Ext.setCell ?_ ?_ _; rotate_left; (simp only []; omega)) | (with_reducible refine Ext.trans ?_ (by assumption)))))).mark hgC (fun x e => by have := lPD.out x e; omega))
  replace GD := ((GD.ext (show Ext _ _ from (by repeat (first | (with_reducible exact Ext.refl _) | (with_reducible assumption) | (with_reducible refine Ext.alloc ?_ _) | (with_reducible refine Ext.drewN ?_ _) | (with_reducible refine Ext.drew ?_) | (with_reducible refine Ext.setCell ?_ ?_ _; rotate_left; (simp only []; omega)) | (with_reducible refine Ext.trans ?_ (by assumption)))))).mark hgC (fun x y e1 e2 => by have := lGD.out x e1; have := lPD.out y e2; omega))
  replace GM := ((GM.ext (show Ext _ _ from (by repeat (first | (with_reducible exact Ext.refl _) | (with_reducible assumption) | (with_reducible refine Ext.alloc ?_ _) | (with_reducible refine Ext.drewN ?_ _) | (with_reducible refine Ext.drew ?_) | (with_reducible refine Ext.setCell ?_ ?_ _; rotate_left; (simp only []; omega)) | (with_reducible refine Ext.trans ?_ (by assumption)))))).mark hgC (fun x y e1 e2 => by have := lGM.out x e1; have := lPD.out y e2; omega))
  replace GC := ((GC.ext (show Ext _ _ from (by repeat (first | (with_reducible exact Ext.refl _) | (with_reducible assumption) | (with_reducible refine Ext.alloc ?_ _) | (with_reducible refine Ext.drewN ?_ _) | (with_reducible refine Ext.drew ?_) | (with_reducible refine Ext.setCell ?_ ?_ _; rotate_left; (simp only []; omega)) | (with_reducible refine Ext.trans ?_ (by assumption)))))).mark hgC (fun x y e1 e2 => by have := lGC.out x e1; have := lPD.out y e2; omega))
  replace BY := ((BY.ext (show Ext _ _ from (by repeat (first | (with_reducible exact Ext.refl _) | (with_reducible assumption) | (with_reducible refine Ext.alloc ?_ _) | (with_reducible refine Ext.drewN ?_ _) | (with_reducible refine Ext.drew ?_) | (with_reducible refine Ext.setCell ?_ ?_ _; rotate_left; (simp only []; omega)) | (with_reducible refine Ext.trans ?_ (by assumption)))))).mark hgC (fun x e => by have := lPD.out x e; omega))
  replace BY1 := ((BY1.ext (show Ext _ _ from (by repeat (first | (with_reducible exact Ext.refl _) | (with_reducible assumption) | (with_reducible refine Ext.alloc ?_ _) | (with_reducible refine Ext.drewN ?_ _) | (with_reducible refine Ext.drew ?_) | (with_reducible refine Ext.setCell ?_ ?_ _; rotate_left; (simp only []; omega)) | (with_reducible refine Ext.trans ?_ (by assumption)))))).mark hgC (fun x e => by have := lPD.out x e; omega))
  clear hgC
  have cBG := BG.cells
  have fBG := BG.frozens
  have zBG := BG.lt
  have cBP := BP.cells
  have fBP := BP.frozens
  have zBP := BP.lt
  have cBW1 := BW1.cells
  have fBW1 := BW1.frozens
  have zBW1 := BW1.lt
  have cBW2 := BW2.cells
  have fBW2 := BW2.frozens
  have zBW2 := BW2.lt
  have cBY := BY.cells
  have fBY := BY.frozens
  have zBY := BY.lt
  have cBY1 := BY1.cells
  have fBY1 := BY1.frozens
  have zBY1 := BY1.lt
  go_wp2_with fail
  refine (eqPacket_same _ _ _ _ _ d1 dW rn z1 zW P.data _ (by exact (GD.sl encI_len).ext (by repeat (first | (with_reducible exact Ext.refl _) | (with_reducible assumption) | (with_reducible refine Ext.alloc ?_ _) | (with_reducible refine Ext.drewN ?_ _) | (with_reducible refine Ext.drew ?_) | (with_reducible refine Ext.setCell ?_ ?_ _; rotate_left; (simp only []; omega)) | (with_reducible refine Ext.trans ?_ (by assumption))))) (by exact (DW.sl encI_len).ext (by repeat (first | (with_reducible exact Ext.refl _) | (with_reducible assumption) | (with_reducible refine Ext.alloc ?_ _) | (with_reducible refine Ext.drewN ?_ _) | (with_reducible refine Ext.drew ?_) | (with_reducible refine Ext.setCell ?_ ?_ _; rotate_left; (simp only []; omega)) | (with_reducible refine Ext.trans ?_ (by assumption)))))).mono ?_
  rintro e w15 ⟨rfl, hx15⟩
  have hy15 := hx15.size
  (try simp at hy15)
  have eW15 := useE (fun (h : Ext _ w15) => T0.ext h) (by repeat (first | (with_reducible exact Ext.refl _) | (with_reducible assumption) | (with_reducible refine Ext.alloc ?_ _) | (with_reducible refine Ext.drewN ?_ _) | (with_reducible refine Ext.drew ?_) | (with_reducible refine Ext.setCell ?_ ?_ _; rotate_left; (simp only []; omega)) | (with_reducible refine Ext.trans ?_ (by assumption))))
  replace T0 := T0.ext eW15
  replace K0 := K0.ext eW15
  replace S0 := S0.ext eW15
  clear cBG fBG zBG
  replace BG := BG.ext eW15
  clear cBP fBP zBP
  replace BP := BP.ext eW15
  replace DW := DW.ext eW15
  replace MW := MW.ext eW15
  replace KW := KW.ext eW15
  clear cBW1 fBW1 zBW1
  replace BW1 := BW1.ext eW15
  clear cBW2 fBW2 zBW2
  replace BW2 := BW2.ext eW15
  replace GD := GD.ext eW15
  replace GM := GM.ext eW15
  replace GC := GC.ext eW15
  clear cBY fBY zBY
  replace BY := BY.ext eW15
  clear cBY1 fBY1 zBY1
  replace BY1 := BY1.ext eW15
  replace XU := XU.ext eW15
  have cBG := BG.cells
  have fBG := BG.frozens
  have zBG := BG.lt
  have cBP := BP.cells
  have fBP := BP.frozens
  have zBP := BP.lt
  have cBW1 := BW1.cells
  have fBW1 := BW1.frozens
  have zBW1 := BW1.lt
  have cBW2 := BW2.cells
  have fBW2 := BW2.frozens
  have zBW2 := BW2.lt
  have cBY := BY.cells
  have fBY := BY.frozens
  have zBY := BY.lt
  have cBY1 := BY1.cells
  have fBY1 := BY1.frozens
  have zBY1 := BY1.lt
  go_wp2_with fail
  refine (eqGate_same R a1 rt x1 b1 rc y1 aW xW bW yW _ (by exact (GM.sl encM_len).ext (by repeat (first | (with_reducible exact Ext.refl _) | (with_reducible assumption) | (with_reducible refine Ext.alloc ?_ _) | (with_reducible refine Ext.drewN ?_ _) | (with_reducible refine Ext.drew ?_) | (with_reducible refine Ext.setCell ?_ ?_ _; rotate_left; (simp only []; omega)) | (with_reducible refine Ext.trans ?_ (by assumption))))) (by exact (GC.sl encC_len).ext (by repeat (first | (with_reducible exact Ext.refl _) | (with_reducible assumption) | (with_reducible refine Ext.alloc ?_ _) | (with_reducible refine Ext.drewN ?_ _) | (with_reducible refine Ext.drew ?_) | (with_reducible refine Ext.setCell ?_ ?_ _; rotate_left; (simp only []; omega)) | (with_reducible refine Ext.trans ?_ (by assumption))))) (by exact (MW.sl encM_len).ext (by repeat (first | (with_reducible exact Ext.refl _) | (with_reducible assumption) | (with_reducible refine Ext.alloc ?_ _) | (with_reducible refine Ext.drewN ?_ _) | (with_reducible refine Ext.drew ?_) | (with_reducible refine Ext.setCell ?_ ?_ _; rotate_left; (simp only []; omega)) | (with_reducible refine Ext.trans ?_ (by assumption))))) (by exact (KW.sl encC_len).ext (by repeat (first | (with_reducible exact Ext.refl _) | (with_reducible assumption) | (with_reducible refine Ext.alloc ?_ _) | (with_reducible refine Ext.drewN ?_ _) | (with_reducible refine Ext.drew ?_) | (with_reducible refine Ext.setCell ?_ ?_ _; rotate_left; (simp only []; omega)) | (with_reducible refine Ext.trans ?_ (by assumption)))))).mono ?_
  rintro e w16 ⟨rfl, hx16⟩
  have hy16 := hx16.size
  (try simp at hy16)
  have eW16 := useE (fun (h : Ext _ w16) => T0.ext h) (by repeat (first | (with_reducible exact Ext.refl _) | (with_reducible assumption) | (with_reducible refine Ext.alloc ?_ _) | (with_reducible refine Ext.drewN ?_ _) | (with_reducible refine Ext.drew ?_) | (with_reducible refine Ext.setCell ?_ ?_ _; rotate_left; (simp only []; omega)) | (with_reducible refine Ext.trans ?_ (by assumption))))
  replace T0 := T0.ext eW16
  replace K0 := K0.ext eW16
  replace S0 := S0.ext eW16
  clear cBG fBG zBG
  replace BG := BG.ext eW16
  clear cBP fBP zBP
  replace BP := BP.ext eW16
  replace DW := DW.ext eW16
  replace MW := MW.ext eW16
  replace KW := KW.ext eW16
  clear cBW1 fBW1 zBW1
  replace BW1 := BW1.ext eW16
  clear cBW2 fBW2 zBW2
  replace BW2 := BW2.ext eW16
  replace GD := GD.ext eW16
  replace GM := GM.ext eW16
  replace GC := GC.ext eW16
  clear cBY fBY zBY
  replace BY := BY.ext eW16
  clear cBY1 fBY1 zBY1
  replace BY1 := BY1.ext eW16
  replace XU := XU.ext eW16
  have cBG := BG.cells
  have fBG := BG.frozens
  have zBG := BG.lt
  have cBP := BP.cells
  have fBP := BP.frozens
  have zBP := BP.lt
  have cBW1 := BW1.cells
  have fBW1 := BW1.frozens
  have zBW1 := BW1.lt
  have cBW2 := BW2.cells
  have fBW2 := BW2.frozens
  have zBW2 := BW2.lt
  have cBY := BY.cells
  have fBY := BY.frozens
  have zBY := BY.lt
  have cBY1 := BY1.cells
  have fBY1 := BY1.frozens
  have zBY1 := BY1.lt
  have aGM := fun x y e1 e2 => GM.apart GD (by decide) x y e1 e2
  have aGC := fun x y e1 e2 => GC.apart GD (by decide) x y e1 e2
  go_wp2_with fail
  refine (markPacket_any _ _ _ _ _ d1 rn z1 _ P.data 1 _ (by exact GD.ext (by repeat (first | (with_reducible exact Ext.refl _) | (with_reducible assumption) | (with_reducible refine Ext.alloc ?_ _) | (with_reducible refine Ext.drewN ?_ _) | (with_reducible refine Ext.drew ?_) | (with_reducible refine Ext.setCell ?_ ?_ _; rotate_left; (simp only []; omega)) | (with_reducible refine Ext.trans ?_ (by assumption))))) (by omega) (by omega) (by omega)).mono ?_
  rintro e w17 ⟨rfl, HD, hgD⟩
  have hyD := hgD.size
  (try simp at hyD)
  clear cBG fBG zBG cBP fBP zBP cBW1 fBW1 zBW1 cBW2 fBW2 zBW2 cBY fBY zBY cBY1 fBY1 zBY1
  clear GD
  replace T0 := ((T0.ext (show Ext _ _ from (by repeat (first | (with_reducible exact Ext.refl _) | (with_reducible assumption) | (with_reducible refine Ext.alloc ?_ _) | (with_reducible refine Ext.drewN ?_ _) | (with_reducible refine Ext.drew ?_) | (with_reducible refine Ext.setCell ?_ ?_ _; rotate_left; (simp only []; omega)) | (with_reducible refine Ext.trans ?_ (by assumption)))))).mark hgD (fun hn x y e1 e2 => by have := T0l.out hn x e1; have := lGD.out y e2; omega))
  replace K0 := ((K0.ext (show Ext _ _ from (by repeat (first | (with_reducible exact Ext.refl _) | (with_reducible assumption) | (with_reducible refine Ext.alloc ?_ _) | (with_reducible refine Ext.drewN ?_ _) | (with_reducible refine Ext.drew ?_) | (with_reducible refine Ext.setCell ?_ ?_ _; rotate_left; (simp only []; omega)) | (with_reducible refine Ext.trans ?_ (by assumption)))))).mark hgD (fun hn x y e1 e2 => by have := K0l.out hn x e1; have := lGD.out y e2; omega))
  replace S0 := ((S0.ext (show Ext _ _ from (by repeat (first | (with_reducible exact Ext.refl _) | (with_reducible assumption) | (with_reducible refine Ext.alloc ?_ _) | (with_reducible refine Ext.drewN ?_ _) | (with_reducible refine Ext.drew ?_) | (with_reducible refine Ext.setCell ?_ ?_ _; rotate_left; (simp only []; omega)) | (with_reducible refine Ext.trans ?_ (by assumption)))))).mark hgD (fun hn x y e1 e2 => by have := S0l.out hn x e1; have := lGD.out y e2; omega))
  replace XU := ((XU.ext (show Ext _ _ from (by repeat (first | (with_reducible exact Ext.refl _) | (with_reducible assumption) | (with_reducible refine Ext.alloc ?_ _) | (with_reducible refine Ext.drewN ?_ _) | (with_reducible refine Ext.drew ?_) | (with_reducible refine Ext.setCell ?_ ?_ _; rotate_left; (simp only []; omega)) | (with_reducible refine Ext.trans ?_ (by assumption)))))).mark hgD (fun x e => by have := lGD.out x e; omega))
  replace BG := ((BG.ext (show Ext _ _ from (by repeat (first | (with_reducible exact Ext.refl _) | (with_reducible assumption) | (with_reducible refine Ext.alloc ?_ _) | (with_reducible refine Ext.drewN ?_ _) | (with_reducible refine Ext.drew ?_) | (with_reducible refine Ext.setCell ?_ ?_ _; rotate_left; (simp only []; omega)) | (with_reducible refine Ext.trans ?_ (by assumption)))))).mark hgD (fun x e => by have := lGD.out x e; omega))
  replace BP := ((BP.ext (show Ext _ _ from (by repeat (first | (with_reducible exact Ext.refl _) | (with_reducible assumption) | (with_reducible refine Ext.alloc ?_ _) | (with_reducible refine Ext.drewN ?_ _) | (with_reducible refine Ext.drew ?_) | (with_reducible refine Ext.setCell ?_ ?_ _; rotate_left; (simp only []; omega)) | (with_reducible refine Ext.trans ?_ (by assumption)))))).mark hgD (fun x e => by have := lGD.out x e; omega))
  replace DW := ((DW.ext (show Ext _ _ from (by repeat (first | (with_reducible exact Ext.refl _) | (with_reducible assumption) | (with_reducible refine Ext.alloc ?_ _) | (with_reducible refine Ext.drewN ?_ _) | (with_reducible refine Ext.drew ?_) | (with_reducible refine Ext.setCell ?_ ?_ _; rotate_left; (simp only []; omega)) | (with_reducible refine Ext.trans ?_ (by assumption)))))).mark hgD (fun x y e1 e2 => by have := lDW.out x e1; have := lGD.out y e2; omega))
  replace MW := ((MW.ext (show Ext _ _ from (by repeat (first | (with_reducible exact Ext.refl _) | (with_reducible assumption) | (with_reducible refine Ext.alloc ?_ _) | (with_reducible refine Ext.drewN ?_ _) | (with_reducible refine Ext.drew ?_) | (with_reducible refine Ext.setCell ?_ ?_ _; rotate_left; (simp only []; omega)) | (with_reducible refine Ext.trans ?_ (by assumption)))))).mark hgD (fun x y e1 e2 => by have := lMW.out x e1; have := lGD.out y e2; omega))
  replace KW := ((KW.ext (show Ext _ _ from (by repeat (first | (with_reducible exact Ext.refl _) | (with_reducible assumption) | (with_reducible refine Ext.alloc ?_ _) | (with_reducible refine Ext.drewN ?_ _) | (with_reducible refine Ext.drew ?_) | (with_reducible refine Ext.setCell ?_ ?_ _; rotate_left; (simp only []; omega)) | (with_reducible refine Ext.trans ?_ (by assumption)))))).mark hgD (fun x y e1 e2 => by have := lKW.out x e1; have := lGD.out y e2; omega))
  replace BW1 := ((BW1.ext (show Ext _ _ from (by repeat (first | (with_reducible exact Ext.refl _) | (with_reducible assumption) | (with_reducible refine Ext.alloc ?_ _) | (with_reducible refine Ext.drewN ?_ _) | (with_reducible refine Ext.drew ?_) | (with_reducible refine Ext.setCell ?_ ?_ _; rotate_left; (simp only []; omega)) | (with_reducible refine Ext.trans ?_ (by assumption)))))).mark hgD (fun x e => by have := lGD.out x e; omega))
  replace BW2 := ((BW2.ext (show Ext _ _ from (by repeat (first | (with_reducible exact Ext.refl _) | (with_reducible assumption) | (with_reducible refine Ext.alloc ?_ _) | (with_reducible refine Ext.drewN ?_ _) | (with_reducible refine Ext.drew ?_) | (with_reducible refine Ext.setCell ?_ ?_ _; rotate_left; (simp only []; omega)) | (with_reducible refine Ext.trans ?_ (by assumption)))))).mark hgD (fun x e => by have := lGD.out x e; omega))
  replace GM := ((GM.ext (show Ext _ _ from (by repeat (first | (with_reducible exact Ext.refl _) | (with_reducible assumption) | (with_reducible refine Ext.alloc ?_ _) | (with_reducible refine Ext.drewN ?_ _) | (with_reducible refine Ext.drew ?_) | (with_reducible refine Ext.setCell ?_ ?_ _; rotate_left; (simp only []; omega)) | (with_reducible refine Ext.trans ?_ (by assumption)))))).mark hgD (fun x y e1 e2 => aGM x y e1 e2))
  replace GC := ((GC.ext (show Ext _ _ from (by repeat (first | (with_reducible exact Ext.refl _) | (with_reducible assumption) | (with_reducible refine Ext.alloc ?_ _) | (with_reducible refine Ext.drewN ?_ _) | (with_reducible refine Ext.drew ?_) | (with_reducible refine Ext.setCell ?_ ?_ _; rotate_left; (simp only []; omega)) | (with_reducible refine Ext.trans ?_ (by assumption)))))).mark hgD (fun x y e1 e2 => aGC x y e1 e2))
  replace BY := ((BY.ext (show Ext _ _ from (by repeat (first | (with_reducible exact Ext.refl _) | (with_reducible assumption) | (with_reducible refine Ext.alloc ?_ _) | (with_reducible refine Ext.drewN ?_ _) | (with_reducible refine Ext.drew ?_) | (with_reducible refine Ext.setCell ?_ ?_ _; rotate_left; (simp only []; omega)) | (with_reducible refine Ext.trans ?_ (by assumption)))))).mark hgD (fun x e => by have := lGD.out x e; omega))
  replace BY1 := ((BY1.ext (show Ext _ _ from (by repeat (first | (with_reducible exact Ext.refl _) | (with_reducible assumption) | (with_reducible refine Ext.alloc ?_ _) | (with_reducible refine Ext.drewN ?_ _) | (with_reducible refine Ext.drew ?_) | (with_reducible refine Ext.setCell ?_ ?_ _; rotate_left; (simp only []; omega)) | (with_reducible refine Ext.trans ?_ (by assumption)))))).mark hgD (fun x e => by have := lGD.out x e; omega))
  clear hgD aGM aGC
  have lHD := lGD
  have cBG := BG.cells
  have fBG := BG.frozens
  have zBG := BG.lt
  have cBP := BP.cells
  have fBP := BP.frozens
  have zBP := BP.lt
  have cBW1 := BW1.cells
  have fBW1 := BW1.frozens
  have zBW1 := BW1.lt
  have cBW2 := BW2.cells
  have fBW2 := BW2.frozens
  have zBW2 := BW2.lt
  have cBY := BY.cells
  have fBY := BY.frozens
  have zBY := BY.lt
  have cBY1 := BY1.cells
  have fBY1 := BY1.frozens
  have zBY1 := BY1.lt
  have aHM := fun x y e1 e2 => HD.apart GM (by decide) x y e1 e2
  have aHC := fun x y e1 e2 => HD.apart GC (by decide) x y e1 e2
  go_wp2_with fail
  refine (markGate_any _ _ _ _ _ _ a1 rt x1 _ R.table b1 rc y1 _ R.cons (1 + (rn : Int)) _ (by exact GM.ext (by repeat (first | (with_reducible exact Ext.refl _) | (with_reducible assumption) | (with_reducible refine Ext.alloc ?_ _) | (with_reducible refine Ext.drewN ?_ _) | (with_reducible refine Ext.drew ?_) | (with_reducible refine Ext.setCell ?_ ?_ _; rotate_left; (simp only []; omega)) | (with_reducible refine Ext.trans ?_ (by assumption))))) (by exact GC.ext (by repeat (first | (with_reducible exact Ext.refl _) | (with_reducible assumption) | (with_reducible refine Ext.alloc ?_ _) | (with_reducible refine Ext.drewN ?_ _) | (with_reducible refine Ext.drew ?_) | (with_reducible refine Ext.setCell ?_ ?_ _; rotate_left; (simp only []; omega)) | (with_reducible refine Ext.trans ?_ (by assumption))))) (by omega) (by omega) (by omega) (by omega)).mono ?_
  rintro e w18 ⟨rfl, HM, HC, v18, hgE, hgF⟩
  have hyE := hgE.size
  have hyF := hgF.size
  (try simp at hyE)
  clear cBG fBG zBG cBP fBP zBP cBW1 fBW1 zBW1 cBW2 fBW2 zBW2 cBY fBY zBY cBY1 fBY1 zBY1
  clear GM GC
  replace T0 := (((T0.ext (show Ext _ _ from (by repeat (first | (with_reducible exact Ext.refl _) | (with_reducible assumption) | (with_reducible refine Ext.alloc ?_ _) | (with_reducible refine Ext.drewN ?_ _) | (with_reducible refine Ext.drew ?_) | (with_reducible refine Ext.setCell ?_ ?_ _; rotate_left; (simp only []; omega)) | (with_reducible refine Ext.trans ?_ (by assumption)))))).mark hgE (fun hn x y e1 e2 => by have := T0l.out hn x e1; have := lGM.out y e2; omega)).mark hgF (fun hn x y e1 e2 => by have := T0l.out hn x e1; have := lGC.out y e2; omega))
  replace K0 := (((K0.ext (show Ext _ _ from (by repeat (first | (with_reducible exact Ext.refl _) | (with_reducible assumption) | (with_reducible refine Ext.alloc ?_ _) | (with_reducible refine Ext.drewN ?_ _) | (with_reducible refine Ext.drew ?_) | (with_reducible refine Ext.setCell ?_ ?_ _; rotate_left; (simp only []; omega)) | (with_reducible refine Ext.trans ?_ (by assumption)))))).mark hgE (fun hn x y e1 e2 => by have := K0l.out hn x e1; have := lGM.out y e2; omega)).mark hgF (fun hn x y e1 e2 => by have := K0l.out hn x e1; have := lGC.out y e2; omega))
  replace S0 := (((S0.ext (show Ext _ _ from (by repeat (first | (with_reducible exact Ext.refl _) | (with_reducible assumption) | (with_reducible refine Ext.alloc ?_ _) | (with_reducible refine Ext.drewN ?_ _) | (with_reducible refine Ext.drew ?_) | (with_reducible refine Ext.setCell ?_ ?_ _; rotate_left; (simp only []; omega)) | (with_reducible refine Ext.trans ?_ (by assumption)))))).mark hgE (fun hn x y e1 e2 => by have := S0l.out hn x e1; have := lGM.out y e2; omega)).mark hgF (fun hn x y e1 e2 => by have := S0l.out hn x e1; have := lGC.out y e2; omega))
  replace XU := (((XU.ext (show Ext _ _ from (by repeat (first | (with_reducible exact Ext.refl _) | (with_reducible assumption) | (with_reducible refine Ext.alloc ?_ _) | (with_reducible refine Ext.drewN ?_ _) | (with_reducible refine Ext.drew ?_) | (with_reducible refine Ext.setCell ?_ ?_ _; rotate_left; (simp only []; omega)) | (with_reducible refine Ext.trans ?_ (by assumption)))))).mark hgE (fun x e => by have := lGM.out x e; omega)).mark hgF (fun x e => by have := lGC.out x e; omega))
  replace BG := (((BG.ext (show Ext _ _ from (by repeat (first | (with_reducible exact Ext.refl _) | (with_reducible assumption) | (with_reducible refine Ext.alloc ?_ _) | (with_reducible refine Ext.drewN ?_ _) | (with_reducible refine Ext.drew ?_) | (with_reducible refine Ext.setCell ?_ ?_ _; rotate_left; (simp only []; omega)) | (with_reducible refine Ext.trans ?_ (by assumption)))))).mark hgE (fun x e => by have := lGM.out x e; omega)).mark hgF (fun x e => by have := lGC.out x e; omega))
  replace BP := (((BP.ext (show Ext _ _ from (by repeat (first | (with_reducible exact Ext.refl _) | (with_reducible assumption) | (with_reducible refine Ext.alloc ?_ _) | (with_reducible refine Ext.drewN ?_ _) | (with_reducible refine Ext.drew ?_) | (with_reducible refine Ext.setCell ?_ ?_ _; rotate_left; (simp only []; omega)) | (with_reducible refine Ext.trans ?_ (by assumption)))))).mark hgE (fun x e => by have := lGM.out x e; omega)).mark hgF (fun x e => by have := lGC.out x e; omega))
  replace DW := (((DW.ext (show Ext _ _ from (by repeat (first | (with_reducible exact Ext.refl _) | (with_reducible assumption) | (with_reducible refine Ext.alloc ?_ _) | (with_reducible refine Ext.drewN ?_ _) | (with_reducible refine Ext.drew ?_) | (with_reducible refine Ext.setCell ?_ ?_ _; rotate_left; (simp only []; omega)) | (with_reducible refine Ext.trans ?_ (by assumption)))))).mark hgE (fun x y e1 e2 => by have := lDW.out x e1; have := lGM.out y e2; omega)).mark hgF (fun x y e1 e2 => by have := lDW.out x e1; have := lGC.out y e2; omega))
  replace MW := (((MW.ext (show Ext _ _ from (by repeat (first | (with_reducible exact Ext.refl _) | (with_reducible assumption) | (with_reducible refine Ext.alloc ?_ _) | (with_reducible refine Ext.drewN ?_ _) | (with_reducible refine Ext.drew ?_) | (with_reducible refine Ext.setCell ?_ ?_ _; rotate_left; (simp only []; omega)) | (with_reducible refine Ext.trans ?_ (by assumption)))))).mark hgE (fun x y e1 e2 => by have := lMW.out x e1; have := lGM.out y e2; omega)).mark hgF (fun x y e1 e2 => by have := lMW.out x e1; have := lGC.out y e2; omega))
  replace KW := (((KW.ext (show Ext _ _ from (by repeat (first | (with_reducible exact Ext.refl _) | (with_reducible assumption) | (with_reducible refine Ext.alloc ?_ _) | (with_reducible refine Ext.drewN ?_ _) | (with_reducible refine Ext.drew ?_) | (with_reducible refine Ext.setCell ?_ ?_ _; rotate_left; (simp only []; omega)) | (with_reducible refine Ext.trans ?_ (by assumption)))))).mark hgE (fun x y e1 e2 => by have := lKW.out x e1; have := lGM.out y e2; omega)).mark hgF (fun x y e1 e2 => by have := lKW.out x e1; have := lGC.out y e2; omega))
  replace BW1 := (((BW1.ext (show Ext _ _ from (by repeat (first | (with_reducible exact Ext.refl _) | (with_reducible assumption) | (with_reducible refine Ext.alloc ?_ _) | (with_reducible refine Ext.drewN ?_ _) | (with_reducible refine Ext.drew ?_) | (with_reducible refine Ext.setCell ?_ ?_ _; rotate_left; (simp only []; omega)) | (with_reducible refine Ext.trans ?_ (by assumption)))))).mark hgE (fun x e => by have := lGM.out x e; omega)).mark hgF (fun x e => by have := lGC.out x e; omega))
  replace BW2 := (((BW2.ext (show Ext _ _ from (by repeat (first | (with_reducible exact Ext.refl _) | (with_reducible assumption) | (with_reducible refine Ext.alloc ?_ _) | (with_reducible refine Ext.drewN ?_ _) | (with_reducible refine Ext.drew ?_) | (with_reducible refine Ext.setCell ?_ ?_ _; rotate_left; (simp only []; omega)) | (with_reducible refine Ext.trans ?_ (by assumption)))))).mark hgE (fun x e => by have := lGM.out x e; omega)).mark hgF (fun x e => by have := lGC.out x e; omega))
  replace BY := (((BY.ext (show Ext _ _ from (by repeat (first | (with_reducible exact Ext.refl _) | (with_reducible assumption) | (with_reducible refine Ext.alloc ?_ _) | (with_reducible refine Ext.drewN ?_ _) | (with_reducible refine Ext.drew ?_) | (with_reducible refine Ext.setCell ?_ ?_ _; rotate_left; (simp only []; omega)) | (with_reducible refine Ext.trans ?_ (by assumption)))))).mark hgE (fun x e => by have := lGM.out x e; omega)).mark hgF (fun x e => by have := lGC.out x e; omega))
  replace BY1 := (((BY1.ext (show Ext _ _ from (by repeat (first | (with_reducible exact Ext.refl _) | (with_reducible assumption) | (with_reducible refine Ext.alloc ?_ _) | (with_reducible refine Ext.drewN ?_ _) | (with_reducible refine Ext.drew ?_) | (with_reducible refine Ext.setCell ?_ ?_ _; rotate_left; (simp only []; omega)) | (with_reducible refine Ext.trans ?_ (by assumption)))))).mark hgE (fun x e => by have := lGM.out x e; omega)).mark hgF (fun x e => by have := lGC.out x e; omega))
  replace HD := (((HD.ext (show Ext _ _ from (by repeat (first | (with_reducible exact Ext.refl _) | (with_reducible assumption) | (with_reducible refine Ext.alloc ?_ _) | (with_reducible refine Ext.drewN ?_ _) | (with_reducible refine Ext.drew ?_) | (with_reducible refine Ext.setCell ?_ ?_ _; rotate_left; (simp only []; omega)) | (with_reducible refine Ext.trans ?_ (by assumption)))))).mark hgE (fun x y e1 e2 => aHM x y e1 e2)).mark hgF (fun x y e1 e2 => aHC x y e1 e2))
  clear hgE hgF aHM aHC
  have lHM := lGM
  have lHC := lGC
  have cBG := BG.cells
  have fBG := BG.frozens
  have zBG := BG.lt
  have cBP := BP.cells
  have fBP := BP.frozens
  have zBP := BP.lt
  have cBW1 := BW1.cells
  have fBW1 := BW1.frozens
  have zBW1 := BW1.lt
  have cBW2 := BW2.cells
  have fBW2 := BW2.frozens
  have zBW2 := BW2.lt
  have cBY := BY.cells
  have fBY := BY.frozens
  have zBY := BY.lt
  have cBY1 := BY1.cells
  have fBY1 := BY1.frozens
  have zBY1 := BY1.lt
  go_wp2_with fail
  refine (heldPacket_any _ _ _ _ _ d1 rn z1 1 _ (by exact (HD.sl encI_len).ext (by repeat (first | (with_reducible exact Ext.refl _) | (with_reducible assumption) | (with_reducible refine Ext.alloc ?_ _) | (with_reducible refine Ext.drewN ?_ _) | (with_reducible refine Ext.drew ?_) | (with_reducible refine Ext.setCell ?_ ?_ _; rotate_left; (simp only []; omega)) | (with_reducible refine Ext.trans ?_ (by assumption))))) (by omega) (by omega) (by omega)).mono ?_
  rintro e w19 ⟨rfl, hx19⟩
  have hy19 := hx19.size
  (try simp at hy19)
  have eW19 := useE (fun (h : Ext _ w19) => T0.ext h) (by repeat (first | (with_reducible exact Ext.refl _) | (with_reducible assumption) | (with_reducible refine Ext.alloc ?_ _) | (with_reducible refine Ext.drewN ?_ _) | (with_reducible refine Ext.drew ?_) | (with_reducible refine Ext.setCell ?_ ?_ _; rotate_left; (simp only []; omega)) | (with_reducible refine Ext.trans ?_ (by assumption))))
  replace T0 := T0.ext eW19
  replace K0 := K0.ext eW19
  replace S0 := S0.ext eW19
  clear cBG fBG zBG
  replace BG := BG.ext eW19
  clear cBP fBP zBP
  replace BP := BP.ext eW19
  replace DW := DW.ext eW19
  replace MW := MW.ext eW19
  replace KW := KW.ext eW19
  clear cBW1 fBW1 zBW1
  replace BW1 := BW1.ext eW19
  clear cBW2 fBW2 zBW2
  replace BW2 := BW2.ext eW19
  clear cBY fBY zBY
  replace BY := BY.ext eW19
  clear cBY1 fBY1 zBY1
  replace BY1 := BY1.ext eW19
  replace HD := HD.ext eW19
  replace HM := HM.ext eW19
  replace HC := HC.ext eW19
  replace XU := XU.ext eW19
  have cBG := BG.cells
  have fBG := BG.frozens
  have zBG := BG.lt
  have cBP := BP.cells
  have fBP := BP.frozens
  have zBP := BP.lt
  have cBW1 := BW1.cells
  have fBW1 := BW1.frozens
  have zBW1 := BW1.lt
  have cBW2 := BW2.cells
  have fBW2 := BW2.frozens
  have zBW2 := BW2.lt
  have cBY := BY.cells
  have fBY := BY.frozens
  have zBY := BY.lt
  have cBY1 := BY1.cells
  have fBY1 := BY1.frozens
  have zBY1 := BY1.lt
  go_wp2_with fail
  refine (heldGate_any _ _ _ _ _ _ a1 rt x1 b1 rc y1 (1 + (rn : Int)) _ (by exact (HM.sl encM_len).ext (by repeat (first | (with_reducible exact Ext.refl _) | (with_reducible assumption) | (with_reducible refine Ext.alloc ?_ _) | (with_reducible refine Ext.drewN ?_ _) | (with_reducible refine Ext.drew ?_) | (with_reducible refine Ext.setCell ?_ ?_ _; rotate_left; (simp only []; omega)) | (with_reducible refine Ext.trans ?_ (by assumption))))) (by exact (HC.sl encC_len).ext (by repeat (first | (with_reducible exact Ext.refl _) | (with_reducible assumption) | (with_reducible refine Ext.alloc ?_ _) | (with_reducible refine Ext.drewN ?_ _) | (with_reducible refine Ext.drew ?_) | (with_reducible refine Ext.setCell ?_ ?_ _; rotate_left; (simp only []; omega)) | (with_reducible refine Ext.trans ?_ (by assumption))))) (by omega) (by omega) (by omega) (by omega)).mono ?_
  rintro e w20 ⟨rfl, hx20⟩
  have hy20 := hx20.size
  (try simp at hy20)
  have eW20 := useE (fun (h : Ext _ w20) => T0.ext h) (by repeat (first | (with_reducible exact Ext.refl _) | (with_reducible assumption) | (with_reducible refine Ext.alloc ?_ _) | (with_reducible refine Ext.drewN ?_ _) | (with_reducible refine Ext.drew ?_) | (with_reducible refine Ext.setCell ?_ ?_ _; rotate_left; (simp only []; omega)) | (with_reducible refine Ext.trans ?_ (by assumption))))
  replace T0 := T0.ext eW20
  replace K0 := K0.ext eW20
  replace S0 := S0.ext eW20
  clear cBG fBG zBG
  replace BG := BG.ext eW20
  clear cBP fBP zBP
  replace BP := BP.ext eW20
  replace DW := DW.ext eW20
  replace MW := MW.ext eW20
  replace KW := KW.ext eW20
  clear cBW1 fBW1 zBW1
  replace BW1 := BW1.ext eW20
  clear cBW2 fBW2 zBW2
  replace BW2 := BW2.ext eW20
  clear cBY fBY zBY
  replace BY := BY.ext eW20
  clear cBY1 fBY1 zBY1
  replace BY1 := BY1.ext eW20
  replace HD := HD.ext eW20
  replace HM := HM.ext eW20
  replace HC := HC.ext eW20
  replace XU := XU.ext eW20
  have cBG := BG.cells
  have fBG := BG.frozens
  have zBG := BG.lt
  have cBP := BP.cells
  have fBP := BP.frozens
  have zBP := BP.lt
  have cBW1 := BW1.cells
  have fBW1 := BW1.frozens
  have zBW1 := BW1.lt
  have cBW2 := BW2.cells
  have fBW2 := BW2.frozens
  have zBW2 := BW2.lt
  have cBY := BY.cells
  have fBY := BY.frozens
  have zBY := BY.lt
  have cBY1 := BY1.cells
  have fBY1 := BY1.frozens
  have zBY1 := BY1.lt
  go_wp2_with fail
  clear cBG fBG zBG
  clear cBP fBP zBP
  clear cBW1 fBW1 zBW1
  clear cBW2 fBW2 zBW2
  clear cBY fBY zBY
  clear cBY1 fBY1 zBY1
  have kBG : u.heap.size < w20.heap.size := BG.lt
  have kBP : u.heap.size + 1 < w20.heap.size := BP.lt
  have kDW := Lib.hid (show ∀ x, _ = some x → x.block < w20.heap.size from fun x e => (DW.lt x e).2.1)
  have kMW := Lib.hid (show ∀ x, _ = some x → x.block < w20.heap.size from fun x e => (MW.lt x e).2.1)
  have kKW := Lib.hid (show ∀ x, _ = some x → x.block < w20.heap.size from fun x e => (KW.lt x e).2.1)
  have kBW1 : b1a < w20.heap.size := BW1.lt
  have kBW2 : b2a < w20.heap.size := BW2.lt
  have kBY : w6.heap.size < w20.heap.size := BY.lt
  have kBY1 : w6.heap.size + 1 < w20.heap.size := BY1.lt
  have kHD := Lib.hid (show ∀ x, _ = some x → x.block < w20.heap.size from fun x e => (HD.lt x e).2.1)
  have kHM := Lib.hid (show ∀ x, _ = some x → x.block < w20.heap.size from fun x e => (HM.lt x e).2.1)
  have kHC := Lib.hid (show ∀ x, _ = some x → x.block < w20.heap.size from fun x e => (HC.lt x e).2.1)
  have kU : u.heap.size ≤ w20.heap.size := XU.size
  replace T0 := T0.ext ((Ext.refl _).drew)
  replace K0 := K0.ext ((Ext.refl _).drew)
  replace S0 := S0.ext ((Ext.refl _).drew)
  replace XU := XU.ext ((Ext.refl _).drew)
  replace BG := BG.ext ((Ext.refl _).drew)
  replace BP := BP.ext ((Ext.refl _).drew)
  replace DW := DW.ext ((Ext.refl _).drew)
  replace MW := MW.ext ((Ext.refl _).drew)
  replace KW := KW.ext ((Ext.refl _).drew)
  replace BW1 := BW1.ext ((Ext.refl _).drew)
  replace BW2 := BW2.ext ((Ext.refl _).drew)
  replace BY := BY.ext ((Ext.refl _).drew)
  replace BY1 := BY1.ext ((Ext.refl _).drew)
  replace HD := HD.ext ((Ext.refl _).drew)
  replace HM := HM.ext ((Ext.refl _).drew)
  replace HC := HC.ext ((Ext.refl _).drew)
  have hdrS : ∀ W : World, W.drew.heap.size = W.heap.size := fun _ => rfl
  refine wp_region_float (R := Ext) (base := w20.heap.size) (Ts := [(33, #[.int .i64 0, .int .i64 0, .int .i64 0, .int .i64 0, .int .i64 0, .slice none 0 0]), (28, #[.int .i64 0, .int .i64 0, .int .i64 0, .slice none 0 0, .slice none 0 0, .int .i64 0, .int .i64 0, .int .i64 0])]) [0, 2, 1, 3, 4, 5, 6, 7, 8, 9, 10, 11, 12, 13] (by kernel_rfl) (by kernel_rfl) Ext.refl (fun _ _ _ => Ext.trans) (fun _ _ h => h) (fun _ _ h => h.size) (fun _ _ b _ _ hb hB hR => hB.ext hR) (by intro x hx; simp only [List.mem_cons, List.not_mem_nil, or_false] at hx; rcases hx with rfl | rfl; all_goals (intro wS; kernel_rfl)) (by omega) ?_
  have hdrW := hdrS w20
  generalize w20.drew = v0h at *
  repeat' (first
    | (refine' ChF.pure (v := _) (by rfl) (by rfl) (by rfl) ?_ ?_
       rotate_left
       · (intro wS
          go_simp
          with_reducible rfl)
       (try simp only [Act.put, List.setIfInBounds_toArray, List.set_cons_zero, List.set_cons_succ]))
    | (refine' ChF.quiet (v := _) (by rfl) (by rfl) (by rfl) (by rfl) ?_ ?_
       rotate_left
       · (intro wS hS
          have cG := (BG.ext hS).cells; have cP := (BP.ext hS).cells
          go_simp
          with_reducible rfl)
       (try simp only [Act.put, List.setIfInBounds_toArray, List.set_cons_zero, List.set_cons_succ]))
    | fail)
  refine ChF.call (by rfl) (by rfl) (by rfl) (by rfl) (by rfl) (by intro wS; go_simp; (constructor <;> rfl)) ?_
  intro u1h eu1h
  replace T0 := T0.ext eu1h
  replace K0 := K0.ext eu1h
  replace S0 := S0.ext eu1h
  replace XU := XU.ext eu1h
  replace BG := BG.ext eu1h
  replace BP := BP.ext eu1h
  replace DW := DW.ext eu1h
  replace MW := MW.ext eu1h
  replace KW := KW.ext eu1h
  replace BW1 := BW1.ext eu1h
  replace BW2 := BW2.ext eu1h
  replace BY := BY.ext eu1h
  replace BY1 := BY1.ext eu1h
  replace HD := HD.ext eu1h
  replace HM := HM.ext eu1h
  replace HC := HC.ext eu1h
  have su1h := eu1h.size
  clear eu1h
  refine (toGate_any g ta tn tc ka kn kc _ T0 K0 (by omega) (by omega)).mono ?_
  rintro e v1h ⟨sA, qA, rfl, PA, PB, h1⟩
  refine ⟨_, rfl, h1, ?_⟩
  (try simp only [Act.put, List.setIfInBounds_toArray, List.set_cons_zero, List.set_cons_succ])
  replace T0 := T0.ext h1
  replace K0 := K0.ext h1
  replace S0 := S0.ext h1
  replace XU := XU.ext h1
  replace BG := BG.ext h1
  replace BP := BP.ext h1
  replace DW := DW.ext h1
  replace MW := MW.ext h1
  replace KW := KW.ext h1
  replace BW1 := BW1.ext h1
  replace BW2 := BW2.ext h1
  replace BY := BY.ext h1
  replace BY1 := BY1.ext h1
  replace HD := HD.ext h1
  replace HM := HM.ext h1
  replace HC := HC.ext h1
  have sv1h := h1.size
  clear h1
  repeat' (first
    | (refine' ChF.pure (v := _) (by rfl) (by rfl) (by rfl) ?_ ?_
       rotate_left
       · (intro wS
          go_simp
          with_reducible rfl)
       (try simp only [Act.put, List.setIfInBounds_toArray, List.set_cons_zero, List.set_cons_succ]))
    | (refine' ChF.quiet (v := _) (by rfl) (by rfl) (by rfl) (by rfl) ?_ ?_
       rotate_left
       · (intro wS hS
          skip
          go_simp
          with_reducible rfl)
       (try simp only [Act.put, List.setIfInBounds_toArray, List.set_cons_zero, List.set_cons_succ]))
    | fail)
  refine ChF.call (by rfl) (by rfl) (by rfl) (by rfl) (by rfl) (by intro wS; go_simp; (constructor <;> rfl)) ?_
  intro u2h eu2h
  replace T0 := T0.ext eu2h
  replace K0 := K0.ext eu2h
  replace S0 := S0.ext eu2h
  replace XU := XU.ext eu2h
  replace BG := BG.ext eu2h
  replace BP := BP.ext eu2h
  replace DW := DW.ext eu2h
  replace MW := MW.ext eu2h
  replace KW := KW.ext eu2h
  replace BW1 := BW1.ext eu2h
  replace BW2 := BW2.ext eu2h
  replace BY := BY.ext eu2h
  replace BY1 := BY1.ext eu2h
  replace HD := HD.ext eu2h
  replace HM := HM.ext eu2h
  replace HC := HC.ext eu2h
  replace PA := PA.ext eu2h
  replace PB := PB.ext eu2h
  have su2h := eu2h.size
  clear eu2h
  refine (toPacket_any p.kind p.fr.addr p.fr.port p.to_.addr p.to_.port a n c p.data _ S0 (by omega)).mono ?_
  rintro e v2h ⟨dA, rfl, PD, h2⟩
  refine ⟨_, rfl, h2, ?_⟩
  (try simp only [Act.put, List.setIfInBounds_toArray, List.set_cons_zero, List.set_cons_succ])
  replace T0 := T0.ext h2
  replace K0 := K0.ext h2
  replace S0 := S0.ext h2
  replace XU := XU.ext h2
  replace BG := BG.ext h2
  replace BP := BP.ext h2
  replace DW := DW.ext h2
  replace MW := MW.ext h2
  replace KW := KW.ext h2
  replace BW1 := BW1.ext h2
  replace BW2 := BW2.ext h2
  replace BY := BY.ext h2
  replace BY1 := BY1.ext h2
  replace HD := HD.ext h2
  replace HM := HM.ext h2
  replace HC := HC.ext h2
  replace PA := PA.ext h2
  replace PB := PB.ext h2
  have sv2h := h2.size
  clear h2
  repeat' (first
    | (refine' ChF.pure (v := _) (by rfl) (by rfl) (by rfl) ?_ ?_
       rotate_left
       · (intro wS
          go_simp
          with_reducible rfl)
       (try simp only [Act.put, List.setIfInBounds_toArray, List.set_cons_zero, List.set_cons_succ]))
    | (refine' ChF.quiet (v := _) (by rfl) (by rfl) (by rfl) (by rfl) ?_ ?_
       rotate_left
       · (intro wS hS
          skip
          go_simp
          with_reducible rfl)
       (try simp only [Act.put, List.setIfInBounds_toArray, List.set_cons_zero, List.set_cons_succ]))
    | fail)
  refine ChF.call (by rfl) (by rfl) (by rfl) (by rfl) (by rfl) (by intro wS; go_simp; (constructor <;> rfl)) ?_
  intro u3h eu3h
  replace T0 := T0.ext eu3h
  replace K0 := K0.ext eu3h
  replace S0 := S0.ext eu3h
  replace XU := XU.ext eu3h
  replace BG := BG.ext eu3h
  replace BP := BP.ext eu3h
  replace DW := DW.ext eu3h
  replace MW := MW.ext eu3h
  replace KW := KW.ext eu3h
  replace BW1 := BW1.ext eu3h
  replace BW2 := BW2.ext eu3h
  replace BY := BY.ext eu3h
  replace BY1 := BY1.ext eu3h
  replace HD := HD.ext eu3h
  replace HM := HM.ext eu3h
  replace HC := HC.ext eu3h
  replace PA := PA.ext eu3h
  replace PB := PB.ext eu3h
  replace PD := PD.ext eu3h
  have su3h := eu3h.size
  clear eu3h
  refine (cI.out sA qA dA _ (PA.sl encM_len) (PB.sl encC_len) (PD.sl encI_len)).mono ?_
  rintro e v3h ⟨dH, zH, aH, xH, bH, yH, rfl, DH, MH, KH, h3⟩
  refine ⟨_, rfl, h3, ?_⟩
  (try simp only [Act.put, List.setIfInBounds_toArray, List.set_cons_zero, List.set_cons_succ])
  replace T0 := T0.ext h3
  replace K0 := K0.ext h3
  replace S0 := S0.ext h3
  replace XU := XU.ext h3
  replace BG := BG.ext h3
  replace BP := BP.ext h3
  replace DW := DW.ext h3
  replace MW := MW.ext h3
  replace KW := KW.ext h3
  replace BW1 := BW1.ext h3
  replace BW2 := BW2.ext h3
  replace BY := BY.ext h3
  replace BY1 := BY1.ext h3
  replace HD := HD.ext h3
  replace HM := HM.ext h3
  replace HC := HC.ext h3
  have sv3h := h3.size
  clear h3 PA PB PD
  replace DH := DH.rebase (b' := u.heap.size) (by omega)
  replace MH := MH.rebase (b' := u.heap.size) (by omega)
  replace KH := KH.rebase (b' := u.heap.size) (by omega)
  repeat' (first
    | (refine' ChF.pure (v := _) (by rfl) (by rfl) (by rfl) ?_ ?_
       rotate_left
       · (intro wS
          go_simp
          with_reducible rfl)
       (try simp only [Act.put, List.setIfInBounds_toArray, List.set_cons_zero, List.set_cons_succ]))
    | (refine' ChF.quiet (v := _) (by rfl) (by rfl) (by rfl) (by rfl) ?_ ?_
       rotate_left
       · (intro wS hS
          skip
          go_simp
          with_reducible rfl)
       (try simp only [Act.put, List.setIfInBounds_toArray, List.set_cons_zero, List.set_cons_succ]))
    | fail)
  refine ChF.box (by rfl) (by rfl) (by rfl) ?_
  intro v4h b1h h4 hb1h B1
  replace B1 : Blk v4h b1h 33 #[.int .i64 0, .int .i64 0, .int .i64 0, .int .i64 0, .int .i64 0, .slice none 0 0] := B1
  (try simp only [Act.put, List.setIfInBounds_toArray, List.set_cons_zero, List.set_cons_succ])
  replace T0 := T0.ext h4
  replace K0 := K0.ext h4
  replace S0 := S0.ext h4
  replace XU := XU.ext h4
  replace BG := BG.ext h4
  replace BP := BP.ext h4
  replace DW := DW.ext h4
  replace MW := MW.ext h4
  replace KW := KW.ext h4
  replace BW1 := BW1.ext h4
  replace BW2 := BW2.ext h4
  replace BY := BY.ext h4
  replace BY1 := BY1.ext h4
  replace HD := HD.ext h4
  replace HM := HM.ext h4
  replace HC := HC.ext h4
  replace DH := DH.ext h4
  replace MH := MH.ext h4
  replace KH := KH.ext h4
  have sv4h := h4.size
  clear h4
  repeat' (first
    | (refine' ChF.pure (v := _) (by rfl) (by rfl) (by rfl) ?_ ?_
       rotate_left
       · (intro wS
          go_simp
          with_reducible rfl)
       (try simp only [Act.put, List.setIfInBounds_toArray, List.set_cons_zero, List.set_cons_succ]))
    | (refine' ChF.quiet (v := _) (by rfl) (by rfl) (by rfl) (by rfl) ?_ ?_
       rotate_left
       · (intro wS hS
          skip
          go_simp
          with_reducible rfl)
       (try simp only [Act.put, List.setIfInBounds_toArray, List.set_cons_zero, List.set_cons_succ]))
    | fail)
  refine ChF.box (by rfl) (by rfl) (by rfl) ?_
  intro v5h b2h h5 hb2h B2
  replace B2 : Blk v5h b2h 28 #[.int .i64 0, .int .i64 0, .int .i64 0, .slice none 0 0, .slice none 0 0, .int .i64 0, .int .i64 0, .int .i64 0] := B2
  (try simp only [Act.put, List.setIfInBounds_toArray, List.set_cons_zero, List.set_cons_succ])
  replace T0 := T0.ext h5
  replace K0 := K0.ext h5
  replace S0 := S0.ext h5
  replace XU := XU.ext h5
  replace BG := BG.ext h5
  replace BP := BP.ext h5
  replace DW := DW.ext h5
  replace MW := MW.ext h5
  replace KW := KW.ext h5
  replace BW1 := BW1.ext h5
  replace BW2 := BW2.ext h5
  replace BY := BY.ext h5
  replace BY1 := BY1.ext h5
  replace HD := HD.ext h5
  replace HM := HM.ext h5
  replace HC := HC.ext h5
  replace DH := DH.ext h5
  replace MH := MH.ext h5
  replace KH := KH.ext h5
  replace B1 := B1.ext h5
  have sv5h := h5.size
  clear h5
  have n12h : b1h ≠ b2h := B1.apart B2 (by decide)
  have oDHB1 := DH.apartB B1 (by decide)
  have oMHB1 := MH.apartB B1 (by decide)
  have oKHB1 := KH.apartB B1 (by decide)
  have oDHB2 := DH.apartB B2 (by decide)
  have oMHB2 := MH.apartB B2 (by decide)
  have oKHB2 := KH.apartB B2 (by decide)
  repeat' (first
    | (refine' ChF.pure (v := _) (by rfl) (by rfl) (by rfl) ?_ ?_
       rotate_left
       · (intro wS
          go_simp
          with_reducible rfl)
       (try simp only [Act.put, List.setIfInBounds_toArray, List.set_cons_zero, List.set_cons_succ]))
    | (refine' ChF.quiet (v := _) (by rfl) (by rfl) (by rfl) (by rfl) ?_ ?_
       rotate_left
       · (intro wS hS
          skip
          go_simp
          with_reducible rfl)
       (try simp only [Act.put, List.setIfInBounds_toArray, List.set_cons_zero, List.set_cons_succ]))
    | fail)
  have cB1 := B1.cells
  have fB1 := B1.frozens
  refine ChF.storeP (fun W => RExt b1h v5h W ∧ Blk W b1h 33 (#[.int .i64 P.kind, .int .i64 P.fr.addr, .int .i64 P.fr.port, .int .i64 P.to_.addr, .int .i64 P.to_.port, .slice dH rn zH])) (by rfl) (by rfl) (by rfl) ⟨_, (by go_simp; rfl), (by simp [World.setCell]), (by repeat (first | (with_reducible exact RExt.refl _ _) | (with_reducible refine RExt.putc ?_ _ _))), (by exact B1.put6 _ _ _ _ _ _)⟩ ?_
  (try simp only [Act.put, List.setIfInBounds_toArray, List.set_cons_zero, List.set_cons_succ])
  rintro v6h sv6h ⟨x6, B1'⟩
  clear cB1 fB1 B1
  replace T0 := T0.rextFar x6 (fun hn x e => by have := T0l.out hn x e; omega)
  replace K0 := K0.rextFar x6 (fun hn x e => by have := K0l.out hn x e; omega)
  replace S0 := S0.rextFar x6 (fun hn x e => by have := S0l.out hn x e; omega)
  replace XU := RExt.new XU x6 (by omega)
  replace BG := BG.rext x6 (by omega)
  replace BP := BP.rext x6 (by omega)
  replace DW := DW.rext x6 (fun x e => by have := kDW.out x e; omega)
  replace MW := MW.rext x6 (fun x e => by have := kMW.out x e; omega)
  replace KW := KW.rext x6 (fun x e => by have := kKW.out x e; omega)
  replace BW1 := BW1.rext x6 (by omega)
  replace BW2 := BW2.rext x6 (by omega)
  replace BY := BY.rext x6 (by omega)
  replace BY1 := BY1.rext x6 (by omega)
  replace HD := HD.rext x6 (fun x e => by have := kHD.out x e; omega)
  replace HM := HM.rext x6 (fun x e => by have := kHM.out x e; omega)
  replace HC := HC.rext x6 (fun x e => by have := kHC.out x e; omega)
  replace DH := DH.rext x6 oDHB1
  replace MH := MH.rext x6 oMHB1
  replace KH := KH.rext x6 oKHB1
  replace B2 := B2.rext x6 (by omega)
  clear x6
  repeat' (first
    | (refine' ChF.pure (v := _) (by rfl) (by rfl) (by rfl) ?_ ?_
       rotate_left
       · (intro wS
          go_simp
          with_reducible rfl)
       (try simp only [Act.put, List.setIfInBounds_toArray, List.set_cons_zero, List.set_cons_succ]))
    | (refine' ChF.quiet (v := _) (by rfl) (by rfl) (by rfl) (by rfl) ?_ ?_
       rotate_left
       · (intro wS hS
          skip
          go_simp
          with_reducible rfl)
       (try simp only [Act.put, List.setIfInBounds_toArray, List.set_cons_zero, List.set_cons_succ]))
    | fail)
  have cB2 := B2.cells
  have fB2 := B2.frozens
  refine ChF.storeP (fun W => RExt b2h v6h W ∧ Blk W b2h 28 (#[.int .i64 R.net.base, .int .i64 R.net.bits, .int .i64 R.out, .slice aH rt xH, .slice bH rc yH, .int .i64 R.filter, .int .i64 R.hold, .int .i64 R.now])) (by rfl) (by rfl) (by rfl) ⟨_, (by go_simp; rfl), (by simp [World.setCell]), (by repeat (first | (with_reducible exact RExt.refl _ _) | (with_reducible refine RExt.putc ?_ _ _))), (by exact B2.put8 _ _ _ _ _ _ _ _)⟩ ?_
  (try simp only [Act.put, List.setIfInBounds_toArray, List.set_cons_zero, List.set_cons_succ])
  rintro v7h sv7h ⟨x6, B2'⟩
  clear cB2 fB2 B2
  replace T0 := T0.rextFar x6 (fun hn x e => by have := T0l.out hn x e; omega)
  replace K0 := K0.rextFar x6 (fun hn x e => by have := K0l.out hn x e; omega)
  replace S0 := S0.rextFar x6 (fun hn x e => by have := S0l.out hn x e; omega)
  replace XU := RExt.new XU x6 (by omega)
  replace BG := BG.rext x6 (by omega)
  replace BP := BP.rext x6 (by omega)
  replace DW := DW.rext x6 (fun x e => by have := kDW.out x e; omega)
  replace MW := MW.rext x6 (fun x e => by have := kMW.out x e; omega)
  replace KW := KW.rext x6 (fun x e => by have := kKW.out x e; omega)
  replace BW1 := BW1.rext x6 (by omega)
  replace BW2 := BW2.rext x6 (by omega)
  replace BY := BY.rext x6 (by omega)
  replace BY1 := BY1.rext x6 (by omega)
  replace HD := HD.rext x6 (fun x e => by have := kHD.out x e; omega)
  replace HM := HM.rext x6 (fun x e => by have := kHM.out x e; omega)
  replace HC := HC.rext x6 (fun x e => by have := kHC.out x e; omega)
  replace DH := DH.rext x6 oDHB2
  replace MH := MH.rext x6 oMHB2
  replace KH := KH.rext x6 oKHB2
  replace B1' := B1'.rext x6 (by omega)
  clear x6
  repeat' (first
    | (refine' ChF.pure (v := _) (by rfl) (by rfl) (by rfl) ?_ ?_
       rotate_left
       · (intro wS
          go_simp
          with_reducible rfl)
       (try simp only [Act.put, List.setIfInBounds_toArray, List.set_cons_zero, List.set_cons_succ]))
    | (refine' ChF.quiet (v := _) (by rfl) (by rfl) (by rfl) (by rfl) ?_ ?_
       rotate_left
       · (intro wS hS
          skip
          go_simp
          with_reducible rfl)
       (try simp only [Act.put, List.setIfInBounds_toArray, List.set_cons_zero, List.set_cons_succ]))
    | fail)
  refine ChF.nil ?_
  have BH1 := B1'
  have lBH1 : b1h < v7h.heap.size := B1'.lt
  clear B1'
  have BH2 := B2'
  have lBH2 : b2h < v7h.heap.size := B2'.lt
  clear B2'
  clear kBG
  clear kBP
  clear kBW1
  clear kBW2
  clear kBY
  clear kBY1
  have cBG := BG.cells
  have fBG := BG.frozens
  have zBG := BG.lt
  have cBP := BP.cells
  have fBP := BP.frozens
  have zBP := BP.lt
  have cBW1 := BW1.cells
  have fBW1 := BW1.frozens
  have zBW1 := BW1.lt
  have cBW2 := BW2.cells
  have fBW2 := BW2.frozens
  have zBW2 := BW2.lt
  have cBY := BY.cells
  have fBY := BY.frozens
  have zBY := BY.lt
  have cBY1 := BY1.cells
  have fBY1 := BY1.frozens
  have zBY1 := BY1.lt
  have cBH1 := BH1.cells
  have fBH1 := BH1.frozens
  have zBH1 := BH1.lt
  have cBH2 := BH2.cells
  have fBH2 := BH2.frozens
  have zBH2 := BH2.lt
  go_wp2_with fail
  refine (eqPacket_same _ _ _ _ _ dH dW rn zH zW P.data _ (by exact (DH.sl encI_len).ext (by repeat (first | (with_reducible exact Ext.refl _) | (with_reducible assumption) | (with_reducible refine Ext.alloc ?_ _) | (with_reducible refine Ext.drewN ?_ _) | (with_reducible refine Ext.drew ?_) | (with_reducible refine Ext.setCell ?_ ?_ _; rotate_left; (simp only []; omega)) | (with_reducible refine Ext.trans ?_ (by assumption))))) (by exact (DW.sl encI_len).ext (by repeat (first | (with_reducible exact Ext.refl _) | (with_reducible assumption) | (with_reducible refine Ext.alloc ?_ _) | (with_reducible refine Ext.drewN ?_ _) | (with_reducible refine Ext.drew ?_) | (with_reducible refine Ext.setCell ?_ ?_ _; rotate_left; (simp only []; omega)) | (with_reducible refine Ext.trans ?_ (by assumption)))))).mono ?_
  rintro e w24 ⟨rfl, hx24⟩
  have hy24 := hx24.size
  (try simp at hy24)
  have eW24 := useE (fun (h : Ext _ w24) => T0.ext h) (by repeat (first | (with_reducible exact Ext.refl _) | (with_reducible assumption) | (with_reducible refine Ext.alloc ?_ _) | (with_reducible refine Ext.drewN ?_ _) | (with_reducible refine Ext.drew ?_) | (with_reducible refine Ext.setCell ?_ ?_ _; rotate_left; (simp only []; omega)) | (with_reducible refine Ext.trans ?_ (by assumption))))
  replace T0 := T0.ext eW24
  replace K0 := K0.ext eW24
  replace S0 := S0.ext eW24
  clear cBG fBG zBG
  replace BG := BG.ext eW24
  clear cBP fBP zBP
  replace BP := BP.ext eW24
  replace DW := DW.ext eW24
  replace MW := MW.ext eW24
  replace KW := KW.ext eW24
  clear cBW1 fBW1 zBW1
  replace BW1 := BW1.ext eW24
  clear cBW2 fBW2 zBW2
  replace BW2 := BW2.ext eW24
  clear cBY fBY zBY
  replace BY := BY.ext eW24
  clear cBY1 fBY1 zBY1
  replace BY1 := BY1.ext eW24
  replace HD := HD.ext eW24
  replace HM := HM.ext eW24
  replace HC := HC.ext eW24
  replace DH := DH.ext eW24
  replace MH := MH.ext eW24
  replace KH := KH.ext eW24
  clear cBH1 fBH1 zBH1
  replace BH1 := BH1.ext eW24
  clear cBH2 fBH2 zBH2
  replace BH2 := BH2.ext eW24
  replace XU := XU.ext eW24
  have cBG := BG.cells
  have fBG := BG.frozens
  have zBG := BG.lt
  have cBP := BP.cells
  have fBP := BP.frozens
  have zBP := BP.lt
  have cBW1 := BW1.cells
  have fBW1 := BW1.frozens
  have zBW1 := BW1.lt
  have cBW2 := BW2.cells
  have fBW2 := BW2.frozens
  have zBW2 := BW2.lt
  have cBY := BY.cells
  have fBY := BY.frozens
  have zBY := BY.lt
  have cBY1 := BY1.cells
  have fBY1 := BY1.frozens
  have zBY1 := BY1.lt
  have cBH1 := BH1.cells
  have fBH1 := BH1.frozens
  have zBH1 := BH1.lt
  have cBH2 := BH2.cells
  have fBH2 := BH2.frozens
  have zBH2 := BH2.lt
  go_wp2_with fail
  refine (eqGate_same R aH rt xH bH rc yH aW xW bW yW _ (by exact (MH.sl encM_len).ext (by repeat (first | (with_reducible exact Ext.refl _) | (with_reducible assumption) | (with_reducible refine Ext.alloc ?_ _) | (with_reducible refine Ext.drewN ?_ _) | (with_reducible refine Ext.drew ?_) | (with_reducible refine Ext.setCell ?_ ?_ _; rotate_left; (simp only []; omega)) | (with_reducible refine Ext.trans ?_ (by assumption))))) (by exact (KH.sl encC_len).ext (by repeat (first | (with_reducible exact Ext.refl _) | (with_reducible assumption) | (with_reducible refine Ext.alloc ?_ _) | (with_reducible refine Ext.drewN ?_ _) | (with_reducible refine Ext.drew ?_) | (with_reducible refine Ext.setCell ?_ ?_ _; rotate_left; (simp only []; omega)) | (with_reducible refine Ext.trans ?_ (by assumption))))) (by exact (MW.sl encM_len).ext (by repeat (first | (with_reducible exact Ext.refl _) | (with_reducible assumption) | (with_reducible refine Ext.alloc ?_ _) | (with_reducible refine Ext.drewN ?_ _) | (with_reducible refine Ext.drew ?_) | (with_reducible refine Ext.setCell ?_ ?_ _; rotate_left; (simp only []; omega)) | (with_reducible refine Ext.trans ?_ (by assumption))))) (by exact (KW.sl encC_len).ext (by repeat (first | (with_reducible exact Ext.refl _) | (with_reducible assumption) | (with_reducible refine Ext.alloc ?_ _) | (with_reducible refine Ext.drewN ?_ _) | (with_reducible refine Ext.drew ?_) | (with_reducible refine Ext.setCell ?_ ?_ _; rotate_left; (simp only []; omega)) | (with_reducible refine Ext.trans ?_ (by assumption)))))).mono ?_
  rintro e w25 ⟨rfl, hx25⟩
  have hy25 := hx25.size
  (try simp at hy25)
  have eW25 := useE (fun (h : Ext _ w25) => T0.ext h) (by repeat (first | (with_reducible exact Ext.refl _) | (with_reducible assumption) | (with_reducible refine Ext.alloc ?_ _) | (with_reducible refine Ext.drewN ?_ _) | (with_reducible refine Ext.drew ?_) | (with_reducible refine Ext.setCell ?_ ?_ _; rotate_left; (simp only []; omega)) | (with_reducible refine Ext.trans ?_ (by assumption))))
  replace T0 := T0.ext eW25
  replace K0 := K0.ext eW25
  replace S0 := S0.ext eW25
  clear cBG fBG zBG
  replace BG := BG.ext eW25
  clear cBP fBP zBP
  replace BP := BP.ext eW25
  replace DW := DW.ext eW25
  replace MW := MW.ext eW25
  replace KW := KW.ext eW25
  clear cBW1 fBW1 zBW1
  replace BW1 := BW1.ext eW25
  clear cBW2 fBW2 zBW2
  replace BW2 := BW2.ext eW25
  clear cBY fBY zBY
  replace BY := BY.ext eW25
  clear cBY1 fBY1 zBY1
  replace BY1 := BY1.ext eW25
  replace HD := HD.ext eW25
  replace HM := HM.ext eW25
  replace HC := HC.ext eW25
  replace DH := DH.ext eW25
  replace MH := MH.ext eW25
  replace KH := KH.ext eW25
  clear cBH1 fBH1 zBH1
  replace BH1 := BH1.ext eW25
  clear cBH2 fBH2 zBH2
  replace BH2 := BH2.ext eW25
  replace XU := XU.ext eW25
  have cBG := BG.cells
  have fBG := BG.frozens
  have zBG := BG.lt
  have cBP := BP.cells
  have fBP := BP.frozens
  have zBP := BP.lt
  have cBW1 := BW1.cells
  have fBW1 := BW1.frozens
  have zBW1 := BW1.lt
  have cBW2 := BW2.cells
  have fBW2 := BW2.frozens
  have zBW2 := BW2.lt
  have cBY := BY.cells
  have fBY := BY.frozens
  have zBY := BY.lt
  have cBY1 := BY1.cells
  have fBY1 := BY1.frozens
  have zBY1 := BY1.lt
  have cBH1 := BH1.cells
  have fBH1 := BH1.frozens
  have zBH1 := BH1.lt
  have cBH2 := BH2.cells
  have fBH2 := BH2.frozens
  have zBH2 := BH2.lt
  go_wp2_with fail
  refine (heldPacket_any _ _ _ _ _ d1 rn z1 1 _ (by exact (HD.sl encI_len).ext (by repeat (first | (with_reducible exact Ext.refl _) | (with_reducible assumption) | (with_reducible refine Ext.alloc ?_ _) | (with_reducible refine Ext.drewN ?_ _) | (with_reducible refine Ext.drew ?_) | (with_reducible refine Ext.setCell ?_ ?_ _; rotate_left; (simp only []; omega)) | (with_reducible refine Ext.trans ?_ (by assumption))))) (by omega) (by omega) (by omega)).mono ?_
  rintro e w26 ⟨rfl, hx26⟩
  have hy26 := hx26.size
  (try simp at hy26)
  have eW26 := useE (fun (h : Ext _ w26) => T0.ext h) (by repeat (first | (with_reducible exact Ext.refl _) | (with_reducible assumption) | (with_reducible refine Ext.alloc ?_ _) | (with_reducible refine Ext.drewN ?_ _) | (with_reducible refine Ext.drew ?_) | (with_reducible refine Ext.setCell ?_ ?_ _; rotate_left; (simp only []; omega)) | (with_reducible refine Ext.trans ?_ (by assumption))))
  replace T0 := T0.ext eW26
  replace K0 := K0.ext eW26
  replace S0 := S0.ext eW26
  clear cBG fBG zBG
  replace BG := BG.ext eW26
  clear cBP fBP zBP
  replace BP := BP.ext eW26
  replace DW := DW.ext eW26
  replace MW := MW.ext eW26
  replace KW := KW.ext eW26
  clear cBW1 fBW1 zBW1
  replace BW1 := BW1.ext eW26
  clear cBW2 fBW2 zBW2
  replace BW2 := BW2.ext eW26
  clear cBY fBY zBY
  replace BY := BY.ext eW26
  clear cBY1 fBY1 zBY1
  replace BY1 := BY1.ext eW26
  replace HD := HD.ext eW26
  replace HM := HM.ext eW26
  replace HC := HC.ext eW26
  replace DH := DH.ext eW26
  replace MH := MH.ext eW26
  replace KH := KH.ext eW26
  clear cBH1 fBH1 zBH1
  replace BH1 := BH1.ext eW26
  clear cBH2 fBH2 zBH2
  replace BH2 := BH2.ext eW26
  replace XU := XU.ext eW26
  have cBG := BG.cells
  have fBG := BG.frozens
  have zBG := BG.lt
  have cBP := BP.cells
  have fBP := BP.frozens
  have zBP := BP.lt
  have cBW1 := BW1.cells
  have fBW1 := BW1.frozens
  have zBW1 := BW1.lt
  have cBW2 := BW2.cells
  have fBW2 := BW2.frozens
  have zBW2 := BW2.lt
  have cBY := BY.cells
  have fBY := BY.frozens
  have zBY := BY.lt
  have cBY1 := BY1.cells
  have fBY1 := BY1.frozens
  have zBY1 := BY1.lt
  have cBH1 := BH1.cells
  have fBH1 := BH1.frozens
  have zBH1 := BH1.lt
  have cBH2 := BH2.cells
  have fBH2 := BH2.frozens
  have zBH2 := BH2.lt
  go_wp2_with fail
  refine (heldGate_any _ _ _ _ _ _ a1 rt x1 b1 rc y1 (1 + (rn : Int)) _ (by exact (HM.sl encM_len).ext (by repeat (first | (with_reducible exact Ext.refl _) | (with_reducible assumption) | (with_reducible refine Ext.alloc ?_ _) | (with_reducible refine Ext.drewN ?_ _) | (with_reducible refine Ext.drew ?_) | (with_reducible refine Ext.setCell ?_ ?_ _; rotate_left; (simp only []; omega)) | (with_reducible refine Ext.trans ?_ (by assumption))))) (by exact (HC.sl encC_len).ext (by repeat (first | (with_reducible exact Ext.refl _) | (with_reducible assumption) | (with_reducible refine Ext.alloc ?_ _) | (with_reducible refine Ext.drewN ?_ _) | (with_reducible refine Ext.drew ?_) | (with_reducible refine Ext.setCell ?_ ?_ _; rotate_left; (simp only []; omega)) | (with_reducible refine Ext.trans ?_ (by assumption))))) (by omega) (by omega) (by omega) (by omega)).mono ?_
  rintro e w27 ⟨rfl, hx27⟩
  have hy27 := hx27.size
  (try simp at hy27)
  have eW27 := useE (fun (h : Ext _ w27) => T0.ext h) (by repeat (first | (with_reducible exact Ext.refl _) | (with_reducible assumption) | (with_reducible refine Ext.alloc ?_ _) | (with_reducible refine Ext.drewN ?_ _) | (with_reducible refine Ext.drew ?_) | (with_reducible refine Ext.setCell ?_ ?_ _; rotate_left; (simp only []; omega)) | (with_reducible refine Ext.trans ?_ (by assumption))))
  replace T0 := T0.ext eW27
  replace K0 := K0.ext eW27
  replace S0 := S0.ext eW27
  clear cBG fBG zBG
  replace BG := BG.ext eW27
  clear cBP fBP zBP
  replace BP := BP.ext eW27
  replace DW := DW.ext eW27
  replace MW := MW.ext eW27
  replace KW := KW.ext eW27
  clear cBW1 fBW1 zBW1
  replace BW1 := BW1.ext eW27
  clear cBW2 fBW2 zBW2
  replace BW2 := BW2.ext eW27
  clear cBY fBY zBY
  replace BY := BY.ext eW27
  clear cBY1 fBY1 zBY1
  replace BY1 := BY1.ext eW27
  replace HD := HD.ext eW27
  replace HM := HM.ext eW27
  replace HC := HC.ext eW27
  replace DH := DH.ext eW27
  replace MH := MH.ext eW27
  replace KH := KH.ext eW27
  clear cBH1 fBH1 zBH1
  replace BH1 := BH1.ext eW27
  clear cBH2 fBH2 zBH2
  replace BH2 := BH2.ext eW27
  replace XU := XU.ext eW27
  have cBG := BG.cells
  have fBG := BG.frozens
  have zBG := BG.lt
  have cBP := BP.cells
  have fBP := BP.frozens
  have zBP := BP.lt
  have cBW1 := BW1.cells
  have fBW1 := BW1.frozens
  have zBW1 := BW1.lt
  have cBW2 := BW2.cells
  have fBW2 := BW2.frozens
  have zBW2 := BW2.lt
  have cBY := BY.cells
  have fBY := BY.frozens
  have zBY := BY.lt
  have cBY1 := BY1.cells
  have fBY1 := BY1.frozens
  have zBY1 := BY1.lt
  have cBH1 := BH1.cells
  have fBH1 := BH1.frozens
  have zBH1 := BH1.lt
  have cBH2 := BH2.cells
  have fBH2 := BH2.frozens
  have zBH2 := BH2.lt
  go_wp2
  go_ret
  exact ⟨rfl, XU.trans (show Ext _ _ from (by repeat (first | (with_reducible exact Ext.refl _) | (with_reducible assumption) | (with_reducible refine Ext.alloc ?_ _) | (with_reducible refine Ext.drewN ?_ _) | (with_reducible refine Ext.drew ?_) | (with_reducible refine Ext.setCell ?_ ?_ _; rotate_left; (simp only []; omega)) | (with_reducible refine Ext.trans ?_ (by assumption)))))⟩
theorem law_FnExactReceiveIn (b i o : Int) (ta : Option Addr) (tn tc : Nat) (T : List MapD) (ka : Option Addr) (kn kc : Nat) (K : List ConD) (f d t : Int) (x0 x1 x2 x3 x4 : Int) (a : Option Addr) (n c : Nat) (S : List Int) (u : World) (ht : Sl encM 4 u ta tn tc T) (hk : Sl encC 3 u ka kn kc K) (hs : Sl encI 1 u a n c S) :
    Calls Try.prog 16 #[.agg #[.int .i64 b, .int .i64 i, .int .i64 o, .slice ta tn tc, .slice ka kn kc, .int .i64 f, .int .i64 d, .int .i64 t], .agg #[.int .i64 x0, .int .i64 x1, .int .i64 x2, .int .i64 x3, .int .i64 x4, .slice a n c]] u fun e w' => e = .returned (.bool true) ∧ Ext u w' := by
  have m1 := ht.max
  have m2 := hk.max
  have m3 := hs.max
  have l1 := ht.le
  have l2 := hk.le
  have l3 := hs.le
  obtain ⟨g, hgd⟩ : ∃ g : GateD, g = ⟨⟨b, i⟩, o, T, K, f, d, t⟩ := ⟨_, rfl⟩
  obtain ⟨p, hpd⟩ : ∃ p : PktD, p = ⟨x0, ⟨x1, x2⟩, ⟨x3, x4⟩, S⟩ := ⟨_, rfl⟩
  have e0 : (.agg #[.int .i64 g.net.base, .int .i64 g.net.bits, .int .i64 g.out, .slice ta tn tc, .slice ka kn kc, .int .i64 g.filter, .int .i64 g.hold, .int .i64 g.now]) = (.agg #[.int .i64 b, .int .i64 i, .int .i64 o, .slice ta tn tc, .slice ka kn kc, .int .i64 f, .int .i64 d, .int .i64 t] : Value) := by rw [hgd]
  have e1 : (.agg #[.int .i64 p.kind, .int .i64 p.fr.addr, .int .i64 p.fr.port, .int .i64 p.to_.addr, .int .i64 p.to_.port, .slice a n c]) = (.agg #[.int .i64 x0, .int .i64 x1, .int .i64 x2, .int .i64 x3, .int .i64 x4, .slice a n c] : Value) := by rw [hpd]
  rw [← e0, ← e1]
  replace ht : Sl encM 4 u ta tn tc g.table := by rw [hgd]; exact ht
  replace hk : Sl encC 3 u ka kn kc g.cons := by rw [hgd]; exact hk
  replace hs : Sl encI 1 u a n c p.data := by rw [hpd]; exact hs
  clear e0 e1 hgd hpd
  by_cases hg : (tn : Int) + kn ≤ 1048576
  · by_cases hg2 : (n : Int) ≤ 1048576 - tn - kn
    · obtain ⟨q1, q2, q3⟩ := lens_ReceiveIn g p
      refine law_FnExactReceiveIn_gen g p ta tn tc ka kn kc a n c u ht hk hs hg hg2 (rP (receiveIn g p)) (rG (receiveIn g p)) (receiveIn g p).isSome _ _ _ q1 q2 q3 (fun A B D W h1 h2 h3 => ?_) (fun A B D W h1 h2 h3 => ?_)
      · exact (impl_ReceiveIn g p A tn tn B kn kn D n n W h1 h2 h3).mono fun e w' ⟨d, m, z, a, k, x, b, j, y, h1, h2, h3, h4, h5⟩ => by
          obtain rfl := h2.1
          obtain rfl := h3.1
          obtain rfl := h4.1
          exact ⟨d, z, a, x, b, y, h1, h2, h3, h4, h5⟩
      · exact (spec_ReceiveIn g p A tn tn B kn kn D n n W h1 h2 h3).mono fun e w' ⟨d, m, z, a, k, x, b, j, y, h1, h2, h3, h4, h5⟩ => by
          obtain rfl := h2.1
          obtain rfl := h3.1
          obtain rfl := h4.1
          exact ⟨d, z, a, x, b, y, h1, h2, h3, h4, h5⟩
    · have c1 := fun w => szGate_any g ta tn tc ka kn kc 1048576 w (by omega) (by omega) (by omega) (by omega)
      rw [if_pos hg] at c1
      have c2 := fun w => szPacket_any p.kind p.fr.addr p.fr.port p.to_.addr p.to_.port a n c (1048576 - (tn : Int) - kn) w (by omega) (by omega) (by omega)
      rw [if_neg hg2] at c2
      have hm1 : ¬ (1048576 : Int) - tn - kn < 0 := by omega
      replace c1 := Lib.hid c1
      replace c2 := Lib.hid c2
      have XU := Ext.refl u
      clear ht hk hs
      go_enter Try.func16, Try.ntmps16
      go_wp2_with fail
      refine (c1.out _).mono ?_
      rintro e w1 ⟨rfl, hx1⟩
      have hy1 := hx1.size
      (try simp at hy1)
      have eW1 := useE (fun (h : Ext _ w1) => XU.ext h) (by repeat (first | (with_reducible exact Ext.refl _) | (with_reducible assumption) | (with_reducible refine Ext.alloc ?_ _) | (with_reducible refine Ext.drewN ?_ _) | (with_reducible refine Ext.drew ?_) | (with_reducible refine Ext.setCell ?_ ?_ _; rotate_left; (simp only []; omega)) | (with_reducible refine Ext.trans ?_ (by assumption))))
      have BG : Blk w1 u.heap.size 54 (#[.int .i64 g.net.base, .int .i64 g.net.bits, .int .i64 g.out, .slice ta tn tc, .slice ka kn kc, .int .i64 g.filter, .int .i64 g.hold, .int .i64 g.now]) := by refine Blk.ext ?_ hx1; exact (by repeat (first | (with_reducible assumption) | (with_reducible exact Blk.new _ _ _) | exact Blk.newAt _ _ _ (by simp) | (with_reducible refine Blk.alloc ?_ _) | (with_reducible refine Blk.drew ?_) | (with_reducible refine Blk.drewN ?_ _) | refine Blk.far ?_ (by simp only []; omega) _ | refine Blk.rext ?_ (by assumption) (by omega) | refine Blk.ext ?_ (by assumption)))
      have BP : Blk w1 (u.heap.size+1) 57 (#[.int .i64 p.kind, .int .i64 p.fr.addr, .int .i64 p.fr.port, .int .i64 p.to_.addr, .int .i64 p.to_.port, .slice a n c]) := by refine Blk.ext ?_ hx1; exact (by repeat (first | (with_reducible assumption) | (with_reducible exact Blk.new _ _ _) | exact Blk.newAt _ _ _ (by simp) | (with_reducible refine Blk.alloc ?_ _) | (with_reducible refine Blk.drew ?_) | (with_reducible refine Blk.drewN ?_ _) | refine Blk.far ?_ (by simp only []; omega) _ | refine Blk.rext ?_ (by assumption) (by omega) | refine Blk.ext ?_ (by assumption)))
      replace XU := XU.ext eW1
      have cBG := BG.cells
      have fBG := BG.frozens
      have zBG := BG.lt
      have cBP := BP.cells
      have fBP := BP.frozens
      have zBP := BP.lt
      go_wp2_with fail
      refine (c2.out _).mono ?_
      rintro e w2 ⟨rfl, hx2⟩
      have hy2 := hx2.size
      (try simp at hy2)
      have eW2 := useE (fun (h : Ext _ w2) => XU.ext h) (by repeat (first | (with_reducible exact Ext.refl _) | (with_reducible assumption) | (with_reducible refine Ext.alloc ?_ _) | (with_reducible refine Ext.drewN ?_ _) | (with_reducible refine Ext.drew ?_) | (with_reducible refine Ext.setCell ?_ ?_ _; rotate_left; (simp only []; omega)) | (with_reducible refine Ext.trans ?_ (by assumption))))
      clear cBG fBG zBG
      replace BG := BG.ext eW2
      clear cBP fBP zBP
      replace BP := BP.ext eW2
      replace XU := XU.ext eW2
      have cBG := BG.cells
      have fBG := BG.frozens
      have zBG := BG.lt
      have cBP := BP.cells
      have fBP := BP.frozens
      have zBP := BP.lt
      go_wp2
      go_ret
      exact ⟨rfl, XU.trans (show Ext _ _ from (by repeat (first | (with_reducible exact Ext.refl _) | (with_reducible assumption) | (with_reducible refine Ext.alloc ?_ _) | (with_reducible refine Ext.drewN ?_ _) | (with_reducible refine Ext.drew ?_) | (with_reducible refine Ext.setCell ?_ ?_ _; rotate_left; (simp only []; omega)) | (with_reducible refine Ext.trans ?_ (by assumption)))))⟩
  · have c1 := fun w => szGate_any g ta tn tc ka kn kc 1048576 w (by omega) (by omega) (by omega) (by omega)
    rw [if_neg hg] at c1
    replace c1 := Lib.hid c1
    have XU := Ext.refl u
    clear ht hk hs
    go_enter Try.func16, Try.ntmps16
    go_wp2_with fail
    refine (c1.out _).mono ?_
    rintro e w1 ⟨rfl, hx1⟩
    have hy1 := hx1.size
    (try simp at hy1)
    have eW1 := useE (fun (h : Ext _ w1) => XU.ext h) (by repeat (first | (with_reducible exact Ext.refl _) | (with_reducible assumption) | (with_reducible refine Ext.alloc ?_ _) | (with_reducible refine Ext.drewN ?_ _) | (with_reducible refine Ext.drew ?_) | (with_reducible refine Ext.setCell ?_ ?_ _; rotate_left; (simp only []; omega)) | (with_reducible refine Ext.trans ?_ (by assumption))))
    replace XU := XU.ext eW1
    go_wp2
    go_ret
    exact ⟨rfl, XU.trans (show Ext _ _ from (by repeat (first | (with_reducible exact Ext.refl _) | (with_reducible assumption) | (with_reducible refine Ext.alloc ?_ _) | (with_reducible refine Ext.drewN ?_ _) | (with_reducible refine Ext.drew ?_) | (with_reducible refine Ext.setCell ?_ ?_ _; rotate_left; (simp only []; omega)) | (with_reducible refine Ext.trans ?_ (by assumption)))))⟩
end Go.Proofs.Ytppdcglnopoocaa
