/- The second package's TickGate. -/
import Derived.Test.YtafmomocmodbhaaTickS
namespace Go.Proofs.Ytafmomocmodbhaa
open Go.RowKit

theorem foldl_take {ps : List Int} {l : List ConD} {k : Nat} (hk : k < ps.length) : (ps.take (k + 1)).foldl without l = without ((ps.take k).foldl without l) (nth ps k) := by
  rw [take_succ hk, List.foldl_append]
  rfl
theorem timer_ok {g : GateD} (hg : VGate g) {now : Int} (h0 : g.now ≤ now) (h1 : now ≤ 10000) : timer now g.hold = true := by
  have := hg.now0
  have := hg.hold0
  have := hg.hold1
  unfold timer
  simp only [Bool.and_eq_true, inR_iff]
  omega
set_option maxHeartbeats 4000000 in
theorem spec_tick (g : GateD) (now : Int) (ta : Option Addr) (tn tc : Nat) (ka : Option Addr) (kn kc : Nat) (w : World) (ht : Sl encM 4 w ta tn tc g.table) (hk : Sl encC 3 w ka kn kc g.cons) (hg : VGate g) (h0 : g.now ≤ now) (h1 : now ≤ 10000) :
    Calls Try.prog 69 #[.agg #[.int .i64 g.net.base, .int .i64 g.net.bits, .int .i64 g.out, .slice ta tn tc, .slice ka kn kc, .int .i64 g.filter, .int .i64 g.hold, .int .i64 g.now], .int .i64 now] w fun e w' => ∃ sa sn sc qa qn qc, e = .returned (.agg #[.int .i64 (tick g now).net.base, .int .i64 (tick g now).net.bits, .int .i64 (tick g now).out, .slice sa sn sc, .slice qa qn qc, .int .i64 (tick g now).filter, .int .i64 (tick g now).hold, .int .i64 (tick g now).now]) ∧ Ow 102 encM 4 w.heap.size w' sa sn sc (tick g now).table ∧
      Ow 115 encC 3 w.heap.size w' qa qn qc (tick g now).cons ∧ Ext w w' := by
  have htl := (validTable_iff.1 hg.tab).2.2
  have hkl := (validContacts_iff.1 hg.con).2.2
  have htn : tn ≤ 8 := by have := ht.len; omega
  have hkn : kn ≤ 10 := by have := hk.len; omega
  have htm := timer_ok hg h0 h1
  have n0 : 0 ≤ now := by have := hg.now0; omega
  have HLa := Lib.hid (lastOk hg.tab)
  have hvt := Lib.hid hg.tab
  have hvc := Lib.hid hg.con
  have T0l := Lib.hid (fun (h : 0 < tn) => ht.lt h)
  obtain ⟨P, hP⟩ : ∃ P, P = expPorts g.table now g.hold := ⟨_, rfl⟩
  replace hP := Lib.hid hP
  have T0 := ht
  have XU := Ext.refl w
  go_enter Try.func69, Try.ntmps69
  go_wp2_with fail
  refine (spec_copyGate g ta tn tc ka kn kc _ (by exact ht.ext (by repeat (first | (with_reducible exact Ext.refl _) | (with_reducible assumption) | (with_reducible refine Ext.alloc ?_ _) | (with_reducible refine Ext.drewN ?_ _) | (with_reducible refine Ext.drew ?_) | (with_reducible refine Ext.setCell ?_ ?_ _; rotate_left; (simp only []; omega)) | (with_reducible refine Ext.trans ?_ (by assumption))))) (by exact hk.ext (by repeat (first | (with_reducible exact Ext.refl _) | (with_reducible assumption) | (with_reducible refine Ext.alloc ?_ _) | (with_reducible refine Ext.drewN ?_ _) | (with_reducible refine Ext.drew ?_) | (with_reducible refine Ext.setCell ?_ ?_ _; rotate_left; (simp only []; omega)) | (with_reducible refine Ext.trans ?_ (by assumption))))) (by omega) (by omega)).mono ?_
  rintro e w1 ⟨sa, sc, qa, qc, rfl, RT, RK, hx1⟩
  have hy1 := hx1.size
  (try simp at hy1)
  replace T0 := T0.ext (show Ext _ w1 from (by repeat (first | (with_reducible exact Ext.refl _) | (with_reducible assumption) | (with_reducible refine Ext.alloc ?_ _) | (with_reducible refine Ext.drewN ?_ _) | (with_reducible refine Ext.drew ?_) | (with_reducible refine Ext.setCell ?_ ?_ _; rotate_left; (simp only []; omega)) | (with_reducible refine Ext.trans ?_ (by assumption)))))
  have BG : Blk w1 w.heap.size 40 (#[.int .i64 g.net.base, .int .i64 g.net.bits, .int .i64 g.out, .slice ta tn tc, .slice ka kn kc, .int .i64 g.filter, .int .i64 g.hold, .int .i64 g.now]) := by refine Blk.ext ?_ hx1; exact (by repeat (first | (with_reducible assumption) | (with_reducible exact Blk.new _ _ _) | exact Blk.newAt _ _ _ (by simp) | (with_reducible refine Blk.alloc ?_ _) | (with_reducible refine Blk.drew ?_) | (with_reducible refine Blk.drewN ?_ _) | refine Blk.far ?_ (by simp only []; omega) _ | refine Blk.rext ?_ (by assumption) (by omega) | refine Blk.ext ?_ (by assumption)))
  have BR : Blk w1 (w.heap.size+1) 40 #[.int .i64 0, .int .i64 0, .int .i64 0, .slice none 0 0, .slice none 0 0, .int .i64 0, .int .i64 0, .int .i64 0] := by refine Blk.ext ?_ hx1; exact (by repeat (first | (with_reducible assumption) | (with_reducible exact Blk.new _ _ _) | exact Blk.newAt _ _ _ (by simp) | (with_reducible refine Blk.alloc ?_ _) | (with_reducible refine Blk.drew ?_) | (with_reducible refine Blk.drewN ?_ _) | refine Blk.far ?_ (by simp only []; omega) _ | refine Blk.rext ?_ (by assumption) (by omega) | refine Blk.ext ?_ (by assumption)))
  replace XU := XU.ext (show Ext _ w1 from (by repeat (first | (with_reducible exact Ext.refl _) | (with_reducible assumption) | (with_reducible refine Ext.alloc ?_ _) | (with_reducible refine Ext.drewN ?_ _) | (with_reducible refine Ext.drew ?_) | (with_reducible refine Ext.setCell ?_ ?_ _; rotate_left; (simp only []; omega)) | (with_reducible refine Ext.trans ?_ (by assumption)))))
  have cBG := BG.cells
  have fBG := BG.frozens
  have zBG := BG.lt
  have cBR := BR.cells
  have fBR := BR.frozens
  have zBR := BR.lt
  have lK := Lib.hid (show ∀ x, qa = some x → x.block ≠ w1.heap.size from fun x e => by have := (RK.lt x e).2; omega)
  go_wp2_with fail
  refine (spec_ExpiredPorts ta tn tc g.table now g.hold _ (by exact T0.ext (by repeat (first | (with_reducible exact Ext.refl _) | (with_reducible assumption) | (with_reducible refine Ext.alloc ?_ _) | (with_reducible refine Ext.drewN ?_ _) | (with_reducible refine Ext.drew ?_) | (with_reducible refine Ext.setCell ?_ ?_ _; rotate_left; (simp only []; omega)) | (with_reducible refine Ext.trans ?_ (by assumption))))) (by omega) hvt.out htm HLa.out n0 h1).mono ?_
  rintro e w2 ⟨pa, pm, pc, rfl, RP, hpm, hx2⟩
  have hy2 := hx2.size
  (try simp at hy2)
  replace T0 := T0.ext (show Ext _ w2 from (by repeat (first | (with_reducible exact Ext.refl _) | (with_reducible assumption) | (with_reducible refine Ext.alloc ?_ _) | (with_reducible refine Ext.drewN ?_ _) | (with_reducible refine Ext.drew ?_) | (with_reducible refine Ext.setCell ?_ ?_ _; rotate_left; (simp only []; omega)) | (with_reducible refine Ext.trans ?_ (by assumption)))))
  clear cBG fBG zBG
  replace BG := BG.ext (show Ext _ w2 from (by repeat (first | (with_reducible exact Ext.refl _) | (with_reducible assumption) | (with_reducible refine Ext.alloc ?_ _) | (with_reducible refine Ext.drewN ?_ _) | (with_reducible refine Ext.drew ?_) | (with_reducible refine Ext.setCell ?_ ?_ _; rotate_left; (simp only []; omega)) | (with_reducible refine Ext.trans ?_ (by assumption)))))
  clear cBR fBR zBR
  replace BR := BR.ext (show Ext _ w2 from (by repeat (first | (with_reducible exact Ext.refl _) | (with_reducible assumption) | (with_reducible refine Ext.alloc ?_ _) | (with_reducible refine Ext.drewN ?_ _) | (with_reducible refine Ext.drew ?_) | (with_reducible refine Ext.setCell ?_ ?_ _; rotate_left; (simp only []; omega)) | (with_reducible refine Ext.trans ?_ (by assumption)))))
  replace RK := RK.ext (show Ext _ w2 from (by repeat (first | (with_reducible exact Ext.refl _) | (with_reducible assumption) | (with_reducible refine Ext.alloc ?_ _) | (with_reducible refine Ext.drewN ?_ _) | (with_reducible refine Ext.drew ?_) | (with_reducible refine Ext.setCell ?_ ?_ _; rotate_left; (simp only []; omega)) | (with_reducible refine Ext.trans ?_ (by assumption)))))
  have BX : Blk w2 w1.heap.size 40 (#[.int .i64 g.net.base, .int .i64 g.net.bits, .int .i64 g.out, .slice sa tn sc, .slice qa kn qc, .int .i64 g.filter, .int .i64 g.hold, .int .i64 g.now]) := by refine Blk.ext ?_ hx2; exact (by repeat (first | (with_reducible assumption) | (with_reducible exact Blk.new _ _ _) | exact Blk.newAt _ _ _ (by simp) | (with_reducible refine Blk.alloc ?_ _) | (with_reducible refine Blk.drew ?_) | (with_reducible refine Blk.drewN ?_ _) | refine Blk.far ?_ (by simp only []; omega) _ | refine Blk.rext ?_ (by assumption) (by omega) | refine Blk.ext ?_ (by assumption)))
  replace XU := XU.ext (show Ext _ w2 from (by repeat (first | (with_reducible exact Ext.refl _) | (with_reducible assumption) | (with_reducible refine Ext.alloc ?_ _) | (with_reducible refine Ext.drewN ?_ _) | (with_reducible refine Ext.drew ?_) | (with_reducible refine Ext.setCell ?_ ?_ _; rotate_left; (simp only []; omega)) | (with_reducible refine Ext.trans ?_ (by assumption)))))
  have cBG := BG.cells
  have fBG := BG.frozens
  have zBG := BG.lt
  have cBR := BR.cells
  have fBR := BR.frozens
  have zBR := BR.lt
  have cBX := BX.cells
  have fBX := BX.frozens
  have zBX := BX.lt
  replace RP := (RP.ow encI_len (by omega)).rebase (b' := w1.heap.size + 1) (by (try simp); (try omega))
  rw [← hP.out] at RP
  replace RK := (RK.ow encC_len (by omega)).rebase (b' := w.heap.size + 2) (by (try simp); (try omega))
  clear hx1 hx2 RT hk ht
  generalize w1.heap.size = G at *
  clear cBG cBR cBX fBG fBR fBX
  have hGw : w.heap.size + 1 < G := by omega
  go_wp2
  go_loopw [7] (fun i wr => ∃ (k : Nat) (a' : Option Addr) (m c' : Nat) (M : List ConD), k ≤ pm ∧ i = .int .i64 k ∧ m ≤ 10 ∧ M = (P.take k).foldl without g.cons ∧ Ow 115 encC 3 (w.heap.size + 2) wr a' m c' M ∧ (∀ x, a' = some x → x.block ≠ G) ∧
    Blk wr G 40 (#[.int .i64 g.net.base, .int .i64 g.net.bits, .int .i64 g.out, .slice sa tn sc, .slice a' m c', .int .i64 g.filter, .int .i64 g.hold, .int .i64 g.now]) ∧ Blk wr w.heap.size 40 (#[.int .i64 g.net.base, .int .i64 g.net.bits, .int .i64 g.out, .slice ta tn tc, .slice ka kn kc, .int .i64 g.filter, .int .i64 g.hold, .int .i64 g.now]) ∧ Blk wr (w.heap.size + 1) 40 #[.int .i64 0, .int .i64 0, .int .i64 0, .slice none 0 0, .slice none 0 0, .int .i64 0, .int .i64 0, .int .i64 0] ∧
    Ow 3 encI 1 (G + 1) wr pa pm pc P ∧ Sl encM 4 wr ta tn tc g.table ∧ Ext w wr) (fun i _ => pm - (intOf i).toNat)
  case atStart => exact ⟨0, qa, kn, qc, g.cons, Nat.zero_le _, rfl, hkn, rfl, RK, lK.out, BX, BG, BR, RP, T0, XU⟩
  case round =>
    clear RP RK BX BG BR T0 XU zBG zBR zBX lK
    obtain ⟨k, a', m, c', M, hk, rfl, hm, hM, OK, lK, BX, BG, BR, RP, T0, XU⟩ := hrel
    by_cases hlt : k < pm
    · obtain ⟨_, b, off, rfl, hb, hc⟩ := ((RP.sl encI_len).ints).resolve_left (by omega)
      have d0 := hc k hlt
      have hkl : k < P.length := by have := RP.1; omega
      have hMv : validContacts M = true := by rw [hM]; exact validContacts_sub hvc.out (foldl_sub _ _)
      have hM2 := Lib.hid (show without M (nth P k) = (P.take (k + 1)).foldl without g.cons by rw [foldl_take hkl, ← hM])
      have zG : G < wr.heap.size := BX.lt
      have hMv := Lib.hid hMv
      replace hM := Lib.hid hM
      clear hc hkl
      have cBX := BX.cells
      have fBX := BX.frozens
      have nG : b ≠ G := by have := (RP.lt _ rfl).1; simp at this; omega
      go_wp2_with fail
      go_region_with (go_at_call 130; refine (spec_DropContacts a' m c' M (nth P k) _ (by exact ((OK.sl encC_len).ext (by repeat (first | (with_reducible exact Ext.refl _) | (with_reducible assumption) | (with_reducible refine Ext.alloc ?_ _) | (with_reducible refine Ext.drewN ?_ _) | (with_reducible refine Ext.drew ?_) | (with_reducible refine Ext.setCell ?_ ?_ _; rotate_left; (simp only []; omega)) | (with_reducible refine Ext.trans ?_ (by assumption)))))) (by omega) hMv.out).mono ?_; rintro e w3 ⟨a2, m2, c2, rfl, hO2, hm2, hx3⟩; have BX3 := BX.ext (show Ext _ w3 from (by repeat (first | (with_reducible exact Ext.refl _) | (with_reducible assumption) | (with_reducible refine Ext.alloc ?_ _) | (with_reducible refine Ext.drewN ?_ _) | (with_reducible refine Ext.drew ?_) | (with_reducible refine Ext.setCell ?_ ?_ _; rotate_left; (simp only []; omega)) | (with_reducible refine Ext.trans ?_ (by assumption))))); have cBX3 := BX3.cells; have fBX3 := BX3.frozens; have zBX3 := BX3.lt)
      all_goals
        have BG3 := BG.ext (show Ext _ w3 from (by repeat (first | (with_reducible exact Ext.refl _) | (with_reducible assumption) | (with_reducible refine Ext.alloc ?_ _) | (with_reducible refine Ext.drewN ?_ _) | (with_reducible refine Ext.drew ?_) | (with_reducible refine Ext.setCell ?_ ?_ _; rotate_left; (simp only []; omega)) | (with_reducible refine Ext.trans ?_ (by assumption)))))
        have BR3 := BR.ext (show Ext _ w3 from (by repeat (first | (with_reducible exact Ext.refl _) | (with_reducible assumption) | (with_reducible refine Ext.alloc ?_ _) | (with_reducible refine Ext.drewN ?_ _) | (with_reducible refine Ext.drew ?_) | (with_reducible refine Ext.setCell ?_ ?_ _; rotate_left; (simp only []; omega)) | (with_reducible refine Ext.trans ?_ (by assumption)))))
        have RP3 := RP.ext (show Ext _ w3 from (by repeat (first | (with_reducible exact Ext.refl _) | (with_reducible assumption) | (with_reducible refine Ext.alloc ?_ _) | (with_reducible refine Ext.drewN ?_ _) | (with_reducible refine Ext.drew ?_) | (with_reducible refine Ext.setCell ?_ ?_ _; rotate_left; (simp only []; omega)) | (with_reducible refine Ext.trans ?_ (by assumption)))))
        have T3 := T0.ext (show Ext _ w3 from (by repeat (first | (with_reducible exact Ext.refl _) | (with_reducible assumption) | (with_reducible refine Ext.alloc ?_ _) | (with_reducible refine Ext.drewN ?_ _) | (with_reducible refine Ext.drew ?_) | (with_reducible refine Ext.setCell ?_ ?_ _; rotate_left; (simp only []; omega)) | (with_reducible refine Ext.trans ?_ (by assumption)))))
        have lO := hO2.lt
        have hX3 := XU.ext (show Ext _ w3 from (by repeat (first | (with_reducible exact Ext.refl _) | (with_reducible assumption) | (with_reducible refine Ext.alloc ?_ _) | (with_reducible refine Ext.drewN ?_ _) | (with_reducible refine Ext.drew ?_) | (with_reducible refine Ext.setCell ?_ ?_ _; rotate_left; (simp only []; omega)) | (with_reducible refine Ext.trans ?_ (by assumption)))))
        clear hx3
        go_wp2
        go_roundw
        case rel =>
          refine ⟨k + 1, a2, m2, c2, without M (nth P k), hlt, by go_num, by omega, hM2.out, ?_, ?_, (BX3.set 4 (.slice a2 m2 c2)), BG3.far (by simp only []; omega) _, BR3.far (by simp only []; omega) _, ?_, ?_, (by repeat (first | (with_reducible exact Ext.refl _) | (with_reducible assumption) | (with_reducible refine Ext.alloc ?_ _) | (with_reducible refine Ext.drewN ?_ _) | (with_reducible refine Ext.drew ?_) | (with_reducible refine Ext.setCell ?_ ?_ _; rotate_left; (simp only []; omega)) | (with_reducible refine Ext.trans ?_ (by assumption))))⟩
          · refine Ow.rebase (base := wr.heap.size) ?_ (by omega)
            refine Ow.setC ?_ (fun x e => by have := (lO x e).1; simp only []; (try simp at this); omega) _
            exact (hO2.ow encC_len (by omega))
          · intro x e
            have := (lO x e).1
            (try simp at this)
            omega
          · exact RP3.setC (fun x e => by have := (RP3.lt x e).1; simp only []; omega) _
          · exact T3.setFar (fun hn x e => by have := T0l.out hn x e; simp only []; omega) _
        case measure => simp [intOf]; omega
    · have e : k = pm := by omega
      subst e
      rw [List.take_of_length_le (by have := RP.1; omega)] at hM
      clear hlt hk RP
      have zG : G < wr.heap.size := BX.lt
      have cBX := BX.cells
      have fBX := BX.frozens
      have zBX := BX.lt
      have cBG := BG.cells
      have fBG := BG.frozens
      have zBG := BG.lt
      have cBR := BR.cells
      have fBR := BR.frozens
      have zBR := BR.lt
      go_wp2_with fail
      refine (spec_expire ta tn tc g.table now g.hold _ (by exact T0.ext (by repeat (first | (with_reducible exact Ext.refl _) | (with_reducible assumption) | (with_reducible refine Ext.alloc ?_ _) | (with_reducible refine Ext.drewN ?_ _) | (with_reducible refine Ext.drew ?_) | (with_reducible refine Ext.setCell ?_ ?_ _; rotate_left; (simp only []; omega)) | (with_reducible refine Ext.trans ?_ (by assumption))))) (by omega) HLa.out n0 h1).mono ?_
      rintro e w4 ⟨ea, em, ec, rfl, RE, hem, hx4⟩
      have hy4 := hx4.size
      (try simp at hy4)
      replace T0 := T0.ext (show Ext _ w4 from (by repeat (first | (with_reducible exact Ext.refl _) | (with_reducible assumption) | (with_reducible refine Ext.alloc ?_ _) | (with_reducible refine Ext.drewN ?_ _) | (with_reducible refine Ext.drew ?_) | (with_reducible refine Ext.setCell ?_ ?_ _; rotate_left; (simp only []; omega)) | (with_reducible refine Ext.trans ?_ (by assumption)))))
      replace OK := OK.ext (show Ext _ w4 from (by repeat (first | (with_reducible exact Ext.refl _) | (with_reducible assumption) | (with_reducible refine Ext.alloc ?_ _) | (with_reducible refine Ext.drewN ?_ _) | (with_reducible refine Ext.drew ?_) | (with_reducible refine Ext.setCell ?_ ?_ _; rotate_left; (simp only []; omega)) | (with_reducible refine Ext.trans ?_ (by assumption)))))
      clear cBX fBX zBX
      replace BX := BX.ext (show Ext _ w4 from (by repeat (first | (with_reducible exact Ext.refl _) | (with_reducible assumption) | (with_reducible refine Ext.alloc ?_ _) | (with_reducible refine Ext.drewN ?_ _) | (with_reducible refine Ext.drew ?_) | (with_reducible refine Ext.setCell ?_ ?_ _; rotate_left; (simp only []; omega)) | (with_reducible refine Ext.trans ?_ (by assumption)))))
      clear cBG fBG zBG
      replace BG := BG.ext (show Ext _ w4 from (by repeat (first | (with_reducible exact Ext.refl _) | (with_reducible assumption) | (with_reducible refine Ext.alloc ?_ _) | (with_reducible refine Ext.drewN ?_ _) | (with_reducible refine Ext.drew ?_) | (with_reducible refine Ext.setCell ?_ ?_ _; rotate_left; (simp only []; omega)) | (with_reducible refine Ext.trans ?_ (by assumption)))))
      clear cBR fBR zBR
      replace BR := BR.ext (show Ext _ w4 from (by repeat (first | (with_reducible exact Ext.refl _) | (with_reducible assumption) | (with_reducible refine Ext.alloc ?_ _) | (with_reducible refine Ext.drewN ?_ _) | (with_reducible refine Ext.drew ?_) | (with_reducible refine Ext.setCell ?_ ?_ _; rotate_left; (simp only []; omega)) | (with_reducible refine Ext.trans ?_ (by assumption)))))
      replace XU := XU.ext (show Ext _ w4 from (by repeat (first | (with_reducible exact Ext.refl _) | (with_reducible assumption) | (with_reducible refine Ext.alloc ?_ _) | (with_reducible refine Ext.drewN ?_ _) | (with_reducible refine Ext.drew ?_) | (with_reducible refine Ext.setCell ?_ ?_ _; rotate_left; (simp only []; omega)) | (with_reducible refine Ext.trans ?_ (by assumption)))))
      have cBX := BX.cells
      have fBX := BX.frozens
      have zBX := BX.lt
      have cBG := BG.cells
      have fBG := BG.frozens
      have zBG := BG.lt
      have cBR := BR.cells
      have fBR := BR.frozens
      have zBR := BR.lt
      have lE := RE.lt
      go_wp2
      refine' bodyPost_ret (v := _) ?_ rfl ?_
      rotate_left
      · (simp only [results, Try.results69]
         go_simp
         rfl)
      refine ⟨ea, em, ec, a', m, c', rfl, ?_, ?_, (by repeat (first | (with_reducible exact Ext.refl _) | (with_reducible assumption) | (with_reducible refine Ext.alloc ?_ _) | (with_reducible refine Ext.drewN ?_ _) | (with_reducible refine Ext.drew ?_) | (with_reducible refine Ext.setCell ?_ ?_ _; rotate_left; (simp only []; omega)) | (with_reducible refine Ext.trans ?_ (by assumption))))⟩
      · refine Ow.rebase (base := wr.heap.size) ?_ (by omega)
        repeat (refine Ow.setC ?_ (fun x e => by have := (lE x e).1; simp only []; (try simp at this); omega) _)
        exact (RE.ow encM_len (by omega))
      · refine Ow.rebase (base := w.heap.size + 2) ?_ (by omega)
        repeat (refine Ow.setC ?_ (fun x e => by have := (OK.lt x e).1; have := lK x e; simp only []; omega) _)
        rw [hM, hP.out] at OK
        exact OK
theorem spec_TickGate_no (g : GateD) (now : Int) (ta : Option Addr) (tn tc : Nat) (ka : Option Addr) (kn kc : Nat) (w : World) (ht : Sl encM 4 w ta tn tc g.table) (hk : Sl encC 3 w ka kn kc g.cons) (hv : (validGate g && inR now g.now 10000) = false) :
    Calls Try.prog 22 #[.agg #[.int .i64 g.net.base, .int .i64 g.net.bits, .int .i64 g.out, .slice ta tn tc, .slice ka kn kc, .int .i64 g.filter, .int .i64 g.hold, .int .i64 g.now], .int .i64 now] w fun e w' => e = .returned (.tuple #[.agg #[.int .i64 0, .int .i64 0, .int .i64 0, .slice none 0 0, .slice none 0 0, .int .i64 0, .int .i64 0, .int .i64 0], .bool false]) ∧ Ext w w' := by
  have c1 := fun W h1 h2 => spec_validGate g ta tn tc ka kn kc W h1 h2
  cases hg : validGate g with
  | false =>
    rw [hg] at c1
    go_enter Try.func22, Try.ntmps22
    go_wp2_with (first | (go_at_call 42; refine (c1 _ (by exact ht.ext (by repeat (first | (with_reducible exact Ext.refl _) | (with_reducible assumption) | (with_reducible refine Ext.alloc ?_ _) | (with_reducible refine Ext.drewN ?_ _) | (with_reducible refine Ext.drew ?_) | (with_reducible refine Ext.setCell ?_ ?_ _; rotate_left; (simp only []; omega)) | (with_reducible refine Ext.trans ?_ (by assumption))))) (by exact hk.ext (by repeat (first | (with_reducible exact Ext.refl _) | (with_reducible assumption) | (with_reducible refine Ext.alloc ?_ _) | (with_reducible refine Ext.drewN ?_ _) | (with_reducible refine Ext.drew ?_) | (with_reducible refine Ext.setCell ?_ ?_ _; rotate_left; (simp only []; omega)) | (with_reducible refine Ext.trans ?_ (by assumption)))))).mono ?_; rintro e w1 ⟨rfl, hx⟩; have hc := hx.cells; have hf := hx.frozens; have hy := hx.size; (try simp at hy); have hz : w.heap.size < w1.heap.size ∧ w.heap.size + 1 < w1.heap.size := (by omega)))
    refine' bodyPost_ret (v := _) ?_ rfl ?_
    rotate_left
    · (simp only [results, Try.results22]
       go_simp
       rfl)
    exact ⟨rfl, (by repeat (first | (with_reducible exact Ext.refl _) | (with_reducible assumption) | (with_reducible refine Ext.alloc ?_ _) | (with_reducible refine Ext.drewN ?_ _) | (with_reducible refine Ext.drew ?_) | (with_reducible refine Ext.setCell ?_ ?_ _; rotate_left; (simp only []; omega)) | (with_reducible refine Ext.trans ?_ (by assumption))))⟩
  | true =>
    have c2 := fun W => spec_inRange now g.now 10000 W
    have hi : inR now g.now 10000 = false := by simpa [hg] using hv
    rw [hg] at c1
    rw [hi] at c2
    go_enter Try.func22, Try.ntmps22
    go_wp2_with (first | (go_at_call 42; refine (c1 _ (by exact ht.ext (by repeat (first | (with_reducible exact Ext.refl _) | (with_reducible assumption) | (with_reducible refine Ext.alloc ?_ _) | (with_reducible refine Ext.drewN ?_ _) | (with_reducible refine Ext.drew ?_) | (with_reducible refine Ext.setCell ?_ ?_ _; rotate_left; (simp only []; omega)) | (with_reducible refine Ext.trans ?_ (by assumption))))) (by exact hk.ext (by repeat (first | (with_reducible exact Ext.refl _) | (with_reducible assumption) | (with_reducible refine Ext.alloc ?_ _) | (with_reducible refine Ext.drewN ?_ _) | (with_reducible refine Ext.drew ?_) | (with_reducible refine Ext.setCell ?_ ?_ _; rotate_left; (simp only []; omega)) | (with_reducible refine Ext.trans ?_ (by assumption)))))).mono ?_; rintro e w1 ⟨rfl, hx⟩; have hc := hx.cells; have hf := hx.frozens; have hy := hx.size; (try simp at hy); have hz : w.heap.size < w1.heap.size ∧ w.heap.size + 1 < w1.heap.size := (by omega)) | (go_at_call 68; refine (c2 _).mono ?_; rintro e w' ⟨rfl, rfl⟩))
    refine' bodyPost_ret (v := _) ?_ rfl ?_
    rotate_left
    · (simp only [results, Try.results22]
       go_simp
       rfl)
    exact ⟨rfl, (by repeat (first | (with_reducible exact Ext.refl _) | (with_reducible assumption) | (with_reducible refine Ext.alloc ?_ _) | (with_reducible refine Ext.drewN ?_ _) | (with_reducible refine Ext.drew ?_) | (with_reducible refine Ext.setCell ?_ ?_ _; rotate_left; (simp only []; omega)) | (with_reducible refine Ext.trans ?_ (by assumption))))⟩
set_option maxHeartbeats 1000000 in
theorem spec_TickGate_ok (g : GateD) (now : Int) (ta : Option Addr) (tn tc : Nat) (ka : Option Addr) (kn kc : Nat) (w : World) (ht : Sl encM 4 w ta tn tc g.table) (hk : Sl encC 3 w ka kn kc g.cons) (hv : (validGate g && inR now g.now 10000) = true) :
    Calls Try.prog 22 #[.agg #[.int .i64 g.net.base, .int .i64 g.net.bits, .int .i64 g.out, .slice ta tn tc, .slice ka kn kc, .int .i64 g.filter, .int .i64 g.hold, .int .i64 g.now], .int .i64 now] w fun e w' => ∃ sa sn sc qa qn qc, e = .returned (.tuple #[.agg #[.int .i64 (tick g now).net.base, .int .i64 (tick g now).net.bits, .int .i64 (tick g now).out, .slice sa sn sc, .slice qa qn qc, .int .i64 (tick g now).filter, .int .i64 (tick g now).hold, .int .i64 (tick g now).now], .bool true]) ∧ Ow 102 encM 4 w.heap.size w' sa sn sc (tick g now).table ∧
      Ow 115 encC 3 w.heap.size w' qa qn qc (tick g now).cons ∧ Ext w w' := by
  have c1 := fun W h1 h2 => spec_validGate g ta tn tc ka kn kc W h1 h2
  have c2 := fun W => spec_inRange now g.now 10000 W
  simp only [Bool.and_eq_true] at hv
  rw [hv.1] at c1
  rw [hv.2] at c2
  have hg := Lib.hid (validGate_iff.1 hv.1)
  have h0 := (inR_iff.1 hv.2).1
  have h1 := (inR_iff.1 hv.2).2
  obtain ⟨G, hG⟩ : ∃ G, G = tick g now := ⟨_, rfl⟩
  go_enter Try.func22, Try.ntmps22
  go_wp2_with fail
  refine (c1 _ (by exact ht.ext (by repeat (first | (with_reducible exact Ext.refl _) | (with_reducible assumption) | (with_reducible refine Ext.alloc ?_ _) | (with_reducible refine Ext.drewN ?_ _) | (with_reducible refine Ext.drew ?_) | (with_reducible refine Ext.setCell ?_ ?_ _; rotate_left; (simp only []; omega)) | (with_reducible refine Ext.trans ?_ (by assumption))))) (by exact hk.ext (by repeat (first | (with_reducible exact Ext.refl _) | (with_reducible assumption) | (with_reducible refine Ext.alloc ?_ _) | (with_reducible refine Ext.drewN ?_ _) | (with_reducible refine Ext.drew ?_) | (with_reducible refine Ext.setCell ?_ ?_ _; rotate_left; (simp only []; omega)) | (with_reducible refine Ext.trans ?_ (by assumption)))))).mono ?_
  rintro e w1 ⟨rfl, hx1⟩
  have hy1 := hx1.size
  (try simp at hy1)
  replace ht := ht.ext (show Ext _ w1 from (by repeat (first | (with_reducible exact Ext.refl _) | (with_reducible assumption) | (with_reducible refine Ext.alloc ?_ _) | (with_reducible refine Ext.drewN ?_ _) | (with_reducible refine Ext.drew ?_) | (with_reducible refine Ext.setCell ?_ ?_ _; rotate_left; (simp only []; omega)) | (with_reducible refine Ext.trans ?_ (by assumption)))))
  replace hk := hk.ext (show Ext _ w1 from (by repeat (first | (with_reducible exact Ext.refl _) | (with_reducible assumption) | (with_reducible refine Ext.alloc ?_ _) | (with_reducible refine Ext.drewN ?_ _) | (with_reducible refine Ext.drew ?_) | (with_reducible refine Ext.setCell ?_ ?_ _; rotate_left; (simp only []; omega)) | (with_reducible refine Ext.trans ?_ (by assumption)))))
  have BG : Blk w1 w.heap.size 40 (#[.int .i64 g.net.base, .int .i64 g.net.bits, .int .i64 g.out, .slice ta tn tc, .slice ka kn kc, .int .i64 g.filter, .int .i64 g.hold, .int .i64 g.now]) := by refine Blk.ext ?_ hx1; exact (by repeat (first | (with_reducible assumption) | (with_reducible exact Blk.new _ _ _) | exact Blk.newAt _ _ _ (by simp) | (with_reducible refine Blk.alloc ?_ _) | (with_reducible refine Blk.drew ?_) | (with_reducible refine Blk.drewN ?_ _) | refine Blk.far ?_ (by simp only []; omega) _ | refine Blk.rext ?_ (by assumption) (by omega) | refine Blk.ext ?_ (by assumption)))
  have BR : Blk w1 (w.heap.size+1) 40 #[.int .i64 0, .int .i64 0, .int .i64 0, .slice none 0 0, .slice none 0 0, .int .i64 0, .int .i64 0, .int .i64 0] := by refine Blk.ext ?_ hx1; exact (by repeat (first | (with_reducible assumption) | (with_reducible exact Blk.new _ _ _) | exact Blk.newAt _ _ _ (by simp) | (with_reducible refine Blk.alloc ?_ _) | (with_reducible refine Blk.drew ?_) | (with_reducible refine Blk.drewN ?_ _) | refine Blk.far ?_ (by simp only []; omega) _ | refine Blk.rext ?_ (by assumption) (by omega) | refine Blk.ext ?_ (by assumption)))
  have cBG := BG.cells
  have fBG := BG.frozens
  have zBG := BG.lt
  have cBR := BR.cells
  have fBR := BR.frozens
  have zBR := BR.lt
  have X1 : Ext w w1 := (by repeat (first | (with_reducible exact Ext.refl _) | (with_reducible assumption) | (with_reducible refine Ext.alloc ?_ _) | (with_reducible refine Ext.drewN ?_ _) | (with_reducible refine Ext.drew ?_) | (with_reducible refine Ext.setCell ?_ ?_ _; rotate_left; (simp only []; omega)) | (with_reducible refine Ext.trans ?_ (by assumption))))
  go_wp2_with (go_at_call 68; refine (c2 _).mono ?_; rintro e w' ⟨rfl, rfl⟩)
  refine (spec_tick g now ta tn tc ka kn kc _ (by exact ht.ext (by repeat (first | (with_reducible exact Ext.refl _) | (with_reducible assumption) | (with_reducible refine Ext.alloc ?_ _) | (with_reducible refine Ext.drewN ?_ _) | (with_reducible refine Ext.drew ?_) | (with_reducible refine Ext.setCell ?_ ?_ _; rotate_left; (simp only []; omega)) | (with_reducible refine Ext.trans ?_ (by assumption))))) (by exact hk.ext (by repeat (first | (with_reducible exact Ext.refl _) | (with_reducible assumption) | (with_reducible refine Ext.alloc ?_ _) | (with_reducible refine Ext.drewN ?_ _) | (with_reducible refine Ext.drew ?_) | (with_reducible refine Ext.setCell ?_ ?_ _; rotate_left; (simp only []; omega)) | (with_reducible refine Ext.trans ?_ (by assumption))))) hg.out h0 h1).mono ?_
  rintro e w3 ⟨sa, sn, sc, qa, qn, qc, rfl, OM, OC, hx3⟩
  have hy3 := hx3.size
  have lM := OM.lt
  have lC := OC.lt
  (try simp at hy3)
  have X3 : Ext w w3 := (by repeat (first | (with_reducible exact Ext.refl _) | (with_reducible assumption) | (with_reducible refine Ext.alloc ?_ _) | (with_reducible refine Ext.drewN ?_ _) | (with_reducible refine Ext.drew ?_) | (with_reducible refine Ext.setCell ?_ ?_ _; rotate_left; (simp only []; omega)) | (with_reducible refine Ext.trans ?_ (by assumption))))
  replace BR := BR.ext (show Ext w1 w3 from (by repeat (first | (with_reducible exact Ext.refl _) | (with_reducible assumption) | (with_reducible refine Ext.alloc ?_ _) | (with_reducible refine Ext.drewN ?_ _) | (with_reducible refine Ext.drew ?_) | (with_reducible refine Ext.setCell ?_ ?_ _; rotate_left; (simp only []; omega)) | (with_reducible refine Ext.trans ?_ (by assumption)))))
  clear cBR cBG fBR fBG zBR
  have cBR := BR.cells
  have fBR := BR.frozens
  have zBR := BR.lt
  have zw : w.heap.size + 1 < w1.heap.size := by (try simp at hy1); omega
  go_wp2
  refine' bodyPost_ret (v := _) ?_ rfl ?_
  rotate_left
  · (simp only [results, Try.results22]
     go_simp
     rfl)
  refine ⟨sa, sn, sc, qa, qn, qc, rfl, ?_, ?_, (by repeat (first | (with_reducible exact Ext.refl _) | (with_reducible assumption) | (with_reducible refine Ext.alloc ?_ _) | (with_reducible refine Ext.drewN ?_ _) | (with_reducible refine Ext.drew ?_) | (with_reducible refine Ext.setCell ?_ ?_ _; rotate_left; (simp only []; omega)) | (with_reducible refine Ext.trans ?_ (by assumption))))⟩
  · refine Ow.rebase (base := w1.heap.size) ?_ (by omega)
    repeat (refine Ow.setC ?_ (fun x e => by have := (lM x e).1; simp only []; (try simp at this); omega) _)
    exact OM
  · refine Ow.rebase (base := w1.heap.size) ?_ (by omega)
    repeat (refine Ow.setC ?_ (fun x e => by have := (lC x e).1; simp only []; (try simp at this); omega) _)
    exact OC
end Go.Proofs.Ytafmomocmodbhaa
