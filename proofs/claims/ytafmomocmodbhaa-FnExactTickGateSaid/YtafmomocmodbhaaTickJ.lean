/- The first package's TickGate. -/
import Derived.Test.YtafmomocmodbhaaTickI
namespace Go.Proofs.Ytafmomocmodbhaa
open Go.RowKit Go.Shelf

theorem impl_ExpiredPorts (a : Option Addr) (n c : Nat) (L : List MapD) (now hold : Int) (w : World) (hs : Sl encM 4 w a n c L) (hn : n ≤ 1000) (hv : validTable L = true) (ht : timer now hold = true) (hl : ∀ m ∈ L, 0 ≤ m.last ∧ m.last ≤ 10000) (h2 : 0 ≤ now) (h3 : now ≤ 10000) :
    Calls Try.prog 65 #[.slice a n c, .int .i64 now, .int .i64 hold] w fun e w' => ∃ a' m, e = .returned (.slice a' m m) ∧ Ow 3 encI 1 w.heap.size w' a' m m (expPorts L now hold) ∧ m ≤ n ∧ Ext w w' := by
  have hle := hs.le
  have hmax := hs.max
  have hlen := hs.len
  have HL := Lib.hid hlen
  have HS := Lib.hid hs
  have HI := Lib.hid hs.maps
  have HLL := Lib.hid hl
  have hv1 := fun W h => impl_timed a n c L now hold W h
  rw [hv, ht] at hv1
  replace hv1 := Lib.hid hv1
  clear hlen hs hl hv ht
  go_enter Try.func65, Try.ntmps65
  go_wp2_with fail
  refine (hv1.out _ (by exact HS.out.ext (by repeat (first | (with_reducible exact Ext.refl _) | (with_reducible assumption) | (with_reducible refine Ext.alloc ?_ _) | (with_reducible refine Ext.drewN ?_ _) | (with_reducible refine Ext.drew ?_) | (with_reducible refine Ext.setCell ?_ ?_ _; rotate_left; (simp only []; omega)) | (with_reducible refine Ext.trans ?_ (by assumption)))))).mono ?_
  rintro e w1 ⟨rfl, hx1⟩
  have X1 : Ext w w1 := (by repeat (first | (with_reducible exact Ext.refl _) | (with_reducible assumption) | (with_reducible refine Ext.alloc ?_ _) | (with_reducible refine Ext.drewN ?_ _) | (with_reducible refine Ext.drew ?_) | (with_reducible refine Ext.setCell ?_ ?_ _; rotate_left; (simp only []; omega)) | (with_reducible refine Ext.trans ?_ (by assumption))))
  have z1 : w.heap.size ≤ w1.heap.size := X1.size
  clear hx1
  go_wp2
  go_loopw [7, 9, 17] (fun v _ i wr => ∃ (k : Nat) (a' : Option Addr) (m c' : Nat) (M : List Int), k ≤ n ∧ i = .int .i64 k ∧ v = .slice a' m c' ∧ m ≤ k ∧ M = expPorts (L.take k) now hold ∧ OwR 3 encI 1 w.heap.size wr a' m c' M ∧ Ext w wr) (fun _ _ i _ => n - (intOf i).toNat)
  case atStart => exact ⟨0, _, 0, 0, [], Nat.zero_le _, rfl, rfl, Nat.le_refl _, rfl, OwR.nil _, X1⟩
  case round =>
    clear X1
    obtain ⟨k, a', m, c', M, hk, rfl, rfl, hmk, hM, hO, hX⟩ := hrel
    by_cases hlt : k < n
    · obtain ⟨_, b, off, rfl, hb, hc⟩ := (HI.out).resolve_left (by omega)
      obtain ⟨d0, d1, d2, d3⟩ := hc k hlt
      rw [← hX.cells _ _ hb] at d0 d1 d2 d3
      have hbr : b < wr.heap.size := by have := hX.size; omega
      have hbw : w.heap.size ≤ wr.heap.size := hX.size
      have hlk := HLL.out _ (nth_mem (l := L) (i := k) (by rw [HL.out]; exact hlt))
      have he := fun W => impl_expired (nth L k) now hold W hlk.1 hlk.2 h2 h3
      have HX := Lib.hid hX
      have HO := Lib.hid hO
      have HM := Lib.hid hM
      clear hc hX hO hM hlk
      cases hexp : expired (nth L k) now hold with
      | false =>
        rw [hexp] at he
        replace he := Lib.hid he
        go_wp2_with fail
        refine (he.out _).mono ?_
        rintro e w2 ⟨rfl, hx2⟩
        go_wp2
        go_roundw
        case rel => exact ⟨k + 1, a', m, c', M, hlt, by go_num, rfl, by omega, by rw [HM.out]; unfold expPorts; rw [filt_drop (by rw [HL.out]; exact hlt) hexp], HO.out.ext (show Ext wr _ from (by repeat (first | (with_reducible exact Ext.refl _) | (with_reducible assumption) | (with_reducible refine Ext.alloc ?_ _) | (with_reducible refine Ext.drewN ?_ _) | (with_reducible refine Ext.drew ?_) | (with_reducible refine Ext.setCell ?_ ?_ _; rotate_left; (simp only []; omega)) | (with_reducible refine Ext.trans ?_ (by assumption))))), (show Ext w wr from HX.out).trans (by repeat (first | (with_reducible exact Ext.refl _) | (with_reducible assumption) | (with_reducible refine Ext.alloc ?_ _) | (with_reducible refine Ext.drewN ?_ _) | (with_reducible refine Ext.drew ?_) | (with_reducible refine Ext.setCell ?_ ?_ _; rotate_left; (simp only []; omega)) | (with_reducible refine Ext.trans ?_ (by assumption))))⟩
        case measure => simp [intOf]; omega
      | true =>
        rw [hexp] at he
        replace he := Lib.hid he
        go_wp2_with fail
        refine (he.out _).mono ?_
        rintro e w2 ⟨rfl, hx2⟩
        have BT : Blk w2 wr.heap.size 102 (encM (nth L k)).toArray := by refine Blk.ext ?_ hx2; exact (by repeat (first | (with_reducible assumption) | (with_reducible exact Blk.new _ _ _) | exact Blk.newAt _ _ _ (by simp) | (with_reducible refine Blk.alloc ?_ _) | (with_reducible refine Blk.drew ?_) | (with_reducible refine Blk.drewN ?_ _) | refine Blk.far ?_ (by simp only []; omega) _ | refine Blk.rext ?_ (by assumption) (by omega) | refine Blk.ext ?_ (by assumption)))
        have cT := BT.cells
        have fT := BT.frozens
        have zT := BT.lt
        have hbw1 : w.heap.size ≤ w2.heap.size := by omega
        have cT2 : w2.cell? ⟨wr.heap.size, 2, none⟩ = some (.int .i64 (nth L k).port) := by rw [cT]; rfl
        clear cT
        go_wp2_with (at_builtin; refine wpList_append_ow _ rfl _ _ rfl eiI encI_len encI_one (by omega) w.heap.size a' m c' M rfl (by exact HO.out.ext (show Ext wr _ from (by repeat (first | (with_reducible exact Ext.refl _) | (with_reducible assumption) | (with_reducible refine Ext.alloc ?_ _) | (with_reducible refine Ext.drewN ?_ _) | (with_reducible refine Ext.drew ?_) | (with_reducible refine Ext.setCell ?_ ?_ _; rotate_left; (simp only []; omega)) | (with_reducible refine Ext.trans ?_ (by assumption)))))) _ 1 1 [(nth L k).port] rfl (by exact Sl.lit1 _ _ (nth L k).port _ rfl rfl) (by omega) (by simp; omega) ?_; intro a3 c3 w3 hO3 hX3 _; replace hX3 := hX3 w ((show Ext w wr from HX.out).trans (by repeat (first | (with_reducible exact Ext.refl _) | (with_reducible assumption) | (with_reducible refine Ext.alloc ?_ _) | (with_reducible refine Ext.drewN ?_ _) | (with_reducible refine Ext.drew ?_) | (with_reducible refine Ext.setCell ?_ ?_ _; rotate_left; (simp only []; omega)) | (with_reducible refine Ext.trans ?_ (by assumption))))) (Nat.le_refl _))
        go_roundw
        case rel => exact ⟨k + 1, a3, m + 1, c3, _, hlt, by go_num, rfl, by omega, by rw [HM.out]; unfold expPorts; rw [filt_keep (by rw [HL.out]; exact hlt) hexp, List.map_append]; rfl, hO3, hX3⟩
        case measure => simp [intOf]; omega
    · have e : k = n := by omega
      subst e
      rw [List.take_of_length_le (by rw [HL.out]; omega)] at hM
      subst hM
      have HX := Lib.hid hX
      have HO := hO.ow encI_len (by omega)
      clear hX hO
      go_wp2_with fail
      refine (Clip_int a' m c' _ _ _ HO (by omega)).mono ?_
      rintro e w2 ⟨rfl, rfl⟩
      go_wp2
      go_ret
      exact ⟨a', m, rfl, HO.clip, hmk, HX.out⟩
set_option maxHeartbeats 2000000 in
theorem impl_copyOf (g : GateD) (ta : Option Addr) (tn tc : Nat) (ka : Option Addr) (kn kc : Nat) (w : World) (ht : Sl encM 4 w ta tn tc g.table) (hk : Sl encC 3 w ka kn kc g.cons) (h1 : tn ≤ 1000) (h2 : kn ≤ 1000) :
    Calls Try.prog 64 #[.agg #[.int .i64 g.net.base, .int .i64 g.net.bits, .int .i64 g.out, .slice ta tn tc, .slice ka kn kc, .int .i64 g.filter, .int .i64 g.hold, .int .i64 g.now]] w fun e w' => ∃ sa qa, e = .returned (.agg #[.int .i64 g.net.base, .int .i64 g.net.bits, .int .i64 g.out, .slice sa tn tn, .slice qa kn kn, .int .i64 g.filter, .int .i64 g.hold, .int .i64 g.now]) ∧ Ow 102 encM 4 w.heap.size w' sa tn tn g.table ∧
      Ow 115 encC 3 w.heap.size w' qa kn kn g.cons ∧ Ext w w' := by
  go_enter Try.func64, Try.ntmps64
  go_wp2_with fail
  go_region_with (first
    | (go_at_call 117; refine (impl_clone_M ta tn tc g.table _ (by exact ht.ext (by repeat (first | (with_reducible exact Ext.refl _) | (with_reducible assumption) | (with_reducible refine Ext.alloc ?_ _) | (with_reducible refine Ext.drewN ?_ _) | (with_reducible refine Ext.drew ?_) | (with_reducible refine Ext.setCell ?_ ?_ _; rotate_left; (simp only []; omega)) | (with_reducible refine Ext.trans ?_ (by assumption))))) (by omega)).mono ?_; rintro e wM ⟨sa, rfl, hOM, hxM⟩; have hcM := hxM.cells; have hfM := hxM.frozens; have hyM := hxM.size; (try simp at hyM); have hzM : w.heap.size < wM.heap.size ∧ w.heap.size + 1 < wM.heap.size := (by omega))
    | (go_at_call 118; refine (impl_clone_C ka kn kc g.cons _ (by exact hk.ext (by repeat (first | (with_reducible exact Ext.refl _) | (with_reducible assumption) | (with_reducible refine Ext.alloc ?_ _) | (with_reducible refine Ext.drewN ?_ _) | (with_reducible refine Ext.drew ?_) | (with_reducible refine Ext.setCell ?_ ?_ _; rotate_left; (simp only []; omega)) | (with_reducible refine Ext.trans ?_ (by assumption))))) (by omega)).mono ?_; rintro e wC ⟨qa, rfl, hOC, hxC⟩; have hcC := hxC.cells; have hfC := hxC.frozens; have hyC := hxC.size; (try simp at hyC); have hzC : w.heap.size < wC.heap.size ∧ w.heap.size + 1 < wC.heap.size := (by omega)))
  all_goals
    have lM := hOM.lt
    have lC := hOC.lt
    have hOM2 := hOM.ext hxC
    have BX : Blk wC w.heap.size 40 (#[.int .i64 g.net.base, .int .i64 g.net.bits, .int .i64 g.out, .slice ta tn tc, .slice ka kn kc, .int .i64 g.filter, .int .i64 g.hold, .int .i64 g.now]) := by refine Blk.ext ?_ hxC; refine Blk.ext ?_ hxM; exact (by repeat (first | (with_reducible assumption) | (with_reducible exact Blk.new _ _ _) | exact Blk.newAt _ _ _ (by simp) | (with_reducible refine Blk.alloc ?_ _) | (with_reducible refine Blk.drew ?_) | (with_reducible refine Blk.drewN ?_ _) | refine Blk.far ?_ (by simp only []; omega) _ | refine Blk.rext ?_ (by assumption) (by omega) | refine Blk.ext ?_ (by assumption)))
    have BR : Blk wC (w.heap.size + 1) 40 #[.int .i64 0, .int .i64 0, .int .i64 0, .slice none 0 0, .slice none 0 0, .int .i64 0, .int .i64 0, .int .i64 0] := by refine Blk.ext ?_ hxC; refine Blk.ext ?_ hxM; exact (by repeat (first | (with_reducible assumption) | (with_reducible exact Blk.new _ _ _) | exact Blk.newAt _ _ _ (by simp) | (with_reducible refine Blk.alloc ?_ _) | (with_reducible refine Blk.drew ?_) | (with_reducible refine Blk.drewN ?_ _) | refine Blk.far ?_ (by simp only []; omega) _ | refine Blk.rext ?_ (by assumption) (by omega) | refine Blk.ext ?_ (by assumption)))
    have XC : Ext w wC := by refine Ext.trans ?_ hxC; exact (by repeat (first | (with_reducible exact Ext.refl _) | (with_reducible assumption) | (with_reducible refine Ext.alloc ?_ _) | (with_reducible refine Ext.drewN ?_ _) | (with_reducible refine Ext.drew ?_) | (with_reducible refine Ext.setCell ?_ ?_ _; rotate_left; (simp only []; omega)) | (with_reducible refine Ext.trans ?_ (by assumption))))
    clear hcC hcM hfM hfC hxC hxM
    have cX := BX.cells
    have fX := BX.frozens
    have cR := BR.cells
    have fR := BR.frozens
    go_wp2
    refine' bodyPost_ret (v := _) ?_ rfl ?_
    rotate_left
    · (simp only [results, Try.results64]
       go_simp
       rfl)
    refine ⟨sa, qa, rfl, ?_, ?_, (by repeat (first | (with_reducible exact Ext.refl _) | (with_reducible assumption) | (with_reducible refine Ext.alloc ?_ _) | (with_reducible refine Ext.drewN ?_ _) | (with_reducible refine Ext.drew ?_) | (with_reducible refine Ext.setCell ?_ ?_ _; rotate_left; (simp only []; omega)) | (with_reducible refine Ext.trans ?_ (by assumption))))⟩
    · refine Ow.rebase (base := w.heap.size + 2) ?_ (by omega)
      repeat (refine Ow.setC ?_ (fun x e => by have := (lM x e).1; simp only []; (try simp at this); omega) _)
      exact hOM2.rebase (by simp)
    · refine Ow.rebase (base := wM.heap.size) ?_ (by omega)
      repeat (refine Ow.setC ?_ (fun x e => by have := (lC x e).1; simp only []; (try simp at this); omega) _)
      exact hOC
theorem impl_TickGate_no (g : GateD) (now : Int) (ta : Option Addr) (tn tc : Nat) (ka : Option Addr) (kn kc : Nat) (w : World) (ht : Sl encM 4 w ta tn tc g.table) (hk : Sl encC 3 w ka kn kc g.cons) (hv : (validGate g && inR now g.now 10000) = false) :
    Calls Try.prog 21 #[.agg #[.int .i64 g.net.base, .int .i64 g.net.bits, .int .i64 g.out, .slice ta tn tc, .slice ka kn kc, .int .i64 g.filter, .int .i64 g.hold, .int .i64 g.now], .int .i64 now] w fun e w' => e = .returned (.tuple #[.agg #[.int .i64 0, .int .i64 0, .int .i64 0, .slice none 0 0, .slice none 0 0, .int .i64 0, .int .i64 0, .int .i64 0], .bool false]) ∧ Ext w w' := by
  have c1 := fun W h1 h2 => impl_ValidGate g ta tn tc ka kn kc W h1 h2
  cases hg : validGate g with
  | false =>
    rw [hg] at c1
    go_enter Try.func21, Try.ntmps21
    go_wp2_with (first | (go_at_call 52; refine (c1 _ (by exact ht.ext (by repeat (first | (with_reducible exact Ext.refl _) | (with_reducible assumption) | (with_reducible refine Ext.alloc ?_ _) | (with_reducible refine Ext.drewN ?_ _) | (with_reducible refine Ext.drew ?_) | (with_reducible refine Ext.setCell ?_ ?_ _; rotate_left; (simp only []; omega)) | (with_reducible refine Ext.trans ?_ (by assumption))))) (by exact hk.ext (by repeat (first | (with_reducible exact Ext.refl _) | (with_reducible assumption) | (with_reducible refine Ext.alloc ?_ _) | (with_reducible refine Ext.drewN ?_ _) | (with_reducible refine Ext.drew ?_) | (with_reducible refine Ext.setCell ?_ ?_ _; rotate_left; (simp only []; omega)) | (with_reducible refine Ext.trans ?_ (by assumption)))))).mono ?_; rintro e w1 ⟨rfl, hx⟩; have hc := hx.cells; have hf := hx.frozens; have hy := hx.size; (try simp at hy); have hz : w.heap.size < w1.heap.size ∧ w.heap.size + 1 < w1.heap.size := (by omega)))
    refine' bodyPost_ret (v := _) ?_ rfl ?_
    rotate_left
    · (simp only [results, Try.results21]
       go_simp
       rfl)
    exact ⟨rfl, (by repeat (first | (with_reducible exact Ext.refl _) | (with_reducible assumption) | (with_reducible refine Ext.alloc ?_ _) | (with_reducible refine Ext.drewN ?_ _) | (with_reducible refine Ext.drew ?_) | (with_reducible refine Ext.setCell ?_ ?_ _; rotate_left; (simp only []; omega)) | (with_reducible refine Ext.trans ?_ (by assumption))))⟩
  | true =>
    have c2 := fun W => impl_in now g.now 10000 W
    have hi : inR now g.now 10000 = false := by simpa [hg] using hv
    rw [hg] at c1
    rw [hi] at c2
    go_enter Try.func21, Try.ntmps21
    go_wp2_with (first | (go_at_call 52; refine (c1 _ (by exact ht.ext (by repeat (first | (with_reducible exact Ext.refl _) | (with_reducible assumption) | (with_reducible refine Ext.alloc ?_ _) | (with_reducible refine Ext.drewN ?_ _) | (with_reducible refine Ext.drew ?_) | (with_reducible refine Ext.setCell ?_ ?_ _; rotate_left; (simp only []; omega)) | (with_reducible refine Ext.trans ?_ (by assumption))))) (by exact hk.ext (by repeat (first | (with_reducible exact Ext.refl _) | (with_reducible assumption) | (with_reducible refine Ext.alloc ?_ _) | (with_reducible refine Ext.drewN ?_ _) | (with_reducible refine Ext.drew ?_) | (with_reducible refine Ext.setCell ?_ ?_ _; rotate_left; (simp only []; omega)) | (with_reducible refine Ext.trans ?_ (by assumption)))))).mono ?_; rintro e w1 ⟨rfl, hx⟩; have hc := hx.cells; have hf := hx.frozens; have hy := hx.size; (try simp at hy); have hz : w.heap.size < w1.heap.size ∧ w.heap.size + 1 < w1.heap.size := (by omega)) | (go_at_call 63; refine (c2 _).mono ?_; rintro e w' ⟨rfl, rfl⟩))
    refine' bodyPost_ret (v := _) ?_ rfl ?_
    rotate_left
    · (simp only [results, Try.results21]
       go_simp
       rfl)
    exact ⟨rfl, (by repeat (first | (with_reducible exact Ext.refl _) | (with_reducible assumption) | (with_reducible refine Ext.alloc ?_ _) | (with_reducible refine Ext.drewN ?_ _) | (with_reducible refine Ext.drew ?_) | (with_reducible refine Ext.setCell ?_ ?_ _; rotate_left; (simp only []; omega)) | (with_reducible refine Ext.trans ?_ (by assumption))))⟩
set_option maxHeartbeats 2000000 in
theorem impl_TickGate_ok (g : GateD) (now : Int) (ta : Option Addr) (tn tc : Nat) (ka : Option Addr) (kn kc : Nat) (w : World) (ht : Sl encM 4 w ta tn tc g.table) (hk : Sl encC 3 w ka kn kc g.cons) (hv : (validGate g && inR now g.now 10000) = true) :
    Calls Try.prog 21 #[.agg #[.int .i64 g.net.base, .int .i64 g.net.bits, .int .i64 g.out, .slice ta tn tc, .slice ka kn kc, .int .i64 g.filter, .int .i64 g.hold, .int .i64 g.now], .int .i64 now] w fun e w' => ∃ sa sn qa qn, e = .returned (.tuple #[.agg #[.int .i64 (tick g now).net.base, .int .i64 (tick g now).net.bits, .int .i64 (tick g now).out, .slice sa sn sn, .slice qa qn qn, .int .i64 (tick g now).filter, .int .i64 (tick g now).hold, .int .i64 (tick g now).now], .bool true]) ∧ Ow 102 encM 4 w.heap.size w' sa sn sn (tick g now).table ∧
      Ow 115 encC 3 w.heap.size w' qa qn qn (tick g now).cons ∧ Ext w w' := by
  have c1 := fun W h1 h2 => impl_ValidGate g ta tn tc ka kn kc W h1 h2
  have c2 := fun W => impl_in now g.now 10000 W
  simp only [Bool.and_eq_true] at hv
  rw [hv.1] at c1
  rw [hv.2] at c2
  have hg := validGate_iff.1 hv.1
  have h0 := (inR_iff.1 hv.2).1
  have h1 := (inR_iff.1 hv.2).2
  have htl := (validTable_iff.1 hg.tab).2.2
  have hkl := (validContacts_iff.1 hg.con).2.2
  have htn : tn ≤ 8 := by have := ht.len; omega
  have hkn : kn ≤ 10 := by have := hk.len; omega
  have htm := Lib.hid (timer_ok hg h0 h1)
  have n0 : 0 ≤ now := by have := hg.now0; omega
  have HLa := Lib.hid (lastOk hg.tab)
  have hvt := Lib.hid hg.tab
  have T0l := Lib.hid (fun (h : 0 < tn) => ht.lt h)
  obtain ⟨P, hP⟩ : ∃ P, P = expPorts g.table now g.hold := ⟨_, rfl⟩
  replace hP := Lib.hid hP
  replace hg := Lib.hid hg
  have T0 := ht
  have K0 := hk
  go_enter Try.func21, Try.ntmps21
  go_wp2_with fail
  refine (c1 _ (by exact ht.ext (by repeat (first | (with_reducible exact Ext.refl _) | (with_reducible assumption) | (with_reducible refine Ext.alloc ?_ _) | (with_reducible refine Ext.drewN ?_ _) | (with_reducible refine Ext.drew ?_) | (with_reducible refine Ext.setCell ?_ ?_ _; rotate_left; (simp only []; omega)) | (with_reducible refine Ext.trans ?_ (by assumption))))) (by exact hk.ext (by repeat (first | (with_reducible exact Ext.refl _) | (with_reducible assumption) | (with_reducible refine Ext.alloc ?_ _) | (with_reducible refine Ext.drewN ?_ _) | (with_reducible refine Ext.drew ?_) | (with_reducible refine Ext.setCell ?_ ?_ _; rotate_left; (simp only []; omega)) | (with_reducible refine Ext.trans ?_ (by assumption)))))).mono ?_
  rintro e w1 ⟨rfl, hx1⟩
  have hy1 := hx1.size
  (try simp at hy1)
  replace T0 := T0.ext (show Ext _ w1 from (by repeat (first | (with_reducible exact Ext.refl _) | (with_reducible assumption) | (with_reducible refine Ext.alloc ?_ _) | (with_reducible refine Ext.drewN ?_ _) | (with_reducible refine Ext.drew ?_) | (with_reducible refine Ext.setCell ?_ ?_ _; rotate_left; (simp only []; omega)) | (with_reducible refine Ext.trans ?_ (by assumption)))))
  replace K0 := K0.ext (show Ext _ w1 from (by repeat (first | (with_reducible exact Ext.refl _) | (with_reducible assumption) | (with_reducible refine Ext.alloc ?_ _) | (with_reducible refine Ext.drewN ?_ _) | (with_reducible refine Ext.drew ?_) | (with_reducible refine Ext.setCell ?_ ?_ _; rotate_left; (simp only []; omega)) | (with_reducible refine Ext.trans ?_ (by assumption)))))
  have BG : Blk w1 w.heap.size 40 (#[.int .i64 g.net.base, .int .i64 g.net.bits, .int .i64 g.out, .slice ta tn tc, .slice ka kn kc, .int .i64 g.filter, .int .i64 g.hold, .int .i64 g.now]) := by refine Blk.ext ?_ hx1; exact (by repeat (first | (with_reducible assumption) | (with_reducible exact Blk.new _ _ _) | exact Blk.newAt _ _ _ (by simp) | (with_reducible refine Blk.alloc ?_ _) | (with_reducible refine Blk.drew ?_) | (with_reducible refine Blk.drewN ?_ _) | refine Blk.far ?_ (by simp only []; omega) _ | refine Blk.rext ?_ (by assumption) (by omega) | refine Blk.ext ?_ (by assumption)))
  have BR : Blk w1 (w.heap.size+1) 40 #[.int .i64 0, .int .i64 0, .int .i64 0, .slice none 0 0, .slice none 0 0, .int .i64 0, .int .i64 0, .int .i64 0] := by refine Blk.ext ?_ hx1; exact (by repeat (first | (with_reducible assumption) | (with_reducible exact Blk.new _ _ _) | exact Blk.newAt _ _ _ (by simp) | (with_reducible refine Blk.alloc ?_ _) | (with_reducible refine Blk.drew ?_) | (with_reducible refine Blk.drewN ?_ _) | refine Blk.far ?_ (by simp only []; omega) _ | refine Blk.rext ?_ (by assumption) (by omega) | refine Blk.ext ?_ (by assumption)))
  have cBG := BG.cells
  have fBG := BG.frozens
  have zBG := BG.lt
  have cBR := BR.cells
  have fBR := BR.frozens
  have zBR := BR.lt
  have X1 : Ext w w1 := (by repeat (first | (with_reducible exact Ext.refl _) | (with_reducible assumption) | (with_reducible refine Ext.alloc ?_ _) | (with_reducible refine Ext.drewN ?_ _) | (with_reducible refine Ext.drew ?_) | (with_reducible refine Ext.setCell ?_ ?_ _; rotate_left; (simp only []; omega)) | (with_reducible refine Ext.trans ?_ (by assumption))))
  clear hx1
  go_wp2_with (go_at_call 63; refine (c2 _).mono ?_; rintro e w' ⟨rfl, rfl⟩)
  refine (impl_copyOf g ta tn tc ka kn kc _ (by exact T0.ext (by repeat (first | (with_reducible exact Ext.refl _) | (with_reducible assumption) | (with_reducible refine Ext.alloc ?_ _) | (with_reducible refine Ext.drewN ?_ _) | (with_reducible refine Ext.drew ?_) | (with_reducible refine Ext.setCell ?_ ?_ _; rotate_left; (simp only []; omega)) | (with_reducible refine Ext.trans ?_ (by assumption))))) (by exact K0.ext (by repeat (first | (with_reducible exact Ext.refl _) | (with_reducible assumption) | (with_reducible refine Ext.alloc ?_ _) | (with_reducible refine Ext.drewN ?_ _) | (with_reducible refine Ext.drew ?_) | (with_reducible refine Ext.setCell ?_ ?_ _; rotate_left; (simp only []; omega)) | (with_reducible refine Ext.trans ?_ (by assumption))))) (by omega) (by omega)).mono ?_
  rintro e w2 ⟨sa, qa, rfl, OM, OC, hx2⟩
  have z2 : w.heap.size + 1 < w2.heap.size := by have := hx2.size; have := BR.lt; (try simp at this); omega
  have lC := Lib.hid (show ∀ x, qa = some x → x.block < w2.heap.size from fun x e => (OC.lt x e).2.1)
  replace T0 := T0.ext (show Ext w1 w2 from (by repeat (first | (with_reducible exact Ext.refl _) | (with_reducible assumption) | (with_reducible refine Ext.alloc ?_ _) | (with_reducible refine Ext.drewN ?_ _) | (with_reducible refine Ext.drew ?_) | (with_reducible refine Ext.setCell ?_ ?_ _; rotate_left; (simp only []; omega)) | (with_reducible refine Ext.trans ?_ (by assumption)))))
  replace BG := BG.ext (show Ext w1 w2 from (by repeat (first | (with_reducible exact Ext.refl _) | (with_reducible assumption) | (with_reducible refine Ext.alloc ?_ _) | (with_reducible refine Ext.drewN ?_ _) | (with_reducible refine Ext.drew ?_) | (with_reducible refine Ext.setCell ?_ ?_ _; rotate_left; (simp only []; omega)) | (with_reducible refine Ext.trans ?_ (by assumption)))))
  replace BR := BR.ext (show Ext w1 w2 from (by repeat (first | (with_reducible exact Ext.refl _) | (with_reducible assumption) | (with_reducible refine Ext.alloc ?_ _) | (with_reducible refine Ext.drewN ?_ _) | (with_reducible refine Ext.drew ?_) | (with_reducible refine Ext.setCell ?_ ?_ _; rotate_left; (simp only []; omega)) | (with_reducible refine Ext.trans ?_ (by assumption)))))
  have X2 : Ext w w2 := X1.trans (by repeat (first | (with_reducible exact Ext.refl _) | (with_reducible assumption) | (with_reducible refine Ext.alloc ?_ _) | (with_reducible refine Ext.drewN ?_ _) | (with_reducible refine Ext.drew ?_) | (with_reducible refine Ext.setCell ?_ ?_ _; rotate_left; (simp only []; omega)) | (with_reducible refine Ext.trans ?_ (by assumption))))
  clear hx2 X1 cBG fBG zBG cBR fBR zBR K0 ht hk OM
  have cBG := BG.cells
  have fBG := BG.frozens
  have zBG := BG.lt
  go_wp2_with fail
  refine (impl_ExpiredPorts ta tn tc g.table now g.hold _ (by exact T0.ext (by repeat (first | (with_reducible exact Ext.refl _) | (with_reducible assumption) | (with_reducible refine Ext.alloc ?_ _) | (with_reducible refine Ext.drewN ?_ _) | (with_reducible refine Ext.drew ?_) | (with_reducible refine Ext.setCell ?_ ?_ _; rotate_left; (simp only []; omega)) | (with_reducible refine Ext.trans ?_ (by assumption))))) (by omega) hvt.out htm.out HLa.out n0 h1).mono ?_
  rintro e w3 ⟨pa, pm, rfl, RP, hpm, hx3⟩
  have BX : Blk w3 w2.heap.size 40 (#[.int .i64 g.net.base, .int .i64 g.net.bits, .int .i64 g.out, .slice sa tn tn, .slice qa kn kn, .int .i64 g.filter, .int .i64 g.hold, .int .i64 now]) := by refine Blk.ext ?_ hx3; exact (by repeat (first | (with_reducible assumption) | (with_reducible exact Blk.new _ _ _) | exact Blk.newAt _ _ _ (by simp) | (with_reducible refine Blk.alloc ?_ _) | (with_reducible refine Blk.drew ?_) | (with_reducible refine Blk.drewN ?_ _) | refine Blk.far ?_ (by simp only []; omega) _ | refine Blk.rext ?_ (by assumption) (by omega) | refine Blk.ext ?_ (by assumption)))
  replace RP := RP.rebase (b' := w2.heap.size + 1) (by (try simp); (try omega))
  rw [← hP.out] at RP
  have X23 : Ext w2 w3 := (by repeat (first | (with_reducible exact Ext.refl _) | (with_reducible assumption) | (with_reducible refine Ext.alloc ?_ _) | (with_reducible refine Ext.drewN ?_ _) | (with_reducible refine Ext.drew ?_) | (with_reducible refine Ext.setCell ?_ ?_ _; rotate_left; (simp only []; omega)) | (with_reducible refine Ext.trans ?_ (by assumption))))
  clear cBG fBG zBG
  replace T0 := T0.ext X23
  replace BG := BG.ext X23
  replace BR := BR.ext X23
  replace OC := (OC.ext X23).rebase (b' := w.heap.size + 2) (by omega)
  have XU := X2.trans X23
  clear hx3 X2 X23
  have lC2 := Lib.hid (show ∀ x, qa = some x → x.block ≠ w2.heap.size from fun x e => by have := lC.out x e; omega)
  clear lC
  generalize w2.heap.size = G at *
  go_wp2
  go_loopw [8, 31] (fun _ i wr => ∃ (k : Nat) (a' : Option Addr) (m : Nat) (M : List ConD), k ≤ pm ∧ i = .int .i64 k ∧ m ≤ 10 ∧ M = (P.take k).foldl without g.cons ∧ Ow 115 encC 3 (w.heap.size + 2) wr a' m m M ∧ (∀ x, a' = some x → x.block ≠ G) ∧
    Blk wr G 40 (#[.int .i64 g.net.base, .int .i64 g.net.bits, .int .i64 g.out, .slice sa tn tn, .slice a' m m, .int .i64 g.filter, .int .i64 g.hold, .int .i64 now]) ∧ Blk wr w.heap.size 40 (#[.int .i64 g.net.base, .int .i64 g.net.bits, .int .i64 g.out, .slice ta tn tc, .slice ka kn kc, .int .i64 g.filter, .int .i64 g.hold, .int .i64 g.now]) ∧ Blk wr (w.heap.size + 1) 40 #[.int .i64 0, .int .i64 0, .int .i64 0, .slice none 0 0, .slice none 0 0, .int .i64 0, .int .i64 0, .int .i64 0] ∧
    Ow 3 encI 1 (G + 1) wr pa pm pm P ∧ Sl encM 4 wr ta tn tc g.table ∧ Ext w wr) (fun _ i _ => pm - (intOf i).toNat)
  case atStart => exact ⟨0, qa, kn, g.cons, Nat.zero_le _, rfl, hkn, rfl, OC, lC2.out, BX, BG, BR, RP, T0, XU⟩
  case round =>
    clear RP OC BX BG BR T0 XU lC2
    obtain ⟨k, a', m, M, hk, rfl, hm, hM, OK, lK, BX, BG, BR, RP, T0, XU⟩ := hrel
    by_cases hlt : k < pm
    · obtain ⟨_, b, off, rfl, hb, hc⟩ := ((RP.sl encI_len).ints).resolve_left (by omega)
      have d0 := hc k hlt
      have hkl : k < P.length := by have := RP.1; omega
      have hM2 := Lib.hid (show without M (nth P k) = (P.take (k + 1)).foldl without g.cons by rw [foldl_take hkl, ← hM])
      have zG : G < wr.heap.size := BX.lt
      replace hM := Lib.hid hM
      clear hc hkl
      have cBX := BX.cells
      have fBX := BX.frozens
      go_wp2_with fail
      refine (impl_without a' m m M (nth P k) _ (by exact ((OK.sl encC_len).ext (by repeat (first | (with_reducible exact Ext.refl _) | (with_reducible assumption) | (with_reducible refine Ext.alloc ?_ _) | (with_reducible refine Ext.drewN ?_ _) | (with_reducible refine Ext.drew ?_) | (with_reducible refine Ext.setCell ?_ ?_ _; rotate_left; (simp only []; omega)) | (with_reducible refine Ext.trans ?_ (by assumption)))))) (by omega)).mono ?_
      rintro e w4 ⟨a2, m2, rfl, hO2, hm2, hx4⟩
      have X4 : Ext wr w4 := (by repeat (first | (with_reducible exact Ext.refl _) | (with_reducible assumption) | (with_reducible refine Ext.alloc ?_ _) | (with_reducible refine Ext.drewN ?_ _) | (with_reducible refine Ext.drew ?_) | (with_reducible refine Ext.setCell ?_ ?_ _; rotate_left; (simp only []; omega)) | (with_reducible refine Ext.trans ?_ (by assumption))))
      clear hx4 cBX fBX
      have lO := hO2.lt
      replace BX := BX.ext X4
      replace BG := BG.ext X4
      replace BR := BR.ext X4
      replace RP := RP.ext X4
      replace T0 := T0.ext X4
      replace XU := XU.trans X4
      clear X4
      have cBX := BX.cells
      have fBX := BX.frozens
      have zBX := BX.lt
      go_wp2
      go_roundw
      case rel =>
        refine ⟨k + 1, a2, m2, without M (nth P k), hlt, by go_num, by omega, hM2.out, ?_, ?_, (BX.set 4 (.slice a2 m2 m2)), BG.far (by simp only []; omega) _, BR.far (by simp only []; omega) _, ?_, ?_, (by repeat (first | (with_reducible exact Ext.refl _) | (with_reducible assumption) | (with_reducible refine Ext.alloc ?_ _) | (with_reducible refine Ext.drewN ?_ _) | (with_reducible refine Ext.drew ?_) | (with_reducible refine Ext.setCell ?_ ?_ _; rotate_left; (simp only []; omega)) | (with_reducible refine Ext.trans ?_ (by assumption))))⟩
        · refine Ow.rebase (base := wr.heap.size) ?_ (by omega)
          refine Ow.setC ?_ (fun x e => by have := (lO x e).1; simp only []; (try simp at this); omega) _
          exact hO2
        · intro x e
          have := (lO x e).1
          (try simp at this)
          omega
        · exact RP.setC (fun x e => by have := (RP.lt x e).1; simp only []; omega) _
        · exact T0.setFar (fun hn x e => by have := T0l.out hn x e; simp only []; omega) _
      case measure => simp [intOf]; omega
    · have e : k = pm := by omega
      subst e
      rw [List.take_of_length_le (by have := RP.1; omega)] at hM
      clear hlt hk RP
      have zG : G < wr.heap.size := BX.lt
      have cBX := BX.cells
      have fBX := BX.frozens
      have zBX := BX.lt
      have cBG := BG.cells
      have fBG := BG.frozens
      have zBG := BG.lt
      have cBR := BR.cells
      have fBR := BR.frozens
      have zBR := BR.lt
      go_wp2_with fail
      refine (impl_ExpireTable ta tn tc g.table now g.hold _ (by exact T0.ext (by repeat (first | (with_reducible exact Ext.refl _) | (with_reducible assumption) | (with_reducible refine Ext.alloc ?_ _) | (with_reducible refine Ext.drewN ?_ _) | (with_reducible refine Ext.drew ?_) | (with_reducible refine Ext.setCell ?_ ?_ _; rotate_left; (simp only []; omega)) | (with_reducible refine Ext.trans ?_ (by assumption))))) (by omega) hvt.out htm.out HLa.out n0 h1).mono ?_
      rintro e w5 ⟨ea, em, rfl, RE, hem, hx5⟩
      have hy5 := hx5.size
      (try simp at hy5)
      replace T0 := T0.ext (show Ext _ w5 from (by repeat (first | (with_reducible exact Ext.refl _) | (with_reducible assumption) | (with_reducible refine Ext.alloc ?_ _) | (with_reducible refine Ext.drewN ?_ _) | (with_reducible refine Ext.drew ?_) | (with_reducible refine Ext.setCell ?_ ?_ _; rotate_left; (simp only []; omega)) | (with_reducible refine Ext.trans ?_ (by assumption)))))
      replace OK := OK.ext (show Ext _ w5 from (by repeat (first | (with_reducible exact Ext.refl _) | (with_reducible assumption) | (with_reducible refine Ext.alloc ?_ _) | (with_reducible refine Ext.drewN ?_ _) | (with_reducible refine Ext.drew ?_) | (with_reducible refine Ext.setCell ?_ ?_ _; rotate_left; (simp only []; omega)) | (with_reducible refine Ext.trans ?_ (by assumption)))))
      clear cBX fBX zBX
      replace BX := BX.ext (show Ext _ w5 from (by repeat (first | (with_reducible exact Ext.refl _) | (with_reducible assumption) | (with_reducible refine Ext.alloc ?_ _) | (with_reducible refine Ext.drewN ?_ _) | (with_reducible refine Ext.drew ?_) | (with_reducible refine Ext.setCell ?_ ?_ _; rotate_left; (simp only []; omega)) | (with_reducible refine Ext.trans ?_ (by assumption)))))
      clear cBG fBG zBG
      replace BG := BG.ext (show Ext _ w5 from (by repeat (first | (with_reducible exact Ext.refl _) | (with_reducible assumption) | (with_reducible refine Ext.alloc ?_ _) | (with_reducible refine Ext.drewN ?_ _) | (with_reducible refine Ext.drew ?_) | (with_reducible refine Ext.setCell ?_ ?_ _; rotate_left; (simp only []; omega)) | (with_reducible refine Ext.trans ?_ (by assumption)))))
      clear cBR fBR zBR
      replace BR := BR.ext (show Ext _ w5 from (by repeat (first | (with_reducible exact Ext.refl _) | (with_reducible assumption) | (with_reducible refine Ext.alloc ?_ _) | (with_reducible refine Ext.drewN ?_ _) | (with_reducible refine Ext.drew ?_) | (with_reducible refine Ext.setCell ?_ ?_ _; rotate_left; (simp only []; omega)) | (with_reducible refine Ext.trans ?_ (by assumption)))))
      replace XU := XU.ext (show Ext _ w5 from (by repeat (first | (with_reducible exact Ext.refl _) | (with_reducible assumption) | (with_reducible refine Ext.alloc ?_ _) | (with_reducible refine Ext.drewN ?_ _) | (with_reducible refine Ext.drew ?_) | (with_reducible refine Ext.setCell ?_ ?_ _; rotate_left; (simp only []; omega)) | (with_reducible refine Ext.trans ?_ (by assumption)))))
      have cBX := BX.cells
      have fBX := BX.frozens
      have zBX := BX.lt
      have cBG := BG.cells
      have fBG := BG.frozens
      have zBG := BG.lt
      have cBR := BR.cells
      have fBR := BR.frozens
      have zBR := BR.lt
      have lE := RE.lt
      go_wp2
      refine' bodyPost_ret (v := _) ?_ rfl ?_
      rotate_left
      · (simp only [results, Try.results21]
         go_simp
         rfl)
      refine ⟨ea, em, a', m, rfl, ?_, ?_, (by repeat (first | (with_reducible exact Ext.refl _) | (with_reducible assumption) | (with_reducible refine Ext.alloc ?_ _) | (with_reducible refine Ext.drewN ?_ _) | (with_reducible refine Ext.drew ?_) | (with_reducible refine Ext.setCell ?_ ?_ _; rotate_left; (simp only []; omega)) | (with_reducible refine Ext.trans ?_ (by assumption))))⟩
      · refine Ow.rebase (base := wr.heap.size) ?_ (by omega)
        repeat (refine Ow.setC ?_ (fun x e => by have := (lE x e).1; simp only []; (try simp at this); omega) _)
        exact RE
      · refine Ow.rebase (base := w.heap.size + 2) ?_ (by omega)
        repeat (refine Ow.setC ?_ (fun x e => by have := (OK.lt x e).1; have := lK x e; simp only []; omega) _)
        rw [hM, hP.out] at OK
        exact OK
end Go.Proofs.Ytafmomocmodbhaa
