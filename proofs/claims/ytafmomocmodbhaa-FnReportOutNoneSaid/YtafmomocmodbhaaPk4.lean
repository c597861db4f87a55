/- Part 4 of the words, laws and contracts that the claims of this seat share, joined from their texts. No condition. -/
import Derived.Test.YtafmomocmodbhaaPk3
/- The first package's TickGate. -/
namespace Go.Proofs.Ytafmomocmodbhaa
set_option linter.unusedVariables false
set_option linter.unusedSimpArgs false
open Go.RowKit Go.Shelf

theorem impl_ExpiredPorts (a : Option Addr) (n c : Nat) (L : List MapD) (now hold : Int) (w : World) (hs : Sl encM 4 w a n c L) (hn : n ≤ 1000) (hv : validTable L = true) (ht : timer now hold = true) (hl : ∀ m ∈ L, 0 ≤ m.last ∧ m.last ≤ 10000) (h2 : 0 ≤ now) (h3 : now ≤ 10000) :
    Calls Try.prog 65 #[.slice a n c, .int .i64 now, .int .i64 hold] w fun e w' => ∃ a' m, e = .returned (.slice a' m m) ∧ Ow 3 encI 1 w.heap.size w' a' m m (expPorts L now hold) ∧ m ≤ n ∧ Ext w w' := by
  have hle := hs.le
  have hmax := hs.max
  have hlen := hs.len
  have HL := Lib.hid hlen
  have HS := Lib.hid hs
  have HI := Lib.hid hs.maps
  have HLL := Lib.hid hl
  have hv1 := fun W h => impl_timed a n c L now hold W h
  rw [hv, ht] at hv1
  replace hv1 := Lib.hid hv1
  clear hlen hs hl hv ht
  go_enter Try.func65, Try.ntmps65
  go_wp2_with fail
  refine (hv1.out _ (by exact HS.out.ext (by repeat (first | (with_reducible exact Ext.refl _) | (with_reducible assumption) | (with_reducible refine Ext.alloc ?_ _) | (with_reducible refine Ext.drewN ?_ _) | (with_reducible refine Ext.drew ?_) | (with_reducible refine Ext.setCell ?_ ?_ _; rotate_left; (simp only []; omega)) | (with_reducible refine Ext.trans ?_ (by assumption)))))).mono ?_
  rintro e w1 ⟨rfl, hx1⟩
  have X1 : Ext w w1 := (by repeat (first | (with_reducible exact Ext.refl _) | (with_reducible assumption) | (with_reducible refine Ext.alloc ?_ _) | (with_reducible refine Ext.drewN ?_ _) | (with_reducible refine Ext.drew ?_) | (with_reducible refine Ext.setCell ?_ ?_ _; rotate_left; (simp only []; omega)) | (with_reducible refine Ext.trans ?_ (by assumption))))
  have z1 : w.heap.size ≤ w1.heap.size := X1.size
  clear hx1
  go_wp2
  go_loopw [7, 9, 17] (fun v _ i wr => ∃ (k : Nat) (a' : Option Addr) (m c' : Nat) (M : List Int), k ≤ n ∧ i = .int .i64 k ∧ v = .slice a' m c' ∧ m ≤ k ∧ M = expPorts (L.take k) now hold ∧ OwR 3 encI 1 w.heap.size wr a' m c' M ∧ Ext w wr) (fun _ _ i _ => n - (intOf i).toNat)
  case atStart => exact ⟨0, _, 0, 0, [], Nat.zero_le _, rfl, rfl, Nat.le_refl _, rfl, OwR.nil _, X1⟩
  case round =>
    clear X1
    obtain ⟨k, a', m, c', M, hk, rfl, rfl, hmk, hM, hO, hX⟩ := hrel
    by_cases hlt : k < n
    · obtain ⟨_, b, off, rfl, hb, hc⟩ := (HI.out).resolve_left (by omega)
      obtain ⟨d0, d1, d2, d3⟩ := hc k hlt
      rw [← hX.cells _ _ hb] at d0 d1 d2 d3
      have hbr : b < wr.heap.size := by have := hX.size; omega
      have hbw : w.heap.size ≤ wr.heap.size := hX.size
      have hlk := HLL.out _ (nth_mem (l := L) (i := k) (by rw [HL.out]; exact hlt))
      have he := fun W => impl_expired (nth L k) now hold W hlk.1 hlk.2 h2 h3
      have HX := Lib.hid hX
      have HO := Lib.hid hO
      have HM := Lib.hid hM
      clear hc hX hO hM hlk
      cases hexp : expired (nth L k) now hold with
      | false =>
        rw [hexp] at he
        replace he := Lib.hid he
        go_wp2_with fail
        refine (he.out _).mono ?_
        rintro e w2 ⟨rfl, hx2⟩
        go_wp2
        go_roundw
        case rel => exact ⟨k + 1, a', m, c', M, hlt, by go_num, rfl, by omega, by rw [HM.out]; unfold expPorts; rw [filt_drop (by rw [HL.out]; exact hlt) hexp], HO.out.ext (show Ext wr _ from (by repeat (first | (with_reducible exact Ext.refl _) | (with_reducible assumption) | (with_reducible refine Ext.alloc ?_ _) | (with_reducible refine Ext.drewN ?_ _) | (with_reducible refine Ext.drew ?_) | (with_reducible refine Ext.setCell ?_ ?_ _; rotate_left; (simp only []; omega)) | (with_reducible refine Ext.trans ?_ (by assumption))))), (show Ext w wr from HX.out).trans (by repeat (first | (with_reducible exact Ext.refl _) | (with_reducible assumption) | (with_reducible refine Ext.alloc ?_ _) | (with_reducible refine Ext.drewN ?_ _) | (with_reducible refine Ext.drew ?_) | (with_reducible refine Ext.setCell ?_ ?_ _; rotate_left; (simp only []; omega)) | (with_reducible refine Ext.trans ?_ (by assumption))))⟩
        case measure => simp [intOf]; omega
      | true =>
        rw [hexp] at he
        replace he := Lib.hid he
        go_wp2_with fail
        refine (he.out _).mono ?_
        rintro e w2 ⟨rfl, hx2⟩
        have BT : Blk w2 wr.heap.size 102 (encM (nth L k)).toArray := by refine Blk.ext ?_ hx2; exact (by repeat (first | (with_reducible assumption) | (with_reducible exact Blk.new _ _ _) | exact Blk.newAt _ _ _ (by simp) | (with_reducible refine Blk.alloc ?_ _) | (with_reducible refine Blk.drew ?_) | (with_reducible refine Blk.drewN ?_ _) | refine Blk.far ?_ (by simp only []; omega) _ | refine Blk.rext ?_ (by assumption) (by omega) | refine Blk.ext ?_ (by assumption)))
        have cT := BT.cells
        have fT := BT.frozens
        have zT := BT.lt
        have hbw1 : w.heap.size ≤ w2.heap.size := by omega
        have cT2 : w2.cell? ⟨wr.heap.size, 2, none⟩ = some (.int .i64 (nth L k).port) := by rw [cT]; rfl
        clear cT
        go_wp2_with (at_builtin; refine wpList_append_ow _ rfl _ _ rfl eiI encI_len encI_one (by omega) w.heap.size a' m c' M rfl (by exact HO.out.ext (show Ext wr _ from (by repeat (first | (with_reducible exact Ext.refl _) | (with_reducible assumption) | (with_reducible refine Ext.alloc ?_ _) | (with_reducible refine Ext.drewN ?_ _) | (with_reducible refine Ext.drew ?_) | (with_reducible refine Ext.setCell ?_ ?_ _; rotate_left; (simp only []; omega)) | (with_reducible refine Ext.trans ?_ (by assumption)))))) _ 1 1 [(nth L k).port] rfl (by exact Sl.lit1 _ _ (nth L k).port _ rfl rfl) (by omega) (by simp; omega) ?_; intro a3 c3 w3 hO3 hX3 _; replace hX3 := hX3 w ((show Ext w wr from HX.out).trans (by repeat (first | (with_reducible exact Ext.refl _) | (with_reducible assumption) | (with_reducible refine Ext.alloc ?_ _) | (with_reducible refine Ext.drewN ?_ _) | (with_reducible refine Ext.drew ?_) | (with_reducible refine Ext.setCell ?_ ?_ _; rotate_left; (simp only []; omega)) | (with_reducible refine Ext.trans ?_ (by assumption))))) (Nat.le_refl _))
        go_roundw
        case rel => exact ⟨k + 1, a3, m + 1, c3, _, hlt, by go_num, rfl, by omega, by rw [HM.out]; unfold expPorts; rw [filt_keep (by rw [HL.out]; exact hlt) hexp, List.map_append]; rfl, hO3, hX3⟩
        case measure => simp [intOf]; omega
    · have e : k = n := by omega
      subst e
      rw [List.take_of_length_le (by rw [HL.out]; omega)] at hM
      subst hM
      have HX := Lib.hid hX
      have HO := hO.ow encI_len (by omega)
      clear hX hO
      go_wp2_with fail
      refine (Clip_int a' m c' _ _ _ HO (by omega)).mono ?_
      rintro e w2 ⟨rfl, rfl⟩
      go_wp2
      go_ret
      exact ⟨a', m, rfl, HO.clip, hmk, HX.out⟩
set_option maxHeartbeats 2000000 in
theorem impl_copyOf (g : GateD) (ta : Option Addr) (tn tc : Nat) (ka : Option Addr) (kn kc : Nat) (w : World) (ht : Sl encM 4 w ta tn tc g.table) (hk : Sl encC 3 w ka kn kc g.cons) (h1 : tn ≤ 1000) (h2 : kn ≤ 1000) :
    Calls Try.prog 64 #[.agg #[.int .i64 g.net.base, .int .i64 g.net.bits, .int .i64 g.out, .slice ta tn tc, .slice ka kn kc, .int .i64 g.filter, .int .i64 g.hold, .int .i64 g.now]] w fun e w' => ∃ sa qa, e = .returned (.agg #[.int .i64 g.net.base, .int .i64 g.net.bits, .int .i64 g.out, .slice sa tn tn, .slice qa kn kn, .int .i64 g.filter, .int .i64 g.hold, .int .i64 g.now]) ∧ Ow 102 encM 4 w.heap.size w' sa tn tn g.table ∧
      Ow 115 encC 3 w.heap.size w' qa kn kn g.cons ∧ Ext w w' := by
  go_enter Try.func64, Try.ntmps64
  go_wp2_with fail
  go_region_with (first
    | (go_at_call 117; refine (impl_clone_M ta tn tc g.table _ (by exact ht.ext (by repeat (first | (with_reducible exact Ext.refl _) | (with_reducible assumption) | (with_reducible refine Ext.alloc ?_ _) | (with_reducible refine Ext.drewN ?_ _) | (with_reducible refine Ext.drew ?_) | (with_reducible refine Ext.setCell ?_ ?_ _; rotate_left; (simp only []; omega)) | (with_reducible refine Ext.trans ?_ (by assumption))))) (by omega)).mono ?_; rintro e wM ⟨sa, rfl, hOM, hxM⟩; have hcM := hxM.cells; have hfM := hxM.frozens; have hyM := hxM.size; (try simp at hyM); have hzM : w.heap.size < wM.heap.size ∧ w.heap.size + 1 < wM.heap.size := (by omega))
    | (go_at_call 118; refine (impl_clone_C ka kn kc g.cons _ (by exact hk.ext (by repeat (first | (with_reducible exact Ext.refl _) | (with_reducible assumption) | (with_reducible refine Ext.alloc ?_ _) | (with_reducible refine Ext.drewN ?_ _) | (with_reducible refine Ext.drew ?_) | (with_reducible refine Ext.setCell ?_ ?_ _; rotate_left; (simp only []; omega)) | (with_reducible refine Ext.trans ?_ (by assumption))))) (by omega)).mono ?_; rintro e wC ⟨qa, rfl, hOC, hxC⟩; have hcC := hxC.cells; have hfC := hxC.frozens; have hyC := hxC.size; (try simp at hyC); have hzC : w.heap.size < wC.heap.size ∧ w.heap.size + 1 < wC.heap.size := (by omega)))
  all_goals
    have lM := hOM.lt
    have lC := hOC.lt
    have hOM2 := hOM.ext hxC
    have BX : Blk wC w.heap.size 40 (#[.int .i64 g.net.base, .int .i64 g.net.bits, .int .i64 g.out, .slice ta tn tc, .slice ka kn kc, .int .i64 g.filter, .int .i64 g.hold, .int .i64 g.now]) := by refine Blk.ext ?_ hxC; refine Blk.ext ?_ hxM; exact (by repeat (first | (with_reducible assumption) | (with_reducible exact Blk.new _ _ _) | exact Blk.newAt _ _ _ (by simp) | (with_reducible refine Blk.alloc ?_ _) | (with_reducible refine Blk.drew ?_) | (with_reducible refine Blk.drewN ?_ _) | refine Blk.far ?_ (by simp only []; omega) _ | refine Blk.rext ?_ (by assumption) (by omega) | refine Blk.ext ?_ (by assumption)))
    have BR : Blk wC (w.heap.size + 1) 40 #[.int .i64 0, .int .i64 0, .int .i64 0, .slice none 0 0, .slice none 0 0, .int .i64 0, .int .i64 0, .int .i64 0] := by refine Blk.ext ?_ hxC; refine Blk.ext ?_ hxM; exact (by repeat (first | (with_reducible assumption) | (with_reducible exact Blk.new _ _ _) | exact Blk.newAt _ _ _ (by simp) | (with_reducible refine Blk.alloc ?_ _) | (with_reducible refine Blk.drew ?_) | (with_reducible refine Blk.drewN ?_ _) | refine Blk.far ?_ (by simp only []; omega) _ | refine Blk.rext ?_ (by assumption) (by omega) | refine Blk.ext ?_ (by assumption)))
    have XC : Ext w wC := by refine Ext.trans ?_ hxC; exact (by repeat (first | (with_reducible exact Ext.refl _) | (with_reducible assumption) | (with_reducible refine Ext.alloc ?_ _) | (with_reducible refine Ext.drewN ?_ _) | (with_reducible refine Ext.drew ?_) | (with_reducible refine Ext.setCell ?_ ?_ _; rotate_left; (simp only []; omega)) | (with_reducible refine Ext.trans ?_ (by assumption))))
    clear hcC hcM hfM hfC hxC hxM
    have cX := BX.cells
    have fX := BX.frozens
    have cR := BR.cells
    have fR := BR.frozens
    go_wp2
    refine' bodyPost_ret (v := _) ?_ rfl ?_
    rotate_left
    · (simp only [results, Try.results64]
       go_simp
       rfl)
    refine ⟨sa, qa, rfl, ?_, ?_, (by repeat (first | (with_reducible exact Ext.refl _) | (with_reducible assumption) | (with_reducible refine Ext.alloc ?_ _) | (with_reducible refine Ext.drewN ?_ _) | (with_reducible refine Ext.drew ?_) | (with_reducible refine Ext.setCell ?_ ?_ _; rotate_left; (simp only []; omega)) | (with_reducible refine Ext.trans ?_ (by assumption))))⟩
    · refine Ow.rebase (base := w.heap.size + 2) ?_ (by omega)
      repeat (refine Ow.setC ?_ (fun x e => by have := (lM x e).1; simp only []; (try simp at this); omega) _)
      exact hOM2.rebase (by simp)
    · refine Ow.rebase (base := wM.heap.size) ?_ (by omega)
      repeat (refine Ow.setC ?_ (fun x e => by have := (lC x e).1; simp only []; (try simp at this); omega) _)
      exact hOC
theorem impl_TickGate_no (g : GateD) (now : Int) (ta : Option Addr) (tn tc : Nat) (ka : Option Addr) (kn kc : Nat) (w : World) (ht : Sl encM 4 w ta tn tc g.table) (hk : Sl encC 3 w ka kn kc g.cons) (hv : (validGate g && inR now g.now 10000) = false) :
    Calls Try.prog 21 #[.agg #[.int .i64 g.net.base, .int .i64 g.net.bits, .int .i64 g.out, .slice ta tn tc, .slice ka kn kc, .int .i64 g.filter, .int .i64 g.hold, .int .i64 g.now], .int .i64 now] w fun e w' => e = .returned (.tuple #[.agg #[.int .i64 0, .int .i64 0, .int .i64 0, .slice none 0 0, .slice none 0 0, .int .i64 0, .int .i64 0, .int .i64 0], .bool false]) ∧ Ext w w' := by
  have c1 := fun W h1 h2 => impl_ValidGate g ta tn tc ka kn kc W h1 h2
  cases hg : validGate g with
  | false =>
    rw [hg] at c1
    go_enter Try.func21, Try.ntmps21
    go_wp2_with (first | (go_at_call 52; refine (c1 _ (by exact ht.ext (by repeat (first | (with_reducible exact Ext.refl _) | (with_reducible assumption) | (with_reducible refine Ext.alloc ?_ _) | (with_reducible refine Ext.drewN ?_ _) | (with_reducible refine Ext.drew ?_) | (with_reducible refine Ext.setCell ?_ ?_ _; rotate_left; (simp only []; omega)) | (with_reducible refine Ext.trans ?_ (by assumption))))) (by exact hk.ext (by repeat (first | (with_reducible exact Ext.refl _) | (with_reducible assumption) | (with_reducible refine Ext.alloc ?_ _) | (with_reducible refine Ext.drewN ?_ _) | (with_reducible refine Ext.drew ?_) | (with_reducible refine Ext.setCell ?_ ?_ _; rotate_left; (simp only []; omega)) | (with_reducible refine Ext.trans ?_ (by assumption)))))).mono ?_; rintro e w1 ⟨rfl, hx⟩; have hc := hx.cells; have hf := hx.frozens; have hy := hx.size; (try simp at hy); have hz : w.heap.size < w1.heap.size ∧ w.heap.size + 1 < w1.heap.size := (by omega)))
    refine' bodyPost_ret (v := _) ?_ rfl ?_
    rotate_left
    · (simp only [results, Try.results21]
       go_simp
       rfl)
    exact ⟨rfl, (by repeat (first | (with_reducible exact Ext.refl _) | (with_reducible assumption) | (with_reducible refine Ext.alloc ?_ _) | (with_reducible refine Ext.drewN ?_ _) | (with_reducible refine Ext.drew ?_) | (with_reducible refine Ext.setCell ?_ ?_ _; rotate_left; (simp only []; omega)) | (with_reducible refine Ext.trans ?_ (by assumption))))⟩
  | true =>
    have c2 := fun W => impl_in now g.now 10000 W
    have hi : inR now g.now 10000 = false := by simpa [hg] using hv
    rw [hg] at c1
    rw [hi] at c2
    go_enter Try.func21, Try.ntmps21
    go_wp2_with (first | (go_at_call 52; refine (c1 _ (by exact ht.ext (by repeat (first | (with_reducible exact Ext.refl _) | (with_reducible assumption) | (with_reducible refine Ext.alloc ?_ _) | (with_reducible refine Ext.drewN ?_ _) | (with_reducible refine Ext.drew ?_) | (with_reducible refine Ext.setCell ?_ ?_ _; rotate_left; (simp only []; omega)) | (with_reducible refine Ext.trans ?_ (by assumption))))) (by exact hk.ext (by repeat (first | (with_reducible exact Ext.refl _) | (with_reducible assumption) | (with_reducible refine Ext.alloc ?_ _) | (with_reducible refine Ext.drewN ?_ _) | (with_reducible refine Ext.drew ?_) | (with_reducible refine Ext.setCell ?_ ?_ _; rotate_left; (simp only []; omega)) | (with_reducible refine Ext.trans ?_ (by assumption)))))).mono ?_; rintro e w1 ⟨rfl, hx⟩; have hc := hx.cells; have hf := hx.frozens; have hy := hx.size; (try simp at hy); have hz : w.heap.size < w1.heap.size ∧ w.heap.size + 1 < w1.heap.size := (by omega)) | (go_at_call 63; refine (c2 _).mono ?_; rintro e w' ⟨rfl, rfl⟩))
    refine' bodyPost_ret (v := _) ?_ rfl ?_
    rotate_left
    · (simp only [results, Try.results21]
       go_simp
       rfl)
    exact ⟨rfl, (by repeat (first | (with_reducible exact Ext.refl _) | (with_reducible assumption) | (with_reducible refine Ext.alloc ?_ _) | (with_reducible refine Ext.drewN ?_ _) | (with_reducible refine Ext.drew ?_) | (with_reducible refine Ext.setCell ?_ ?_ _; rotate_left; (simp only []; omega)) | (with_reducible refine Ext.trans ?_ (by assumption))))⟩
set_option maxHeartbeats 2000000 in
theorem impl_TickGate_ok (g : GateD) (now : Int) (ta : Option Addr) (tn tc : Nat) (ka : Option Addr) (kn kc : Nat) (w : World) (ht : Sl encM 4 w ta tn tc g.table) (hk : Sl encC 3 w ka kn kc g.cons) (hv : (validGate g && inR now g.now 10000) = true) :
    Calls Try.prog 21 #[.agg #[.int .i64 g.net.base, .int .i64 g.net.bits, .int .i64 g.out, .slice ta tn tc, .slice ka kn kc, .int .i64 g.filter, .int .i64 g.hold, .int .i64 g.now], .int .i64 now] w fun e w' => ∃ sa sn qa qn, e = .returned (.tuple #[.agg #[.int .i64 (tick g now).net.base, .int .i64 (tick g now).net.bits, .int .i64 (tick g now).out, .slice sa sn sn, .slice qa qn qn, .int .i64 (tick g now).filter, .int .i64 (tick g now).hold, .int .i64 (tick g now).now], .bool true]) ∧ Ow 102 encM 4 w.heap.size w' sa sn sn (tick g now).table ∧
      Ow 115 encC 3 w.heap.size w' qa qn qn (tick g now).cons ∧ Ext w w' := by
  have c1 := fun W h1 h2 => impl_ValidGate g ta tn tc ka kn kc W h1 h2
  have c2 := fun W => impl_in now g.now 10000 W
  simp only [Bool.and_eq_true] at hv
  rw [hv.1] at c1
  rw [hv.2] at c2
  have hg := validGate_iff.1 hv.1
  have h0 := (inR_iff.1 hv.2).1
  have h1 := (inR_iff.1 hv.2).2
  have htl := (validTable_iff.1 hg.tab).2.2
  have hkl := (validContacts_iff.1 hg.con).2.2
  have htn : tn ≤ 8 := by have := ht.len; omega
  have hkn : kn ≤ 10 := by have := hk.len; omega
  have htm := Lib.hid (timer_ok hg h0 h1)
  have n0 : 0 ≤ now := by have := hg.now0; omega
  have HLa := Lib.hid (lastOk hg.tab)
  have hvt := Lib.hid hg.tab
  have T0l := Lib.hid (fun (h : 0 < tn) => ht.lt h)
  obtain ⟨P, hP⟩ : ∃ P, P = expPorts g.table now g.hold := ⟨_, rfl⟩
  replace hP := Lib.hid hP
  replace hg := Lib.hid hg
  have T0 := ht
  have K0 := hk
  go_enter Try.func21, Try.ntmps21
  go_wp2_with fail
  refine (c1 _ (by exact ht.ext (by repeat (first | (with_reducible exact Ext.refl _) | (with_reducible assumption) | (with_reducible refine Ext.alloc ?_ _) | (with_reducible refine Ext.drewN ?_ _) | (with_reducible refine Ext.drew ?_) | (with_reducible refine Ext.setCell ?_ ?_ _; rotate_left; (simp only []; omega)) | (with_reducible refine Ext.trans ?_ (by assumption))))) (by exact hk.ext (by repeat (first | (with_reducible exact Ext.refl _) | (with_reducible assumption) | (with_reducible refine Ext.alloc ?_ _) | (with_reducible refine Ext.drewN ?_ _) | (with_reducible refine Ext.drew ?_) | (with_reducible refine Ext.setCell ?_ ?_ _; rotate_left; (simp only []; omega)) | (with_reducible refine Ext.trans ?_ (by assumption)))))).mono ?_
  rintro e w1 ⟨rfl, hx1⟩
  have hy1 := hx1.size
  (try simp at hy1)
  replace T0 := T0.ext (show Ext _ w1 from (by repeat (first | (with_reducible exact Ext.refl _) | (with_reducible assumption) | (with_reducible refine Ext.alloc ?_ _) | (with_reducible refine Ext.drewN ?_ _) | (with_reducible refine Ext.drew ?_) | (with_reducible refine Ext.setCell ?_ ?_ _; rotate_left; (simp only []; omega)) | (with_reducible refine Ext.trans ?_ (by assumption)))))
  replace K0 := K0.ext (show Ext _ w1 from (by repeat (first | (with_reducible exact Ext.refl _) | (with_reducible assumption) | (with_reducible refine Ext.alloc ?_ _) | (with_reducible refine Ext.drewN ?_ _) | (with_reducible refine Ext.drew ?_) | (with_reducible refine Ext.setCell ?_ ?_ _; rotate_left; (simp only []; omega)) | (with_reducible refine Ext.trans ?_ (by assumption)))))
  have BG : Blk w1 w.heap.size 40 (#[.int .i64 g.net.base, .int .i64 g.net.bits, .int .i64 g.out, .slice ta tn tc, .slice ka kn kc, .int .i64 g.filter, .int .i64 g.hold, .int .i64 g.now]) := by refine Blk.ext ?_ hx1; exact (by repeat (first | (with_reducible assumption) | (with_reducible exact Blk.new _ _ _) | exact Blk.newAt _ _ _ (by simp) | (with_reducible refine Blk.alloc ?_ _) | (with_reducible refine Blk.drew ?_) | (with_reducible refine Blk.drewN ?_ _) | refine Blk.far ?_ (by simp only []; omega) _ | refine Blk.rext ?_ (by assumption) (by omega) | refine Blk.ext ?_ (by assumption)))
  have BR : Blk w1 (w.heap.size+1) 40 #[.int .i64 0, .int .i64 0, .int .i64 0, .slice none 0 0, .slice none 0 0, .int .i64 0, .int .i64 0, .int .i64 0] := by refine Blk.ext ?_ hx1; exact (by repeat (first | (with_reducible assumption) | (with_reducible exact Blk.new _ _ _) | exact Blk.newAt _ _ _ (by simp) | (with_reducible refine Blk.alloc ?_ _) | (with_reducible refine Blk.drew ?_) | (with_reducible refine Blk.drewN ?_ _) | refine Blk.far ?_ (by simp only []; omega) _ | refine Blk.rext ?_ (by assumption) (by omega) | refine Blk.ext ?_ (by assumption)))
  have cBG := BG.cells
  have fBG := BG.frozens
  have zBG := BG.lt
  have cBR := BR.cells
  have fBR := BR.frozens
  have zBR := BR.lt
  have X1 : Ext w w1 := (by repeat (first | (with_reducible exact Ext.refl _) | (with_reducible assumption) | (with_reducible refine Ext.alloc ?_ _) | (with_reducible refine Ext.drewN ?_ _) | (with_reducible refine Ext.drew ?_) | (with_reducible refine Ext.setCell ?_ ?_ _; rotate_left; (simp only []; omega)) | (with_reducible refine Ext.trans ?_ (by assumption))))
  clear hx1
  go_wp2_with (go_at_call 63; refine (c2 _).mono ?_; rintro e w' ⟨rfl, rfl⟩)
  refine (impl_copyOf g ta tn tc ka kn kc _ (by exact T0.ext (by repeat (first | (with_reducible exact Ext.refl _) | (with_reducible assumption) | (with_reducible refine Ext.alloc ?_ _) | (with_reducible refine Ext.drewN ?_ _) | (with_reducible refine Ext.drew ?_) | (with_reducible refine Ext.setCell ?_ ?_ _; rotate_left; (simp only []; omega)) | (with_reducible refine Ext.trans ?_ (by assumption))))) (by exact K0.ext (by repeat (first | (with_reducible exact Ext.refl _) | (with_reducible assumption) | (with_reducible refine Ext.alloc ?_ _) | (with_reducible refine Ext.drewN ?_ _) | (with_reducible refine Ext.drew ?_) | (with_reducible refine Ext.setCell ?_ ?_ _; rotate_left; (simp only []; omega)) | (with_reducible refine Ext.trans ?_ (by assumption))))) (by omega) (by omega)).mono ?_
  rintro e w2 ⟨sa, qa, rfl, OM, OC, hx2⟩
  have z2 : w.heap.size + 1 < w2.heap.size := by have := hx2.size; have := BR.lt; (try simp at this); omega
  have lC := Lib.hid (show ∀ x, qa = some x → x.block < w2.heap.size from fun x e => (OC.lt x e).2.1)
  replace T0 := T0.ext (show Ext w1 w2 from (by repeat (first | (with_reducible exact Ext.refl _) | (with_reducible assumption) | (with_reducible refine Ext.alloc ?_ _) | (with_reducible refine Ext.drewN ?_ _) | (with_reducible refine Ext.drew ?_) | (with_reducible refine Ext.setCell ?_ ?_ _; rotate_left; (simp only []; omega)) | (with_reducible refine Ext.trans ?_ (by assumption)))))
  replace BG := BG.ext (show Ext w1 w2 from (by repeat (first | (with_reducible exact Ext.refl _) | (with_reducible assumption) | (with_reducible refine Ext.alloc ?_ _) | (with_reducible refine Ext.drewN ?_ _) | (with_reducible refine Ext.drew ?_) | (with_reducible refine Ext.setCell ?_ ?_ _; rotate_left; (simp only []; omega)) | (with_reducible refine Ext.trans ?_ (by assumption)))))
  replace BR := BR.ext (show Ext w1 w2 from (by repeat (first | (with_reducible exact Ext.refl _) | (with_reducible assumption) | (with_reducible refine Ext.alloc ?_ _) | (with_reducible refine Ext.drewN ?_ _) | (with_reducible refine Ext.drew ?_) | (with_reducible refine Ext.setCell ?_ ?_ _; rotate_left; (simp only []; omega)) | (with_reducible refine Ext.trans ?_ (by assumption)))))
  have X2 : Ext w w2 := X1.trans (by repeat (first | (with_reducible exact Ext.refl _) | (with_reducible assumption) | (with_reducible refine Ext.alloc ?_ _) | (with_reducible refine Ext.drewN ?_ _) | (with_reducible refine Ext.drew ?_) | (with_reducible refine Ext.setCell ?_ ?_ _; rotate_left; (simp only []; omega)) | (with_reducible refine Ext.trans ?_ (by assumption))))
  clear hx2 X1 cBG fBG zBG cBR fBR zBR K0 ht hk OM
  have cBG := BG.cells
  have fBG := BG.frozens
  have zBG := BG.lt
  go_wp2_with fail
  refine (impl_ExpiredPorts ta tn tc g.table now g.hold _ (by exact T0.ext (by repeat (first | (with_reducible exact Ext.refl _) | (with_reducible assumption) | (with_reducible refine Ext.alloc ?_ _) | (with_reducible refine Ext.drewN ?_ _) | (with_reducible refine Ext.drew ?_) | (with_reducible refine Ext.setCell ?_ ?_ _; rotate_left; (simp only []; omega)) | (with_reducible refine Ext.trans ?_ (by assumption))))) (by omega) hvt.out htm.out HLa.out n0 h1).mono ?_
  rintro e w3 ⟨pa, pm, rfl, RP, hpm, hx3⟩
  have BX : Blk w3 w2.heap.size 40 (#[.int .i64 g.net.base, .int .i64 g.net.bits, .int .i64 g.out, .slice sa tn tn, .slice qa kn kn, .int .i64 g.filter, .int .i64 g.hold, .int .i64 now]) := by refine Blk.ext ?_ hx3; exact (by repeat (first | (with_reducible assumption) | (with_reducible exact Blk.new _ _ _) | exact Blk.newAt _ _ _ (by simp) | (with_reducible refine Blk.alloc ?_ _) | (with_reducible refine Blk.drew ?_) | (with_reducible refine Blk.drewN ?_ _) | refine Blk.far ?_ (by simp only []; omega) _ | refine Blk.rext ?_ (by assumption) (by omega) | refine Blk.ext ?_ (by assumption)))
  replace RP := RP.rebase (b' := w2.heap.size + 1) (by (try simp); (try omega))
  rw [← hP.out] at RP
  have X23 : Ext w2 w3 := (by repeat (first | (with_reducible exact Ext.refl _) | (with_reducible assumption) | (with_reducible refine Ext.alloc ?_ _) | (with_reducible refine Ext.drewN ?_ _) | (with_reducible refine Ext.drew ?_) | (with_reducible refine Ext.setCell ?_ ?_ _; rotate_left; (simp only []; omega)) | (with_reducible refine Ext.trans ?_ (by assumption))))
  clear cBG fBG zBG
  replace T0 := T0.ext X23
  replace BG := BG.ext X23
  replace BR := BR.ext X23
  replace OC := (OC.ext X23).rebase (b' := w.heap.size + 2) (by omega)
  have XU := X2.trans X23
  clear hx3 X2 X23
  have lC2 := Lib.hid (show ∀ x, qa = some x → x.block ≠ w2.heap.size from fun x e => by have := lC.out x e; omega)
  clear lC
  generalize w2.heap.size = G at *
  go_wp2
  go_loopw [8, 31] (fun _ i wr => ∃ (k : Nat) (a' : Option Addr) (m : Nat) (M : List ConD), k ≤ pm ∧ i = .int .i64 k ∧ m ≤ 10 ∧ M = (P.take k).foldl without g.cons ∧ Ow 115 encC 3 (w.heap.size + 2) wr a' m m M ∧ (∀ x, a' = some x → x.block ≠ G) ∧
    Blk wr G 40 (#[.int .i64 g.net.base, .int .i64 g.net.bits, .int .i64 g.out, .slice sa tn tn, .slice a' m m, .int .i64 g.filter, .int .i64 g.hold, .int .i64 now]) ∧ Blk wr w.heap.size 40 (#[.int .i64 g.net.base, .int .i64 g.net.bits, .int .i64 g.out, .slice ta tn tc, .slice ka kn kc, .int .i64 g.filter, .int .i64 g.hold, .int .i64 g.now]) ∧ Blk wr (w.heap.size + 1) 40 #[.int .i64 0, .int .i64 0, .int .i64 0, .slice none 0 0, .slice none 0 0, .int .i64 0, .int .i64 0, .int .i64 0] ∧
    Ow 3 encI 1 (G + 1) wr pa pm pm P ∧ Sl encM 4 wr ta tn tc g.table ∧ Ext w wr) (fun _ i _ => pm - (intOf i).toNat)
  case atStart => exact ⟨0, qa, kn, g.cons, Nat.zero_le _, rfl, hkn, rfl, OC, lC2.out, BX, BG, BR, RP, T0, XU⟩
  case round =>
    clear RP OC BX BG BR T0 XU lC2
    obtain ⟨k, a', m, M, hk, rfl, hm, hM, OK, lK, BX, BG, BR, RP, T0, XU⟩ := hrel
    by_cases hlt : k < pm
    · obtain ⟨_, b, off, rfl, hb, hc⟩ := ((RP.sl encI_len).ints).resolve_left (by omega)
      have d0 := hc k hlt
      have hkl : k < P.length := by have := RP.1; omega
      have hM2 := Lib.hid (show without M (nth P k) = (P.take (k + 1)).foldl without g.cons by rw [foldl_take hkl, ← hM])
      have zG : G < wr.heap.size := BX.lt
      replace hM := Lib.hid hM
      clear hc hkl
      have cBX := BX.cells
      have fBX := BX.frozens
      go_wp2_with fail
      refine (impl_without a' m m M (nth P k) _ (by exact ((OK.sl encC_len).ext (by repeat (first | (with_reducible exact Ext.refl _) | (with_reducible assumption) | (with_reducible refine Ext.alloc ?_ _) | (with_reducible refine Ext.drewN ?_ _) | (with_reducible refine Ext.drew ?_) | (with_reducible refine Ext.setCell ?_ ?_ _; rotate_left; (simp only []; omega)) | (with_reducible refine Ext.trans ?_ (by assumption)))))) (by omega)).mono ?_
      rintro e w4 ⟨a2, m2, rfl, hO2, hm2, hx4⟩
      have X4 : Ext wr w4 := (by repeat (first | (with_reducible exact Ext.refl _) | (with_reducible assumption) | (with_reducible refine Ext.alloc ?_ _) | (with_reducible refine Ext.drewN ?_ _) | (with_reducible refine Ext.drew ?_) | (with_reducible refine Ext.setCell ?_ ?_ _; rotate_left; (simp only []; omega)) | (with_reducible refine Ext.trans ?_ (by assumption))))
      clear hx4 cBX fBX
      have lO := hO2.lt
      replace BX := BX.ext X4
      replace BG := BG.ext X4
      replace BR := BR.ext X4
      replace RP := RP.ext X4
      replace T0 := T0.ext X4
      replace XU := XU.trans X4
      clear X4
      have cBX := BX.cells
      have fBX := BX.frozens
      have zBX := BX.lt
      go_wp2
      go_roundw
      case rel =>
        refine ⟨k + 1, a2, m2, without M (nth P k), hlt, by go_num, by omega, hM2.out, ?_, ?_, (BX.set 4 (.slice a2 m2 m2)), BG.far (by simp only []; omega) _, BR.far (by simp only []; omega) _, ?_, ?_, (by repeat (first | (with_reducible exact Ext.refl _) | (with_reducible assumption) | (with_reducible refine Ext.alloc ?_ _) | (with_reducible refine Ext.drewN ?_ _) | (with_reducible refine Ext.drew ?_) | (with_reducible refine Ext.setCell ?_ ?_ _; rotate_left; (simp only []; omega)) | (with_reducible refine Ext.trans ?_ (by assumption))))⟩
        · refine Ow.rebase (base := wr.heap.size) ?_ (by omega)
          refine Ow.setC ?_ (fun x e => by have := (lO x e).1; simp only []; (try simp at this); omega) _
          exact hO2
        · intro x e
          have := (lO x e).1
          (try simp at this)
          omega
        · exact RP.setC (fun x e => by have := (RP.lt x e).1; simp only []; omega) _
        · exact T0.setFar (fun hn x e => by have := T0l.out hn x e; simp only []; omega) _
      case measure => simp [intOf]; omega
    · have e : k = pm := by omega
      subst e
      rw [List.take_of_length_le (by have := RP.1; omega)] at hM
      clear hlt hk RP
      have zG : G < wr.heap.size := BX.lt
      have cBX := BX.cells
      have fBX := BX.frozens
      have zBX := BX.lt
      have cBG := BG.cells
      have fBG := BG.frozens
      have zBG := BG.lt
      have cBR := BR.cells
      have fBR := BR.frozens
      have zBR := BR.lt
      go_wp2_with fail
      refine (impl_ExpireTable ta tn tc g.table now g.hold _ (by exact T0.ext (by repeat (first | (with_reducible exact Ext.refl _) | (with_reducible assumption) | (with_reducible refine Ext.alloc ?_ _) | (with_reducible refine Ext.drewN ?_ _) | (with_reducible refine Ext.drew ?_) | (with_reducible refine Ext.setCell ?_ ?_ _; rotate_left; (simp only []; omega)) | (with_reducible refine Ext.trans ?_ (by assumption))))) (by omega) hvt.out htm.out HLa.out n0 h1).mono ?_
      rintro e w5 ⟨ea, em, rfl, RE, hem, hx5⟩
      have hy5 := hx5.size
      (try simp at hy5)
      replace T0 := T0.ext (show Ext _ w5 from (by repeat (first | (with_reducible exact Ext.refl _) | (with_reducible assumption) | (with_reducible refine Ext.alloc ?_ _) | (with_reducible refine Ext.drewN ?_ _) | (with_reducible refine Ext.drew ?_) | (with_reducible refine Ext.setCell ?_ ?_ _; rotate_left; (simp only []; omega)) | (with_reducible refine Ext.trans ?_ (by assumption)))))
      replace OK := OK.ext (show Ext _ w5 from (by repeat (first | (with_reducible exact Ext.refl _) | (with_reducible assumption) | (with_reducible refine Ext.alloc ?_ _) | (with_reducible refine Ext.drewN ?_ _) | (with_reducible refine Ext.drew ?_) | (with_reducible refine Ext.setCell ?_ ?_ _; rotate_left; (simp only []; omega)) | (with_reducible refine Ext.trans ?_ (by assumption)))))
      clear cBX fBX zBX
      replace BX := BX.ext (show Ext _ w5 from (by repeat (first | (with_reducible exact Ext.refl _) | (with_reducible assumption) | (with_reducible refine Ext.alloc ?_ _) | (with_reducible refine Ext.drewN ?_ _) | (with_reducible refine Ext.drew ?_) | (with_reducible refine Ext.setCell ?_ ?_ _; rotate_left; (simp only []; omega)) | (with_reducible refine Ext.trans ?_ (by assumption)))))
      clear cBG fBG zBG
      replace BG := BG.ext (show Ext _ w5 from (by repeat (first | (with_reducible exact Ext.refl _) | (with_reducible assumption) | (with_reducible refine Ext.alloc ?_ _) | (with_reducible refine Ext.drewN ?_ _) | (with_reducible refine Ext.drew ?_) | (with_reducible refine Ext.setCell ?_ ?_ _; rotate_left; (simp only []; omega)) | (with_reducible refine Ext.trans ?_ (by assumption)))))
      clear cBR fBR zBR
      replace BR := BR.ext (show Ext _ w5 from (by repeat (first | (with_reducible exact Ext.refl _) | (with_reducible assumption) | (with_reducible refine Ext.alloc ?_ _) | (with_reducible refine Ext.drewN ?_ _) | (with_reducible refine Ext.drew ?_) | (with_reducible refine Ext.setCell ?_ ?_ _; rotate_left; (simp only []; omega)) | (with_reducible refine Ext.trans ?_ (by assumption)))))
      replace XU := XU.ext (show Ext _ w5 from (by repeat (first | (with_reducible exact Ext.refl _) | (with_reducible assumption) | (with_reducible refine Ext.alloc ?_ _) | (with_reducible refine Ext.drewN ?_ _) | (with_reducible refine Ext.drew ?_) | (with_reducible refine Ext.setCell ?_ ?_ _; rotate_left; (simp only []; omega)) | (with_reducible refine Ext.trans ?_ (by assumption)))))
      have cBX := BX.cells
      have fBX := BX.frozens
      have zBX := BX.lt
      have cBG := BG.cells
      have fBG := BG.frozens
      have zBG := BG.lt
      have cBR := BR.cells
      have fBR := BR.frozens
      have zBR := BR.lt
      have lE := RE.lt
      go_wp2
      refine' bodyPost_ret (v := _) ?_ rfl ?_
      rotate_left
      · (simp only [results, Try.results21]
         go_simp
         rfl)
      refine ⟨ea, em, a', m, rfl, ?_, ?_, (by repeat (first | (with_reducible exact Ext.refl _) | (with_reducible assumption) | (with_reducible refine Ext.alloc ?_ _) | (with_reducible refine Ext.drewN ?_ _) | (with_reducible refine Ext.drew ?_) | (with_reducible refine Ext.setCell ?_ ?_ _; rotate_left; (simp only []; omega)) | (with_reducible refine Ext.trans ?_ (by assumption))))⟩
      · refine Ow.rebase (base := wr.heap.size) ?_ (by omega)
        repeat (refine Ow.setC ?_ (fun x e => by have := (lE x e).1; simp only []; (try simp at this); omega) _)
        exact RE
      · refine Ow.rebase (base := w.heap.size + 2) ?_ (by omega)
        repeat (refine Ow.setC ?_ (fun x e => by have := (OK.lt x e).1; have := lK x e; simp only []; omega) _)
        rw [hM, hP.out] at OK
        exact OK
end Go.Proofs.Ytafmomocmodbhaa
/- Contracts: the laws' own compares of gates; time steps and nets of the first package in one form. -/
namespace Go.Proofs.Ytafmomocmodbhaa
set_option linter.unusedVariables false
set_option linter.unusedSimpArgs false
open Go.RowKit

set_option maxHeartbeats 1000000 in
theorem equalTables_same (a a' : Option Addr) (n c c' : Nat) (L : List MapD) (w : World) (hs : Sl encM 4 w a n c L) (hs' : Sl encM 4 w a' n c' L) :
    Calls Try.prog 70 #[.slice a n c, .slice a' n c'] w fun e w' => e = .returned (.bool true) ∧ Ext w w' := by
  have hle := hs.le
  have hmax := hs.max
  have HI := Lib.hid hs.maps
  have HJ := Lib.hid hs'.maps
  clear hs hs'
  go_enter Try.func70, Try.ntmps70
  go_wp2
  go_loopw [5] (fun i wr => ∃ k : Nat, k ≤ n ∧ i = .int .i64 k ∧ Ext w wr) (fun i _ => n - (intOf i).toNat)
  case atStart => exact ⟨0, Nat.zero_le _, rfl, Ext.refl _⟩
  case round =>
    obtain ⟨k, hk, rfl, hX⟩ := hrel
    by_cases hlt : k < n
    · obtain ⟨_, b, off, rfl, hb, hc⟩ := (HI.out).resolve_left (by omega)
      obtain ⟨_, b', off', rfl, hb', hc'⟩ := (HJ.out).resolve_left (by omega)
      obtain ⟨d0, d1, d2, d3⟩ := hc k hlt
      obtain ⟨e0, e1, e2, e3⟩ := hc' k hlt
      rw [← hX.cells _ _ hb] at d0 d1 d2 d3
      rw [← hX.cells _ _ hb'] at e0 e1 e2 e3
      have hbr : b < wr.heap.size := by have := hX.size; omega
      have hbr' : b' < wr.heap.size := by have := hX.size; omega
      have HX := Lib.hid hX
      have heq : ∀ W : World, (Go.binOp .neq 102 (.agg #[.int .i64 (nth L k).ins.addr, .int .i64 (nth L k).ins.port, .int .i64 (nth L k).port, .int .i64 (nth L k).last]) (.agg #[.int .i64 (nth L k).ins.addr, .int .i64 (nth L k).ins.port, .int .i64 (nth L k).port, .int .i64 (nth L k).last])).run Try.prog W = .ok (.bool false) W := fun W => by rw [run_neq_M (nth L k) (nth L k)]; simp
      clear hc hc' hX
      go_wp2_with fail
      have hdrS : ∀ W : World, W.drew.heap.size = W.heap.size := fun _ => rfl
      refine wp_region_eager (R := Ext) [0, 1, 2, 3, 4, 5, 6, 7, 8] (by kernel_rfl) (by kernel_rfl) Ext.refl (fun _ _ _ => Ext.trans) ?_
      repeat' (first
        | (refine ChX.skip (by rfl) (by rfl) ?_
           (try simp only [Act.put, List.setIfInBounds_toArray, List.set_cons_zero, List.set_cons_succ]))
        | (refine' ChX.quiet (v := _) (by rfl) (by rfl) (by rfl) ?_ ?_
           rotate_left
           · (intro wS hS
              have hcS := Ext.cells hS
              go_simp
              with_reducible rfl)
           (try simp only [Act.put, List.setIfInBounds_toArray, List.set_cons_zero, List.set_cons_succ]))
        | (refine ChX.nil ?_)
        | (refine' ChX.guard (x := _) (by rfl) ?_ ?_ ?_
           rotate_left
           · (go_simp
              rfl)
           all_goals
             intro hg
             simp only [hg])
        | (refine' ChX.guardN (x := _) (by rfl) ?_ ?_ ?_
           rotate_left
           · (go_simp
              rfl)
           all_goals
             intro hg
             simp only [hg]))
      go_wp2
      go_roundw
      case rel => exact ⟨k + 1, hlt, by go_num, (show Ext w wr from HX.out).trans (by repeat (first | (with_reducible exact Ext.refl _) | (with_reducible assumption) | (with_reducible refine Ext.alloc ?_ _) | (with_reducible refine Ext.drewN ?_ _) | (with_reducible refine Ext.drew ?_) | (with_reducible refine Ext.setCell ?_ ?_ _; rotate_left; (simp only []; omega)) | (with_reducible refine Ext.trans ?_ (by assumption))))⟩
      case measure => simp [intOf]; omega
    · have HX := Lib.hid hX
      clear hX
      go_wp2
      go_ret
      exact ⟨rfl, HX.out⟩
set_option maxHeartbeats 1000000 in
theorem equalContacts_same (a a' : Option Addr) (n c c' : Nat) (L : List ConD) (w : World) (hs : Sl encC 3 w a n c L) (hs' : Sl encC 3 w a' n c' L) :
    Calls Try.prog 71 #[.slice a n c, .slice a' n c'] w fun e w' => e = .returned (.bool true) ∧ Ext w w' := by
  have hle := hs.le
  have hmax := hs.max
  have HI := Lib.hid hs.cons
  have HJ := Lib.hid hs'.cons
  clear hs hs'
  go_enter Try.func71, Try.ntmps71
  go_wp2
  go_loopw [5] (fun i wr => ∃ k : Nat, k ≤ n ∧ i = .int .i64 k ∧ Ext w wr) (fun i _ => n - (intOf i).toNat)
  case atStart => exact ⟨0, Nat.zero_le _, rfl, Ext.refl _⟩
  case round =>
    obtain ⟨k, hk, rfl, hX⟩ := hrel
    by_cases hlt : k < n
    · obtain ⟨_, b, off, rfl, hb, hc⟩ := (HI.out).resolve_left (by omega)
      obtain ⟨_, b', off', rfl, hb', hc'⟩ := (HJ.out).resolve_left (by omega)
      obtain ⟨d0, d1, d2⟩ := hc k hlt
      obtain ⟨e0, e1, e2⟩ := hc' k hlt
      rw [← hX.cells _ _ hb] at d0 d1 d2
      rw [← hX.cells _ _ hb'] at e0 e1 e2
      have hbr : b < wr.heap.size := by have := hX.size; omega
      have hbr' : b' < wr.heap.size := by have := hX.size; omega
      have HX := Lib.hid hX
      have heq : ∀ W : World, (Go.binOp .neq 115 (.agg #[.int .i64 (nth L k).port, .int .i64 (nth L k).to_.addr, .int .i64 (nth L k).to_.port]) (.agg #[.int .i64 (nth L k).port, .int .i64 (nth L k).to_.addr, .int .i64 (nth L k).to_.port])).run Try.prog W = .ok (.bool false) W := fun W => by rw [run_neq_C (nth L k) (nth L k)]; simp
      clear hc hc' hX
      go_wp2_with fail
      have hdrS : ∀ W : World, W.drew.heap.size = W.heap.size := fun _ => rfl
      refine wp_region_eager (R := Ext) [0, 1, 2, 3, 4, 5, 6, 7, 8] (by kernel_rfl) (by kernel_rfl) Ext.refl (fun _ _ _ => Ext.trans) ?_
      repeat' (first
        | (refine ChX.skip (by rfl) (by rfl) ?_
           (try simp only [Act.put, List.setIfInBounds_toArray, List.set_cons_zero, List.set_cons_succ]))
        | (refine' ChX.quiet (v := _) (by rfl) (by rfl) (by rfl) ?_ ?_
           rotate_left
           · (intro wS hS
              have hcS := Ext.cells hS
              go_simp
              with_reducible rfl)
           (try simp only [Act.put, List.setIfInBounds_toArray, List.set_cons_zero, List.set_cons_succ]))
        | (refine ChX.nil ?_)
        | (refine' ChX.guard (x := _) (by rfl) ?_ ?_ ?_
           rotate_left
           · (go_simp
              rfl)
           all_goals
             intro hg
             simp only [hg])
        | (refine' ChX.guardN (x := _) (by rfl) ?_ ?_ ?_
           rotate_left
           · (go_simp
              rfl)
           all_goals
             intro hg
             simp only [hg]))
      go_wp2
      go_roundw
      case rel => exact ⟨k + 1, hlt, by go_num, (show Ext w wr from HX.out).trans (by repeat (first | (with_reducible exact Ext.refl _) | (with_reducible assumption) | (with_reducible refine Ext.alloc ?_ _) | (with_reducible refine Ext.drewN ?_ _) | (with_reducible refine Ext.drew ?_) | (with_reducible refine Ext.setCell ?_ ?_ _; rotate_left; (simp only []; omega)) | (with_reducible refine Ext.trans ?_ (by assumption))))⟩
      case measure => simp [intOf]; omega
    · have HX := Lib.hid hX
      clear hX
      go_wp2
      go_ret
      exact ⟨rfl, HX.out⟩
set_option maxHeartbeats 1000000 in
theorem equalGate_same (g : GateD) (ta : Option Addr) (tn tc : Nat) (ka : Option Addr) (kn kc : Nat) (sa : Option Addr) (sc : Nat) (qa : Option Addr) (qc : Nat) (w : World)
    (ht : Sl encM 4 w ta tn tc g.table) (hk : Sl encC 3 w ka kn kc g.cons) (hs : Sl encM 4 w sa tn sc g.table) (hq : Sl encC 3 w qa kn qc g.cons) :
    Calls Try.prog 23 #[.agg #[.int .i64 g.net.base, .int .i64 g.net.bits, .int .i64 g.out, .slice ta tn tc, .slice ka kn kc, .int .i64 g.filter, .int .i64 g.hold, .int .i64 g.now], .agg #[.int .i64 g.net.base, .int .i64 g.net.bits, .int .i64 g.out, .slice sa tn sc, .slice qa kn qc, .int .i64 g.filter, .int .i64 g.hold, .int .i64 g.now]] w fun e w' => e = .returned (.bool true) ∧ Ext w w' := by
  have heq : ∀ W : World, (Go.binOp .eql 36 (.agg #[.int .i64 g.net.base, .int .i64 g.net.bits]) (.agg #[.int .i64 g.net.base, .int .i64 g.net.bits])).run Try.prog W = .ok (.bool true) W := fun W => by rw [run_eql_N g.net g.net]; simp
  go_enter Try.func23, Try.ntmps23
  go_wp2_with (first | (go_at_call 70; refine (equalTables_same _ _ tn tc sc g.table _ (by exact ht.ext (by repeat (first | (with_reducible exact Ext.refl _) | (with_reducible assumption) | (with_reducible refine Ext.alloc ?_ _) | (with_reducible refine Ext.drewN ?_ _) | (with_reducible refine Ext.drew ?_) | (with_reducible refine Ext.setCell ?_ ?_ _; rotate_left; (simp only []; omega)) | (with_reducible refine Ext.trans ?_ (by assumption))))) (by exact hs.ext (by repeat (first | (with_reducible exact Ext.refl _) | (with_reducible assumption) | (with_reducible refine Ext.alloc ?_ _) | (with_reducible refine Ext.drewN ?_ _) | (with_reducible refine Ext.drew ?_) | (with_reducible refine Ext.setCell ?_ ?_ _; rotate_left; (simp only []; omega)) | (with_reducible refine Ext.trans ?_ (by assumption)))))).mono ?_; rintro e w1 ⟨rfl, hx⟩; have hc := hx.cells; have hf := hx.frozens; have hy := hx.size; (try simp at hy); have hz : w.heap.size < w1.heap.size ∧ w.heap.size + 1 < w1.heap.size := (by omega)) | (go_at_call 71; refine (equalContacts_same _ _ kn kc qc g.cons _ (by exact hk.ext (by repeat (first | (with_reducible exact Ext.refl _) | (with_reducible assumption) | (with_reducible refine Ext.alloc ?_ _) | (with_reducible refine Ext.drewN ?_ _) | (with_reducible refine Ext.drew ?_) | (with_reducible refine Ext.setCell ?_ ?_ _; rotate_left; (simp only []; omega)) | (with_reducible refine Ext.trans ?_ (by assumption))))) (by exact hq.ext (by repeat (first | (with_reducible exact Ext.refl _) | (with_reducible assumption) | (with_reducible refine Ext.alloc ?_ _) | (with_reducible refine Ext.drewN ?_ _) | (with_reducible refine Ext.drew ?_) | (with_reducible refine Ext.setCell ?_ ?_ _; rotate_left; (simp only []; omega)) | (with_reducible refine Ext.trans ?_ (by assumption)))))).mono ?_; rintro e w1 ⟨rfl, hx⟩; have hc := hx.cells; have hf := hx.frozens; have hy := hx.size; (try simp at hy); have hz : w.heap.size < w1.heap.size ∧ w.heap.size + 1 < w1.heap.size := (by omega)))
  go_ret
  exact ⟨rfl, (by repeat (first | (with_reducible exact Ext.refl _) | (with_reducible assumption) | (with_reducible refine Ext.alloc ?_ _) | (with_reducible refine Ext.drewN ?_ _) | (with_reducible refine Ext.drew ?_) | (with_reducible refine Ext.setCell ?_ ?_ _; rotate_left; (simp only []; omega)) | (with_reducible refine Ext.trans ?_ (by assumption))))⟩
/-- Rows as they are returned. -/
theorem equalGate_ow (g : GateD) (ta : Option Addr) (tn tc : Nat) (ka : Option Addr) (kn kc : Nat) (sa : Option Addr) (sn sc : Nat) (qa : Option Addr) (qn qc : Nat) (w : World)
    (ht : Sl encM 4 w ta tn tc g.table) (hk : Sl encC 3 w ka kn kc g.cons) (hs : Sl encM 4 w sa sn sc g.table) (hq : Sl encC 3 w qa qn qc g.cons) :
    Calls Try.prog 23 #[.agg #[.int .i64 g.net.base, .int .i64 g.net.bits, .int .i64 g.out, .slice ta tn tc, .slice ka kn kc, .int .i64 g.filter, .int .i64 g.hold, .int .i64 g.now], .agg #[.int .i64 g.net.base, .int .i64 g.net.bits, .int .i64 g.out, .slice sa sn sc, .slice qa qn qc, .int .i64 g.filter, .int .i64 g.hold, .int .i64 g.now]] w fun e w' => e = .returned (.bool true) ∧ Ext w w' := by
  obtain rfl : tn = sn := by rw [← ht.len, hs.len]
  obtain rfl : kn = qn := by rw [← hk.len, hq.len]
  exact equalGate_same g ta tn tc ka kn kc sa sc qa qc w ht hk hs hq
theorem equalPacket_ow (p : PktD) (a a' : Option Addr) (n n' c c' : Nat) (w : World) (hs : Sl encI 1 w a n c p.data) (hs' : Sl encI 1 w a' n' c' p.data) :
    Calls Try.prog 81 #[.agg #[.int .i64 p.kind, .int .i64 p.fr.addr, .int .i64 p.fr.port, .int .i64 p.to_.addr, .int .i64 p.to_.port, .slice a n c], .agg #[.int .i64 p.kind, .int .i64 p.fr.addr, .int .i64 p.fr.port, .int .i64 p.to_.addr, .int .i64 p.to_.port, .slice a' n' c']] w fun e w' => e = .returned (.bool true) ∧ Ext w w' := by
  obtain rfl : n = n' := by rw [← hs.len, hs'.len]
  exact equalPacket_same _ _ _ _ _ a a' n c c' p.data w hs hs'
theorem equalReport_ow (r : RepD) (a a' : Option Addr) (n n' c c' : Nat) (w : World) (hs : Sl encI 1 w a n c r.about.data) (hs' : Sl encI 1 w a' n' c' r.about.data) :
    Calls Try.prog 27 #[.agg #[.int .i64 r.code, .int .i64 r.sender, .int .i64 r.to_, .int .i64 r.about.kind, .int .i64 r.about.fr.addr, .int .i64 r.about.fr.port, .int .i64 r.about.to_.addr, .int .i64 r.about.to_.port, .slice a n c], .agg #[.int .i64 r.code, .int .i64 r.sender, .int .i64 r.to_, .int .i64 r.about.kind, .int .i64 r.about.fr.addr, .int .i64 r.about.fr.port, .int .i64 r.about.to_.addr, .int .i64 r.about.to_.port, .slice a' n' c']] w fun e w' => e = .returned (.bool true) ∧ Ext w w' := by
  obtain rfl : n = n' := by rw [← hs.len, hs'.len]
  exact equalReport_same _ _ _ _ _ _ _ _ a a' n c c' r.about.data w hs hs'
theorem equalInts_ow (L : List Int) (a a' : Option Addr) (n n' c c' : Nat) (w : World) (hs : Sl encI 1 w a n c L) (hs' : Sl encI 1 w a' n' c' L) :
    Calls Try.prog 35 #[.slice a n c, .slice a' n' c'] w fun e w' => e = .returned (.bool true) ∧ Ext w w' := by
  obtain rfl : n = n' := by rw [← hs.len, hs'.len]
  exact equalInts_same a a' n c c' L w hs hs'
/-- The first package's TickGate. -/
theorem impl_TickGate (g : GateD) (now : Int) (ta : Option Addr) (tn tc : Nat) (ka : Option Addr) (kn kc : Nat) (w : World) (ht : Sl encM 4 w ta tn tc g.table) (hk : Sl encC 3 w ka kn kc g.cons) :
    Calls Try.prog 21 #[.agg #[.int .i64 g.net.base, .int .i64 g.net.bits, .int .i64 g.out, .slice ta tn tc, .slice ka kn kc, .int .i64 g.filter, .int .i64 g.hold, .int .i64 g.now], .int .i64 now] w fun e w' => ∃ sa sn sc qa qn qc, e = .returned (.tuple #[.agg #[.int .i64 (rT (tickGate g now)).net.base, .int .i64 (rT (tickGate g now)).net.bits, .int .i64 (rT (tickGate g now)).out, .slice sa sn sc, .slice qa qn qc, .int .i64 (rT (tickGate g now)).filter, .int .i64 (rT (tickGate g now)).hold, .int .i64 (rT (tickGate g now)).now], .bool (tickGate g now).isSome]) ∧ Ow 102 encM 4 w.heap.size w' sa sn sc (rT (tickGate g now)).table ∧ Ow 115 encC 3 w.heap.size w' qa qn qc (rT (tickGate g now)).cons ∧ Ext w w' := by
  cases hv : (validGate g && inR now g.now 10000) with
  | false =>
    have e : tickGate g now = none := by unfold tickGate; rw [hv]; rfl
    rw [e]
    exact (impl_TickGate_no g now ta tn tc ka kn kc w ht hk hv).mono fun _ _ ⟨h1, h2⟩ => ⟨none, 0, 0, none, 0, 0, h1, Ow.nils _, Ow.nils _, h2⟩
  | true =>
    have e : tickGate g now = some (tick g now) := by unfold tickGate; rw [hv]; rfl
    rw [e]
    exact (impl_TickGate_ok g now ta tn tc ka kn kc w ht hk hv).mono fun _ _ ⟨sa, sn, qa, qn, h1, h2, h3, h4⟩ => ⟨sa, sn, sn, qa, qn, qn, h1, h2, h3, h4⟩
theorem impl_InNet (n : NetD) (a : Int) (w : World) : Calls Try.prog 28 #[.agg #[.int .i64 n.base, .int .i64 n.bits], .int .i64 a] w fun e w' => e = .returned (.bool (validNet n && word a && has n a)) ∧ Ext w w' := by
  go_enter Try.func28, Try.ntmps28
  go_wp2_with (first | (go_at_call 82; refine (impl_ValidNet' n _).mono ?_; rintro e w1 ⟨rfl, hx⟩; have hc := hx.cells; have hf := hx.frozens; have hy := hx.size; (try simp at hy); have hz : w.heap.size < w1.heap.size := (by omega)) | (go_at_call 83; refine (impl_isWord _ _).mono ?_; rintro e w' ⟨rfl, rfl⟩) | (go_at_call 75; refine (impl_has' n _ _ (by assumption)).mono ?_; rintro e w1 ⟨rfl, hx⟩; have hc := hx.cells; have hf := hx.frozens; have hy := hx.size; (try simp at hy); have hz : w.heap.size < w1.heap.size := (by omega)))
  all_goals (go_ret; exact ⟨ret_bool (by simp_all), (by repeat (first | (with_reducible exact Ext.refl _) | (with_reducible assumption) | (with_reducible refine Ext.alloc ?_ _) | (with_reducible refine Ext.drewN ?_ _) | (with_reducible refine Ext.drew ?_) | (with_reducible refine Ext.setCell ?_ ?_ _; rotate_left; (simp only []; omega)) | (with_reducible refine Ext.trans ?_ (by assumption))))⟩)
end Go.Proofs.Ytafmomocmodbhaa
/- Contracts of what is drawn: gates and reports. -/
namespace Go.Proofs.Ytafmomocmodbhaa
set_option linter.unusedVariables false
set_option linter.unusedSimpArgs false
open Go.RowKit

set_option maxHeartbeats 2000000 in
theorem DrawReportIn_any (a : Option Addr) (n c : Nat) (w : World) (hc : Code w a n c) :
    Calls Try.prog 31 #[.slice a n c] w fun e w' => ∃ (g : GateD) (r : RepD) (ta : Option Addr) (tn tc : Nat) (ka : Option Addr) (kn kc : Nat) (a : Option Addr) (n c : Nat), e = .returned (.tuple #[.agg #[.int .i64 g.net.base, .int .i64 g.net.bits, .int .i64 g.out, .slice ta tn tc, .slice ka kn kc, .int .i64 g.filter, .int .i64 g.hold, .int .i64 g.now], .agg #[.int .i64 r.code, .int .i64 r.sender, .int .i64 r.to_, .int .i64 r.about.kind, .int .i64 r.about.fr.addr, .int .i64 r.about.fr.port, .int .i64 r.about.to_.addr, .int .i64 r.about.to_.port, .slice a n c]]) ∧
          Sl encM 4 w' ta tn tc g.table ∧ Sl encC 3 w' ka kn kc g.cons ∧ Sl encI 1 w' a n c r.about.data ∧ (0 < tn → ∀ x, ta = some x → w.heap.size ≤ x.block) ∧ (0 < kn → ∀ x, ka = some x → w.heap.size ≤ x.block) ∧ (0 < n → ∀ x, a = some x → w.heap.size ≤ x.block) ∧ Ext w w' := by
  obtain ⟨zs, hs, hz⟩ := hc
  go_enter Try.func31, Try.ntmps31
  go_wp2_with fail
  refine (newReader_any a n c zs _ (hs.ext (by repeat (first | (with_reducible exact Ext.refl _) | (with_reducible assumption) | (with_reducible refine Ext.alloc ?_ _) | (with_reducible refine Ext.drewN ?_ _) | (with_reducible refine Ext.drew ?_) | (with_reducible refine Ext.setCell ?_ ?_ _; rotate_left; (simp only []; omega)) | (with_reducible refine Ext.trans ?_ (by assumption))))) hz).mono ?_
  rintro e w1 ⟨B, rfl, hB, hr, hx⟩
  have hy1 := hx.size
  (try simp at hy1)
  (try simp at hB)
  have hBl := hr.lt
  have BR : Blk w1 w.heap.size 40 #[.int .i64 0, .int .i64 0, .int .i64 0, .slice none 0 0, .slice none 0 0, .int .i64 0, .int .i64 0, .int .i64 0] := by refine Blk.ext ?_ hx; exact (by repeat (first | (with_reducible assumption) | (with_reducible exact Blk.new _ _ _) | exact Blk.newAt _ _ _ (by simp) | (with_reducible refine Blk.alloc ?_ _) | (with_reducible refine Blk.drew ?_) | (with_reducible refine Blk.drewN ?_ _) | refine Blk.far ?_ (by simp only []; omega) _ | refine Blk.rext ?_ (by assumption) (by omega) | refine Blk.ext ?_ (by assumption)))
  have BS : Blk w1 (w.heap.size + 1) 56 #[.int .i64 0, .int .i64 0, .int .i64 0, .int .i64 0, .int .i64 0, .int .i64 0, .int .i64 0, .int .i64 0, .slice none 0 0] := by refine Blk.ext ?_ hx; exact (by repeat (first | (with_reducible assumption) | (with_reducible exact Blk.new _ _ _) | exact Blk.newAt _ _ _ (by simp) | (with_reducible refine Blk.alloc ?_ _) | (with_reducible refine Blk.drew ?_) | (with_reducible refine Blk.drewN ?_ _) | refine Blk.far ?_ (by simp only []; omega) _ | refine Blk.rext ?_ (by assumption) (by omega) | refine Blk.ext ?_ (by assumption)))
  have X0 : Ext w w1 := (by repeat (first | (with_reducible exact Ext.refl _) | (with_reducible assumption) | (with_reducible refine Ext.alloc ?_ _) | (with_reducible refine Ext.drewN ?_ _) | (with_reducible refine Ext.drew ?_) | (with_reducible refine Ext.setCell ?_ ?_ _; rotate_left; (simp only []; omega)) | (with_reducible refine Ext.trans ?_ (by assumption))))
  clear hx
  go_wp2_with fail
  refine (anyGate_any _ B _ _ hr (by omega)).mono ?_
  rintro e w2 ⟨g, ta, tn, tc, ka, kn, kc, rfl, T0, K0, htn, _, _, _, fT, fK, q2, hx2⟩
  have hy2 := hx2.size
  (try simp at hy2)
  have BR : Blk w2 w.heap.size 40 (#[.int .i64 0, .int .i64 0, .int .i64 0, .slice none 0 0, .slice none 0 0, .int .i64 0, .int .i64 0, .int .i64 0]) := by refine Blk.rext ?_ hx2 (by omega); repeat (first | (with_reducible exact BR) | (with_reducible exact Blk.new _ _ _) | exact Blk.newAt _ _ _ (by simp) | (with_reducible refine Blk.alloc ?_ _) | (with_reducible refine Blk.drew ?_) | (with_reducible refine Blk.drewN ?_ _) | refine Blk.far ?_ (by simp only []; omega) _)
  have BS : Blk w2 (w.heap.size+1) 56 (#[.int .i64 0, .int .i64 0, .int .i64 0, .int .i64 0, .int .i64 0, .int .i64 0, .int .i64 0, .int .i64 0, .slice none 0 0]) := by refine Blk.rext ?_ hx2 (by omega); repeat (first | (with_reducible exact BS) | (with_reducible exact Blk.new _ _ _) | exact Blk.newAt _ _ _ (by simp) | (with_reducible refine Blk.alloc ?_ _) | (with_reducible refine Blk.drew ?_) | (with_reducible refine Blk.drewN ?_ _) | refine Blk.far ?_ (by simp only []; omega) _)
  have cBR := BR.cells
  have fBR := BR.frozens
  have zBR := BR.lt
  have cBS := BS.cells
  have fBS := BS.frozens
  have zBS := BS.lt
  have hTB : ∀ x, ta = some x → x.block ≠ B := fun x e => by have := fT x e; omega
  have lT0 : 0 < tn → ∀ x, ta = some x → w1.heap.size ≤ x.block ∧ x.block < w2.heap.size := fun h x e => ⟨fT x e, T0.lt h x e⟩
  have lK0 : 0 < kn → ∀ x, ka = some x → w1.heap.size ≤ x.block ∧ x.block < w2.heap.size := fun h x e => ⟨fK x e, K0.lt h x e⟩
  clear fT fK
  replace X0 : Ext w w2 := by refine RExt.new ?_ hx2 (by omega); exact (by repeat (first | (with_reducible exact Ext.refl _) | (with_reducible assumption) | (with_reducible refine Ext.alloc ?_ _) | (with_reducible refine Ext.drewN ?_ _) | (with_reducible refine Ext.drew ?_) | (with_reducible refine Ext.setCell ?_ ?_ _; rotate_left; (simp only []; omega)) | (with_reducible refine Ext.trans ?_ (by assumption))))
  go_wp2_with fail
  refine (anyReport_any _ B _ _ (by exact q2.to (by repeat (first | (with_reducible exact Since.refl q2.le) | (with_reducible refine Since.alloc ?_ _) | (with_reducible refine Since.drew ?_) | (with_reducible refine Since.drewN ?_ _) | (with_reducible refine Since.setCell ?_ ?_ _; rotate_left; (simp only []; omega)) | (with_reducible refine Since.ext ?_ (by assumption))))) (by omega)).mono ?_
  rintro e w3 ⟨o, s, t, k, fa, fp, ga, gp, sa, sn, sc, L, rfl, S0, _, fS, q3, hx3⟩
  have hy3 := hx3.size
  (try simp at hy3)
  clear cBR fBR zBR
  clear cBS fBS zBS
  replace BR : Blk w3 w.heap.size 40 (#[.int .i64 0, .int .i64 0, .int .i64 0, .slice none 0 0, .slice none 0 0, .int .i64 0, .int .i64 0, .int .i64 0]) := by refine Blk.rext ?_ hx3 (by omega); repeat (first | (with_reducible exact BR) | (with_reducible exact Blk.new _ _ _) | exact Blk.newAt _ _ _ (by simp) | (with_reducible refine Blk.alloc ?_ _) | (with_reducible refine Blk.drew ?_) | (with_reducible refine Blk.drewN ?_ _) | refine Blk.far ?_ (by simp only []; omega) _)
  replace BS : Blk w3 (w.heap.size+1) 56 (#[.int .i64 0, .int .i64 0, .int .i64 0, .int .i64 0, .int .i64 0, .int .i64 0, .int .i64 0, .int .i64 0, .slice none 0 0]) := by refine Blk.rext ?_ hx3 (by omega); repeat (first | (with_reducible exact BS) | (with_reducible exact Blk.new _ _ _) | exact Blk.newAt _ _ _ (by simp) | (with_reducible refine Blk.alloc ?_ _) | (with_reducible refine Blk.drew ?_) | (with_reducible refine Blk.drewN ?_ _) | refine Blk.far ?_ (by simp only []; omega) _)
  have BG : Blk w3 w2.heap.size 40 (#[.int .i64 g.net.base, .int .i64 g.net.bits, .int .i64 g.out, .slice ta tn tc, .slice ka kn kc, .int .i64 g.filter, .int .i64 g.hold, .int .i64 g.now]) := by refine Blk.rext ?_ hx3 (by omega); repeat (first | (with_reducible exact BG) | (with_reducible exact Blk.new _ _ _) | exact Blk.newAt _ _ _ (by simp) | (with_reducible refine Blk.alloc ?_ _) | (with_reducible refine Blk.drew ?_) | (with_reducible refine Blk.drewN ?_ _) | refine Blk.far ?_ (by simp only []; omega) _)
  replace T0 : Sl encM 4 w3 ta tn tc g.table := by refine Sl.rextFar ?_ hx3 (fun hn x e => by have := lT0 hn x e; omega); repeat (first | (with_reducible exact T0) | (with_reducible refine Sl.alloc ?_ _) | (with_reducible refine Sl.drew ?_) | (with_reducible refine Sl.drewN ?_ _) | refine Sl.setFar ?_ (fun hn x e => by have := lT0 hn x e; simp only []; omega) _)
  replace K0 : Sl encC 3 w3 ka kn kc g.cons := by refine Sl.rextFar ?_ hx3 (fun hn x e => by have := lK0 hn x e; omega); repeat (first | (with_reducible exact K0) | (with_reducible refine Sl.alloc ?_ _) | (with_reducible refine Sl.drew ?_) | (with_reducible refine Sl.drewN ?_ _) | refine Sl.setFar ?_ (fun hn x e => by have := lK0 hn x e; simp only []; omega) _)
  have cBR := BR.cells
  have fBR := BR.frozens
  have zBR := BR.lt
  have cBS := BS.cells
  have fBS := BS.frozens
  have zBS := BS.lt
  have cBG := BG.cells
  have fBG := BG.frozens
  have zBG := BG.lt
  replace X0 : Ext w w3 := by refine RExt.new ?_ hx3 (by omega); exact (by repeat (first | (with_reducible exact Ext.refl _) | (with_reducible assumption) | (with_reducible refine Ext.alloc ?_ _) | (with_reducible refine Ext.drewN ?_ _) | (with_reducible refine Ext.drew ?_) | (with_reducible refine Ext.setCell ?_ ?_ _; rotate_left; (simp only []; omega)) | (with_reducible refine Ext.trans ?_ (by assumption))))
  have lS0 : 0 < sn → ∀ x, sa = some x → w2.heap.size < x.block ∧ x.block < w3.heap.size := fun h x e => ⟨by have h := fS x e; simp at h; omega, S0.lt h x e⟩
  clear fS
  go_wp2_with fail
  refine (pick_any _ B _ 5 _ (by exact q3.to (by repeat (first | (with_reducible exact Since.refl q3.le) | (with_reducible refine Since.alloc ?_ _) | (with_reducible refine Since.drew ?_) | (with_reducible refine Since.drewN ?_ _) | (with_reducible refine Since.setCell ?_ ?_ _; rotate_left; (simp only []; omega)) | (with_reducible refine Since.ext ?_ (by assumption))))) (by omega) (by omega) (by omega)).mono ?_
  rintro e w4 ⟨d, rfl, d0, d1, q4, hx4⟩
  have hy4 := hx4.size
  (try simp at hy4)
  clear cBR fBR zBR
  clear cBS fBS zBS
  clear cBG fBG zBG
  replace BR : Blk w4 w.heap.size 40 (#[.int .i64 0, .int .i64 0, .int .i64 0, .slice none 0 0, .slice none 0 0, .int .i64 0, .int .i64 0, .int .i64 0]) := by refine Blk.rext ?_ hx4 (by omega); repeat (first | (with_reducible exact BR) | (with_reducible exact Blk.new _ _ _) | exact Blk.newAt _ _ _ (by simp) | (with_reducible refine Blk.alloc ?_ _) | (with_reducible refine Blk.drew ?_) | (with_reducible refine Blk.drewN ?_ _) | refine Blk.far ?_ (by simp only []; omega) _)
  replace BS : Blk w4 (w.heap.size+1) 56 (#[.int .i64 0, .int .i64 0, .int .i64 0, .int .i64 0, .int .i64 0, .int .i64 0, .int .i64 0, .int .i64 0, .slice none 0 0]) := by refine Blk.rext ?_ hx4 (by omega); repeat (first | (with_reducible exact BS) | (with_reducible exact Blk.new _ _ _) | exact Blk.newAt _ _ _ (by simp) | (with_reducible refine Blk.alloc ?_ _) | (with_reducible refine Blk.drew ?_) | (with_reducible refine Blk.drewN ?_ _) | refine Blk.far ?_ (by simp only []; omega) _)
  replace BG : Blk w4 w2.heap.size 40 (#[.int .i64 g.net.base, .int .i64 g.net.bits, .int .i64 g.out, .slice ta tn tc, .slice ka kn kc, .int .i64 g.filter, .int .i64 g.hold, .int .i64 g.now]) := by refine Blk.rext ?_ hx4 (by omega); repeat (first | (with_reducible exact BG) | (with_reducible exact Blk.new _ _ _) | exact Blk.newAt _ _ _ (by simp) | (with_reducible refine Blk.alloc ?_ _) | (with_reducible refine Blk.drew ?_) | (with_reducible refine Blk.drewN ?_ _) | refine Blk.far ?_ (by simp only []; omega) _)
  have BP : Blk w4 w3.heap.size 56 (#[.int .i64 o, .int .i64 s, .int .i64 t, .int .i64 k, .int .i64 fa, .int .i64 fp, .int .i64 ga, .int .i64 gp, .slice sa sn sc]) := by refine Blk.rext ?_ hx4 (by omega); repeat (first | (with_reducible exact BP) | (with_reducible exact Blk.new _ _ _) | exact Blk.newAt _ _ _ (by simp) | (with_reducible refine Blk.alloc ?_ _) | (with_reducible refine Blk.drew ?_) | (with_reducible refine Blk.drewN ?_ _) | refine Blk.far ?_ (by simp only []; omega) _)
  replace T0 : Sl encM 4 w4 ta tn tc g.table := by refine Sl.rextFar ?_ hx4 (fun hn x e => by have := lT0 hn x e; omega); repeat (first | (with_reducible exact T0) | (with_reducible refine Sl.alloc ?_ _) | (with_reducible refine Sl.drew ?_) | (with_reducible refine Sl.drewN ?_ _) | refine Sl.setFar ?_ (fun hn x e => by have := lT0 hn x e; simp only []; omega) _)
  replace K0 : Sl encC 3 w4 ka kn kc g.cons := by refine Sl.rextFar ?_ hx4 (fun hn x e => by have := lK0 hn x e; omega); repeat (first | (with_reducible exact K0) | (with_reducible refine Sl.alloc ?_ _) | (with_reducible refine Sl.drew ?_) | (with_reducible refine Sl.drewN ?_ _) | refine Sl.setFar ?_ (fun hn x e => by have := lK0 hn x e; simp only []; omega) _)
  replace S0 : Sl encI 1 w4 sa sn sc L := by refine Sl.rextFar ?_ hx4 (fun hn x e => by have := lS0 hn x e; omega); repeat (first | (with_reducible exact S0) | (with_reducible refine Sl.alloc ?_ _) | (with_reducible refine Sl.drew ?_) | (with_reducible refine Sl.drewN ?_ _) | refine Sl.setFar ?_ (fun hn x e => by have := lS0 hn x e; simp only []; omega) _)
  have cBR := BR.cells
  have fBR := BR.frozens
  have zBR := BR.lt
  have cBS := BS.cells
  have fBS := BS.frozens
  have zBS := BS.lt
  have cBG := BG.cells
  have fBG := BG.frozens
  have zBG := BG.lt
  have cBP := BP.cells
  have fBP := BP.frozens
  have zBP := BP.lt
  replace X0 : Ext w w4 := by refine RExt.new ?_ hx4 (by omega); exact (by repeat (first | (with_reducible exact Ext.refl _) | (with_reducible assumption) | (with_reducible refine Ext.alloc ?_ _) | (with_reducible refine Ext.drewN ?_ _) | (with_reducible refine Ext.drew ?_) | (with_reducible refine Ext.setCell ?_ ?_ _; rotate_left; (simp only []; omega)) | (with_reducible refine Ext.trans ?_ (by assumption))))
  clear hx2 hx3 hx4 q2 q3 hr
  have hPG : w2.heap.size < w3.heap.size := by omega
  have hPw : w3.heap.size < w4.heap.size := by omega
  by_cases e0 : 0 < d
  · have e1 := e0
    go_wp2_with fail
    refine (one_lit _ B _ _ _ _ _ _ (by exact q4.to (by repeat (first | (with_reducible exact Since.refl q4.le) | (with_reducible refine Since.alloc ?_ _) | (with_reducible refine Since.drew ?_) | (with_reducible refine Since.drewN ?_ _) | (with_reducible refine Since.setCell ?_ ?_ _; rotate_left; (simp only []; omega)) | (with_reducible refine Since.ext ?_ (by assumption))))) (by omega) (by first | rfl | simp) (by rfl) (by omega) (by omega) (by simp [intOf])).mono ?_
    rintro e w5 ⟨z, rfl, hm, q5, hx5⟩
    have hy5 := hx5.size
    (try simp at hy5)
    clear cBR fBR zBR
    clear cBS fBS zBS
    clear cBG fBG zBG
    clear cBP fBP zBP
    replace BR : Blk w5 w.heap.size 40 (#[.int .i64 0, .int .i64 0, .int .i64 0, .slice none 0 0, .slice none 0 0, .int .i64 0, .int .i64 0, .int .i64 0]) := by refine Blk.rext ?_ hx5 (by omega); repeat (first | (with_reducible exact BR) | (with_reducible exact Blk.new _ _ _) | exact Blk.newAt _ _ _ (by simp) | (with_reducible refine Blk.alloc ?_ _) | (with_reducible refine Blk.drew ?_) | (with_reducible refine Blk.drewN ?_ _) | refine Blk.far ?_ (by simp only []; omega) _)
    replace BS : Blk w5 (w.heap.size+1) 56 (#[.int .i64 0, .int .i64 0, .int .i64 0, .int .i64 0, .int .i64 0, .int .i64 0, .int .i64 0, .int .i64 0, .slice none 0 0]) := by refine Blk.rext ?_ hx5 (by omega); repeat (first | (with_reducible exact BS) | (with_reducible exact Blk.new _ _ _) | exact Blk.newAt _ _ _ (by simp) | (with_reducible refine Blk.alloc ?_ _) | (with_reducible refine Blk.drew ?_) | (with_reducible refine Blk.drewN ?_ _) | refine Blk.far ?_ (by simp only []; omega) _)
    replace BG : Blk w5 w2.heap.size 40 (#[.int .i64 g.net.base, .int .i64 g.net.bits, .int .i64 g.out, .slice ta tn tc, .slice ka kn kc, .int .i64 g.filter, .int .i64 g.hold, .int .i64 g.now]) := by refine Blk.rext ?_ hx5 (by omega); repeat (first | (with_reducible exact BG) | (with_reducible exact Blk.new _ _ _) | exact Blk.newAt _ _ _ (by simp) | (with_reducible refine Blk.alloc ?_ _) | (with_reducible refine Blk.drew ?_) | (with_reducible refine Blk.drewN ?_ _) | refine Blk.far ?_ (by simp only []; omega) _)
    replace BP : Blk w5 w3.heap.size 56 (#[.int .i64 o, .int .i64 s, .int .i64 g.out, .int .i64 k, .int .i64 fa, .int .i64 fp, .int .i64 ga, .int .i64 gp, .slice sa sn sc]) := by refine Blk.rext ?_ hx5 (by omega); repeat (first | (exact (show Blk _ w3.heap.size 56 (#[.int .i64 o, .int .i64 s, .int .i64 g.out, .int .i64 k, .int .i64 fa, .int .i64 fp, .int .i64 ga, .int .i64 gp, .slice sa sn sc]) from by simpa using (BP.set 2 (.int .i64 g.out)))) | (with_reducible exact Blk.new _ _ _) | exact Blk.newAt _ _ _ (by simp) | (with_reducible refine Blk.alloc ?_ _) | (with_reducible refine Blk.drew ?_) | (with_reducible refine Blk.drewN ?_ _) | refine Blk.far ?_ (by simp only []; omega) _)
    replace T0 : Sl encM 4 w5 ta tn tc g.table := by refine Sl.rextFar ?_ hx5 (fun hn x e => by have := lT0 hn x e; omega); repeat (first | (with_reducible exact T0) | (with_reducible refine Sl.alloc ?_ _) | (with_reducible refine Sl.drew ?_) | (with_reducible refine Sl.drewN ?_ _) | refine Sl.setFar ?_ (fun hn x e => by have := lT0 hn x e; simp only []; omega) _)
    replace K0 : Sl encC 3 w5 ka kn kc g.cons := by refine Sl.rextFar ?_ hx5 (fun hn x e => by have := lK0 hn x e; omega); repeat (first | (with_reducible exact K0) | (with_reducible refine Sl.alloc ?_ _) | (with_reducible refine Sl.drew ?_) | (with_reducible refine Sl.drewN ?_ _) | refine Sl.setFar ?_ (fun hn x e => by have := lK0 hn x e; simp only []; omega) _)
    replace S0 : Sl encI 1 w5 sa sn sc L := by refine Sl.rextFar ?_ hx5 (fun hn x e => by have := lS0 hn x e; omega); repeat (first | (with_reducible exact S0) | (with_reducible refine Sl.alloc ?_ _) | (with_reducible refine Sl.drew ?_) | (with_reducible refine Sl.drewN ?_ _) | refine Sl.setFar ?_ (fun hn x e => by have := lS0 hn x e; simp only []; omega) _)
    have cBR := BR.cells
    have fBR := BR.frozens
    have zBR := BR.lt
    have cBS := BS.cells
    have fBS := BS.frozens
    have zBS := BS.lt
    have cBG := BG.cells
    have fBG := BG.frozens
    have zBG := BG.lt
    have cBP := BP.cells
    have fBP := BP.frozens
    have zBP := BP.lt
    replace X0 : Ext w w5 := by refine RExt.new ?_ hx5 (by omega); exact (by repeat (first | (with_reducible exact Ext.refl _) | (with_reducible assumption) | (with_reducible refine Ext.alloc ?_ _) | (with_reducible refine Ext.drewN ?_ _) | (with_reducible refine Ext.drew ?_) | (with_reducible refine Ext.setCell ?_ ?_ _; rotate_left; (simp only []; omega)) | (with_reducible refine Ext.trans ?_ (by assumption))))
    clear hm q4 hx5
    go_wp2_with fail
    refine wp_gen (fun W => RExt w3.heap.size w5 W ∧ Blk W w3.heap.size 56 #[.int .i64 o, .int .i64 z, .int .i64 g.out, .int .i64 k, .int .i64 fa, .int .i64 fp, .int .i64 ga, .int .i64 gp, .slice sa sn sc]) ⟨(by repeat (first | (with_reducible exact RExt.refl _ _) | (with_reducible refine RExt.putc ?_ _ _))), by simpa using (BP.set 1 (.int .i64 z))⟩ ?_
    rintro w6 ⟨x6, BP6⟩
    clear cBG fBG zBG cBP fBP zBP cBR fBR zBR cBS fBS zBS
    clear BP
    have BP := BP6
    have r0 := q5
    replace BG := BG.rext x6 (by omega)
    replace BR := BR.rext x6 (by omega)
    replace BS := BS.rext x6 (by omega)
    replace T0 := T0.rextFar x6 (fun hn x e => by have := lT0 hn x e; omega)
    replace K0 := K0.rextFar x6 (fun hn x e => by have := lK0 hn x e; omega)
    replace S0 := S0.rextFar x6 (fun hn x e => by have := lS0 hn x e; omega)
    replace X0 := RExt.new X0 x6 (by omega)
    have := (x6).size
    replace r0 := r0.rextNew x6 (by omega)
    clear x6
    clear BP6 q5
    replace BG := BG.drew
    replace BP := BP.drew
    replace BR := BR.drew
    replace BS := BS.drew
    replace T0 := T0.drew
    replace K0 := K0.drew
    replace S0 := S0.drew
    replace X0 := X0.drew
    replace r0 := r0.drew
    have hBv : B < w6.heap.size := by omega
    have hdrS : ∀ W : World, W.drew.heap.size = W.heap.size := fun _ => rfl
    refine wp_region_float (R := RExt B) (base := (w6).heap.size) (Ts := []) [0, 1, 2, 3, 4, 5, 6, 7, 8] (by kernel_rfl) (by kernel_rfl) (RExt.refl B) (fun _ _ _ => RExt.trans) (fun _ _ h => RExt.of_ext h B) (fun _ _ h => h.size) (fun _ _ b _ _ hb hB hR => hB.rext hR (by omega)) (by intro x hx; simp only [List.mem_cons, List.not_mem_nil, or_false] at hx; skip; all_goals (intro wS; kernel_rfl)) (by omega) ?_
    have hdrW := hdrS (w6)
    repeat' (first
      | (refine' ChF.pure (v := _) (by rfl) (by rfl) (by rfl) ?_ ?_
         rotate_left
         · (intro wS
            go_simp
            with_reducible rfl)
         (try simp only [Act.put, List.setIfInBounds_toArray, List.set_cons_zero, List.set_cons_succ]))
      | (refine' ChF.quiet (v := _) (by rfl) (by rfl) (by rfl) (by rfl) ?_ ?_
         rotate_left
         · (intro wS hS
            have cS := (BG.rext hS (by omega)).cells
            go_simp
            with_reducible rfl)
         (try simp only [Act.put, List.setIfInBounds_toArray, List.set_cons_zero, List.set_cons_succ]))
      | fail)
    refine ChF.call (by rfl) (by rfl) (by rfl) (by rfl) (by rfl) (by intro wS; go_simp; (constructor <;> rfl)) ?_
    intro u7 eu7
    replace BG := BG.ext eu7
    replace BP := BP.ext eu7
    replace S0 := S0.ext eu7
    replace r0 := r0.ext eu7
    replace BR := BR.ext eu7
    replace BS := BS.ext eu7
    replace T0 := T0.ext eu7
    replace K0 := K0.ext eu7
    replace X0 := X0.trans eu7
    have := (eu7).size
    clear eu7
    refine (pick_any _ B _ 6 u7 r0 (by omega) (by omega) (by omega)).mono ?_
    rintro e v7 ⟨px, rfl, px0, px1, q7, h7⟩
    refine ⟨_, rfl, h7, ?_⟩
    (try simp only [Act.put, List.setIfInBounds_toArray, List.set_cons_zero, List.set_cons_succ])
    replace BP := BP.rext h7 (by omega)
    replace S0 := S0.rextFar h7 (fun hn x e => by have := lS0 hn x e; omega)
    replace BG := BG.rext h7 (by omega)
    replace BR := BR.rext h7 (by omega)
    replace BS := BS.rext h7 (by omega)
    replace T0 := T0.rextFar h7 (fun hn x e => by have := lT0 hn x e; omega)
    replace K0 := K0.rextFar h7 (fun hn x e => by have := lK0 hn x e; omega)
    replace X0 := RExt.new X0 h7 (by omega)
    have := (h7).size
    replace r0 := q7
    clear q7 h7
    have hwr : IntKind.i64.wrap (1000 + px) = 1000 + px := IntWalk.i64_in _ (by omega)
    have cBP := BP.cells
    have fBP := BP.frozens
    repeat' (first
      | (refine' ChF.pure (v := _) (by rfl) (by rfl) (by rfl) ?_ ?_
         rotate_left
         · (intro wS
            go_simp
            with_reducible rfl)
         (try simp only [Act.put, List.setIfInBounds_toArray, List.set_cons_zero, List.set_cons_succ]))
      | (refine' ChF.quiet (v := _) (by rfl) (by rfl) (by rfl) (by rfl) ?_ ?_
         rotate_left
         · (intro wS hS
            skip
            go_simp
            with_reducible rfl)
         (try simp only [Act.put, List.setIfInBounds_toArray, List.set_cons_zero, List.set_cons_succ]))
      | fail)
    refine ChF.storeP (fun W => RExt w3.heap.size v7 W ∧ Blk W w3.heap.size 56 #[.int .i64 o, .int .i64 z, .int .i64 g.out, .int .i64 k, .int .i64 g.out, .int .i64 (1000 + px), .int .i64 ga, .int .i64 gp, .slice sa sn sc]) (by rfl) (by rfl) (by rfl) ⟨_, (by go_simp; rfl), (by simp [World.setCell]), (by repeat (first | (with_reducible exact RExt.refl _ _) | (with_reducible refine RExt.putc ?_ _ _))), (by simpa using (BP.set 4 (.int .i64 g.out)).set 5 (.int .i64 (1000 + px)))⟩ ?_
    (try simp only [Act.put, List.setIfInBounds_toArray, List.set_cons_zero, List.set_cons_succ])
    clear hwr cBP fBP BP
    rintro w8 s8 ⟨x8, BP⟩
    replace BG := BG.rext x8 (by omega)
    replace BR := BR.rext x8 (by omega)
    replace BS := BS.rext x8 (by omega)
    replace T0 := T0.rextFar x8 (fun hn x e => by have := lT0 hn x e; omega)
    replace K0 := K0.rextFar x8 (fun hn x e => by have := lK0 hn x e; omega)
    replace S0 := S0.rextFar x8 (fun hn x e => by have := lS0 hn x e; omega)
    replace X0 := RExt.new X0 x8 (by omega)
    have := (x8).size
    replace r0 := r0.rextNew x8 (by omega)
    clear x8
    refine ChF.nil ?_
    go_wp2_with fail
    have hBv : B < w8.heap.size := by omega
    replace BG := BG.drew
    replace BP := BP.drew
    replace BR := BR.drew
    replace BS := BS.drew
    replace T0 := T0.drew
    replace K0 := K0.drew
    (try replace S0 := S0.drew)
    (try replace r0 := r0.drew)
    replace X0 := X0.drew
    have hdrS : ∀ W : World, W.drew.heap.size = W.heap.size := fun _ => rfl
    refine wp_region_eager (R := RX (fun i => i = B ∨ i = w.heap.size ∨ i = w.heap.size + 1)) [0, 1, 2, 3] (by kernel_rfl) (by kernel_rfl) (RX.refl _) (fun _ _ _ => RX.trans) ?_
    have hdrW := hdrS (w8)
    generalize (w8).drew = vD at *
    repeat' (first
      | (refine ChX.skip (by rfl) (by rfl) ?_
         (try simp only [Act.put, List.setIfInBounds_toArray, List.set_cons_zero, List.set_cons_succ]))
      | (refine' ChX.quiet (v := _) (by rfl) (by rfl) (by rfl) ?_ ?_
         rotate_left
         · (intro wS hS
            have cG := (BG.rx hS (by omega)).cells; have cP := (BP.rx hS (by omega)).cells
            go_simp
            with_reducible rfl)
         (try simp only [Act.put, List.setIfInBounds_toArray, List.set_cons_zero, List.set_cons_succ]))
      | (refine ChX.nil ?_)
      | (refine' ChX.guard (x := _) (by rfl) ?_ ?_ ?_
         rotate_left
         · (go_simp
            rfl)
         all_goals
           intro hg
           simp only [hg])
      | (refine' ChX.guardN (x := _) (by rfl) ?_ ?_ ?_
         rotate_left
         · (go_simp
            rfl)
         all_goals
           intro hg
           simp only [hg]))
    skip
    have cR := BR.cells
    have fR := BR.frozens
    refine ChX.storeP (fun W => RExt w.heap.size vD W ∧ Blk W w.heap.size 40 (#[.int .i64 g.net.base, .int .i64 g.net.bits, .int .i64 g.out, .slice ta tn tc, .slice ka kn kc, .int .i64 g.filter, .int .i64 g.hold, .int .i64 g.now])) (by rfl) (by rfl) (by rfl) ⟨_, (by go_simp; rfl), RX.of_rext (B := w.heap.size) (by repeat (first | (with_reducible exact RExt.refl _ _) | (with_reducible refine RExt.putc ?_ _ _))) (.inr (.inl rfl)), (by repeat (first | (with_reducible exact RExt.refl _ _) | (with_reducible refine RExt.putc ?_ _ _))), (by exact BR.put8 _ _ _ _ _ _ _ _)⟩ ?_
    (try simp only [Act.put, List.setIfInBounds_toArray, List.set_cons_zero, List.set_cons_succ])
    rintro yW1 _ ⟨z1, BR1⟩
    clear cR fR
    have BS1 := BS.rext z1 (by omega)
    have cS := BS1.cells
    have fS := BS1.frozens
    refine ChX.storeP (fun W => RExt (w.heap.size + 1) yW1 W ∧ Blk W (w.heap.size + 1) 56 #[.int .i64 o, .int .i64 z, .int .i64 g.out, .int .i64 k, .int .i64 g.out, .int .i64 (1000 + px), .int .i64 ga, .int .i64 gp, .slice sa sn sc]) (by rfl) (by rfl) (by rfl) ⟨_, (by go_simp; rfl), RX.of_rext (B := w.heap.size + 1) (by repeat (first | (with_reducible exact RExt.refl _ _) | (with_reducible refine RExt.putc ?_ _ _))) (.inr (.inr rfl)), (by repeat (first | (with_reducible exact RExt.refl _ _) | (with_reducible refine RExt.putc ?_ _ _))), (by exact BS1.put9 _ _ _ _ _ _ _ _ _)⟩ ?_
    (try simp only [Act.put, List.setIfInBounds_toArray, List.set_cons_zero, List.set_cons_succ])
    rintro yW2 _ ⟨z2, BS2⟩
    clear cS fS BS1
    have BR2 := BR1.rext z2 (by omega)
    replace T0 := (T0.rextFar z1 (fun hn x e => by have := lT0 hn x e; omega)).rextFar z2 (fun hn x e => by have := lT0 hn x e; omega)
    replace K0 := (K0.rextFar z1 (fun hn x e => by have := lK0 hn x e; omega)).rextFar z2 (fun hn x e => by have := lK0 hn x e; omega)
    replace S0 := (S0.rextFar z1 (fun hn x e => by have := lS0 hn x e; omega)).rextFar z2 (fun hn x e => by have := lS0 hn x e; omega)
    replace X0 := RExt.new (RExt.new X0 z1 (by omega)) z2 (by omega)
    refine ChX.nil ?_
    have cR := BR2.cells
    have cS := BS2.cells
    have zR := BR2.lt
    have zS := BS2.lt
    go_wp2
    refine' bodyPost_ret (v := _) ?_ rfl ?_
    rotate_left
    · (simp only [results, Try.results31]
       go_simp
       rfl)
    exact ⟨g, ⟨o, z, g.out, ⟨k, ⟨g.out, 1000 + px⟩, ⟨ga, gp⟩, L⟩⟩, ta, tn, tc, ka, kn, kc, sa, sn, sc, rfl, T0, K0, S0, (fun h x e => by have := lT0 h x e; omega), (fun h x e => by have := lK0 h x e; omega), (fun h x e => by have := lS0 h x e; omega), X0⟩
  · go_wp2_with fail
    clear cBG fBG zBG cBP fBP zBP cBR fBR zBR cBS fBS zBS
    have hBv : B < w4.heap.size := by omega
    replace BG := BG.drew
    replace BP := BP.drew
    replace BR := BR.drew
    replace BS := BS.drew
    replace T0 := T0.drew
    replace K0 := K0.drew
    (try replace S0 := S0.drew)
    (try replace r0 := r0.drew)
    replace X0 := X0.drew
    have hdrS : ∀ W : World, W.drew.heap.size = W.heap.size := fun _ => rfl
    refine wp_region_eager (R := RX (fun i => i = B ∨ i = w.heap.size ∨ i = w.heap.size + 1)) [0, 1, 2, 3] (by kernel_rfl) (by kernel_rfl) (RX.refl _) (fun _ _ _ => RX.trans) ?_
    have hdrW := hdrS (w4)
    generalize (w4).drew = vD at *
    repeat' (first
      | (refine ChX.skip (by rfl) (by rfl) ?_
         (try simp only [Act.put, List.setIfInBounds_toArray, List.set_cons_zero, List.set_cons_succ]))
      | (refine' ChX.quiet (v := _) (by rfl) (by rfl) (by rfl) ?_ ?_
         rotate_left
         · (intro wS hS
            have cG := (BG.rx hS (by omega)).cells; have cP := (BP.rx hS (by omega)).cells
            go_simp
            with_reducible rfl)
         (try simp only [Act.put, List.setIfInBounds_toArray, List.set_cons_zero, List.set_cons_succ]))
      | (refine ChX.nil ?_)
      | (refine' ChX.guard (x := _) (by rfl) ?_ ?_ ?_
         rotate_left
         · (go_simp
            rfl)
         all_goals
           intro hg
           simp only [hg])
      | (refine' ChX.guardN (x := _) (by rfl) ?_ ?_ ?_
         rotate_left
         · (go_simp
            rfl)
         all_goals
           intro hg
           simp only [hg]))
    skip
    have cR := BR.cells
    have fR := BR.frozens
    refine ChX.storeP (fun W => RExt w.heap.size vD W ∧ Blk W w.heap.size 40 (#[.int .i64 g.net.base, .int .i64 g.net.bits, .int .i64 g.out, .slice ta tn tc, .slice ka kn kc, .int .i64 g.filter, .int .i64 g.hold, .int .i64 g.now])) (by rfl) (by rfl) (by rfl) ⟨_, (by go_simp; rfl), RX.of_rext (B := w.heap.size) (by repeat (first | (with_reducible exact RExt.refl _ _) | (with_reducible refine RExt.putc ?_ _ _))) (.inr (.inl rfl)), (by repeat (first | (with_reducible exact RExt.refl _ _) | (with_reducible refine RExt.putc ?_ _ _))), (by exact BR.put8 _ _ _ _ _ _ _ _)⟩ ?_
    (try simp only [Act.put, List.setIfInBounds_toArray, List.set_cons_zero, List.set_cons_succ])
    rintro yW1 _ ⟨z1, BR1⟩
    clear cR fR
    have BS1 := BS.rext z1 (by omega)
    have cS := BS1.cells
    have fS := BS1.frozens
    refine ChX.storeP (fun W => RExt (w.heap.size + 1) yW1 W ∧ Blk W (w.heap.size + 1) 56 #[.int .i64 o, .int .i64 s, .int .i64 t, .int .i64 k, .int .i64 fa, .int .i64 fp, .int .i64 ga, .int .i64 gp, .slice sa sn sc]) (by rfl) (by rfl) (by rfl) ⟨_, (by go_simp; rfl), RX.of_rext (B := w.heap.size + 1) (by repeat (first | (with_reducible exact RExt.refl _ _) | (with_reducible refine RExt.putc ?_ _ _))) (.inr (.inr rfl)), (by repeat (first | (with_reducible exact RExt.refl _ _) | (with_reducible refine RExt.putc ?_ _ _))), (by exact BS1.put9 _ _ _ _ _ _ _ _ _)⟩ ?_
    (try simp only [Act.put, List.setIfInBounds_toArray, List.set_cons_zero, List.set_cons_succ])
    rintro yW2 _ ⟨z2, BS2⟩
    clear cS fS BS1
    have BR2 := BR1.rext z2 (by omega)
    replace T0 := (T0.rextFar z1 (fun hn x e => by have := lT0 hn x e; omega)).rextFar z2 (fun hn x e => by have := lT0 hn x e; omega)
    replace K0 := (K0.rextFar z1 (fun hn x e => by have := lK0 hn x e; omega)).rextFar z2 (fun hn x e => by have := lK0 hn x e; omega)
    replace S0 := (S0.rextFar z1 (fun hn x e => by have := lS0 hn x e; omega)).rextFar z2 (fun hn x e => by have := lS0 hn x e; omega)
    replace X0 := RExt.new (RExt.new X0 z1 (by omega)) z2 (by omega)
    refine ChX.nil ?_
    have cR := BR2.cells
    have cS := BS2.cells
    have zR := BR2.lt
    have zS := BS2.lt
    go_wp2
    refine' bodyPost_ret (v := _) ?_ rfl ?_
    rotate_left
    · (simp only [results, Try.results31]
       go_simp
       rfl)
    exact ⟨g, ⟨o, s, t, ⟨k, ⟨fa, fp⟩, ⟨ga, gp⟩, L⟩⟩, ta, tn, tc, ka, kn, kc, sa, sn, sc, rfl, T0, K0, S0, (fun h x e => by have := lT0 h x e; omega), (fun h x e => by have := lK0 h x e; omega), (fun h x e => by have := lS0 h x e; omega), X0⟩
set_option maxHeartbeats 2000000 in
theorem DrawReportOut_any (a : Option Addr) (n c : Nat) (w : World) (hc : Code w a n c) :
    Calls Try.prog 24 #[.slice a n c] w fun e w' => ∃ (g : GateD) (r : RepD) (ta : Option Addr) (tn tc : Nat) (ka : Option Addr) (kn kc : Nat) (a : Option Addr) (n c : Nat), e = .returned (.tuple #[.agg #[.int .i64 g.net.base, .int .i64 g.net.bits, .int .i64 g.out, .slice ta tn tc, .slice ka kn kc, .int .i64 g.filter, .int .i64 g.hold, .int .i64 g.now], .agg #[.int .i64 r.code, .int .i64 r.sender, .int .i64 r.to_, .int .i64 r.about.kind, .int .i64 r.about.fr.addr, .int .i64 r.about.fr.port, .int .i64 r.about.to_.addr, .int .i64 r.about.to_.port, .slice a n c]]) ∧
          Sl encM 4 w' ta tn tc g.table ∧ Sl encC 3 w' ka kn kc g.cons ∧ Sl encI 1 w' a n c r.about.data ∧ (0 < tn → ∀ x, ta = some x → w.heap.size ≤ x.block) ∧ (0 < kn → ∀ x, ka = some x → w.heap.size ≤ x.block) ∧ (0 < n → ∀ x, a = some x → w.heap.size ≤ x.block) ∧ Ext w w' := by
  obtain ⟨zs, hs, hz⟩ := hc
  go_enter Try.func24, Try.ntmps24
  go_wp2_with fail
  refine (newReader_any a n c zs _ (hs.ext (by repeat (first | (with_reducible exact Ext.refl _) | (with_reducible assumption) | (with_reducible refine Ext.alloc ?_ _) | (with_reducible refine Ext.drewN ?_ _) | (with_reducible refine Ext.drew ?_) | (with_reducible refine Ext.setCell ?_ ?_ _; rotate_left; (simp only []; omega)) | (with_reducible refine Ext.trans ?_ (by assumption))))) hz).mono ?_
  rintro e w1 ⟨B, rfl, hB, hr, hx⟩
  have hy1 := hx.size
  (try simp at hy1)
  (try simp at hB)
  have hBl := hr.lt
  have BR : Blk w1 w.heap.size 40 #[.int .i64 0, .int .i64 0, .int .i64 0, .slice none 0 0, .slice none 0 0, .int .i64 0, .int .i64 0, .int .i64 0] := by refine Blk.ext ?_ hx; exact (by repeat (first | (with_reducible assumption) | (with_reducible exact Blk.new _ _ _) | exact Blk.newAt _ _ _ (by simp) | (with_reducible refine Blk.alloc ?_ _) | (with_reducible refine Blk.drew ?_) | (with_reducible refine Blk.drewN ?_ _) | refine Blk.far ?_ (by simp only []; omega) _ | refine Blk.rext ?_ (by assumption) (by omega) | refine Blk.ext ?_ (by assumption)))
  have BS : Blk w1 (w.heap.size + 1) 56 #[.int .i64 0, .int .i64 0, .int .i64 0, .int .i64 0, .int .i64 0, .int .i64 0, .int .i64 0, .int .i64 0, .slice none 0 0] := by refine Blk.ext ?_ hx; exact (by repeat (first | (with_reducible assumption) | (with_reducible exact Blk.new _ _ _) | exact Blk.newAt _ _ _ (by simp) | (with_reducible refine Blk.alloc ?_ _) | (with_reducible refine Blk.drew ?_) | (with_reducible refine Blk.drewN ?_ _) | refine Blk.far ?_ (by simp only []; omega) _ | refine Blk.rext ?_ (by assumption) (by omega) | refine Blk.ext ?_ (by assumption)))
  have X0 : Ext w w1 := (by repeat (first | (with_reducible exact Ext.refl _) | (with_reducible assumption) | (with_reducible refine Ext.alloc ?_ _) | (with_reducible refine Ext.drewN ?_ _) | (with_reducible refine Ext.drew ?_) | (with_reducible refine Ext.setCell ?_ ?_ _; rotate_left; (simp only []; omega)) | (with_reducible refine Ext.trans ?_ (by assumption))))
  clear hx
  go_wp2_with fail
  refine (anyGate_any _ B _ _ hr (by omega)).mono ?_
  rintro e w2 ⟨g, ta, tn, tc, ka, kn, kc, rfl, T0, K0, htn, _, _, _, fT, fK, q2, hx2⟩
  have hy2 := hx2.size
  (try simp at hy2)
  have BR : Blk w2 w.heap.size 40 (#[.int .i64 0, .int .i64 0, .int .i64 0, .slice none 0 0, .slice none 0 0, .int .i64 0, .int .i64 0, .int .i64 0]) := by refine Blk.rext ?_ hx2 (by omega); repeat (first | (with_reducible exact BR) | (with_reducible exact Blk.new _ _ _) | exact Blk.newAt _ _ _ (by simp) | (with_reducible refine Blk.alloc ?_ _) | (with_reducible refine Blk.drew ?_) | (with_reducible refine Blk.drewN ?_ _) | refine Blk.far ?_ (by simp only []; omega) _)
  have BS : Blk w2 (w.heap.size+1) 56 (#[.int .i64 0, .int .i64 0, .int .i64 0, .int .i64 0, .int .i64 0, .int .i64 0, .int .i64 0, .int .i64 0, .slice none 0 0]) := by refine Blk.rext ?_ hx2 (by omega); repeat (first | (with_reducible exact BS) | (with_reducible exact Blk.new _ _ _) | exact Blk.newAt _ _ _ (by simp) | (with_reducible refine Blk.alloc ?_ _) | (with_reducible refine Blk.drew ?_) | (with_reducible refine Blk.drewN ?_ _) | refine Blk.far ?_ (by simp only []; omega) _)
  have cBR := BR.cells
  have fBR := BR.frozens
  have zBR := BR.lt
  have cBS := BS.cells
  have fBS := BS.frozens
  have zBS := BS.lt
  have hTB : ∀ x, ta = some x → x.block ≠ B := fun x e => by have := fT x e; omega
  have lT0 : 0 < tn → ∀ x, ta = some x → w1.heap.size ≤ x.block ∧ x.block < w2.heap.size := fun h x e => ⟨fT x e, T0.lt h x e⟩
  have lK0 : 0 < kn → ∀ x, ka = some x → w1.heap.size ≤ x.block ∧ x.block < w2.heap.size := fun h x e => ⟨fK x e, K0.lt h x e⟩
  clear fT fK
  replace X0 : Ext w w2 := by refine RExt.new ?_ hx2 (by omega); exact (by repeat (first | (with_reducible exact Ext.refl _) | (with_reducible assumption) | (with_reducible refine Ext.alloc ?_ _) | (with_reducible refine Ext.drewN ?_ _) | (with_reducible refine Ext.drew ?_) | (with_reducible refine Ext.setCell ?_ ?_ _; rotate_left; (simp only []; omega)) | (with_reducible refine Ext.trans ?_ (by assumption))))
  go_wp2_with fail
  refine (anyReport_any _ B _ _ (by exact q2.to (by repeat (first | (with_reducible exact Since.refl q2.le) | (with_reducible refine Since.alloc ?_ _) | (with_reducible refine Since.drew ?_) | (with_reducible refine Since.drewN ?_ _) | (with_reducible refine Since.setCell ?_ ?_ _; rotate_left; (simp only []; omega)) | (with_reducible refine Since.ext ?_ (by assumption))))) (by omega)).mono ?_
  rintro e w3 ⟨o, s, t, k, fa, fp, ga, gp, sa, sn, sc, L, rfl, S0, _, fS, q3, hx3⟩
  have hy3 := hx3.size
  (try simp at hy3)
  clear cBR fBR zBR
  clear cBS fBS zBS
  replace BR : Blk w3 w.heap.size 40 (#[.int .i64 0, .int .i64 0, .int .i64 0, .slice none 0 0, .slice none 0 0, .int .i64 0, .int .i64 0, .int .i64 0]) := by refine Blk.rext ?_ hx3 (by omega); repeat (first | (with_reducible exact BR) | (with_reducible exact Blk.new _ _ _) | exact Blk.newAt _ _ _ (by simp) | (with_reducible refine Blk.alloc ?_ _) | (with_reducible refine Blk.drew ?_) | (with_reducible refine Blk.drewN ?_ _) | refine Blk.far ?_ (by simp only []; omega) _)
  replace BS : Blk w3 (w.heap.size+1) 56 (#[.int .i64 0, .int .i64 0, .int .i64 0, .int .i64 0, .int .i64 0, .int .i64 0, .int .i64 0, .int .i64 0, .slice none 0 0]) := by refine Blk.rext ?_ hx3 (by omega); repeat (first | (with_reducible exact BS) | (with_reducible exact Blk.new _ _ _) | exact Blk.newAt _ _ _ (by simp) | (with_reducible refine Blk.alloc ?_ _) | (with_reducible refine Blk.drew ?_) | (with_reducible refine Blk.drewN ?_ _) | refine Blk.far ?_ (by simp only []; omega) _)
  have BG : Blk w3 w2.heap.size 40 (#[.int .i64 g.net.base, .int .i64 g.net.bits, .int .i64 g.out, .slice ta tn tc, .slice ka kn kc, .int .i64 g.filter, .int .i64 g.hold, .int .i64 g.now]) := by refine Blk.rext ?_ hx3 (by omega); repeat (first | (with_reducible exact BG) | (with_reducible exact Blk.new _ _ _) | exact Blk.newAt _ _ _ (by simp) | (with_reducible refine Blk.alloc ?_ _) | (with_reducible refine Blk.drew ?_) | (with_reducible refine Blk.drewN ?_ _) | refine Blk.far ?_ (by simp only []; omega) _)
  replace T0 : Sl encM 4 w3 ta tn tc g.table := by refine Sl.rextFar ?_ hx3 (fun hn x e => by have := lT0 hn x e; omega); repeat (first | (with_reducible exact T0) | (with_reducible refine Sl.alloc ?_ _) | (with_reducible refine Sl.drew ?_) | (with_reducible refine Sl.drewN ?_ _) | refine Sl.setFar ?_ (fun hn x e => by have := lT0 hn x e; simp only []; omega) _)
  replace K0 : Sl encC 3 w3 ka kn kc g.cons := by refine Sl.rextFar ?_ hx3 (fun hn x e => by have := lK0 hn x e; omega); repeat (first | (with_reducible exact K0) | (with_reducible refine Sl.alloc ?_ _) | (with_reducible refine Sl.drew ?_) | (with_reducible refine Sl.drewN ?_ _) | refine Sl.setFar ?_ (fun hn x e => by have := lK0 hn x e; simp only []; omega) _)
  have cBR := BR.cells
  have fBR := BR.frozens
  have zBR := BR.lt
  have cBS := BS.cells
  have fBS := BS.frozens
  have zBS := BS.lt
  have cBG := BG.cells
  have fBG := BG.frozens
  have zBG := BG.lt
  replace X0 : Ext w w3 := by refine RExt.new ?_ hx3 (by omega); exact (by repeat (first | (with_reducible exact Ext.refl _) | (with_reducible assumption) | (with_reducible refine Ext.alloc ?_ _) | (with_reducible refine Ext.drewN ?_ _) | (with_reducible refine Ext.drew ?_) | (with_reducible refine Ext.setCell ?_ ?_ _; rotate_left; (simp only []; omega)) | (with_reducible refine Ext.trans ?_ (by assumption))))
  have lS0 : 0 < sn → ∀ x, sa = some x → w2.heap.size < x.block ∧ x.block < w3.heap.size := fun h x e => ⟨by have h := fS x e; simp at h; omega, S0.lt h x e⟩
  clear fS
  go_wp2_with fail
  refine (pick_any _ B _ 5 _ (by exact q3.to (by repeat (first | (with_reducible exact Since.refl q3.le) | (with_reducible refine Since.alloc ?_ _) | (with_reducible refine Since.drew ?_) | (with_reducible refine Since.drewN ?_ _) | (with_reducible refine Since.setCell ?_ ?_ _; rotate_left; (simp only []; omega)) | (with_reducible refine Since.ext ?_ (by assumption))))) (by omega) (by omega) (by omega)).mono ?_
  rintro e w4 ⟨d, rfl, d0, d1, q4, hx4⟩
  have hy4 := hx4.size
  (try simp at hy4)
  clear cBR fBR zBR
  clear cBS fBS zBS
  clear cBG fBG zBG
  replace BR : Blk w4 w.heap.size 40 (#[.int .i64 0, .int .i64 0, .int .i64 0, .slice none 0 0, .slice none 0 0, .int .i64 0, .int .i64 0, .int .i64 0]) := by refine Blk.rext ?_ hx4 (by omega); repeat (first | (with_reducible exact BR) | (with_reducible exact Blk.new _ _ _) | exact Blk.newAt _ _ _ (by simp) | (with_reducible refine Blk.alloc ?_ _) | (with_reducible refine Blk.drew ?_) | (with_reducible refine Blk.drewN ?_ _) | refine Blk.far ?_ (by simp only []; omega) _)
  replace BS : Blk w4 (w.heap.size+1) 56 (#[.int .i64 0, .int .i64 0, .int .i64 0, .int .i64 0, .int .i64 0, .int .i64 0, .int .i64 0, .int .i64 0, .slice none 0 0]) := by refine Blk.rext ?_ hx4 (by omega); repeat (first | (with_reducible exact BS) | (with_reducible exact Blk.new _ _ _) | exact Blk.newAt _ _ _ (by simp) | (with_reducible refine Blk.alloc ?_ _) | (with_reducible refine Blk.drew ?_) | (with_reducible refine Blk.drewN ?_ _) | refine Blk.far ?_ (by simp only []; omega) _)
  replace BG : Blk w4 w2.heap.size 40 (#[.int .i64 g.net.base, .int .i64 g.net.bits, .int .i64 g.out, .slice ta tn tc, .slice ka kn kc, .int .i64 g.filter, .int .i64 g.hold, .int .i64 g.now]) := by refine Blk.rext ?_ hx4 (by omega); repeat (first | (with_reducible exact BG) | (with_reducible exact Blk.new _ _ _) | exact Blk.newAt _ _ _ (by simp) | (with_reducible refine Blk.alloc ?_ _) | (with_reducible refine Blk.drew ?_) | (with_reducible refine Blk.drewN ?_ _) | refine Blk.far ?_ (by simp only []; omega) _)
  have BP : Blk w4 w3.heap.size 56 (#[.int .i64 o, .int .i64 s, .int .i64 t, .int .i64 k, .int .i64 fa, .int .i64 fp, .int .i64 ga, .int .i64 gp, .slice sa sn sc]) := by refine Blk.rext ?_ hx4 (by omega); repeat (first | (with_reducible exact BP) | (with_reducible exact Blk.new _ _ _) | exact Blk.newAt _ _ _ (by simp) | (with_reducible refine Blk.alloc ?_ _) | (with_reducible refine Blk.drew ?_) | (with_reducible refine Blk.drewN ?_ _) | refine Blk.far ?_ (by simp only []; omega) _)
  replace T0 : Sl encM 4 w4 ta tn tc g.table := by refine Sl.rextFar ?_ hx4 (fun hn x e => by have := lT0 hn x e; omega); repeat (first | (with_reducible exact T0) | (with_reducible refine Sl.alloc ?_ _) | (with_reducible refine Sl.drew ?_) | (with_reducible refine Sl.drewN ?_ _) | refine Sl.setFar ?_ (fun hn x e => by have := lT0 hn x e; simp only []; omega) _)
  replace K0 : Sl encC 3 w4 ka kn kc g.cons := by refine Sl.rextFar ?_ hx4 (fun hn x e => by have := lK0 hn x e; omega); repeat (first | (with_reducible exact K0) | (with_reducible refine Sl.alloc ?_ _) | (with_reducible refine Sl.drew ?_) | (with_reducible refine Sl.drewN ?_ _) | refine Sl.setFar ?_ (fun hn x e => by have := lK0 hn x e; simp only []; omega) _)
  replace S0 : Sl encI 1 w4 sa sn sc L := by refine Sl.rextFar ?_ hx4 (fun hn x e => by have := lS0 hn x e; omega); repeat (first | (with_reducible exact S0) | (with_reducible refine Sl.alloc ?_ _) | (with_reducible refine Sl.drew ?_) | (with_reducible refine Sl.drewN ?_ _) | refine Sl.setFar ?_ (fun hn x e => by have := lS0 hn x e; simp only []; omega) _)
  have cBR := BR.cells
  have fBR := BR.frozens
  have zBR := BR.lt
  have cBS := BS.cells
  have fBS := BS.frozens
  have zBS := BS.lt
  have cBG := BG.cells
  have fBG := BG.frozens
  have zBG := BG.lt
  have cBP := BP.cells
  have fBP := BP.frozens
  have zBP := BP.lt
  replace X0 : Ext w w4 := by refine RExt.new ?_ hx4 (by omega); exact (by repeat (first | (with_reducible exact Ext.refl _) | (with_reducible assumption) | (with_reducible refine Ext.alloc ?_ _) | (with_reducible refine Ext.drewN ?_ _) | (with_reducible refine Ext.drew ?_) | (with_reducible refine Ext.setCell ?_ ?_ _; rotate_left; (simp only []; omega)) | (with_reducible refine Ext.trans ?_ (by assumption))))
  clear hx2 hx3 hx4 q2 q3 hr
  have hPG : w2.heap.size < w3.heap.size := by omega
  have hPw : w3.heap.size < w4.heap.size := by omega
  by_cases e0 : 0 < d
  · have e1 := e0
    go_wp2_with fail
    refine (pick_any _ B _ 4 _ q4 (by omega) (by omega) (by omega)).mono ?_
    rintro e w5 ⟨y, rfl, y0, y1, q5, hx5⟩
    have hy5 := hx5.size
    (try simp at hy5)
    clear cBR fBR zBR
    clear cBS fBS zBS
    clear cBG fBG zBG
    clear cBP fBP zBP
    replace BR : Blk w5 w.heap.size 40 (#[.int .i64 0, .int .i64 0, .int .i64 0, .slice none 0 0, .slice none 0 0, .int .i64 0, .int .i64 0, .int .i64 0]) := by refine Blk.rext ?_ hx5 (by omega); repeat (first | (with_reducible exact BR) | (with_reducible exact Blk.new _ _ _) | exact Blk.newAt _ _ _ (by simp) | (with_reducible refine Blk.alloc ?_ _) | (with_reducible refine Blk.drew ?_) | (with_reducible refine Blk.drewN ?_ _) | refine Blk.far ?_ (by simp only []; omega) _)
    replace BS : Blk w5 (w.heap.size+1) 56 (#[.int .i64 0, .int .i64 0, .int .i64 0, .int .i64 0, .int .i64 0, .int .i64 0, .int .i64 0, .int .i64 0, .slice none 0 0]) := by refine Blk.rext ?_ hx5 (by omega); repeat (first | (with_reducible exact BS) | (with_reducible exact Blk.new _ _ _) | exact Blk.newAt _ _ _ (by simp) | (with_reducible refine Blk.alloc ?_ _) | (with_reducible refine Blk.drew ?_) | (with_reducible refine Blk.drewN ?_ _) | refine Blk.far ?_ (by simp only []; omega) _)
    replace BG : Blk w5 w2.heap.size 40 (#[.int .i64 g.net.base, .int .i64 g.net.bits, .int .i64 g.out, .slice ta tn tc, .slice ka kn kc, .int .i64 g.filter, .int .i64 g.hold, .int .i64 g.now]) := by refine Blk.rext ?_ hx5 (by omega); repeat (first | (with_reducible exact BG) | (with_reducible exact Blk.new _ _ _) | exact Blk.newAt _ _ _ (by simp) | (with_reducible refine Blk.alloc ?_ _) | (with_reducible refine Blk.drew ?_) | (with_reducible refine Blk.drewN ?_ _) | refine Blk.far ?_ (by simp only []; omega) _)
    replace BP : Blk w5 w3.heap.size 56 (#[.int .i64 o, .int .i64 s, .int .i64 t, .int .i64 k, .int .i64 fa, .int .i64 fp, .int .i64 ga, .int .i64 gp, .slice sa sn sc]) := by refine Blk.rext ?_ hx5 (by omega); repeat (first | (with_reducible exact BP) | (with_reducible exact Blk.new _ _ _) | exact Blk.newAt _ _ _ (by simp) | (with_reducible refine Blk.alloc ?_ _) | (with_reducible refine Blk.drew ?_) | (with_reducible refine Blk.drewN ?_ _) | refine Blk.far ?_ (by simp only []; omega) _)
    replace T0 : Sl encM 4 w5 ta tn tc g.table := by refine Sl.rextFar ?_ hx5 (fun hn x e => by have := lT0 hn x e; omega); repeat (first | (with_reducible exact T0) | (with_reducible refine Sl.alloc ?_ _) | (with_reducible refine Sl.drew ?_) | (with_reducible refine Sl.drewN ?_ _) | refine Sl.setFar ?_ (fun hn x e => by have := lT0 hn x e; simp only []; omega) _)
    replace K0 : Sl encC 3 w5 ka kn kc g.cons := by refine Sl.rextFar ?_ hx5 (fun hn x e => by have := lK0 hn x e; omega); repeat (first | (with_reducible exact K0) | (with_reducible refine Sl.alloc ?_ _) | (with_reducible refine Sl.drew ?_) | (with_reducible refine Sl.drewN ?_ _) | refine Sl.setFar ?_ (fun hn x e => by have := lK0 hn x e; simp only []; omega) _)
    replace S0 : Sl encI 1 w5 sa sn sc L := by refine Sl.rextFar ?_ hx5 (fun hn x e => by have := lS0 hn x e; omega); repeat (first | (with_reducible exact S0) | (with_reducible refine Sl.alloc ?_ _) | (with_reducible refine Sl.drew ?_) | (with_reducible refine Sl.drewN ?_ _) | refine Sl.setFar ?_ (fun hn x e => by have := lS0 hn x e; simp only []; omega) _)
    have cBR := BR.cells
    have fBR := BR.frozens
    have zBR := BR.lt
    have cBS := BS.cells
    have fBS := BS.frozens
    have zBS := BS.lt
    have cBG := BG.cells
    have fBG := BG.frozens
    have zBG := BG.lt
    have cBP := BP.cells
    have fBP := BP.frozens
    have zBP := BP.lt
    replace X0 : Ext w w5 := by refine RExt.new ?_ hx5 (by omega); exact (by repeat (first | (with_reducible exact Ext.refl _) | (with_reducible assumption) | (with_reducible refine Ext.alloc ?_ _) | (with_reducible refine Ext.drewN ?_ _) | (with_reducible refine Ext.drew ?_) | (with_reducible refine Ext.setCell ?_ ?_ _; rotate_left; (simp only []; omega)) | (with_reducible refine Ext.trans ?_ (by assumption))))
    clear hx5 q4
    go_wp2_with fail
    refine (one_lit _ B _ _ _ _ _ _ (by exact q5.to (by repeat (first | (with_reducible exact Since.refl q5.le) | (with_reducible refine Since.alloc ?_ _) | (with_reducible refine Since.drew ?_) | (with_reducible refine Since.drewN ?_ _) | (with_reducible refine Since.setCell ?_ ?_ _; rotate_left; (simp only []; omega)) | (with_reducible refine Since.ext ?_ (by assumption))))) (by omega) (by first | rfl | simp) (by rfl) (by omega) (by omega) (by simp [intOf])).mono ?_
    rintro e w6 ⟨z, rfl, hm, q6, hx6⟩
    have hy6 := hx6.size
    (try simp at hy6)
    clear cBR fBR zBR
    clear cBS fBS zBS
    clear cBG fBG zBG
    clear cBP fBP zBP
    replace BR : Blk w6 w.heap.size 40 (#[.int .i64 0, .int .i64 0, .int .i64 0, .slice none 0 0, .slice none 0 0, .int .i64 0, .int .i64 0, .int .i64 0]) := by refine Blk.rext ?_ hx6 (by omega); repeat (first | (with_reducible exact BR) | (with_reducible exact Blk.new _ _ _) | exact Blk.newAt _ _ _ (by simp) | (with_reducible refine Blk.alloc ?_ _) | (with_reducible refine Blk.drew ?_) | (with_reducible refine Blk.drewN ?_ _) | refine Blk.far ?_ (by simp only []; omega) _)
    replace BS : Blk w6 (w.heap.size+1) 56 (#[.int .i64 0, .int .i64 0, .int .i64 0, .int .i64 0, .int .i64 0, .int .i64 0, .int .i64 0, .int .i64 0, .slice none 0 0]) := by refine Blk.rext ?_ hx6 (by omega); repeat (first | (with_reducible exact BS) | (with_reducible exact Blk.new _ _ _) | exact Blk.newAt _ _ _ (by simp) | (with_reducible refine Blk.alloc ?_ _) | (with_reducible refine Blk.drew ?_) | (with_reducible refine Blk.drewN ?_ _) | refine Blk.far ?_ (by simp only []; omega) _)
    replace BG : Blk w6 w2.heap.size 40 (#[.int .i64 g.net.base, .int .i64 g.net.bits, .int .i64 g.out, .slice ta tn tc, .slice ka kn kc, .int .i64 g.filter, .int .i64 g.hold, .int .i64 g.now]) := by refine Blk.rext ?_ hx6 (by omega); repeat (first | (with_reducible exact BG) | (with_reducible exact Blk.new _ _ _) | exact Blk.newAt _ _ _ (by simp) | (with_reducible refine Blk.alloc ?_ _) | (with_reducible refine Blk.drew ?_) | (with_reducible refine Blk.drewN ?_ _) | refine Blk.far ?_ (by simp only []; omega) _)
    replace BP : Blk w6 w3.heap.size 56 (#[.int .i64 o, .int .i64 (2560 + y), .int .i64 t, .int .i64 k, .int .i64 fa, .int .i64 fp, .int .i64 ga, .int .i64 gp, .slice sa sn sc]) := by refine Blk.rext ?_ hx6 (by omega); repeat (first | (exact (show Blk _ w3.heap.size 56 (#[.int .i64 o, .int .i64 (2560 + y), .int .i64 t, .int .i64 k, .int .i64 fa, .int .i64 fp, .int .i64 ga, .int .i64 gp, .slice sa sn sc]) from by simpa using (BP.set 1 (.int .i64 (2560 + y))))) | (with_reducible exact Blk.new _ _ _) | exact Blk.newAt _ _ _ (by simp) | (with_reducible refine Blk.alloc ?_ _) | (with_reducible refine Blk.drew ?_) | (with_reducible refine Blk.drewN ?_ _) | refine Blk.far ?_ (by simp only []; omega) _)
    replace T0 : Sl encM 4 w6 ta tn tc g.table := by refine Sl.rextFar ?_ hx6 (fun hn x e => by have := lT0 hn x e; omega); repeat (first | (with_reducible exact T0) | (with_reducible refine Sl.alloc ?_ _) | (with_reducible refine Sl.drew ?_) | (with_reducible refine Sl.drewN ?_ _) | refine Sl.setFar ?_ (fun hn x e => by have := lT0 hn x e; simp only []; omega) _)
    replace K0 : Sl encC 3 w6 ka kn kc g.cons := by refine Sl.rextFar ?_ hx6 (fun hn x e => by have := lK0 hn x e; omega); repeat (first | (with_reducible exact K0) | (with_reducible refine Sl.alloc ?_ _) | (with_reducible refine Sl.drew ?_) | (with_reducible refine Sl.drewN ?_ _) | refine Sl.setFar ?_ (fun hn x e => by have := lK0 hn x e; simp only []; omega) _)
    replace S0 : Sl encI 1 w6 sa sn sc L := by refine Sl.rextFar ?_ hx6 (fun hn x e => by have := lS0 hn x e; omega); repeat (first | (with_reducible exact S0) | (with_reducible refine Sl.alloc ?_ _) | (with_reducible refine Sl.drew ?_) | (with_reducible refine Sl.drewN ?_ _) | refine Sl.setFar ?_ (fun hn x e => by have := lS0 hn x e; simp only []; omega) _)
    have cBR := BR.cells
    have fBR := BR.frozens
    have zBR := BR.lt
    have cBS := BS.cells
    have fBS := BS.frozens
    have zBS := BS.lt
    have cBG := BG.cells
    have fBG := BG.frozens
    have zBG := BG.lt
    have cBP := BP.cells
    have fBP := BP.frozens
    have zBP := BP.lt
    replace X0 : Ext w w6 := by refine RExt.new ?_ hx6 (by omega); exact (by repeat (first | (with_reducible exact Ext.refl _) | (with_reducible assumption) | (with_reducible refine Ext.alloc ?_ _) | (with_reducible refine Ext.drewN ?_ _) | (with_reducible refine Ext.drew ?_) | (with_reducible refine Ext.setCell ?_ ?_ _; rotate_left; (simp only []; omega)) | (with_reducible refine Ext.trans ?_ (by assumption))))
    clear hm q5 hx6
    go_wp2_with fail
    refine (insideEnd_any _ B _ _ (by exact q6.to (by repeat (first | (with_reducible exact Since.refl q6.le) | (with_reducible refine Since.alloc ?_ _) | (with_reducible refine Since.drew ?_) | (with_reducible refine Since.drewN ?_ _) | (with_reducible refine Since.setCell ?_ ?_ _; rotate_left; (simp only []; omega)) | (with_reducible refine Since.ext ?_ (by assumption))))) (by omega)).mono ?_
    rintro e w7 ⟨xa, xp, rfl, _, _, _, _, q7, hx7⟩
    have hy7 := hx7.size
    (try simp at hy7)
    clear cBR fBR zBR
    clear cBS fBS zBS
    clear cBG fBG zBG
    clear cBP fBP zBP
    replace BR : Blk w7 w.heap.size 40 (#[.int .i64 0, .int .i64 0, .int .i64 0, .slice none 0 0, .slice none 0 0, .int .i64 0, .int .i64 0, .int .i64 0]) := by refine Blk.rext ?_ hx7 (by omega); repeat (first | (with_reducible exact BR) | (with_reducible exact Blk.new _ _ _) | exact Blk.newAt _ _ _ (by simp) | (with_reducible refine Blk.alloc ?_ _) | (with_reducible refine Blk.drew ?_) | (with_reducible refine Blk.drewN ?_ _) | refine Blk.far ?_ (by simp only []; omega) _)
    replace BS : Blk w7 (w.heap.size+1) 56 (#[.int .i64 0, .int .i64 0, .int .i64 0, .int .i64 0, .int .i64 0, .int .i64 0, .int .i64 0, .int .i64 0, .slice none 0 0]) := by refine Blk.rext ?_ hx7 (by omega); repeat (first | (with_reducible exact BS) | (with_reducible exact Blk.new _ _ _) | exact Blk.newAt _ _ _ (by simp) | (with_reducible refine Blk.alloc ?_ _) | (with_reducible refine Blk.drew ?_) | (with_reducible refine Blk.drewN ?_ _) | refine Blk.far ?_ (by simp only []; omega) _)
    replace BG : Blk w7 w2.heap.size 40 (#[.int .i64 g.net.base, .int .i64 g.net.bits, .int .i64 g.out, .slice ta tn tc, .slice ka kn kc, .int .i64 g.filter, .int .i64 g.hold, .int .i64 g.now]) := by refine Blk.rext ?_ hx7 (by omega); repeat (first | (with_reducible exact BG) | (with_reducible exact Blk.new _ _ _) | exact Blk.newAt _ _ _ (by simp) | (with_reducible refine Blk.alloc ?_ _) | (with_reducible refine Blk.drew ?_) | (with_reducible refine Blk.drewN ?_ _) | refine Blk.far ?_ (by simp only []; omega) _)
    replace BP : Blk w7 w3.heap.size 56 (#[.int .i64 o, .int .i64 (2560 + y), .int .i64 z, .int .i64 k, .int .i64 fa, .int .i64 fp, .int .i64 ga, .int .i64 gp, .slice sa sn sc]) := by refine Blk.rext ?_ hx7 (by omega); repeat (first | (exact (show Blk _ w3.heap.size 56 (#[.int .i64 o, .int .i64 (2560 + y), .int .i64 z, .int .i64 k, .int .i64 fa, .int .i64 fp, .int .i64 ga, .int .i64 gp, .slice sa sn sc]) from by simpa using (BP.set 2 (.int .i64 z)))) | (with_reducible exact Blk.new _ _ _) | exact Blk.newAt _ _ _ (by simp) | (with_reducible refine Blk.alloc ?_ _) | (with_reducible refine Blk.drew ?_) | (with_reducible refine Blk.drewN ?_ _) | refine Blk.far ?_ (by simp only []; omega) _)
    replace T0 : Sl encM 4 w7 ta tn tc g.table := by refine Sl.rextFar ?_ hx7 (fun hn x e => by have := lT0 hn x e; omega); repeat (first | (with_reducible exact T0) | (with_reducible refine Sl.alloc ?_ _) | (with_reducible refine Sl.drew ?_) | (with_reducible refine Sl.drewN ?_ _) | refine Sl.setFar ?_ (fun hn x e => by have := lT0 hn x e; simp only []; omega) _)
    replace K0 : Sl encC 3 w7 ka kn kc g.cons := by refine Sl.rextFar ?_ hx7 (fun hn x e => by have := lK0 hn x e; omega); repeat (first | (with_reducible exact K0) | (with_reducible refine Sl.alloc ?_ _) | (with_reducible refine Sl.drew ?_) | (with_reducible refine Sl.drewN ?_ _) | refine Sl.setFar ?_ (fun hn x e => by have := lK0 hn x e; simp only []; omega) _)
    replace S0 : Sl encI 1 w7 sa sn sc L := by refine Sl.rextFar ?_ hx7 (fun hn x e => by have := lS0 hn x e; omega); repeat (first | (with_reducible exact S0) | (with_reducible refine Sl.alloc ?_ _) | (with_reducible refine Sl.drew ?_) | (with_reducible refine Sl.drewN ?_ _) | refine Sl.setFar ?_ (fun hn x e => by have := lS0 hn x e; simp only []; omega) _)
    have cBR := BR.cells
    have fBR := BR.frozens
    have zBR := BR.lt
    have cBS := BS.cells
    have fBS := BS.frozens
    have zBS := BS.lt
    have cBG := BG.cells
    have fBG := BG.frozens
    have zBG := BG.lt
    have cBP := BP.cells
    have fBP := BP.frozens
    have zBP := BP.lt
    replace X0 : Ext w w7 := by refine RExt.new ?_ hx7 (by omega); exact (by repeat (first | (with_reducible exact Ext.refl _) | (with_reducible assumption) | (with_reducible refine Ext.alloc ?_ _) | (with_reducible refine Ext.drewN ?_ _) | (with_reducible refine Ext.drew ?_) | (with_reducible refine Ext.setCell ?_ ?_ _; rotate_left; (simp only []; omega)) | (with_reducible refine Ext.trans ?_ (by assumption))))
    clear q6 hx7
    by_cases hk0 : tn = 0
    · have hkz : ¬ (0 : Int) < (tn : Int) := by omega
      have hkz' : ¬ 0 < tn := by omega
      clear hk0
      go_wp2_with fail
      refine wp_gen (fun W => RExt w3.heap.size w7 W ∧ Blk W w3.heap.size 56 #[.int .i64 o, .int .i64 (2560 + y), .int .i64 z, .int .i64 k, .int .i64 fa, .int .i64 fp, .int .i64 xa, .int .i64 xp, .slice sa sn sc]) ⟨(by repeat (first | (with_reducible exact RExt.refl _ _) | (with_reducible refine RExt.putc ?_ _ _))), by simpa using (BP.set 6 (.int .i64 xa)).set 7 (.int .i64 xp)⟩ ?_
      rintro w8 ⟨x8, BP8⟩
      clear cBG fBG zBG cBP fBP zBP cBR fBR zBR cBS fBS zBS
      clear BP
      have BP := BP8
      have r0 := q7
      replace BG := BG.rext x8 (by omega)
      replace BR := BR.rext x8 (by omega)
      replace BS := BS.rext x8 (by omega)
      replace T0 := T0.rextFar x8 (fun hn x e => by have := lT0 hn x e; omega)
      replace K0 := K0.rextFar x8 (fun hn x e => by have := lK0 hn x e; omega)
      replace S0 := S0.rextFar x8 (fun hn x e => by have := lS0 hn x e; omega)
      replace X0 := RExt.new X0 x8 (by omega)
      have := (x8).size
      replace r0 := r0.rextNew x8 (by omega)
      clear x8
      clear BP8 q7
      have hBv : B < w8.heap.size := by omega
      replace BG := BG.drew
      replace BP := BP.drew
      replace BR := BR.drew
      replace BS := BS.drew
      replace T0 := T0.drew
      replace K0 := K0.drew
      (try replace S0 := S0.drew)
      (try replace r0 := r0.drew)
      replace X0 := X0.drew
      have hdrS : ∀ W : World, W.drew.heap.size = W.heap.size := fun _ => rfl
      refine wp_region_eager (R := RX (fun i => i = B ∨ i = w.heap.size ∨ i = w.heap.size + 1)) [0, 1, 2, 3] (by kernel_rfl) (by kernel_rfl) (RX.refl _) (fun _ _ _ => RX.trans) ?_
      have hdrW := hdrS (w8)
      generalize (w8).drew = vD at *
      repeat' (first
        | (refine ChX.skip (by rfl) (by rfl) ?_
           (try simp only [Act.put, List.setIfInBounds_toArray, List.set_cons_zero, List.set_cons_succ]))
        | (refine' ChX.quiet (v := _) (by rfl) (by rfl) (by rfl) ?_ ?_
           rotate_left
           · (intro wS hS
              have cG := (BG.rx hS (by omega)).cells; have cP := (BP.rx hS (by omega)).cells
              go_simp
              with_reducible rfl)
           (try simp only [Act.put, List.setIfInBounds_toArray, List.set_cons_zero, List.set_cons_succ]))
        | (refine ChX.nil ?_)
        | (refine' ChX.guard (x := _) (by rfl) ?_ ?_ ?_
           rotate_left
           · (go_simp
              rfl)
           all_goals
             intro hg
             simp only [hg])
        | (refine' ChX.guardN (x := _) (by rfl) ?_ ?_ ?_
           rotate_left
           · (go_simp
              rfl)
           all_goals
             intro hg
             simp only [hg]))
      skip
      have cR := BR.cells
      have fR := BR.frozens
      refine ChX.storeP (fun W => RExt w.heap.size vD W ∧ Blk W w.heap.size 40 (#[.int .i64 g.net.base, .int .i64 g.net.bits, .int .i64 g.out, .slice ta tn tc, .slice ka kn kc, .int .i64 g.filter, .int .i64 g.hold, .int .i64 g.now])) (by rfl) (by rfl) (by rfl) ⟨_, (by go_simp; rfl), RX.of_rext (B := w.heap.size) (by repeat (first | (with_reducible exact RExt.refl _ _) | (with_reducible refine RExt.putc ?_ _ _))) (.inr (.inl rfl)), (by repeat (first | (with_reducible exact RExt.refl _ _) | (with_reducible refine RExt.putc ?_ _ _))), (by exact BR.put8 _ _ _ _ _ _ _ _)⟩ ?_
      (try simp only [Act.put, List.setIfInBounds_toArray, List.set_cons_zero, List.set_cons_succ])
      rintro yW1 _ ⟨z1, BR1⟩
      clear cR fR
      have BS1 := BS.rext z1 (by omega)
      have cS := BS1.cells
      have fS := BS1.frozens
      refine ChX.storeP (fun W => RExt (w.heap.size + 1) yW1 W ∧ Blk W (w.heap.size + 1) 56 #[.int .i64 o, .int .i64 (2560 + y), .int .i64 z, .int .i64 k, .int .i64 fa, .int .i64 fp, .int .i64 xa, .int .i64 xp, .slice sa sn sc]) (by rfl) (by rfl) (by rfl) ⟨_, (by go_simp; rfl), RX.of_rext (B := w.heap.size + 1) (by repeat (first | (with_reducible exact RExt.refl _ _) | (with_reducible refine RExt.putc ?_ _ _))) (.inr (.inr rfl)), (by repeat (first | (with_reducible exact RExt.refl _ _) | (with_reducible refine RExt.putc ?_ _ _))), (by exact BS1.put9 _ _ _ _ _ _ _ _ _)⟩ ?_
      (try simp only [Act.put, List.setIfInBounds_toArray, List.set_cons_zero, List.set_cons_succ])
      rintro yW2 _ ⟨z2, BS2⟩
      clear cS fS BS1
      have BR2 := BR1.rext z2 (by omega)
      replace T0 := (T0.rextFar z1 (fun hn x e => by have := lT0 hn x e; omega)).rextFar z2 (fun hn x e => by have := lT0 hn x e; omega)
      replace K0 := (K0.rextFar z1 (fun hn x e => by have := lK0 hn x e; omega)).rextFar z2 (fun hn x e => by have := lK0 hn x e; omega)
      replace S0 := (S0.rextFar z1 (fun hn x e => by have := lS0 hn x e; omega)).rextFar z2 (fun hn x e => by have := lS0 hn x e; omega)
      replace X0 := RExt.new (RExt.new X0 z1 (by omega)) z2 (by omega)
      refine ChX.nil ?_
      have cR := BR2.cells
      have cS := BS2.cells
      have zR := BR2.lt
      have zS := BS2.lt
      go_wp2
      refine' bodyPost_ret (v := _) ?_ rfl ?_
      rotate_left
      · (simp only [results, Try.results24]
         go_simp
         rfl)
      exact ⟨g, ⟨o, 2560 + y, z, ⟨k, ⟨fa, fp⟩, ⟨xa, xp⟩, L⟩⟩, ta, tn, tc, ka, kn, kc, sa, sn, sc, rfl, T0, K0, S0, (fun h x e => by have := lT0 h x e; omega), (fun h x e => by have := lK0 h x e; omega), (fun h x e => by have := lS0 h x e; omega), X0⟩
    · obtain ⟨_, b, off, rfl, hb, _⟩ := (T0.maps).resolve_left (by omega)
      have hbB : b ≠ B := hTB _ rfl
      have hbl := lT0 (by omega) _ rfl
      simp only [] at hbl
      have hkp : (0 : Int) < (tn : Int) := by omega
      go_wp2_with fail
      refine wp_gen (fun W => RExt w3.heap.size w7 W ∧ Blk W w3.heap.size 56 #[.int .i64 o, .int .i64 (2560 + y), .int .i64 z, .int .i64 k, .int .i64 fa, .int .i64 fp, .int .i64 xa, .int .i64 xp, .slice sa sn sc]) ⟨(by repeat (first | (with_reducible exact RExt.refl _ _) | (with_reducible refine RExt.putc ?_ _ _))), by simpa using (BP.set 6 (.int .i64 xa)).set 7 (.int .i64 xp)⟩ ?_
      rintro w8 ⟨x8, BP8⟩
      clear cBG fBG zBG cBP fBP zBP cBR fBR zBR cBS fBS zBS
      clear BP
      have BP := BP8
      have r0 := q7
      replace BG := BG.rext x8 (by omega)
      replace BR := BR.rext x8 (by omega)
      replace BS := BS.rext x8 (by omega)
      replace T0 := T0.rextFar x8 (fun hn x e => by have := lT0 hn x e; omega)
      replace K0 := K0.rextFar x8 (fun hn x e => by have := lK0 hn x e; omega)
      replace S0 := S0.rextFar x8 (fun hn x e => by have := lS0 hn x e; omega)
      replace X0 := RExt.new X0 x8 (by omega)
      have := (x8).size
      replace r0 := r0.rextNew x8 (by omega)
      clear x8
      clear BP8 q7
      replace BG := BG.drew
      replace BP := BP.drew
      replace BR := BR.drew
      replace BS := BS.drew
      replace T0 := T0.drew
      replace K0 := K0.drew
      replace S0 := S0.drew
      replace X0 := X0.drew
      replace r0 := r0.drew
      have hBv : B < w8.heap.size := by omega
      have hdrS : ∀ W : World, W.drew.heap.size = W.heap.size := fun _ => rfl
      refine wp_region_float (R := RExt B) (base := (w8).heap.size) (Ts := []) [0, 1, 2, 3, 4, 5, 6, 7, 8, 9, 10, 11, 12] (by kernel_rfl) (by kernel_rfl) (RExt.refl B) (fun _ _ _ => RExt.trans) (fun _ _ h => RExt.of_ext h B) (fun _ _ h => h.size) (fun _ _ b _ _ hb hB hR => hB.rext hR (by omega)) (by intro x hx; simp only [List.mem_cons, List.not_mem_nil, or_false] at hx; skip; all_goals (intro wS; kernel_rfl)) (by omega) ?_
      have hdrW := hdrS (w8)
      repeat' (first
        | (refine' ChF.pure (v := _) (by rfl) (by rfl) (by rfl) ?_ ?_
           rotate_left
           · (intro wS
              go_simp
              with_reducible rfl)
           (try simp only [Act.put, List.setIfInBounds_toArray, List.set_cons_zero, List.set_cons_succ]))
        | (refine' ChF.quiet (v := _) (by rfl) (by rfl) (by rfl) (by rfl) ?_ ?_
           rotate_left
           · (intro wS hS
              have cS := (BG.rext hS (by omega)).cells
              go_simp
              with_reducible rfl)
           (try simp only [Act.put, List.setIfInBounds_toArray, List.set_cons_zero, List.set_cons_succ]))
        | fail)
      refine ChF.call (by rfl) (by rfl) (by rfl) (by rfl) (by rfl) (by intro wS; go_simp; (constructor <;> rfl)) ?_
      intro u9 eu9
      replace BG := BG.ext eu9
      replace BP := BP.ext eu9
      replace S0 := S0.ext eu9
      replace r0 := r0.ext eu9
      replace BR := BR.ext eu9
      replace BS := BS.ext eu9
      replace T0 := T0.ext eu9
      replace K0 := K0.ext eu9
      replace X0 := X0.trans eu9
      have := (eu9).size
      clear eu9
      refine (pick_any _ B _ tn u9 r0 (by omega) (by omega) (by omega)).mono ?_
      rintro e v9 ⟨pi, rfl, pi0, pi1, q9, h9⟩
      obtain ⟨i, rfl⟩ := Int.eq_ofNat_of_zero_le pi0
      refine ⟨_, rfl, h9, ?_⟩
      (try simp only [Act.put, List.setIfInBounds_toArray, List.set_cons_zero, List.set_cons_succ])
      replace BP := BP.rext h9 (by omega)
      replace S0 := S0.rextFar h9 (fun hn x e => by have := lS0 hn x e; omega)
      replace BG := BG.rext h9 (by omega)
      replace BR := BR.rext h9 (by omega)
      replace BS := BS.rext h9 (by omega)
      replace T0 := T0.rextFar h9 (fun hn x e => by have := lT0 hn x e; omega)
      replace K0 := K0.rextFar h9 (fun hn x e => by have := lK0 hn x e; omega)
      replace X0 := RExt.new X0 h9 (by omega)
      have := (h9).size
      replace r0 := q9
      clear q9 h9
      obtain ⟨_, b', off', eb, hb9, hc9⟩ := (T0.maps).resolve_left (by omega)
      injection eb with eb
      injection eb with eb1 eb2
      subst eb1; subst eb2
      have hi : i < tn := by omega
      obtain ⟨c0, c1, c2, c3⟩ := hc9 i hi
      clear hc9
      obtain ⟨mm, hmm⟩ : ∃ mm, mm = nth g.table i := ⟨_, rfl⟩
      rw [← hmm] at c0 c1 c2 c3
      clear hmm
      have cBP := BP.cells
      have fBP := BP.frozens
      repeat' (first
        | (refine' ChF.pure (v := _) (by rfl) (by rfl) (by rfl) ?_ ?_
           rotate_left
           · (intro wS
              go_simp
              with_reducible rfl)
           (try simp only [Act.put, List.setIfInBounds_toArray, List.set_cons_zero, List.set_cons_succ]))
        | (refine' ChF.quiet (v := _) (by rfl) (by rfl) (by rfl) (by rfl) ?_ ?_
           rotate_left
           · (intro wS hS
              have s0 := (hS.cells b (off + i * 4) hb9 hbB).trans c0; have s1 := (hS.cells b (off + i * 4 + 1) hb9 hbB).trans c1
              go_simp
              with_reducible rfl)
           (try simp only [Act.put, List.setIfInBounds_toArray, List.set_cons_zero, List.set_cons_succ]))
        | fail)
      clear c0 c1 c2 c3
      refine ChF.storeP (fun W => RExt w3.heap.size v9 W ∧ Blk W w3.heap.size 56 #[.int .i64 o, .int .i64 (2560 + y), .int .i64 z, .int .i64 k, .int .i64 fa, .int .i64 fp, .int .i64 (mm.ins.addr), .int .i64 (mm.ins.port), .slice sa sn sc]) (by rfl) (by rfl) (by rfl) ⟨_, (by go_simp; rfl), (by simp [World.setCell]), (by repeat (first | (with_reducible exact RExt.refl _ _) | (with_reducible refine RExt.putc ?_ _ _))), (by simpa using (BP.set 6 (.int .i64 mm.ins.addr)).set 7 (.int .i64 mm.ins.port))⟩ ?_
      (try simp only [Act.put, List.setIfInBounds_toArray, List.set_cons_zero, List.set_cons_succ])
      clear cBP fBP BP
      rintro w10 s10 ⟨x10, BP⟩
      replace BG := BG.rext x10 (by omega)
      replace BR := BR.rext x10 (by omega)
      replace BS := BS.rext x10 (by omega)
      replace T0 := T0.rextFar x10 (fun hn x e => by have := lT0 hn x e; omega)
      replace K0 := K0.rextFar x10 (fun hn x e => by have := lK0 hn x e; omega)
      replace S0 := S0.rextFar x10 (fun hn x e => by have := lS0 hn x e; omega)
      replace X0 := RExt.new X0 x10 (by omega)
      have := (x10).size
      replace r0 := r0.rextNew x10 (by omega)
      clear x10
      refine ChF.nil ?_
      go_wp2_with fail
      have hBv : B < w10.heap.size := by omega
      replace BG := BG.drew
      replace BP := BP.drew
      replace BR := BR.drew
      replace BS := BS.drew
      replace T0 := T0.drew
      replace K0 := K0.drew
      (try replace S0 := S0.drew)
      (try replace r0 := r0.drew)
      replace X0 := X0.drew
      have hdrS : ∀ W : World, W.drew.heap.size = W.heap.size := fun _ => rfl
      refine wp_region_eager (R := RX (fun i => i = B ∨ i = w.heap.size ∨ i = w.heap.size + 1)) [0, 1, 2, 3] (by kernel_rfl) (by kernel_rfl) (RX.refl _) (fun _ _ _ => RX.trans) ?_
      have hdrW := hdrS (w10)
      generalize (w10).drew = vD at *
      repeat' (first
        | (refine ChX.skip (by rfl) (by rfl) ?_
           (try simp only [Act.put, List.setIfInBounds_toArray, List.set_cons_zero, List.set_cons_succ]))
        | (refine' ChX.quiet (v := _) (by rfl) (by rfl) (by rfl) ?_ ?_
           rotate_left
           · (intro wS hS
              have cG := (BG.rx hS (by omega)).cells; have cP := (BP.rx hS (by omega)).cells
              go_simp
              with_reducible rfl)
           (try simp only [Act.put, List.setIfInBounds_toArray, List.set_cons_zero, List.set_cons_succ]))
        | (refine ChX.nil ?_)
        | (refine' ChX.guard (x := _) (by rfl) ?_ ?_ ?_
           rotate_left
           · (go_simp
              rfl)
           all_goals
             intro hg
             simp only [hg])
        | (refine' ChX.guardN (x := _) (by rfl) ?_ ?_ ?_
           rotate_left
           · (go_simp
              rfl)
           all_goals
             intro hg
             simp only [hg]))
      skip
      have cR := BR.cells
      have fR := BR.frozens
      refine ChX.storeP (fun W => RExt w.heap.size vD W ∧ Blk W w.heap.size 40 (#[.int .i64 g.net.base, .int .i64 g.net.bits, .int .i64 g.out, .slice (some ⟨b, off, none⟩) tn tc, .slice ka kn kc, .int .i64 g.filter, .int .i64 g.hold, .int .i64 g.now])) (by rfl) (by rfl) (by rfl) ⟨_, (by go_simp; rfl), RX.of_rext (B := w.heap.size) (by repeat (first | (with_reducible exact RExt.refl _ _) | (with_reducible refine RExt.putc ?_ _ _))) (.inr (.inl rfl)), (by repeat (first | (with_reducible exact RExt.refl _ _) | (with_reducible refine RExt.putc ?_ _ _))), (by exact BR.put8 _ _ _ _ _ _ _ _)⟩ ?_
      (try simp only [Act.put, List.setIfInBounds_toArray, List.set_cons_zero, List.set_cons_succ])
      rintro yW1 _ ⟨z1, BR1⟩
      clear cR fR
      have BS1 := BS.rext z1 (by omega)
      have cS := BS1.cells
      have fS := BS1.frozens
      refine ChX.storeP (fun W => RExt (w.heap.size + 1) yW1 W ∧ Blk W (w.heap.size + 1) 56 #[.int .i64 o, .int .i64 (2560 + y), .int .i64 z, .int .i64 k, .int .i64 fa, .int .i64 fp, .int .i64 (mm.ins.addr), .int .i64 (mm.ins.port), .slice sa sn sc]) (by rfl) (by rfl) (by rfl) ⟨_, (by go_simp; rfl), RX.of_rext (B := w.heap.size + 1) (by repeat (first | (with_reducible exact RExt.refl _ _) | (with_reducible refine RExt.putc ?_ _ _))) (.inr (.inr rfl)), (by repeat (first | (with_reducible exact RExt.refl _ _) | (with_reducible refine RExt.putc ?_ _ _))), (by exact BS1.put9 _ _ _ _ _ _ _ _ _)⟩ ?_
      (try simp only [Act.put, List.setIfInBounds_toArray, List.set_cons_zero, List.set_cons_succ])
      rintro yW2 _ ⟨z2, BS2⟩
      clear cS fS BS1
      have BR2 := BR1.rext z2 (by omega)
      replace T0 := (T0.rextFar z1 (fun hn x e => by have := lT0 hn x e; omega)).rextFar z2 (fun hn x e => by have := lT0 hn x e; omega)
      replace K0 := (K0.rextFar z1 (fun hn x e => by have := lK0 hn x e; omega)).rextFar z2 (fun hn x e => by have := lK0 hn x e; omega)
      replace S0 := (S0.rextFar z1 (fun hn x e => by have := lS0 hn x e; omega)).rextFar z2 (fun hn x e => by have := lS0 hn x e; omega)
      replace X0 := RExt.new (RExt.new X0 z1 (by omega)) z2 (by omega)
      refine ChX.nil ?_
      have cR := BR2.cells
      have cS := BS2.cells
      have zR := BR2.lt
      have zS := BS2.lt
      go_wp2
      refine' bodyPost_ret (v := _) ?_ rfl ?_
      rotate_left
      · (simp only [results, Try.results24]
         go_simp
         rfl)
      exact ⟨g, ⟨o, 2560 + y, z, ⟨k, ⟨fa, fp⟩, ⟨mm.ins.addr, mm.ins.port⟩, L⟩⟩, (some ⟨b, off, none⟩), tn, tc, ka, kn, kc, sa, sn, sc, rfl, T0, K0, S0, (fun h x e => by have := lT0 h x e; omega), (fun h x e => by have := lK0 h x e; omega), (fun h x e => by have := lS0 h x e; omega), X0⟩
  · go_wp2_with fail
    clear cBG fBG zBG cBP fBP zBP cBR fBR zBR cBS fBS zBS
    have hBv : B < w4.heap.size := by omega
    replace BG := BG.drew
    replace BP := BP.drew
    replace BR := BR.drew
    replace BS := BS.drew
    replace T0 := T0.drew
    replace K0 := K0.drew
    (try replace S0 := S0.drew)
    (try replace r0 := r0.drew)
    replace X0 := X0.drew
    have hdrS : ∀ W : World, W.drew.heap.size = W.heap.size := fun _ => rfl
    refine wp_region_eager (R := RX (fun i => i = B ∨ i = w.heap.size ∨ i = w.heap.size + 1)) [0, 1, 2, 3] (by kernel_rfl) (by kernel_rfl) (RX.refl _) (fun _ _ _ => RX.trans) ?_
    have hdrW := hdrS (w4)
    generalize (w4).drew = vD at *
    repeat' (first
      | (refine ChX.skip (by rfl) (by rfl) ?_
         (try simp only [Act.put, List.setIfInBounds_toArray, List.set_cons_zero, List.set_cons_succ]))
      | (refine' ChX.quiet (v := _) (by rfl) (by rfl) (by rfl) ?_ ?_
         rotate_left
         · (intro wS hS
            have cG := (BG.rx hS (by omega)).cells; have cP := (BP.rx hS (by omega)).cells
            go_simp
            with_reducible rfl)
         (try simp only [Act.put, List.setIfInBounds_toArray, List.set_cons_zero, List.set_cons_succ]))
      | (refine ChX.nil ?_)
      | (refine' ChX.guard (x := _) (by rfl) ?_ ?_ ?_
         rotate_left
         · (go_simp
            rfl)
         all_goals
           intro hg
           simp only [hg])
      | (refine' ChX.guardN (x := _) (by rfl) ?_ ?_ ?_
         rotate_left
         · (go_simp
            rfl)
         all_goals
           intro hg
           simp only [hg]))
    skip
    have cR := BR.cells
    have fR := BR.frozens
    refine ChX.storeP (fun W => RExt w.heap.size vD W ∧ Blk W w.heap.size 40 (#[.int .i64 g.net.base, .int .i64 g.net.bits, .int .i64 g.out, .slice ta tn tc, .slice ka kn kc, .int .i64 g.filter, .int .i64 g.hold, .int .i64 g.now])) (by rfl) (by rfl) (by rfl) ⟨_, (by go_simp; rfl), RX.of_rext (B := w.heap.size) (by repeat (first | (with_reducible exact RExt.refl _ _) | (with_reducible refine RExt.putc ?_ _ _))) (.inr (.inl rfl)), (by repeat (first | (with_reducible exact RExt.refl _ _) | (with_reducible refine RExt.putc ?_ _ _))), (by exact BR.put8 _ _ _ _ _ _ _ _)⟩ ?_
    (try simp only [Act.put, List.setIfInBounds_toArray, List.set_cons_zero, List.set_cons_succ])
    rintro yW1 _ ⟨z1, BR1⟩
    clear cR fR
    have BS1 := BS.rext z1 (by omega)
    have cS := BS1.cells
    have fS := BS1.frozens
    refine ChX.storeP (fun W => RExt (w.heap.size + 1) yW1 W ∧ Blk W (w.heap.size + 1) 56 #[.int .i64 o, .int .i64 s, .int .i64 t, .int .i64 k, .int .i64 fa, .int .i64 fp, .int .i64 ga, .int .i64 gp, .slice sa sn sc]) (by rfl) (by rfl) (by rfl) ⟨_, (by go_simp; rfl), RX.of_rext (B := w.heap.size + 1) (by repeat (first | (with_reducible exact RExt.refl _ _) | (with_reducible refine RExt.putc ?_ _ _))) (.inr (.inr rfl)), (by repeat (first | (with_reducible exact RExt.refl _ _) | (with_reducible refine RExt.putc ?_ _ _))), (by exact BS1.put9 _ _ _ _ _ _ _ _ _)⟩ ?_
    (try simp only [Act.put, List.setIfInBounds_toArray, List.set_cons_zero, List.set_cons_succ])
    rintro yW2 _ ⟨z2, BS2⟩
    clear cS fS BS1
    have BR2 := BR1.rext z2 (by omega)
    replace T0 := (T0.rextFar z1 (fun hn x e => by have := lT0 hn x e; omega)).rextFar z2 (fun hn x e => by have := lT0 hn x e; omega)
    replace K0 := (K0.rextFar z1 (fun hn x e => by have := lK0 hn x e; omega)).rextFar z2 (fun hn x e => by have := lK0 hn x e; omega)
    replace S0 := (S0.rextFar z1 (fun hn x e => by have := lS0 hn x e; omega)).rextFar z2 (fun hn x e => by have := lS0 hn x e; omega)
    replace X0 := RExt.new (RExt.new X0 z1 (by omega)) z2 (by omega)
    refine ChX.nil ?_
    have cR := BR2.cells
    have cS := BS2.cells
    have zR := BR2.lt
    have zS := BS2.lt
    go_wp2
    refine' bodyPost_ret (v := _) ?_ rfl ?_
    rotate_left
    · (simp only [results, Try.results24]
       go_simp
       rfl)
    exact ⟨g, ⟨o, s, t, ⟨k, ⟨fa, fp⟩, ⟨ga, gp⟩, L⟩⟩, ta, tn, tc, ka, kn, kc, sa, sn, sc, rfl, T0, K0, S0, (fun h x e => by have := lT0 h x e; omega), (fun h x e => by have := lK0 h x e; omega), (fun h x e => by have := lS0 h x e; omega), X0⟩
end Go.Proofs.Ytafmomocmodbhaa
/- Contracts: ends and ports of tables; reports through gates. -/
namespace Go.Proofs.Ytafmomocmodbhaa
set_option linter.unusedVariables false
set_option linter.unusedSimpArgs false
open Go.RowKit

/-- The world, as far as it matters, in the midst of a region. -/
theorem wpList_gen {P : Program} {ops : Array Oper} {Q : Exit → Act → World → Prop} {l : List Oper} {a : Act} {w : World} (Good : World → Prop) (hg : Good w) (h : ∀ W, Good W → wpList P ops Q l a W) : wpList P ops Q l a w := h w hg
theorem Blk.rp8 {w : World} {b : Nat} {T : TypeId} {a0 a1 a2 a3 a4 a5 a6 a7 a8 : Value} (h : Blk w b T #[a0, a1, a2, a3, a4, a5, a6, a7, a8]) (u3 u4 u5 u6 u7 u8 v4 v5 : Value) :
    Blk ((((((((w.setCell ⟨b, 3, none⟩ u3).setCell ⟨b, 4, none⟩ u4).setCell ⟨b, 5, none⟩ u5).setCell ⟨b, 6, none⟩ u6).setCell ⟨b, 7, none⟩ u7).setCell ⟨b, 8, none⟩ u8).setCell ⟨b, 4, none⟩ v4).setCell ⟨b, 5, none⟩ v5) b T #[a0, a1, a2, u3, v4, v5, u6, u7, u8] := by
  simpa using (((((((h.set 3 u3).set 4 u4).set 5 u5).set 6 u6).set 7 u7).set 8 u8).set 4 v4).set 5 v5
def rE (r : Option EndD) : EndD := match r with
  | some x => x
  | none => ⟨0, 0⟩
theorem impl_pcopyOf (p : PktD) (a : Option Addr) (n c : Nat) (w : World) (hs : Sl encI 1 w a n c p.data) (hn : n ≤ 1048576) :
    Calls Try.prog 77 #[.agg #[.int .i64 p.kind, .int .i64 p.fr.addr, .int .i64 p.fr.port, .int .i64 p.to_.addr, .int .i64 p.to_.port, .slice a n c]] w fun e w' => ∃ a', e = .returned (.agg #[.int .i64 p.kind, .int .i64 p.fr.addr, .int .i64 p.fr.port, .int .i64 p.to_.addr, .int .i64 p.to_.port, .slice a' n n]) ∧ Ow 3 encI 1 w.heap.size w' a' n n p.data ∧ Ext w w' := by
  go_enter Try.func77, Try.ntmps77
  go_wp2_with fail
  refine (impl_clone_int a n c p.data _ (by exact hs.ext (by repeat (first | (with_reducible exact Ext.refl _) | (with_reducible assumption) | (with_reducible refine Ext.alloc ?_ _) | (with_reducible refine Ext.drewN ?_ _) | (with_reducible refine Ext.drew ?_) | (with_reducible refine Ext.setCell ?_ ?_ _; rotate_left; (simp only []; omega)) | (with_reducible refine Ext.trans ?_ (by assumption))))) hn).mono ?_
  rintro e w1 ⟨a', rfl, how, hx⟩
  have hB1 : Blk w1 w.heap.size 44 (#[.int .i64 p.kind, .int .i64 p.fr.addr, .int .i64 p.fr.port, .int .i64 p.to_.addr, .int .i64 p.to_.port, .slice a n c]) := by refine Blk.ext ?_ hx; exact (by repeat (first | (with_reducible assumption) | (with_reducible exact Blk.new _ _ _) | exact Blk.newAt _ _ _ (by simp) | (with_reducible refine Blk.alloc ?_ _) | (with_reducible refine Blk.drew ?_) | (with_reducible refine Blk.drewN ?_ _) | refine Blk.far ?_ (by simp only []; omega) _ | refine Blk.rext ?_ (by assumption) (by omega) | refine Blk.ext ?_ (by assumption)))
  have hB2 : Blk w1 (w.heap.size + 1) 44 #[.int .i64 0, .int .i64 0, .int .i64 0, .int .i64 0, .int .i64 0, .slice none 0 0] := by refine Blk.ext ?_ hx; exact (by repeat (first | (with_reducible assumption) | (with_reducible exact Blk.new _ _ _) | exact Blk.newAt _ _ _ (by simp) | (with_reducible refine Blk.alloc ?_ _) | (with_reducible refine Blk.drew ?_) | (with_reducible refine Blk.drewN ?_ _) | refine Blk.far ?_ (by simp only []; omega) _ | refine Blk.rext ?_ (by assumption) (by omega) | refine Blk.ext ?_ (by assumption)))
  have hc1 := hB1.cells
  have hf1 := hB1.frozens
  have hc2 := hB2.cells
  have hf2 := hB2.frozens
  have hy := hx.size
  simp at hy
  have hz : w.heap.size < w1.heap.size ∧ w.heap.size + 1 < w1.heap.size := by omega
  have hlt := how.lt
  simp at hlt
  go_wp2
  refine' bodyPost_ret (v := _) ?_ rfl ?_
  rotate_left
  · (simp only [results, Try.results77]
     go_simp
     rfl)
  refine ⟨a', rfl, ?_, (by repeat (first | (with_reducible exact Ext.refl _) | (with_reducible assumption) | (with_reducible refine Ext.alloc ?_ _) | (with_reducible refine Ext.drewN ?_ _) | (with_reducible refine Ext.drew ?_) | (with_reducible refine Ext.setCell ?_ ?_ _; rotate_left; (simp only []; omega)) | (with_reducible refine Ext.trans ?_ (by assumption))))⟩
  refine Ow.rebase (base := w.heap.size + 2) ?_ (by omega)
  repeat (refine Ow.setCell ?_ (fun y hy => by have := (hlt y hy).1; simp only []; omega) _)
  simpa using how
set_option maxHeartbeats 1000000 in
theorem impl_InsideEnd (q : Int) (a : Option Addr) (n c : Nat) (L : List MapD) (w : World) (hs : Sl encM 4 w a n c L) :
    Calls Try.prog 34 #[.slice a n c, .int .i64 q] w fun e w' => e = .returned (.tuple #[.agg #[.int .i64 (rE (insideEnd L q)).addr, .int .i64 (rE (insideEnd L q)).port], .bool (insideEnd L q).isSome]) ∧ Ext w w' := by
  have c1 := fun W h => impl_byPort q a n c L W h
  have c2 := fun W h => impl_ValidTable a n c L W h
  have hlen := hs.len
  have lS := fun (h : 0 < n) => hs.lt h
  by_cases hb : 0 ≤ byPort L q
  · obtain ⟨k, m, e1, e2, e3, e4⟩ := byPort_some hb
    have hk : k < n := by have := (List.getElem?_eq_some_iff.1 e2).1; omega
    cases hv : validTable L with
    | true =>
      have hr : insideEnd L q = some m.ins := by
        unfold insideEnd
        rw [hv, e4]; simp [hb]
      rw [e1] at c1
      rw [hv] at c2
      replace c1 := Lib.hid c1
      replace c2 := Lib.hid c2
      rw [hr]
      obtain ⟨_, b, off, rfl, hb0, hc0⟩ := (hs.maps).resolve_left (by omega)
      obtain ⟨d0, d1, d2, d3⟩ := hc0 k hk
      have hm : nth L k = m := nth_of e2
      rw [hm] at d0 d1 d2 d3
      have hle := hs.le
      have hmx := hs.max
      clear hr hb e1 e2 e3 e4 hv hc0 hm
      go_enter Try.func34, Try.ntmps34
      go_wp2_with fail
      refine (c1.out _ (by exact hs.ext (by repeat (first | (with_reducible exact Ext.refl _) | (with_reducible assumption) | (with_reducible refine Ext.alloc ?_ _) | (with_reducible refine Ext.drewN ?_ _) | (with_reducible refine Ext.drew ?_) | (with_reducible refine Ext.setCell ?_ ?_ _; rotate_left; (simp only []; omega)) | (with_reducible refine Ext.trans ?_ (by assumption)))))).mono ?_
      rintro e w1 ⟨rfl, hx1⟩
      have hy1 := hx1.size
      (try simp at hy1)
      replace hs := hs.ext (show Ext _ w1 from (by repeat (first | (with_reducible exact Ext.refl _) | (with_reducible assumption) | (with_reducible refine Ext.alloc ?_ _) | (with_reducible refine Ext.drewN ?_ _) | (with_reducible refine Ext.drew ?_) | (with_reducible refine Ext.setCell ?_ ?_ _; rotate_left; (simp only []; omega)) | (with_reducible refine Ext.trans ?_ (by assumption)))))
      have BR : Blk w1 w.heap.size 42 #[.int .i64 0, .int .i64 0] := by refine Blk.ext ?_ hx1; exact (by repeat (first | (with_reducible assumption) | (with_reducible exact Blk.new _ _ _) | exact Blk.newAt _ _ _ (by simp) | (with_reducible refine Blk.alloc ?_ _) | (with_reducible refine Blk.drew ?_) | (with_reducible refine Blk.drewN ?_ _) | refine Blk.far ?_ (by simp only []; omega) _ | refine Blk.rext ?_ (by assumption) (by omega) | refine Blk.ext ?_ (by assumption)))
      have cBR := BR.cells
      have fBR := BR.frozens
      have zBR := BR.lt
      have X1 : Ext w w1 := (by repeat (first | (with_reducible exact Ext.refl _) | (with_reducible assumption) | (with_reducible refine Ext.alloc ?_ _) | (with_reducible refine Ext.drewN ?_ _) | (with_reducible refine Ext.drew ?_) | (with_reducible refine Ext.setCell ?_ ?_ _; rotate_left; (simp only []; omega)) | (with_reducible refine Ext.trans ?_ (by assumption))))
      go_wp2_with fail
      refine (c2.out _ (by exact hs.ext (by repeat (first | (with_reducible exact Ext.refl _) | (with_reducible assumption) | (with_reducible refine Ext.alloc ?_ _) | (with_reducible refine Ext.drewN ?_ _) | (with_reducible refine Ext.drew ?_) | (with_reducible refine Ext.setCell ?_ ?_ _; rotate_left; (simp only []; omega)) | (with_reducible refine Ext.trans ?_ (by assumption)))))).mono ?_
      rintro e w2 ⟨rfl, hx2⟩
      have hy2 := hx2.size
      (try simp at hy2)
      replace hs := hs.ext (show Ext _ w2 from (by repeat (first | (with_reducible exact Ext.refl _) | (with_reducible assumption) | (with_reducible refine Ext.alloc ?_ _) | (with_reducible refine Ext.drewN ?_ _) | (with_reducible refine Ext.drew ?_) | (with_reducible refine Ext.setCell ?_ ?_ _; rotate_left; (simp only []; omega)) | (with_reducible refine Ext.trans ?_ (by assumption)))))
      clear cBR fBR zBR
      replace BR := BR.ext (show Ext _ w2 from (by repeat (first | (with_reducible exact Ext.refl _) | (with_reducible assumption) | (with_reducible refine Ext.alloc ?_ _) | (with_reducible refine Ext.drewN ?_ _) | (with_reducible refine Ext.drew ?_) | (with_reducible refine Ext.setCell ?_ ?_ _; rotate_left; (simp only []; omega)) | (with_reducible refine Ext.trans ?_ (by assumption)))))
      have cBR := BR.cells
      have fBR := BR.frozens
      have zBR := BR.lt
      have X2 : Ext w w2 := X1.trans (by repeat (first | (with_reducible exact Ext.refl _) | (with_reducible assumption) | (with_reducible refine Ext.alloc ?_ _) | (with_reducible refine Ext.drewN ?_ _) | (with_reducible refine Ext.drew ?_) | (with_reducible refine Ext.setCell ?_ ?_ _; rotate_left; (simp only []; omega)) | (with_reducible refine Ext.trans ?_ (by assumption))))
      rw [← X2.cells _ _ hb0] at d0 d1 d2 d3
      have hb2 : b < w2.heap.size := by have := X2.size; omega
      clear hx1 hx2
      go_wp2
      refine' bodyPost_ret (v := _) ?_ rfl ?_
      rotate_left
      · (simp only [results, Try.results34]
         go_simp
         rfl)
      exact ⟨rfl, (by repeat (first | (with_reducible exact Ext.refl _) | (with_reducible assumption) | (with_reducible refine Ext.alloc ?_ _) | (with_reducible refine Ext.drewN ?_ _) | (with_reducible refine Ext.drew ?_) | (with_reducible refine Ext.setCell ?_ ?_ _; rotate_left; (simp only []; omega)) | (with_reducible refine Ext.trans ?_ (by assumption))))⟩
    | false =>
      have hr : insideEnd L q = none := by
        unfold insideEnd
        rw [hv]; simp
      rw [e1] at c1
      rw [hv] at c2
      replace c1 := Lib.hid c1
      replace c2 := Lib.hid c2
      rw [hr]
      clear hr hb e1 e2 e3 e4 hv
      go_enter Try.func34, Try.ntmps34
      go_wp2_with fail
      refine (c1.out _ (by exact hs.ext (by repeat (first | (with_reducible exact Ext.refl _) | (with_reducible assumption) | (with_reducible refine Ext.alloc ?_ _) | (with_reducible refine Ext.drewN ?_ _) | (with_reducible refine Ext.drew ?_) | (with_reducible refine Ext.setCell ?_ ?_ _; rotate_left; (simp only []; omega)) | (with_reducible refine Ext.trans ?_ (by assumption)))))).mono ?_
      rintro e w1 ⟨rfl, hx1⟩
      have hy1 := hx1.size
      (try simp at hy1)
      replace hs := hs.ext (show Ext _ w1 from (by repeat (first | (with_reducible exact Ext.refl _) | (with_reducible assumption) | (with_reducible refine Ext.alloc ?_ _) | (with_reducible refine Ext.drewN ?_ _) | (with_reducible refine Ext.drew ?_) | (with_reducible refine Ext.setCell ?_ ?_ _; rotate_left; (simp only []; omega)) | (with_reducible refine Ext.trans ?_ (by assumption)))))
      have BR : Blk w1 w.heap.size 42 #[.int .i64 0, .int .i64 0] := by refine Blk.ext ?_ hx1; exact (by repeat (first | (with_reducible assumption) | (with_reducible exact Blk.new _ _ _) | exact Blk.newAt _ _ _ (by simp) | (with_reducible refine Blk.alloc ?_ _) | (with_reducible refine Blk.drew ?_) | (with_reducible refine Blk.drewN ?_ _) | refine Blk.far ?_ (by simp only []; omega) _ | refine Blk.rext ?_ (by assumption) (by omega) | refine Blk.ext ?_ (by assumption)))
      have cBR := BR.cells
      have fBR := BR.frozens
      have zBR := BR.lt
      have X1 : Ext w w1 := (by repeat (first | (with_reducible exact Ext.refl _) | (with_reducible assumption) | (with_reducible refine Ext.alloc ?_ _) | (with_reducible refine Ext.drewN ?_ _) | (with_reducible refine Ext.drew ?_) | (with_reducible refine Ext.setCell ?_ ?_ _; rotate_left; (simp only []; omega)) | (with_reducible refine Ext.trans ?_ (by assumption))))
      go_wp2_with fail
      refine (c2.out _ (by exact hs.ext (by repeat (first | (with_reducible exact Ext.refl _) | (with_reducible assumption) | (with_reducible refine Ext.alloc ?_ _) | (with_reducible refine Ext.drewN ?_ _) | (with_reducible refine Ext.drew ?_) | (with_reducible refine Ext.setCell ?_ ?_ _; rotate_left; (simp only []; omega)) | (with_reducible refine Ext.trans ?_ (by assumption)))))).mono ?_
      rintro e w2 ⟨rfl, hx2⟩
      have hy2 := hx2.size
      (try simp at hy2)
      replace hs := hs.ext (show Ext _ w2 from (by repeat (first | (with_reducible exact Ext.refl _) | (with_reducible assumption) | (with_reducible refine Ext.alloc ?_ _) | (with_reducible refine Ext.drewN ?_ _) | (with_reducible refine Ext.drew ?_) | (with_reducible refine Ext.setCell ?_ ?_ _; rotate_left; (simp only []; omega)) | (with_reducible refine Ext.trans ?_ (by assumption)))))
      clear cBR fBR zBR
      replace BR := BR.ext (show Ext _ w2 from (by repeat (first | (with_reducible exact Ext.refl _) | (with_reducible assumption) | (with_reducible refine Ext.alloc ?_ _) | (with_reducible refine Ext.drewN ?_ _) | (with_reducible refine Ext.drew ?_) | (with_reducible refine Ext.setCell ?_ ?_ _; rotate_left; (simp only []; omega)) | (with_reducible refine Ext.trans ?_ (by assumption)))))
      have cBR := BR.cells
      have fBR := BR.frozens
      have zBR := BR.lt
      have X2 : Ext w w2 := X1.trans (by repeat (first | (with_reducible exact Ext.refl _) | (with_reducible assumption) | (with_reducible refine Ext.alloc ?_ _) | (with_reducible refine Ext.drewN ?_ _) | (with_reducible refine Ext.drew ?_) | (with_reducible refine Ext.setCell ?_ ?_ _; rotate_left; (simp only []; omega)) | (with_reducible refine Ext.trans ?_ (by assumption))))
      clear hx1 hx2
      go_wp2
      refine' bodyPost_ret (v := _) ?_ rfl ?_
      rotate_left
      · (simp only [results, Try.results34]
         go_simp
         rfl)
      exact ⟨rfl, (by repeat (first | (with_reducible exact Ext.refl _) | (with_reducible assumption) | (with_reducible refine Ext.alloc ?_ _) | (with_reducible refine Ext.drewN ?_ _) | (with_reducible refine Ext.drew ?_) | (with_reducible refine Ext.setCell ?_ ?_ _; rotate_left; (simp only []; omega)) | (with_reducible refine Ext.trans ?_ (by assumption))))⟩
  · have hr : insideEnd L q = none := by
      unfold insideEnd
      rw [if_neg]
      rw [Bool.and_eq_true, decide_eq_true_eq]
      exact fun h => hb h.2
    have hge := ix_ge (fun m => decide (m.port = q)) L
    have e1 : byPort L q = -1 := by unfold byPort at hb ⊢; omega
    rw [e1] at c1
    replace c1 := Lib.hid c1
    replace c2 := Lib.hid c2
    rw [hr]
    clear hr hb hge e1
    cases hv : validTable L with
    | true =>
      replace c2 := c2.out
      rw [hv] at c2
      replace c2 := Lib.hid c2
      go_enter Try.func34, Try.ntmps34
      go_wp2_with fail
      refine (c1.out _ (by exact hs.ext (by repeat (first | (with_reducible exact Ext.refl _) | (with_reducible assumption) | (with_reducible refine Ext.alloc ?_ _) | (with_reducible refine Ext.drewN ?_ _) | (with_reducible refine Ext.drew ?_) | (with_reducible refine Ext.setCell ?_ ?_ _; rotate_left; (simp only []; omega)) | (with_reducible refine Ext.trans ?_ (by assumption)))))).mono ?_
      rintro e w1 ⟨rfl, hx1⟩
      have hy1 := hx1.size
      (try simp at hy1)
      replace hs := hs.ext (show Ext _ w1 from (by repeat (first | (with_reducible exact Ext.refl _) | (with_reducible assumption) | (with_reducible refine Ext.alloc ?_ _) | (with_reducible refine Ext.drewN ?_ _) | (with_reducible refine Ext.drew ?_) | (with_reducible refine Ext.setCell ?_ ?_ _; rotate_left; (simp only []; omega)) | (with_reducible refine Ext.trans ?_ (by assumption)))))
      have BR : Blk w1 w.heap.size 42 #[.int .i64 0, .int .i64 0] := by refine Blk.ext ?_ hx1; exact (by repeat (first | (with_reducible assumption) | (with_reducible exact Blk.new _ _ _) | exact Blk.newAt _ _ _ (by simp) | (with_reducible refine Blk.alloc ?_ _) | (with_reducible refine Blk.drew ?_) | (with_reducible refine Blk.drewN ?_ _) | refine Blk.far ?_ (by simp only []; omega) _ | refine Blk.rext ?_ (by assumption) (by omega) | refine Blk.ext ?_ (by assumption)))
      have cBR := BR.cells
      have fBR := BR.frozens
      have zBR := BR.lt
      have X1 : Ext w w1 := (by repeat (first | (with_reducible exact Ext.refl _) | (with_reducible assumption) | (with_reducible refine Ext.alloc ?_ _) | (with_reducible refine Ext.drewN ?_ _) | (with_reducible refine Ext.drew ?_) | (with_reducible refine Ext.setCell ?_ ?_ _; rotate_left; (simp only []; omega)) | (with_reducible refine Ext.trans ?_ (by assumption))))
      go_wp2_with fail
      refine (c2.out _ (by exact hs.ext (by repeat (first | (with_reducible exact Ext.refl _) | (with_reducible assumption) | (with_reducible refine Ext.alloc ?_ _) | (with_reducible refine Ext.drewN ?_ _) | (with_reducible refine Ext.drew ?_) | (with_reducible refine Ext.setCell ?_ ?_ _; rotate_left; (simp only []; omega)) | (with_reducible refine Ext.trans ?_ (by assumption)))))).mono ?_
      rintro e w2 ⟨rfl, hx2⟩
      have hy2 := hx2.size
      (try simp at hy2)
      replace hs := hs.ext (show Ext _ w2 from (by repeat (first | (with_reducible exact Ext.refl _) | (with_reducible assumption) | (with_reducible refine Ext.alloc ?_ _) | (with_reducible refine Ext.drewN ?_ _) | (with_reducible refine Ext.drew ?_) | (with_reducible refine Ext.setCell ?_ ?_ _; rotate_left; (simp only []; omega)) | (with_reducible refine Ext.trans ?_ (by assumption)))))
      clear cBR fBR zBR
      replace BR := BR.ext (show Ext _ w2 from (by repeat (first | (with_reducible exact Ext.refl _) | (with_reducible assumption) | (with_reducible refine Ext.alloc ?_ _) | (with_reducible refine Ext.drewN ?_ _) | (with_reducible refine Ext.drew ?_) | (with_reducible refine Ext.setCell ?_ ?_ _; rotate_left; (simp only []; omega)) | (with_reducible refine Ext.trans ?_ (by assumption)))))
      have cBR := BR.cells
      have fBR := BR.frozens
      have zBR := BR.lt
      have X2 : Ext w w2 := X1.trans (by repeat (first | (with_reducible exact Ext.refl _) | (with_reducible assumption) | (with_reducible refine Ext.alloc ?_ _) | (with_reducible refine Ext.drewN ?_ _) | (with_reducible refine Ext.drew ?_) | (with_reducible refine Ext.setCell ?_ ?_ _; rotate_left; (simp only []; omega)) | (with_reducible refine Ext.trans ?_ (by assumption))))
      clear hx1 hx2
      go_wp2
      refine' bodyPost_ret (v := _) ?_ rfl ?_
      rotate_left
      · (simp only [results, Try.results34]
         go_simp
         rfl)
      exact ⟨rfl, (by repeat (first | (with_reducible exact Ext.refl _) | (with_reducible assumption) | (with_reducible refine Ext.alloc ?_ _) | (with_reducible refine Ext.drewN ?_ _) | (with_reducible refine Ext.drew ?_) | (with_reducible refine Ext.setCell ?_ ?_ _; rotate_left; (simp only []; omega)) | (with_reducible refine Ext.trans ?_ (by assumption))))⟩
    | false =>
      replace c2 := c2.out
      rw [hv] at c2
      replace c2 := Lib.hid c2
      go_enter Try.func34, Try.ntmps34
      go_wp2_with fail
      refine (c1.out _ (by exact hs.ext (by repeat (first | (with_reducible exact Ext.refl _) | (with_reducible assumption) | (with_reducible refine Ext.alloc ?_ _) | (with_reducible refine Ext.drewN ?_ _) | (with_reducible refine Ext.drew ?_) | (with_reducible refine Ext.setCell ?_ ?_ _; rotate_left; (simp only []; omega)) | (with_reducible refine Ext.trans ?_ (by assumption)))))).mono ?_
      rintro e w1 ⟨rfl, hx1⟩
      have hy1 := hx1.size
      (try simp at hy1)
      replace hs := hs.ext (show Ext _ w1 from (by repeat (first | (with_reducible exact Ext.refl _) | (with_reducible assumption) | (with_reducible refine Ext.alloc ?_ _) | (with_reducible refine Ext.drewN ?_ _) | (with_reducible refine Ext.drew ?_) | (with_reducible refine Ext.setCell ?_ ?_ _; rotate_left; (simp only []; omega)) | (with_reducible refine Ext.trans ?_ (by assumption)))))
      have BR : Blk w1 w.heap.size 42 #[.int .i64 0, .int .i64 0] := by refine Blk.ext ?_ hx1; exact (by repeat (first | (with_reducible assumption) | (with_reducible exact Blk.new _ _ _) | exact Blk.newAt _ _ _ (by simp) | (with_reducible refine Blk.alloc ?_ _) | (with_reducible refine Blk.drew ?_) | (with_reducible refine Blk.drewN ?_ _) | refine Blk.far ?_ (by simp only []; omega) _ | refine Blk.rext ?_ (by assumption) (by omega) | refine Blk.ext ?_ (by assumption)))
      have cBR := BR.cells
      have fBR := BR.frozens
      have zBR := BR.lt
      have X1 : Ext w w1 := (by repeat (first | (with_reducible exact Ext.refl _) | (with_reducible assumption) | (with_reducible refine Ext.alloc ?_ _) | (with_reducible refine Ext.drewN ?_ _) | (with_reducible refine Ext.drew ?_) | (with_reducible refine Ext.setCell ?_ ?_ _; rotate_left; (simp only []; omega)) | (with_reducible refine Ext.trans ?_ (by assumption))))
      go_wp2_with fail
      refine (c2.out _ (by exact hs.ext (by repeat (first | (with_reducible exact Ext.refl _) | (with_reducible assumption) | (with_reducible refine Ext.alloc ?_ _) | (with_reducible refine Ext.drewN ?_ _) | (with_reducible refine Ext.drew ?_) | (with_reducible refine Ext.setCell ?_ ?_ _; rotate_left; (simp only []; omega)) | (with_reducible refine Ext.trans ?_ (by assumption)))))).mono ?_
      rintro e w2 ⟨rfl, hx2⟩
      have hy2 := hx2.size
      (try simp at hy2)
      replace hs := hs.ext (show Ext _ w2 from (by repeat (first | (with_reducible exact Ext.refl _) | (with_reducible assumption) | (with_reducible refine Ext.alloc ?_ _) | (with_reducible refine Ext.drewN ?_ _) | (with_reducible refine Ext.drew ?_) | (with_reducible refine Ext.setCell ?_ ?_ _; rotate_left; (simp only []; omega)) | (with_reducible refine Ext.trans ?_ (by assumption)))))
      clear cBR fBR zBR
      replace BR := BR.ext (show Ext _ w2 from (by repeat (first | (with_reducible exact Ext.refl _) | (with_reducible assumption) | (with_reducible refine Ext.alloc ?_ _) | (with_reducible refine Ext.drewN ?_ _) | (with_reducible refine Ext.drew ?_) | (with_reducible refine Ext.setCell ?_ ?_ _; rotate_left; (simp only []; omega)) | (with_reducible refine Ext.trans ?_ (by assumption)))))
      have cBR := BR.cells
      have fBR := BR.frozens
      have zBR := BR.lt
      have X2 : Ext w w2 := X1.trans (by repeat (first | (with_reducible exact Ext.refl _) | (with_reducible assumption) | (with_reducible refine Ext.alloc ?_ _) | (with_reducible refine Ext.drewN ?_ _) | (with_reducible refine Ext.drew ?_) | (with_reducible refine Ext.setCell ?_ ?_ _; rotate_left; (simp only []; omega)) | (with_reducible refine Ext.trans ?_ (by assumption))))
      clear hx1 hx2
      go_wp2
      refine' bodyPost_ret (v := _) ?_ rfl ?_
      rotate_left
      · (simp only [results, Try.results34]
         go_simp
         rfl)
      exact ⟨rfl, (by repeat (first | (with_reducible exact Ext.refl _) | (with_reducible assumption) | (with_reducible refine Ext.alloc ?_ _) | (with_reducible refine Ext.drewN ?_ _) | (with_reducible refine Ext.drew ?_) | (with_reducible refine Ext.setCell ?_ ?_ _; rotate_left; (simp only []; omega)) | (with_reducible refine Ext.trans ?_ (by assumption))))⟩
set_option maxHeartbeats 1000000 in
theorem impl_OutsidePort (q : EndD) (a : Option Addr) (n c : Nat) (L : List MapD) (w : World) (hs : Sl encM 4 w a n c L) :
    Calls Try.prog 36 #[.slice a n c, .agg #[.int .i64 q.addr, .int .i64 q.port]] w fun e w' => e = .returned (.int .i64 (outsidePort L q)) ∧ Ext w w' := by
  have c1 := fun W h => impl_byEnd q a n c L W h
  have c2 := fun W h => impl_ValidTable a n c L W h
  have hlen := hs.len
  obtain ⟨R, hR⟩ : ∃ R, R = outsidePort L q := ⟨_, rfl⟩
  rw [← hR]
  unfold outsidePort at hR
  by_cases hb : 0 ≤ byEnd L q
  · obtain ⟨k, m, e1, e2, e3, e4⟩ := byEnd_some hb
    have hk : k < n := by have := (List.getElem?_eq_some_iff.1 e2).1; omega
    rw [e4] at hR
    rw [e1] at c1 hR
    replace c1 := Lib.hid c1
    obtain ⟨_, b, off, rfl, hb0, hc0⟩ := (hs.maps).resolve_left (by omega)
    obtain ⟨d0, d1, d2, d3⟩ := hc0 k hk
    have hm : nth L k = m := nth_of e2
    rw [hm] at d0 d1 d2 d3
    have hle := hs.le
    have hmx := hs.max
    clear hb e1 e2 e3 e4 hc0 hm
    cases hv : validTable L with
    | true =>
      rw [hv] at c2 hR
      have hR2 : R = m.port := by rw [hR]; simp
      clear hR hv
      subst hR2
      replace c2 := Lib.hid c2
      go_enter Try.func36, Try.ntmps36
      go_wp2_with fail
      refine (c1.out _ (by exact hs.ext (by repeat (first | (with_reducible exact Ext.refl _) | (with_reducible assumption) | (with_reducible refine Ext.alloc ?_ _) | (with_reducible refine Ext.drewN ?_ _) | (with_reducible refine Ext.drew ?_) | (with_reducible refine Ext.setCell ?_ ?_ _; rotate_left; (simp only []; omega)) | (with_reducible refine Ext.trans ?_ (by assumption)))))).mono ?_
      rintro e w1 ⟨rfl, hx1⟩
      have hy1 := hx1.size
      (try simp at hy1)
      replace hs := hs.ext (show Ext _ w1 from (by repeat (first | (with_reducible exact Ext.refl _) | (with_reducible assumption) | (with_reducible refine Ext.alloc ?_ _) | (with_reducible refine Ext.drewN ?_ _) | (with_reducible refine Ext.drew ?_) | (with_reducible refine Ext.setCell ?_ ?_ _; rotate_left; (simp only []; omega)) | (with_reducible refine Ext.trans ?_ (by assumption)))))
      have X1 : Ext w w1 := (by repeat (first | (with_reducible exact Ext.refl _) | (with_reducible assumption) | (with_reducible refine Ext.alloc ?_ _) | (with_reducible refine Ext.drewN ?_ _) | (with_reducible refine Ext.drew ?_) | (with_reducible refine Ext.setCell ?_ ?_ _; rotate_left; (simp only []; omega)) | (with_reducible refine Ext.trans ?_ (by assumption))))
      go_wp2_with fail
      refine (c2.out _ (by exact hs.ext (by repeat (first | (with_reducible exact Ext.refl _) | (with_reducible assumption) | (with_reducible refine Ext.alloc ?_ _) | (with_reducible refine Ext.drewN ?_ _) | (with_reducible refine Ext.drew ?_) | (with_reducible refine Ext.setCell ?_ ?_ _; rotate_left; (simp only []; omega)) | (with_reducible refine Ext.trans ?_ (by assumption)))))).mono ?_
      rintro e w2 ⟨rfl, hx2⟩
      have hy2 := hx2.size
      (try simp at hy2)
      replace hs := hs.ext (show Ext _ w2 from (by repeat (first | (with_reducible exact Ext.refl _) | (with_reducible assumption) | (with_reducible refine Ext.alloc ?_ _) | (with_reducible refine Ext.drewN ?_ _) | (with_reducible refine Ext.drew ?_) | (with_reducible refine Ext.setCell ?_ ?_ _; rotate_left; (simp only []; omega)) | (with_reducible refine Ext.trans ?_ (by assumption)))))
      have X2 : Ext w w2 := X1.trans (by repeat (first | (with_reducible exact Ext.refl _) | (with_reducible assumption) | (with_reducible refine Ext.alloc ?_ _) | (with_reducible refine Ext.drewN ?_ _) | (with_reducible refine Ext.drew ?_) | (with_reducible refine Ext.setCell ?_ ?_ _; rotate_left; (simp only []; omega)) | (with_reducible refine Ext.trans ?_ (by assumption))))
      rw [← X2.cells _ _ hb0] at d0 d1 d2 d3
      clear hx1 hx2
      go_wp2
      go_ret
      exact ⟨rfl, (by repeat (first | (with_reducible exact Ext.refl _) | (with_reducible assumption) | (with_reducible refine Ext.alloc ?_ _) | (with_reducible refine Ext.drewN ?_ _) | (with_reducible refine Ext.drew ?_) | (with_reducible refine Ext.setCell ?_ ?_ _; rotate_left; (simp only []; omega)) | (with_reducible refine Ext.trans ?_ (by assumption))))⟩
    | false =>
      rw [hv] at c2 hR
      have hR2 : R = -1 := by rw [hR]; simp
      clear hR hv
      subst hR2
      replace c2 := Lib.hid c2
      go_enter Try.func36, Try.ntmps36
      go_wp2_with fail
      refine (c1.out _ (by exact hs.ext (by repeat (first | (with_reducible exact Ext.refl _) | (with_reducible assumption) | (with_reducible refine Ext.alloc ?_ _) | (with_reducible refine Ext.drewN ?_ _) | (with_reducible refine Ext.drew ?_) | (with_reducible refine Ext.setCell ?_ ?_ _; rotate_left; (simp only []; omega)) | (with_reducible refine Ext.trans ?_ (by assumption)))))).mono ?_
      rintro e w1 ⟨rfl, hx1⟩
      have hy1 := hx1.size
      (try simp at hy1)
      replace hs := hs.ext (show Ext _ w1 from (by repeat (first | (with_reducible exact Ext.refl _) | (with_reducible assumption) | (with_reducible refine Ext.alloc ?_ _) | (with_reducible refine Ext.drewN ?_ _) | (with_reducible refine Ext.drew ?_) | (with_reducible refine Ext.setCell ?_ ?_ _; rotate_left; (simp only []; omega)) | (with_reducible refine Ext.trans ?_ (by assumption)))))
      have X1 : Ext w w1 := (by repeat (first | (with_reducible exact Ext.refl _) | (with_reducible assumption) | (with_reducible refine Ext.alloc ?_ _) | (with_reducible refine Ext.drewN ?_ _) | (with_reducible refine Ext.drew ?_) | (with_reducible refine Ext.setCell ?_ ?_ _; rotate_left; (simp only []; omega)) | (with_reducible refine Ext.trans ?_ (by assumption))))
      go_wp2_with fail
      refine (c2.out _ (by exact hs.ext (by repeat (first | (with_reducible exact Ext.refl _) | (with_reducible assumption) | (with_reducible refine Ext.alloc ?_ _) | (with_reducible refine Ext.drewN ?_ _) | (with_reducible refine Ext.drew ?_) | (with_reducible refine Ext.setCell ?_ ?_ _; rotate_left; (simp only []; omega)) | (with_reducible refine Ext.trans ?_ (by assumption)))))).mono ?_
      rintro e w2 ⟨rfl, hx2⟩
      have hy2 := hx2.size
      (try simp at hy2)
      replace hs := hs.ext (show Ext _ w2 from (by repeat (first | (with_reducible exact Ext.refl _) | (with_reducible assumption) | (with_reducible refine Ext.alloc ?_ _) | (with_reducible refine Ext.drewN ?_ _) | (with_reducible refine Ext.drew ?_) | (with_reducible refine Ext.setCell ?_ ?_ _; rotate_left; (simp only []; omega)) | (with_reducible refine Ext.trans ?_ (by assumption)))))
      have X2 : Ext w w2 := X1.trans (by repeat (first | (with_reducible exact Ext.refl _) | (with_reducible assumption) | (with_reducible refine Ext.alloc ?_ _) | (with_reducible refine Ext.drewN ?_ _) | (with_reducible refine Ext.drew ?_) | (with_reducible refine Ext.setCell ?_ ?_ _; rotate_left; (simp only []; omega)) | (with_reducible refine Ext.trans ?_ (by assumption))))
      clear hx1 hx2
      go_wp2
      go_ret
      exact ⟨rfl, (by repeat (first | (with_reducible exact Ext.refl _) | (with_reducible assumption) | (with_reducible refine Ext.alloc ?_ _) | (with_reducible refine Ext.drewN ?_ _) | (with_reducible refine Ext.drew ?_) | (with_reducible refine Ext.setCell ?_ ?_ _; rotate_left; (simp only []; omega)) | (with_reducible refine Ext.trans ?_ (by assumption))))⟩
  · have hge := ix_ge (fun m => decide (m.ins = q)) L
    have e1 : byEnd L q = -1 := by unfold byEnd at hb ⊢; omega
    rw [if_neg (by rw [Bool.and_eq_true, decide_eq_true_eq]; exact fun h => hb h.2)] at hR
    subst hR
    rw [e1] at c1
    replace c1 := Lib.hid c1
    clear hb hge e1
    obtain ⟨V, hV⟩ : ∃ V, V = validTable L := ⟨_, rfl⟩
    rw [← hV] at c2
    clear hV
    replace c2 := Lib.hid c2
    cases V with
    | true =>
      go_enter Try.func36, Try.ntmps36
      go_wp2_with fail
      refine (c1.out _ (by exact hs.ext (by repeat (first | (with_reducible exact Ext.refl _) | (with_reducible assumption) | (with_reducible refine Ext.alloc ?_ _) | (with_reducible refine Ext.drewN ?_ _) | (with_reducible refine Ext.drew ?_) | (with_reducible refine Ext.setCell ?_ ?_ _; rotate_left; (simp only []; omega)) | (with_reducible refine Ext.trans ?_ (by assumption)))))).mono ?_
      rintro e w1 ⟨rfl, hx1⟩
      have hy1 := hx1.size
      (try simp at hy1)
      replace hs := hs.ext (show Ext _ w1 from (by repeat (first | (with_reducible exact Ext.refl _) | (with_reducible assumption) | (with_reducible refine Ext.alloc ?_ _) | (with_reducible refine Ext.drewN ?_ _) | (with_reducible refine Ext.drew ?_) | (with_reducible refine Ext.setCell ?_ ?_ _; rotate_left; (simp only []; omega)) | (with_reducible refine Ext.trans ?_ (by assumption)))))
      have X1 : Ext w w1 := (by repeat (first | (with_reducible exact Ext.refl _) | (with_reducible assumption) | (with_reducible refine Ext.alloc ?_ _) | (with_reducible refine Ext.drewN ?_ _) | (with_reducible refine Ext.drew ?_) | (with_reducible refine Ext.setCell ?_ ?_ _; rotate_left; (simp only []; omega)) | (with_reducible refine Ext.trans ?_ (by assumption))))
      go_wp2_with fail
      refine (c2.out _ (by exact hs.ext (by repeat (first | (with_reducible exact Ext.refl _) | (with_reducible assumption) | (with_reducible refine Ext.alloc ?_ _) | (with_reducible refine Ext.drewN ?_ _) | (with_reducible refine Ext.drew ?_) | (with_reducible refine Ext.setCell ?_ ?_ _; rotate_left; (simp only []; omega)) | (with_reducible refine Ext.trans ?_ (by assumption)))))).mono ?_
      rintro e w2 ⟨rfl, hx2⟩
      have hy2 := hx2.size
      (try simp at hy2)
      replace hs := hs.ext (show Ext _ w2 from (by repeat (first | (with_reducible exact Ext.refl _) | (with_reducible assumption) | (with_reducible refine Ext.alloc ?_ _) | (with_reducible refine Ext.drewN ?_ _) | (with_reducible refine Ext.drew ?_) | (with_reducible refine Ext.setCell ?_ ?_ _; rotate_left; (simp only []; omega)) | (with_reducible refine Ext.trans ?_ (by assumption)))))
      have X2 : Ext w w2 := X1.trans (by repeat (first | (with_reducible exact Ext.refl _) | (with_reducible assumption) | (with_reducible refine Ext.alloc ?_ _) | (with_reducible refine Ext.drewN ?_ _) | (with_reducible refine Ext.drew ?_) | (with_reducible refine Ext.setCell ?_ ?_ _; rotate_left; (simp only []; omega)) | (with_reducible refine Ext.trans ?_ (by assumption))))
      clear hx1 hx2
      go_wp2
      go_ret
      exact ⟨rfl, (by repeat (first | (with_reducible exact Ext.refl _) | (with_reducible assumption) | (with_reducible refine Ext.alloc ?_ _) | (with_reducible refine Ext.drewN ?_ _) | (with_reducible refine Ext.drew ?_) | (with_reducible refine Ext.setCell ?_ ?_ _; rotate_left; (simp only []; omega)) | (with_reducible refine Ext.trans ?_ (by assumption))))⟩
    | false =>
      go_enter Try.func36, Try.ntmps36
      go_wp2_with fail
      refine (c1.out _ (by exact hs.ext (by repeat (first | (with_reducible exact Ext.refl _) | (with_reducible assumption) | (with_reducible refine Ext.alloc ?_ _) | (with_reducible refine Ext.drewN ?_ _) | (with_reducible refine Ext.drew ?_) | (with_reducible refine Ext.setCell ?_ ?_ _; rotate_left; (simp only []; omega)) | (with_reducible refine Ext.trans ?_ (by assumption)))))).mono ?_
      rintro e w1 ⟨rfl, hx1⟩
      have hy1 := hx1.size
      (try simp at hy1)
      replace hs := hs.ext (show Ext _ w1 from (by repeat (first | (with_reducible exact Ext.refl _) | (with_reducible assumption) | (with_reducible refine Ext.alloc ?_ _) | (with_reducible refine Ext.drewN ?_ _) | (with_reducible refine Ext.drew ?_) | (with_reducible refine Ext.setCell ?_ ?_ _; rotate_left; (simp only []; omega)) | (with_reducible refine Ext.trans ?_ (by assumption)))))
      have X1 : Ext w w1 := (by repeat (first | (with_reducible exact Ext.refl _) | (with_reducible assumption) | (with_reducible refine Ext.alloc ?_ _) | (with_reducible refine Ext.drewN ?_ _) | (with_reducible refine Ext.drew ?_) | (with_reducible refine Ext.setCell ?_ ?_ _; rotate_left; (simp only []; omega)) | (with_reducible refine Ext.trans ?_ (by assumption))))
      go_wp2_with fail
      refine (c2.out _ (by exact hs.ext (by repeat (first | (with_reducible exact Ext.refl _) | (with_reducible assumption) | (with_reducible refine Ext.alloc ?_ _) | (with_reducible refine Ext.drewN ?_ _) | (with_reducible refine Ext.drew ?_) | (with_reducible refine Ext.setCell ?_ ?_ _; rotate_left; (simp only []; omega)) | (with_reducible refine Ext.trans ?_ (by assumption)))))).mono ?_
      rintro e w2 ⟨rfl, hx2⟩
      have hy2 := hx2.size
      (try simp at hy2)
      replace hs := hs.ext (show Ext _ w2 from (by repeat (first | (with_reducible exact Ext.refl _) | (with_reducible assumption) | (with_reducible refine Ext.alloc ?_ _) | (with_reducible refine Ext.drewN ?_ _) | (with_reducible refine Ext.drew ?_) | (with_reducible refine Ext.setCell ?_ ?_ _; rotate_left; (simp only []; omega)) | (with_reducible refine Ext.trans ?_ (by assumption)))))
      have X2 : Ext w w2 := X1.trans (by repeat (first | (with_reducible exact Ext.refl _) | (with_reducible assumption) | (with_reducible refine Ext.alloc ?_ _) | (with_reducible refine Ext.drewN ?_ _) | (with_reducible refine Ext.drew ?_) | (with_reducible refine Ext.setCell ?_ ?_ _; rotate_left; (simp only []; omega)) | (with_reducible refine Ext.trans ?_ (by assumption))))
      clear hx1 hx2
      go_wp2
      go_ret
      exact ⟨rfl, (by repeat (first | (with_reducible exact Ext.refl _) | (with_reducible assumption) | (with_reducible refine Ext.alloc ?_ _) | (with_reducible refine Ext.drewN ?_ _) | (with_reducible refine Ext.drew ?_) | (with_reducible refine Ext.setCell ?_ ?_ _; rotate_left; (simp only []; omega)) | (with_reducible refine Ext.trans ?_ (by assumption))))⟩
end Go.Proofs.Ytafmomocmodbhaa
