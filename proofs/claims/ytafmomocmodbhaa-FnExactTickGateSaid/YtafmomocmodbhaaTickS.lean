/- Contracts of the second package's time steps. -/
import Derived.Test.YtafmomocmodbhaaRow
import Derived.Test.YtafmomocmodbhaaTick
import Derived.Test.YtafmomocmodbhaaSVGate
import Derived.Test.YtafmomocmodbhaaExact
namespace Go.Proofs.Ytafmomocmodbhaa
open Go.RowKit

theorem spec_expire (a : Option Addr) (n c : Nat) (L : List MapD) (now hold : Int) (w : World) (hs : Sl encM 4 w a n c L) (hn : n ≤ 1000) (hl : ∀ m ∈ L, 0 ≤ m.last ∧ m.last ≤ 10000) (h2 : 0 ≤ now) (h3 : now ≤ 10000) :
    Calls Try.prog 131 #[.slice a n c, .int .i64 now, .int .i64 hold] w fun e w' => ∃ a' m c', e = .returned (.slice a' m c') ∧ OwR 102 encM 4 w.heap.size w' a' m c' (expire L now hold) ∧ m ≤ n ∧ Ext w w' := by
  have hle := hs.le
  have hmax := hs.max
  have hlen := hs.len
  have HL := Lib.hid hlen
  have HI := Lib.hid hs.maps
  have HLL := Lib.hid hl
  clear hlen hs hl
  go_enter Try.func131, Try.ntmps131
  go_wp2
  go_loopw [7, 8] (fun v i wr => ∃ (k : Nat) (a' : Option Addr) (m c' : Nat) (M : List MapD), k ≤ n ∧ i = .int .i64 k ∧ v = .slice a' m c' ∧ m ≤ k ∧ M = expire (L.take k) now hold ∧ OwR 102 encM 4 w.heap.size wr a' m c' M ∧ Ext w wr) (fun _ i _ => n - (intOf i).toNat)
  case atStart => exact ⟨0, _, 0, 0, [], Nat.zero_le _, rfl, rfl, Nat.le_refl _, rfl, OwR.empty w _ rfl (Nat.le_refl _), (by repeat (first | (with_reducible exact Ext.refl _) | (with_reducible assumption) | (with_reducible refine Ext.alloc ?_ _) | (with_reducible refine Ext.drewN ?_ _) | (with_reducible refine Ext.drew ?_) | (with_reducible refine Ext.setCell ?_ ?_ _; rotate_left; (simp only []; omega)) | (with_reducible refine Ext.trans ?_ (by assumption))))⟩
  case round =>
    obtain ⟨k, a', m, c', M, hk, rfl, rfl, hmk, hM, hO, hX⟩ := hrel
    by_cases hlt : k < n
    · obtain ⟨_, b, off, rfl, hb, hc⟩ := (HI.out).resolve_left (by omega)
      obtain ⟨d0, d1, d2, d3⟩ := hc k hlt
      rw [← hX.cells _ _ hb] at d0 d1 d2 d3
      have hbr : b < wr.heap.size := by have := hX.size; omega
      have hbw : w.heap.size ≤ wr.heap.size := hX.size
      have hlk := HLL.out _ (nth_mem (l := L) (i := k) (by rw [HL.out]; exact hlt))
      have he := fun W => spec_expired (nth L k) now hold W hlk.1 hlk.2 h2 h3
      have HX := Lib.hid hX
      have HO := Lib.hid hO
      have HM := Lib.hid hM
      clear hc hX hO hM hlk
      cases hexp : expired (nth L k) now hold with
      | true =>
        rw [hexp] at he
        replace he := Lib.hid he
        go_wp2_with fail
        refine (he.out _).mono ?_
        rintro e w1 ⟨rfl, hx1⟩
        go_wp2
        go_roundw
        case rel => exact ⟨k + 1, a', m, c', M, hlt, by go_num, rfl, by omega, by rw [HM.out]; unfold expire; rw [filt_drop (by rw [HL.out]; exact hlt) (by simp [hexp])], HO.out.ext (show Ext wr _ from (by repeat (first | (with_reducible exact Ext.refl _) | (with_reducible assumption) | (with_reducible refine Ext.alloc ?_ _) | (with_reducible refine Ext.drewN ?_ _) | (with_reducible refine Ext.drew ?_) | (with_reducible refine Ext.setCell ?_ ?_ _; rotate_left; (simp only []; omega)) | (with_reducible refine Ext.trans ?_ (by assumption))))), (show Ext w wr from HX.out).trans (by repeat (first | (with_reducible exact Ext.refl _) | (with_reducible assumption) | (with_reducible refine Ext.alloc ?_ _) | (with_reducible refine Ext.drewN ?_ _) | (with_reducible refine Ext.drew ?_) | (with_reducible refine Ext.setCell ?_ ?_ _; rotate_left; (simp only []; omega)) | (with_reducible refine Ext.trans ?_ (by assumption))))⟩
        case measure => simp [intOf]; omega
      | false =>
        rw [hexp] at he
        replace he := Lib.hid he
        go_wp2_with fail
        refine (he.out _).mono ?_
        rintro e w1 ⟨rfl, hx1⟩
        rw [← hx1.cells _ _ (by simpa using hbr)] at d0 d1 d2 d3
        have hbr1 : b < w1.heap.size := by have := hx1.size; (try simp at this); omega
        have hbw1 : w.heap.size ≤ w1.heap.size := by have := hx1.size; (try simp at this); omega
        go_wp2_with (at_builtin; refine wpList_append_ow _ rfl _ _ rfl eiM encM_len encM_one (by omega) w.heap.size a' m c' M rfl (by exact HO.out.ext (show Ext wr _ from (by repeat (first | (with_reducible exact Ext.refl _) | (with_reducible assumption) | (with_reducible refine Ext.alloc ?_ _) | (with_reducible refine Ext.drewN ?_ _) | (with_reducible refine Ext.drew ?_) | (with_reducible refine Ext.setCell ?_ ?_ _; rotate_left; (simp only []; omega)) | (with_reducible refine Ext.trans ?_ (by assumption)))))) _ 1 1 [nth L k] rfl (by exact Sl.lit1 _ _ (nth L k) _ rfl rfl) (by omega) (by simp; omega) ?_; intro a3 c3 w3 hO3 hX3 _; replace hX3 := hX3 w ((show Ext w wr from HX.out).trans (by repeat (first | (with_reducible exact Ext.refl _) | (with_reducible assumption) | (with_reducible refine Ext.alloc ?_ _) | (with_reducible refine Ext.drewN ?_ _) | (with_reducible refine Ext.drew ?_) | (with_reducible refine Ext.setCell ?_ ?_ _; rotate_left; (simp only []; omega)) | (with_reducible refine Ext.trans ?_ (by assumption))))) (Nat.le_refl _))
        go_roundw
        case rel => exact ⟨k + 1, a3, m + 1, c3, _, hlt, by go_num, rfl, by omega, by rw [HM.out]; unfold expire; rw [filt_keep (by rw [HL.out]; exact hlt) (by simp [hexp])], hO3, hX3⟩
        case measure => simp [intOf]; omega
    · have e : k = n := by omega
      subst e
      rw [List.take_of_length_le (by rw [HL.out]; omega)] at hM
      subst hM
      have HX := Lib.hid hX
      have HO := Lib.hid hO
      clear hX hO
      go_wp2
      go_ret
      exact ⟨a', m, c', rfl, HO.out, hmk, HX.out⟩
theorem spec_ExpiredPorts (a : Option Addr) (n c : Nat) (L : List MapD) (now hold : Int) (w : World) (hs : Sl encM 4 w a n c L) (hn : n ≤ 1000) (hv : validTable L = true) (ht : timer now hold = true) (hl : ∀ m ∈ L, 0 ≤ m.last ∧ m.last ≤ 10000) (h2 : 0 ≤ now) (h3 : now ≤ 10000) :
    Calls Try.prog 129 #[.slice a n c, .int .i64 now, .int .i64 hold] w fun e w' => ∃ a' m c', e = .returned (.slice a' m c') ∧ OwR 3 encI 1 w.heap.size w' a' m c' (expPorts L now hold) ∧ m ≤ n ∧ Ext w w' := by
  have hle := hs.le
  have hmax := hs.max
  have hlen := hs.len
  have HL := Lib.hid hlen
  have HS := Lib.hid hs
  have HI := Lib.hid hs.maps
  have HLL := Lib.hid hl
  have hv1 := fun W h => spec_validTable a n c L W h
  rw [hv] at hv1
  have ht1 := fun W => spec_validTimer now hold W
  rw [ht] at ht1
  replace hv1 := Lib.hid hv1
  replace ht1 := Lib.hid ht1
  clear hlen hs hl hv ht
  go_enter Try.func129, Try.ntmps129
  go_wp2_with (first | (go_at_call 98; refine (hv1.out _ (by exact HS.out.ext (by repeat (first | (with_reducible exact Ext.refl _) | (with_reducible assumption) | (with_reducible refine Ext.alloc ?_ _) | (with_reducible refine Ext.drewN ?_ _) | (with_reducible refine Ext.drew ?_) | (with_reducible refine Ext.setCell ?_ ?_ _; rotate_left; (simp only []; omega)) | (with_reducible refine Ext.trans ?_ (by assumption)))))).mono ?_; rintro e w1 ⟨rfl, hx⟩; have hc := hx.cells; have hf := hx.frozens; have hy := hx.size; (try simp at hy); have hz : w.heap.size < w1.heap.size := (by omega)) | (go_at_call 149; refine (ht1.out _).mono ?_; rintro e w' ⟨rfl, rfl⟩))
  have hO1 : OwR 3 encI 1 w.heap.size w1 (some ⟨w.heap.size, 0, none⟩) 0 0 [] := by refine OwR.ext ?_ hx; exact OwR.empty w _ rfl (Nat.le_refl _)
  have HX1 := Lib.hid (show Ext w w1 from (by repeat (first | (with_reducible exact Ext.refl _) | (with_reducible assumption) | (with_reducible refine Ext.alloc ?_ _) | (with_reducible refine Ext.drewN ?_ _) | (with_reducible refine Ext.drew ?_) | (with_reducible refine Ext.setCell ?_ ?_ _; rotate_left; (simp only []; omega)) | (with_reducible refine Ext.trans ?_ (by assumption)))))
  clear hx hc hf hy hz
  go_loopw [7, 8] (fun v i wr => ∃ (k : Nat) (a' : Option Addr) (m c' : Nat) (M : List Int), k ≤ n ∧ i = .int .i64 k ∧ v = .slice a' m c' ∧ m ≤ k ∧ M = expPorts (L.take k) now hold ∧ OwR 3 encI 1 w.heap.size wr a' m c' M ∧ Ext w wr) (fun _ i _ => n - (intOf i).toNat)
  case atStart => exact ⟨0, _, 0, 0, [], Nat.zero_le _, rfl, rfl, Nat.le_refl _, rfl, hO1, HX1.out⟩
  case round =>
    clear hO1
    obtain ⟨k, a', m, c', M, hk, rfl, rfl, hmk, hM, hO, hX⟩ := hrel
    by_cases hlt : k < n
    · obtain ⟨_, b, off, rfl, hb, hc⟩ := (HI.out).resolve_left (by omega)
      obtain ⟨d0, d1, d2, d3⟩ := hc k hlt
      rw [← hX.cells _ _ hb] at d0 d1 d2 d3
      have hbr : b < wr.heap.size := by have := hX.size; omega
      have hbw : w.heap.size ≤ wr.heap.size := hX.size
      have hlk := HLL.out _ (nth_mem (l := L) (i := k) (by rw [HL.out]; exact hlt))
      have he := fun W => spec_expired (nth L k) now hold W hlk.1 hlk.2 h2 h3
      have HX := Lib.hid hX
      have HO := Lib.hid hO
      have HM := Lib.hid hM
      clear hc hX hO hM hlk
      cases hexp : expired (nth L k) now hold with
      | false =>
        rw [hexp] at he
        replace he := Lib.hid he
        go_wp2_with fail
        refine (he.out _).mono ?_
        rintro e w2 ⟨rfl, hx2⟩
        go_wp2
        go_roundw
        case rel => exact ⟨k + 1, a', m, c', M, hlt, by go_num, rfl, by omega, by rw [HM.out]; unfold expPorts; rw [filt_drop (by rw [HL.out]; exact hlt) hexp], HO.out.ext (show Ext wr _ from (by repeat (first | (with_reducible exact Ext.refl _) | (with_reducible assumption) | (with_reducible refine Ext.alloc ?_ _) | (with_reducible refine Ext.drewN ?_ _) | (with_reducible refine Ext.drew ?_) | (with_reducible refine Ext.setCell ?_ ?_ _; rotate_left; (simp only []; omega)) | (with_reducible refine Ext.trans ?_ (by assumption))))), (show Ext w wr from HX.out).trans (by repeat (first | (with_reducible exact Ext.refl _) | (with_reducible assumption) | (with_reducible refine Ext.alloc ?_ _) | (with_reducible refine Ext.drewN ?_ _) | (with_reducible refine Ext.drew ?_) | (with_reducible refine Ext.setCell ?_ ?_ _; rotate_left; (simp only []; omega)) | (with_reducible refine Ext.trans ?_ (by assumption))))⟩
        case measure => simp [intOf]; omega
      | true =>
        rw [hexp] at he
        replace he := Lib.hid he
        go_wp2_with fail
        refine (he.out _).mono ?_
        rintro e w2 ⟨rfl, hx2⟩
        rw [← hx2.cells _ _ (by simpa using hbr)] at d0 d1 d2 d3
        have hbr1 : b < w2.heap.size := by have := hx2.size; (try simp at this); omega
        have hbw1 : w.heap.size ≤ w2.heap.size := by have := hx2.size; (try simp at this); omega
        go_wp2_with (at_builtin; refine wpList_append_ow _ rfl _ _ rfl eiI encI_len encI_one (by omega) w.heap.size a' m c' M rfl (by exact HO.out.ext (show Ext wr _ from (by repeat (first | (with_reducible exact Ext.refl _) | (with_reducible assumption) | (with_reducible refine Ext.alloc ?_ _) | (with_reducible refine Ext.drewN ?_ _) | (with_reducible refine Ext.drew ?_) | (with_reducible refine Ext.setCell ?_ ?_ _; rotate_left; (simp only []; omega)) | (with_reducible refine Ext.trans ?_ (by assumption)))))) _ 1 1 [(nth L k).port] rfl (by exact Sl.lit1 _ _ (nth L k).port _ rfl rfl) (by omega) (by simp; omega) ?_; intro a3 c3 w3 hO3 hX3 _; replace hX3 := hX3 w ((show Ext w wr from HX.out).trans (by repeat (first | (with_reducible exact Ext.refl _) | (with_reducible assumption) | (with_reducible refine Ext.alloc ?_ _) | (with_reducible refine Ext.drewN ?_ _) | (with_reducible refine Ext.drew ?_) | (with_reducible refine Ext.setCell ?_ ?_ _; rotate_left; (simp only []; omega)) | (with_reducible refine Ext.trans ?_ (by assumption))))) (Nat.le_refl _))
        go_roundw
        case rel => exact ⟨k + 1, a3, m + 1, c3, _, hlt, by go_num, rfl, by omega, by rw [HM.out]; unfold expPorts; rw [filt_keep (by rw [HL.out]; exact hlt) hexp, List.map_append]; rfl, hO3, hX3⟩
        case measure => simp [intOf]; omega
    · have e : k = n := by omega
      subst e
      rw [List.take_of_length_le (by rw [HL.out]; omega)] at hM
      subst hM
      have HX := Lib.hid hX
      have HO := Lib.hid hO
      clear hX hO
      go_wp2
      go_ret
      exact ⟨a', m, c', rfl, HO.out, hmk, HX.out⟩
theorem spec_DropContacts (a : Option Addr) (n c : Nat) (L : List ConD) (q : Int) (w : World) (hs : Sl encC 3 w a n c L) (hn : n ≤ 1000) (hv : validContacts L = true) :
    Calls Try.prog 130 #[.slice a n c, .int .i64 q] w fun e w' => ∃ a' m c', e = .returned (.slice a' m c') ∧ OwR 115 encC 3 w.heap.size w' a' m c' (without L q) ∧ m ≤ n ∧ Ext w w' := by
  have hle := hs.le
  have hmax := hs.max
  have hlen := hs.len
  have HL := Lib.hid hlen
  have HS := Lib.hid hs
  have HI := Lib.hid hs.cons
  have hv1 := fun W h => spec_validContacts a n c L W h
  rw [hv] at hv1
  replace hv1 := Lib.hid hv1
  clear hlen hs hv
  go_enter Try.func130, Try.ntmps130
  go_wp2_with (go_at_call 99; refine (hv1.out _ (by exact HS.out.ext (by repeat (first | (with_reducible exact Ext.refl _) | (with_reducible assumption) | (with_reducible refine Ext.alloc ?_ _) | (with_reducible refine Ext.drewN ?_ _) | (with_reducible refine Ext.drew ?_) | (with_reducible refine Ext.setCell ?_ ?_ _; rotate_left; (simp only []; omega)) | (with_reducible refine Ext.trans ?_ (by assumption)))))).mono ?_; rintro e w1 ⟨rfl, hx⟩; have hc := hx.cells; have hf := hx.frozens; have hy := hx.size; (try simp at hy); have hz : w.heap.size < w1.heap.size := (by omega))
  have hO1 : OwR 115 encC 3 w.heap.size w1 (some ⟨w.heap.size, 0, none⟩) 0 0 [] := by refine OwR.ext ?_ hx; exact OwR.empty w _ rfl (Nat.le_refl _)
  have HX1 := Lib.hid (show Ext w w1 from (by repeat (first | (with_reducible exact Ext.refl _) | (with_reducible assumption) | (with_reducible refine Ext.alloc ?_ _) | (with_reducible refine Ext.drewN ?_ _) | (with_reducible refine Ext.drew ?_) | (with_reducible refine Ext.setCell ?_ ?_ _; rotate_left; (simp only []; omega)) | (with_reducible refine Ext.trans ?_ (by assumption)))))
  clear hx hc hf hy hz
  go_loopw [5, 6] (fun v i wr => ∃ (k : Nat) (a' : Option Addr) (m c' : Nat) (M : List ConD), k ≤ n ∧ i = .int .i64 k ∧ v = .slice a' m c' ∧ m ≤ k ∧ M = without (L.take k) q ∧ OwR 115 encC 3 w.heap.size wr a' m c' M ∧ Ext w wr) (fun _ i _ => n - (intOf i).toNat)
  case atStart => exact ⟨0, _, 0, 0, [], Nat.zero_le _, rfl, rfl, Nat.le_refl _, rfl, hO1, HX1.out⟩
  case round =>
    clear hO1
    obtain ⟨k, a', m, c', M, hk, rfl, rfl, hmk, hM, hO, hX⟩ := hrel
    by_cases hlt : k < n
    · obtain ⟨_, b, off, rfl, hb, hc⟩ := (HI.out).resolve_left (by omega)
      obtain ⟨d0, d1, d2⟩ := hc k hlt
      rw [← hX.cells _ _ hb] at d0 d1 d2
      have hbr : b < wr.heap.size := by have := hX.size; omega
      have hbw : w.heap.size ≤ wr.heap.size := hX.size
      have HX := Lib.hid hX
      have HO := Lib.hid hO
      have HM := Lib.hid hM
      clear hc hX hO hM
      by_cases hq : (nth L k).port = q
      · go_wp2
        go_roundw
        case rel => exact ⟨k + 1, a', m, c', M, hlt, by go_num, rfl, by omega, by rw [HM.out]; unfold without; rw [filt_drop (by rw [HL.out]; exact hlt) (by simp [hq])], HO.out.ext (show Ext wr _ from (by repeat (first | (with_reducible exact Ext.refl _) | (with_reducible assumption) | (with_reducible refine Ext.alloc ?_ _) | (with_reducible refine Ext.drewN ?_ _) | (with_reducible refine Ext.drew ?_) | (with_reducible refine Ext.setCell ?_ ?_ _; rotate_left; (simp only []; omega)) | (with_reducible refine Ext.trans ?_ (by assumption))))), (show Ext w wr from HX.out).trans (by repeat (first | (with_reducible exact Ext.refl _) | (with_reducible assumption) | (with_reducible refine Ext.alloc ?_ _) | (with_reducible refine Ext.drewN ?_ _) | (with_reducible refine Ext.drew ?_) | (with_reducible refine Ext.setCell ?_ ?_ _; rotate_left; (simp only []; omega)) | (with_reducible refine Ext.trans ?_ (by assumption))))⟩
        case measure => simp [intOf]; omega
      · go_wp2_with (at_builtin; refine wpList_append_ow _ rfl _ _ rfl eiC encC_len encC_one (by omega) w.heap.size a' m c' M rfl (by exact HO.out.ext (show Ext wr _ from (by repeat (first | (with_reducible exact Ext.refl _) | (with_reducible assumption) | (with_reducible refine Ext.alloc ?_ _) | (with_reducible refine Ext.drewN ?_ _) | (with_reducible refine Ext.drew ?_) | (with_reducible refine Ext.setCell ?_ ?_ _; rotate_left; (simp only []; omega)) | (with_reducible refine Ext.trans ?_ (by assumption)))))) _ 1 1 [nth L k] rfl (by exact Sl.lit1 _ _ (nth L k) _ rfl rfl) (by omega) (by simp; omega) ?_; intro a3 c3 w3 hO3 hX3 _; replace hX3 := hX3 w ((show Ext w wr from HX.out).trans (by repeat (first | (with_reducible exact Ext.refl _) | (with_reducible assumption) | (with_reducible refine Ext.alloc ?_ _) | (with_reducible refine Ext.drewN ?_ _) | (with_reducible refine Ext.drew ?_) | (with_reducible refine Ext.setCell ?_ ?_ _; rotate_left; (simp only []; omega)) | (with_reducible refine Ext.trans ?_ (by assumption))))) (Nat.le_refl _))
        go_roundw
        case rel => exact ⟨k + 1, a3, m + 1, c3, _, hlt, by go_num, rfl, by omega, by rw [HM.out]; unfold without; rw [filt_keep (by rw [HL.out]; exact hlt) (by simp [hq])], hO3, hX3⟩
        case measure => simp [intOf]; omega
    · have e : k = n := by omega
      subst e
      rw [List.take_of_length_le (by rw [HL.out]; omega)] at hM
      subst hM
      have HX := Lib.hid hX
      have HO := Lib.hid hO
      clear hX hO
      go_wp2
      go_ret
      exact ⟨a', m, c', rfl, HO.out, hmk, HX.out⟩
set_option maxHeartbeats 1000000 in
theorem spec_copyGate (g : GateD) (ta : Option Addr) (tn tc : Nat) (ka : Option Addr) (kn kc : Nat) (w : World) (ht : Sl encM 4 w ta tn tc g.table) (hk : Sl encC 3 w ka kn kc g.cons) (h1 : tn ≤ 1000) (h2 : kn ≤ 1000) :
    Calls Try.prog 128 #[.agg #[.int .i64 g.net.base, .int .i64 g.net.bits, .int .i64 g.out, .slice ta tn tc, .slice ka kn kc, .int .i64 g.filter, .int .i64 g.hold, .int .i64 g.now]] w fun e w' => ∃ sa sc qa qc, e = .returned (.agg #[.int .i64 g.net.base, .int .i64 g.net.bits, .int .i64 g.out, .slice sa tn sc, .slice qa kn qc, .int .i64 g.filter, .int .i64 g.hold, .int .i64 g.now]) ∧ OwR 102 encM 4 w.heap.size w' sa tn sc g.table ∧
      OwR 115 encC 3 w.heap.size w' qa kn qc g.cons ∧ Ext w w' := by
  go_enter Try.func128, Try.ntmps128
  go_wp2_with (first
    | (at_builtin; refine wpList_append_ow _ rfl _ _ rfl (by with_reducible exact eiM) encM_len encM_one (by omega) (w.heap.size + 2) (some ⟨w.heap.size + 2, 0, none⟩) 0 0 [] rfl (by exact OwR.empty _ _ (by simp) (by simp)) ta tn tc g.table rfl (by exact ht.ext (by repeat (first | (with_reducible exact Ext.refl _) | (with_reducible assumption) | (with_reducible refine Ext.alloc ?_ _) | (with_reducible refine Ext.drewN ?_ _) | (with_reducible refine Ext.drew ?_) | (with_reducible refine Ext.setCell ?_ ?_ _; rotate_left; (simp only []; omega)) | (with_reducible refine Ext.trans ?_ (by assumption))))) (by omega) (by simp) ?_; intro a3 c3 w3 hO3 hX3 hg3; (replace hX3 := hX3 w (by repeat (first | (with_reducible exact Ext.refl _) | (with_reducible assumption) | (with_reducible refine Ext.alloc ?_ _) | (with_reducible refine Ext.drewN ?_ _) | (with_reducible refine Ext.drew ?_) | (with_reducible refine Ext.setCell ?_ ?_ _; rotate_left; (simp only []; omega)) | (with_reducible refine Ext.trans ?_ (by assumption)))) (by omega)); (have hB3 : Blk w3 w.heap.size 40 (#[.int .i64 g.net.base, .int .i64 g.net.bits, .int .i64 g.out, .slice ta tn tc, .slice ka kn kc, .int .i64 g.filter, .int .i64 g.hold, .int .i64 g.now]) := Blk.grown (by repeat (first | (with_reducible assumption) | (with_reducible exact Blk.new _ _ _) | exact Blk.newAt _ _ _ (by simp) | (with_reducible refine Blk.alloc ?_ _) | (with_reducible refine Blk.drew ?_) | (with_reducible refine Blk.drewN ?_ _) | refine Blk.far ?_ (by simp only []; omega) _ | refine Blk.rext ?_ (by assumption) (by omega) | refine Blk.ext ?_ (by assumption))) hg3 (by simp)); (have hR3 : Blk w3 (w.heap.size + 1) 40 #[.int .i64 0, .int .i64 0, .int .i64 0, .slice none 0 0, .slice none 0 0, .int .i64 0, .int .i64 0, .int .i64 0] := Blk.grown (by repeat (first | (with_reducible assumption) | (with_reducible exact Blk.new _ _ _) | exact Blk.newAt _ _ _ (by simp) | (with_reducible refine Blk.alloc ?_ _) | (with_reducible refine Blk.drew ?_) | (with_reducible refine Blk.drewN ?_ _) | refine Blk.far ?_ (by simp only []; omega) _ | refine Blk.rext ?_ (by assumption) (by omega) | refine Blk.ext ?_ (by assumption))) hg3 (by simp)); have hc3 := hB3.cells; have hf3 := hB3.frozens; have hz3 := hB3.lt; have hc3' := hR3.cells; have hf3' := hR3.frozens; have hz3' := hR3.lt; simp only [Nat.zero_add, List.nil_append] at hO3)
    | (at_builtin; refine wpList_append_ow _ rfl _ _ rfl (by with_reducible exact eiC) encC_len encC_one (by omega) w3.heap.size (some ⟨w3.heap.size, 0, none⟩) 0 0 [] rfl (by exact OwR.empty _ _ (by simp) (by simp)) ka kn kc g.cons rfl (by exact hk.ext (by repeat (first | (with_reducible exact Ext.refl _) | (with_reducible assumption) | (with_reducible refine Ext.alloc ?_ _) | (with_reducible refine Ext.drewN ?_ _) | (with_reducible refine Ext.drew ?_) | (with_reducible refine Ext.setCell ?_ ?_ _; rotate_left; (simp only []; omega)) | (with_reducible refine Ext.trans ?_ (by assumption))))) (by omega) (by simp) ?_; intro a4 c4 w4 hO4 hX4 hg4; (replace hX4 := hX4 w (by repeat (first | (with_reducible exact Ext.refl _) | (with_reducible assumption) | (with_reducible refine Ext.alloc ?_ _) | (with_reducible refine Ext.drewN ?_ _) | (with_reducible refine Ext.drew ?_) | (with_reducible refine Ext.setCell ?_ ?_ _; rotate_left; (simp only []; omega)) | (with_reducible refine Ext.trans ?_ (by assumption)))) (by omega)); (have hB4 : Blk w4 w.heap.size 40 (#[.int .i64 g.net.base, .int .i64 g.net.bits, .int .i64 g.out, .slice a3 tn c3, .slice ka kn kc, .int .i64 g.filter, .int .i64 g.hold, .int .i64 g.now]) := Blk.grown (Blk.alloc (show Blk (w3.setCell ⟨w.heap.size, 3, none⟩ (.slice a3 tn c3)) w.heap.size 40 (#[.int .i64 g.net.base, .int .i64 g.net.bits, .int .i64 g.out, .slice a3 tn c3, .slice ka kn kc, .int .i64 g.filter, .int .i64 g.hold, .int .i64 g.now]) from hB3.set 3 _) _) hg4 (by simp; omega)); (have hR4 : Blk w4 (w.heap.size + 1) 40 #[.int .i64 0, .int .i64 0, .int .i64 0, .slice none 0 0, .slice none 0 0, .int .i64 0, .int .i64 0, .int .i64 0] := Blk.grown (by repeat (first | exact hR3 | refine Blk.alloc ?_ _ | refine Blk.far ?_ (by simp only []; omega) _)) hg4 (by simp; omega)); have hQ4 := ((hO3.setC (p := ⟨w.heap.size, 3, none⟩) (fun x e => by have := (hO3.lt x e).1; simp only []; omega) (.slice a3 tn c3)).ext ((Ext.refl _).alloc (.cells #[] 115))).keep hg4 (fun x e => by have := (hO3.lt x e).2; simp; omega); clear hc3 hf3 hz3 hc3' hf3' hB3 hR3 hO3 hg3 hX3; have hc4 := hB4.cells; have hf4 := hB4.frozens; have hz4 := hB4.lt; have hc4' := hR4.cells; have hf4' := hR4.frozens; have hz4' := hR4.lt; simp only [Nat.zero_add, List.nil_append] at hO4))
  refine' bodyPost_ret (v := _) ?_ rfl ?_
  rotate_left
  · (simp only [results, Try.results128]
     go_simp
     rfl)
  refine ⟨a3, c3, a4, c4, rfl, ?_, ?_, (by repeat (first | (with_reducible exact Ext.refl _) | (with_reducible assumption) | (with_reducible refine Ext.alloc ?_ _) | (with_reducible refine Ext.drewN ?_ _) | (with_reducible refine Ext.drew ?_) | (with_reducible refine Ext.setCell ?_ ?_ _; rotate_left; (simp only []; omega)) | (with_reducible refine Ext.trans ?_ (by assumption))))⟩
  · refine OwR.rebase (base := w.heap.size + 2) ?_ (by omega)
    repeat (refine OwR.setC ?_ (fun x e => by have := (hQ4.lt x e).1; simp only []; omega) _)
    exact hQ4
  · refine OwR.rebase (base := w3.heap.size) ?_ (by omega)
    repeat (refine OwR.setC ?_ (fun x e => by have := (hO4.lt x e).1; simp only []; omega) _)
    exact hO4
theorem foldl_sub (ps : List Int) (l : List ConD) : (ps.foldl without l).Sublist l := by rw [foldl_without]; exact List.filter_sublist
theorem lastOk {L : List MapD} (h : validTable L = true) : ∀ m ∈ L, 0 ≤ m.last ∧ m.last ≤ 10000 := by
  intro m hm
  have := (validTable_iff.1 h).1 m hm
  simp only [okMap, Bool.and_eq_true, inR_iff] at this
  omega
end Go.Proofs.Ytafmomocmodbhaa
