/- Contracts of the exact laws' own marks on gates. -/
import Derived.Test.YtafmomocmodbhaaExG
namespace Go.Proofs.Ytafmomocmodbhaa
open Go.RowKit

def marksM (m : Int) (n : Nat) : List MapD := (List.range n).map fun (i : Nat) => ⟨⟨m + 4 * i, m + 4 * i + 1⟩, m + 4 * i + 1 + 1, m + 4 * i + 1 + 1 + 1⟩
def marksC (m : Int) (n : Nat) : List ConD := (List.range n).map fun (i : Nat) => ⟨m + 3 * i, ⟨m + 3 * i + 1, m + 3 * i + 1 + 1⟩⟩
theorem marksM_len (m : Int) (n : Nat) : (marksM m n).length = n := by simp [marksM]
theorem marksC_len (m : Int) (n : Nat) : (marksC m n).length = n := by simp [marksC]
theorem marksM_nth {m : Int} {n i : Nat} (h : i < n) : nth (marksM m n) i = ⟨⟨m + 4 * i, m + 4 * i + 1⟩, m + 4 * i + 1 + 1, m + 4 * i + 1 + 1 + 1⟩ := nth_of (by simp [marksM, h])
theorem marksC_nth {m : Int} {n i : Nat} (h : i < n) : nth (marksC m n) i = ⟨m + 3 * i, ⟨m + 3 * i + 1, m + 3 * i + 1 + 1⟩⟩ := nth_of (by simp [marksC, h])
theorem putM {cur : Array Value} {i : Nat} {K : List MapD} {x : MapD} (hlt : i * 4 + 3 < cur.size) (h2 : cur.toList.take (i * 4) = K.flatMap encM) :
    ((((cur.setIfInBounds (i * 4) (.int .i64 x.ins.addr)).setIfInBounds (i * 4 + 1) (.int .i64 x.ins.port)).setIfInBounds (i * 4 + 2) (.int .i64 x.port)).setIfInBounds (i * 4 + 3) (.int .i64 x.last)).toList.take ((i + 1) * 4) = (K ++ [x]).flatMap encM := by
  rw [show (i + 1) * 4 = i * 4 + 3 + 1 by omega]
  simp only [Array.toList_setIfInBounds]
  rw [set_take (by simp; omega), set_take (by simp; omega), set_take (by simp; omega), set_take (by simp; omega), h2]
  simp [encM]
theorem putC {cur : Array Value} {i : Nat} {K : List ConD} {x : ConD} (hlt : i * 3 + 2 < cur.size) (h2 : cur.toList.take (i * 3) = K.flatMap encC) :
    (((cur.setIfInBounds (i * 3) (.int .i64 x.port)).setIfInBounds (i * 3 + 1) (.int .i64 x.to_.addr)).setIfInBounds (i * 3 + 2) (.int .i64 x.to_.port)).toList.take ((i + 1) * 3) = (K ++ [x]).flatMap encC := by
  rw [show (i + 1) * 3 = i * 3 + 2 + 1 by omega]
  simp only [Array.toList_setIfInBounds]
  rw [set_take (by simp; omega), set_take (by simp; omega), set_take (by simp; omega), h2]
  simp [encC]
theorem grown_set {w wr : World} {g o : Nat} (h : w.grownBy wr (some g)) (v : Value) : w.grownBy (wr.setCell ⟨g, o, none⟩ v) (some g) :=
  World.grownBy.trans h ⟨rfl, rfl, rfl, by simp [World.setCell], fun i _ hne => Below.heap_setCell wr ⟨g, o, none⟩ _ i (fun e => hne (by rw [e]))⟩
theorem heldMappingS_any (a : Option Addr) (n c : Nat) (m : Int) (w : World) (hs : Sl encM 4 w a n c (marksM m n)) (h0 : 0 ≤ m) (h1 : m ≤ 100000000) (hn : n ≤ 1048576) :
    Calls Try.prog 94 #[.slice a n c, .int .i64 m] w fun e w' => e = .returned (.int .i64 (m + 4 * n)) ∧ w = w' := by
  have hle := hs.le
  have hmax := hs.max
  have HI := Lib.hid hs.maps
  clear hs
  go_enter Try.func94, Try.ntmps94
  go_wp2
  go_loop [1, 5] (fun t i => ∃ k : Nat, k ≤ n ∧ i = .int .i64 k ∧ t = .int .i64 (m + 4 * k)) (fun _ i => n - (intOf i).toNat)
  case atStart => exact ⟨0, Nat.zero_le _, rfl, by simp⟩
  case round =>
    obtain ⟨k, hk, rfl, rfl⟩ := hrel
    by_cases hlt : k < n
    · obtain ⟨_, b, off, rfl, hb, hc⟩ := (HI.out).resolve_left (by omega)
      obtain ⟨c0, c1, c2, c3⟩ := hc k hlt
      rw [marksM_nth hlt] at c0 c1 c2 c3
      clear hc
      go_wp2
      go_round
      case rel => exact ⟨k + 1, by omega, by go_num, by congr 1; omega⟩
      case measure => simp [intOf]; omega
    · have e : k = n := by omega
      subst e
      go_wp2
      go_ret
      exact ⟨rfl, rfl⟩
theorem heldContactS_any (a : Option Addr) (n c : Nat) (m : Int) (w : World) (hs : Sl encC 3 w a n c (marksC m n)) (h0 : 0 ≤ m) (h1 : m ≤ 100000000) (hn : n ≤ 1048576) :
    Calls Try.prog 95 #[.slice a n c, .int .i64 m] w fun e w' => e = .returned (.int .i64 (m + 3 * n)) ∧ w = w' := by
  have hle := hs.le
  have hmax := hs.max
  have HI := Lib.hid hs.cons
  clear hs
  go_enter Try.func95, Try.ntmps95
  go_wp2
  go_loop [1, 5] (fun t i => ∃ k : Nat, k ≤ n ∧ i = .int .i64 k ∧ t = .int .i64 (m + 3 * k)) (fun _ i => n - (intOf i).toNat)
  case atStart => exact ⟨0, Nat.zero_le _, rfl, by simp⟩
  case round =>
    obtain ⟨k, hk, rfl, rfl⟩ := hrel
    by_cases hlt : k < n
    · obtain ⟨_, b, off, rfl, hb, hc⟩ := (HI.out).resolve_left (by omega)
      obtain ⟨c0, c1, c2⟩ := hc k hlt
      rw [marksC_nth hlt] at c0 c1 c2
      clear hc
      go_wp2
      go_round
      case rel => exact ⟨k + 1, by omega, by go_num, by congr 1; omega⟩
      case measure => simp [intOf]; omega
    · have e : k = n := by omega
      subst e
      go_wp2
      go_ret
      exact ⟨rfl, rfl⟩
theorem markMappingS_any (a : Option Addr) (n c base : Nat) (L : List MapD) (m : Int) (w : World) (hs : Ow 102 encM 4 base w a n c L) (h0 : 0 ≤ m) (h1 : m ≤ 100000000) (hn : n ≤ 1048576) :
    Calls Try.prog 92 #[.slice a n c, .int .i64 m] w fun e w' => e = .returned (.int .i64 (m + 4 * n)) ∧ Ow 102 encM 4 base w' a n c (marksM m n) ∧ w.grownBy w' (a.map (·.block)) := by
  have hle := (hs.sl encM_len).le
  have hmax := (hs.sl encM_len).max
  obtain ⟨hl, ⟨rfl, hn0, hc0⟩ | ⟨g, cur0, rfl, hg, hgB, hnc, hcm, hcs, ht⟩⟩ := hs
  · subst hn0
    go_enter Try.func92, Try.ntmps92
    go_wp2
    go_loop [1, 5] (fun t i => i = .int .i64 0 ∧ t = .int .i64 m) (fun _ _ => 0)
    case atStart => exact ⟨rfl, rfl⟩
    case round =>
      obtain ⟨rfl, rfl⟩ := hrel
      go_wp2
      go_ret
      exact ⟨ret_int (by simp), ⟨rfl, .inl ⟨rfl, rfl, by first | rfl | exact hc0⟩⟩, World.grownBy.refl w _⟩
  · have HC := Lib.hid hcs
    have HB0 := Lib.hid (show Blk w g 102 cur0 from hgB)
    have hbs : base ≤ g := hg
    clear hl ht hgB hcs
    go_enter Try.func92, Try.ntmps92
    go_wp2
    go_loopw [1, 5] (fun t i wr => ∃ (k : Nat) (cur : Array Value), k ≤ n ∧ i = .int .i64 k ∧ t = .int .i64 (m + 4 * k) ∧ Blk wr g 102 cur ∧ cur.size = cur0.size ∧ cur.toList.take (k * 4) = ((marksM m n).take k).flatMap encM ∧ w.grownBy wr (some g)) (fun _ i _ => n - (intOf i).toNat)
    case atStart => exact ⟨0, cur0, Nat.zero_le _, rfl, by simp, HB0.out, rfl, by simp, World.grownBy.refl w _⟩
    case round =>
      obtain ⟨k, cur, hk, rfl, rfl, hB, hcz, hct, hX⟩ := hrel
      by_cases hlt : k < n
      · have hks : k * 4 + 3 < cur.size := by rw [hcz]; have := HC.out; omega
        obtain ⟨v0, c0⟩ : ∃ v, wr.cell? ⟨g, k * 4, none⟩ = some v := ⟨_, by rw [hB.cells]; exact Array.getElem?_eq_getElem (by omega)⟩
        obtain ⟨v1, c1⟩ : ∃ v, wr.cell? ⟨g, k * 4 + 1, none⟩ = some v := ⟨_, by rw [hB.cells]; exact Array.getElem?_eq_getElem (by omega)⟩
        obtain ⟨v2, c2⟩ : ∃ v, wr.cell? ⟨g, k * 4 + 2, none⟩ = some v := ⟨_, by rw [hB.cells]; exact Array.getElem?_eq_getElem (by omega)⟩
        obtain ⟨v3, c3⟩ : ∃ v, wr.cell? ⟨g, k * 4 + 3, none⟩ = some v := ⟨_, by rw [hB.cells]; exact Array.getElem?_eq_getElem (by omega)⟩
        have fB := hB.frozens
        have ST := Lib.hid hct
        have HZ2 := Lib.hid hcz
        have HX := Lib.hid hX
        have hmk := Lib.hid (marksM_nth (m := m) hlt)
        clear hct hcz hX
        go_wp2
        go_roundw
        case rel =>
          refine ⟨k + 1, _, by omega, by go_num, by congr 1; omega, (((hB.set _ _).set _ _).set _ _).set _ _, by simpa using HZ2.out, ?_, grown_set (grown_set (grown_set (grown_set HX.out _) _) _) _⟩
          have h := putM (x := nth (marksM m n) k) hks ST.out
          rw [← take_succ (by rw [marksM_len]; omega), hmk.out] at h
          exact h
        case measure => simp [intOf]; omega
      · have e : k = n := by omega
        subst e
        have HF := Lib.hid (show Ow 102 encM 4 base wr (some ⟨g, 0, none⟩) k c (marksM m k) by
          refine ⟨marksM_len _ _, .inr ⟨g, cur, rfl, hbs, hB, hnc, hcm, by rw [hcz]; exact HC.out, ?_⟩⟩
          rw [hct, List.take_of_length_le (by rw [marksM_len]; omega)])
        have HX := Lib.hid hX
        clear hcz hct hX
        go_wp2
        go_ret
        exact ⟨rfl, HF.out, HX.out⟩
theorem markContactS_any (a : Option Addr) (n c base : Nat) (L : List ConD) (m : Int) (w : World) (hs : Ow 115 encC 3 base w a n c L) (h0 : 0 ≤ m) (h1 : m ≤ 100000000) (hn : n ≤ 1048576) :
    Calls Try.prog 93 #[.slice a n c, .int .i64 m] w fun e w' => e = .returned (.int .i64 (m + 3 * n)) ∧ Ow 115 encC 3 base w' a n c (marksC m n) ∧ w.grownBy w' (a.map (·.block)) := by
  have hle := (hs.sl encC_len).le
  have hmax := (hs.sl encC_len).max
  obtain ⟨hl, ⟨rfl, hn0, hc0⟩ | ⟨g, cur0, rfl, hg, hgB, hnc, hcm, hcs, ht⟩⟩ := hs
  · subst hn0
    go_enter Try.func93, Try.ntmps93
    go_wp2
    go_loop [1, 5] (fun t i => i = .int .i64 0 ∧ t = .int .i64 m) (fun _ _ => 0)
    case atStart => exact ⟨rfl, rfl⟩
    case round =>
      obtain ⟨rfl, rfl⟩ := hrel
      go_wp2
      go_ret
      exact ⟨ret_int (by simp), ⟨rfl, .inl ⟨rfl, rfl, by first | rfl | exact hc0⟩⟩, World.grownBy.refl w _⟩
  · have HC := Lib.hid hcs
    have HB0 := Lib.hid (show Blk w g 115 cur0 from hgB)
    have hbs : base ≤ g := hg
    clear hl ht hgB hcs
    go_enter Try.func93, Try.ntmps93
    go_wp2
    go_loopw [1, 5] (fun t i wr => ∃ (k : Nat) (cur : Array Value), k ≤ n ∧ i = .int .i64 k ∧ t = .int .i64 (m + 3 * k) ∧ Blk wr g 115 cur ∧ cur.size = cur0.size ∧ cur.toList.take (k * 3) = ((marksC m n).take k).flatMap encC ∧ w.grownBy wr (some g)) (fun _ i _ => n - (intOf i).toNat)
    case atStart => exact ⟨0, cur0, Nat.zero_le _, rfl, by simp, HB0.out, rfl, by simp, World.grownBy.refl w _⟩
    case round =>
      obtain ⟨k, cur, hk, rfl, rfl, hB, hcz, hct, hX⟩ := hrel
      by_cases hlt : k < n
      · have hks : k * 3 + 2 < cur.size := by rw [hcz]; have := HC.out; omega
        obtain ⟨v0, c0⟩ : ∃ v, wr.cell? ⟨g, k * 3, none⟩ = some v := ⟨_, by rw [hB.cells]; exact Array.getElem?_eq_getElem (by omega)⟩
        obtain ⟨v1, c1⟩ : ∃ v, wr.cell? ⟨g, k * 3 + 1, none⟩ = some v := ⟨_, by rw [hB.cells]; exact Array.getElem?_eq_getElem (by omega)⟩
        obtain ⟨v2, c2⟩ : ∃ v, wr.cell? ⟨g, k * 3 + 2, none⟩ = some v := ⟨_, by rw [hB.cells]; exact Array.getElem?_eq_getElem (by omega)⟩
        have fB := hB.frozens
        have ST := Lib.hid hct
        have HZ2 := Lib.hid hcz
        have HX := Lib.hid hX
        have hmk := Lib.hid (marksC_nth (m := m) hlt)
        clear hct hcz hX
        go_wp2
        go_roundw
        case rel =>
          refine ⟨k + 1, _, by omega, by go_num, by congr 1; omega, ((hB.set _ _).set _ _).set _ _, by simpa using HZ2.out, ?_, grown_set (grown_set (grown_set HX.out _) _) _⟩
          have h := putC (x := nth (marksC m n) k) hks ST.out
          rw [← take_succ (by rw [marksC_len]; omega), hmk.out] at h
          exact h
        case measure => simp [intOf]; omega
      · have e : k = n := by omega
        subst e
        have HF := Lib.hid (show Ow 115 encC 3 base wr (some ⟨g, 0, none⟩) k c (marksC m k) by
          refine ⟨marksC_len _ _, .inr ⟨g, cur, rfl, hbs, hB, hnc, hcm, by rw [hcz]; exact HC.out, ?_⟩⟩
          rw [hct, List.take_of_length_le (by rw [marksC_len]; omega)])
        have HX := Lib.hid hX
        clear hcz hct hX
        go_wp2
        go_ret
        exact ⟨rfl, HF.out, HX.out⟩
theorem heldGate_any (b i o f d t : Int) (ta : Option Addr) (tn tc : Nat) (ka : Option Addr) (kn kc : Nat) (m : Int) (w : World) (ht : Sl encM 4 w ta tn tc (marksM m tn)) (hk : Sl encC 3 w ka kn kc (marksC (m + 4 * tn) kn)) (h0 : 0 ≤ m) (h1 : m ≤ 10000000) (hn : tn ≤ 1048576) (hn2 : kn ≤ 1048576) :
    Calls Try.prog 38 #[.agg #[.int .i64 b, .int .i64 i, .int .i64 o, .slice ta tn tc, .slice ka kn kc, .int .i64 f, .int .i64 d, .int .i64 t], .int .i64 m] w fun e w' => e = .returned (.int .i64 (m + 4 * tn + 3 * kn)) ∧ Ext w w' := by
  have g1 : ¬ m + 4 * (tn : Int) < 0 := by omega
  have g2 : ¬ m + 4 * (tn : Int) + 3 * (kn : Int) < 0 := by omega
  go_enter Try.func38, Try.ntmps38
  go_wp2_with (first | (go_at_call 94; refine (heldMappingS_any ta tn tc m _ (by exact ht.ext (by repeat (first | (with_reducible exact Ext.refl _) | (with_reducible assumption) | (with_reducible refine Ext.alloc ?_ _) | (with_reducible refine Ext.drewN ?_ _) | (with_reducible refine Ext.drew ?_) | (with_reducible refine Ext.setCell ?_ ?_ _; rotate_left; (simp only []; omega)) | (with_reducible refine Ext.trans ?_ (by assumption))))) h0 (by omega) hn).mono ?_; rintro e w' ⟨rfl, rfl⟩) | (go_at_call 95; refine (heldContactS_any ka kn kc (m + 4 * tn) _ (by exact hk.ext (by repeat (first | (with_reducible exact Ext.refl _) | (with_reducible assumption) | (with_reducible refine Ext.alloc ?_ _) | (with_reducible refine Ext.drewN ?_ _) | (with_reducible refine Ext.drew ?_) | (with_reducible refine Ext.setCell ?_ ?_ _; rotate_left; (simp only []; omega)) | (with_reducible refine Ext.trans ?_ (by assumption))))) (by omega) (by omega) hn2).mono ?_; rintro e w' ⟨rfl, rfl⟩))
  go_ret
  exact ⟨rfl, (by repeat (first | (with_reducible exact Ext.refl _) | (with_reducible assumption) | (with_reducible refine Ext.alloc ?_ _) | (with_reducible refine Ext.drewN ?_ _) | (with_reducible refine Ext.drew ?_) | (with_reducible refine Ext.setCell ?_ ?_ _; rotate_left; (simp only []; omega)) | (with_reducible refine Ext.trans ?_ (by assumption))))⟩
theorem markGate_any (b i o f d t : Int) (ta : Option Addr) (tn tc base : Nat) (L : List MapD) (ka : Option Addr) (kn kc base' : Nat) (K : List ConD) (m : Int) (w : World) (ht : Ow 102 encM 4 base w ta tn tc L) (hk : Ow 115 encC 3 base' w ka kn kc K) (h0 : 0 ≤ m) (h1 : m ≤ 10000000) (hn : tn ≤ 1048576) (hn2 : kn ≤ 1048576) :
    Calls Try.prog 37 #[.agg #[.int .i64 b, .int .i64 i, .int .i64 o, .slice ta tn tc, .slice ka kn kc, .int .i64 f, .int .i64 d, .int .i64 t], .int .i64 m] w fun e w' => e = .returned (.int .i64 (m + 4 * tn + 3 * kn)) ∧
      Ow 102 encM 4 base w' ta tn tc (marksM m tn) ∧ Ow 115 encC 3 base' w' ka kn kc (marksC (m + 4 * tn) kn) ∧ ∃ v, w.grownBy v (ta.map (·.block)) ∧ v.grownBy w' (ka.map (·.block)) := by
  have hap := ht.apart hk (by decide)
  have lT := ht.lt
  have HT := Lib.hid ht
  have HK := Lib.hid hk
  clear ht hk
  go_enter Try.func37, Try.ntmps37
  go_wp2_with fail
  refine (markMappingS_any ta tn tc base L m _ (by exact HT.out.ext (by repeat (first | (with_reducible exact Ext.refl _) | (with_reducible assumption) | (with_reducible refine Ext.alloc ?_ _) | (with_reducible refine Ext.drewN ?_ _) | (with_reducible refine Ext.drew ?_) | (with_reducible refine Ext.setCell ?_ ?_ _; rotate_left; (simp only []; omega)) | (with_reducible refine Ext.trans ?_ (by assumption))))) h0 (by omega) hn).mono ?_
  rintro e w1 ⟨rfl, how, hg⟩
  have HO := Lib.hid how
  have HG := Lib.hid (World.grownBy.trans (grown_ext (r := ta.map (·.block)) (show Ext w _ from (by repeat (first | (with_reducible exact Ext.refl _) | (with_reducible assumption) | (with_reducible refine Ext.alloc ?_ _) | (with_reducible refine Ext.drewN ?_ _) | (with_reducible refine Ext.drew ?_) | (with_reducible refine Ext.setCell ?_ ?_ _; rotate_left; (simp only []; omega)) | (with_reducible refine Ext.trans ?_ (by assumption)))))) hg)
  have BX : Blk w1 w.heap.size 40 #[.int .i64 b, .int .i64 i, .int .i64 o, .slice ta tn tc, .slice ka kn kc, .int .i64 f, .int .i64 d, .int .i64 t] := Blk.grown (by repeat (first | (with_reducible assumption) | (with_reducible exact Blk.new _ _ _) | exact Blk.newAt _ _ _ (by simp) | (with_reducible refine Blk.alloc ?_ _) | (with_reducible refine Blk.drew ?_) | (with_reducible refine Blk.drewN ?_ _) | refine Blk.far ?_ (by simp only []; omega) _ | refine Blk.rext ?_ (by assumption) (by omega) | refine Blk.ext ?_ (by assumption))) hg (by
    cases ta with
    | none => simp
    | some x => have := (lT x rfl).2.1; simp; omega)
  have HK1 := Lib.hid ((HK.out.ext (show Ext w _ from (by repeat (first | (with_reducible exact Ext.refl _) | (with_reducible assumption) | (with_reducible refine Ext.alloc ?_ _) | (with_reducible refine Ext.drewN ?_ _) | (with_reducible refine Ext.drew ?_) | (with_reducible refine Ext.setCell ?_ ?_ _; rotate_left; (simp only []; omega)) | (with_reducible refine Ext.trans ?_ (by assumption)))))).keep (w' := w1) (fun x e hb => hg.block _ hb (by
    cases ta with
    | none => simp
    | some y => have := hap y x rfl e; simp; omega)))
  clear how hg
  have cX := BX.cells
  have fX := BX.frozens
  have zX := BX.lt
  go_wp2_with fail
  refine (markContactS_any ka kn kc base' K _ _ (by exact HK1.out.ext (by repeat (first | (with_reducible exact Ext.refl _) | (with_reducible assumption) | (with_reducible refine Ext.alloc ?_ _) | (with_reducible refine Ext.drewN ?_ _) | (with_reducible refine Ext.drew ?_) | (with_reducible refine Ext.setCell ?_ ?_ _; rotate_left; (simp only []; omega)) | (with_reducible refine Ext.trans ?_ (by assumption))))) (by omega) (by omega) hn2).mono ?_
  rintro e w2 ⟨rfl, how, hg⟩
  have HO2 := Lib.hid how
  have HG2 := Lib.hid (World.grownBy.trans (grown_ext (r := ka.map (·.block)) (show Ext w1 _ from (by repeat (first | (with_reducible exact Ext.refl _) | (with_reducible assumption) | (with_reducible refine Ext.alloc ?_ _) | (with_reducible refine Ext.drewN ?_ _) | (with_reducible refine Ext.drew ?_) | (with_reducible refine Ext.setCell ?_ ?_ _; rotate_left; (simp only []; omega)) | (with_reducible refine Ext.trans ?_ (by assumption)))))) hg)
  have HM2 := Lib.hid ((HO.out.ext (show Ext w1 _ from (by repeat (first | (with_reducible exact Ext.refl _) | (with_reducible assumption) | (with_reducible refine Ext.alloc ?_ _) | (with_reducible refine Ext.drewN ?_ _) | (with_reducible refine Ext.drew ?_) | (with_reducible refine Ext.setCell ?_ ?_ _; rotate_left; (simp only []; omega)) | (with_reducible refine Ext.trans ?_ (by assumption)))))).keep (w' := w2) (fun x e hb => hg.block _ hb (by
    cases ka with
    | none => simp
    | some y => have := hap x y e rfl; simp; omega)))
  clear how hg
  go_wp2
  go_ret
  exact ⟨rfl, HM2.out, HO2.out, w1, HG.out, HG2.out⟩
end Go.Proofs.Ytafmomocmodbhaa
