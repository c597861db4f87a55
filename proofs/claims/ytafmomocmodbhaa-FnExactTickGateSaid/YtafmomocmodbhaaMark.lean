/- Contracts of the exact laws' own helpers on lists of integers: size, copy, comparison, marking, finding the marks. -/
import Derived.Test.YtafmomocmodbhaaSlice
import Derived.Test.YtafmomocmodbhaaChain
import Derived.Laws.MakeOwn
namespace Go.Proofs.Ytafmomocmodbhaa
open Go.RowKit

/-- The numbers from k on, n of them. -/
def marks (k : Int) : Nat → List Int
  | 0 => []
  | n + 1 => k :: marks (k + 1) n
theorem marks_len : ∀ (n : Nat) (k : Int), (marks k n).length = n
  | 0, _ => rfl
  | n + 1, k => by rw [marks, List.length_cons, marks_len]
theorem marks_at : ∀ (n i : Nat) (k : Int), i < n → (marks k n)[i]? = some (k + i)
  | 0, i, k, h => by omega
  | n + 1, 0, k, _ => by simp [marks]
  | n + 1, i + 1, k, h => by
    rw [marks, List.getElem?_cons_succ, marks_at n i (k + 1) (by omega)]
    congr 1
    omega
theorem marks_nth {k : Int} {n i : Nat} (h : i < n) : nth (marks k n) i = k + i := nth_of (marks_at n i k h)
theorem set_take {α : Type} {l : List α} {k : Nat} {x : α} (h : k < l.length) : (l.set k x).take (k + 1) = l.take k ++ [x] := by
  rw [List.take_add_one, List.getElem?_set_self h, List.take_set_of_le (Nat.le_refl k)]
  rfl
theorem fill_one {cur : Array Value} {n k : Nat} {M : List Int} (h1 : cur.size = n) (hk : k < n) (hM : M.length = n) (h2 : cur.toList.take k = (M.take k).flatMap encI) :
    (cur.setIfInBounds k (.int .i64 (nth M k))).size = n ∧ (cur.setIfInBounds k (.int .i64 (nth M k))).toList.take (k + 1) = (M.take (k + 1)).flatMap encI := by
  refine ⟨by simpa using h1, ?_⟩
  rw [Array.toList_setIfInBounds, set_take (by simpa [h1] using hk), h2, take_succ (by omega)]
  simp [encI]
/-- Making a row of n integers. -/
theorem make_ints (n : Nat) (hn : n ≤ 1048576) : ∃ Z : Array Value, Z.size = n ∧ ∀ W : World, (Instr.makeSlice 30 (.int .i64 (n : Int)) (.int .i64 (n : Int))).run Try.prog W = .ok (.slice (some ⟨W.heap.size, 0, none⟩) n n) (W.alloc (.cells Z 3)) := by
  obtain ⟨ht, i, z, hi, hz, hsz, hby, hzs, _⟩ := eiI
  refine ⟨madeCells z.cells (n * i.size), ?_, fun W => ?_⟩
  · simp [hsz, size_madeCells]
  · have := run_makeSlice (P := Try.prog) W 30 3 i z ht hi hz .i64 .i64 (n : Int) (n : Int) (by omega) (by omega) (by rw [hsz]; simp; omega) (by rw [hby]; omega) (by omega)
    simpa using this
theorem szIntS_any (a : Option Addr) (n c : Nat) (left : Int) (w : World) (h0 : 0 ≤ left) (h1 : left ≤ 1048576) (hn : (n : Int) ≤ 9223372036854775807) :
    Calls Try.prog 41 #[.slice a n c, .int .i64 left] w fun e w' => e = .returned (.int .i64 (if (n : Int) ≤ left then left - n else -1)) ∧ w = w' := by
  by_cases h : (n : Int) ≤ left
  · rw [if_pos h]
    go_enter Try.func41, Try.ntmps41
    go_wp2
    go_ret
    exact ⟨rfl, rfl⟩
  · rw [if_neg h]
    go_enter Try.func41, Try.ntmps41
    go_wp2
    go_ret
    exact ⟨rfl, rfl⟩
theorem toIntS_any (a : Option Addr) (n c : Nat) (L : List Int) (w : World) (hs : Sl encI 1 w a n c L) (hn : n ≤ 1048576) :
    Calls Try.prog 51 #[.slice a n c] w fun e w' => ∃ a', e = .returned (.slice a' n n) ∧ Ow 3 encI 1 w.heap.size w' a' n n L ∧ Ext w w' := by
  have hle := hs.le
  have hmax := hs.max
  have hlen := hs.len
  obtain ⟨Z, hZ, hmk⟩ := make_ints n hn
  have fin : ∀ (wr : World) (cur : Array Value), Blk wr w.heap.size 3 cur → cur.size = n → cur.toList.take n = (L.take n).flatMap encI → Ow 3 encI 1 w.heap.size wr (some ⟨w.heap.size, 0, none⟩) n n L := by
    intro wr cur h1 h2 h3
    rw [List.take_of_length_le (by simp; omega), List.take_of_length_le (by omega)] at h3
    exact ⟨hlen, .inr ⟨w.heap.size, cur, rfl, Nat.le_refl _, h1, Nat.le_refl _, by omega, by omega, by rw [Nat.mul_one, List.take_of_length_le (by simp; omega)]; exact h3⟩⟩
  have FIN := Lib.hid fin
  have HL := Lib.hid hlen
  have HZ := Lib.hid hZ
  have HI := Lib.hid hs.ints
  clear fin hlen hs hZ
  go_enter Try.func51, Try.ntmps51
  go_wp2
  go_loopw [4] (fun i wr => ∃ (k : Nat) (cur : Array Value), k ≤ n ∧ i = .int .i64 k ∧ Blk wr w.heap.size 3 cur ∧ cur.size = n ∧ cur.toList.take k = (L.take k).flatMap encI ∧ Ext w wr) (fun i _ => n - (intOf i).toNat)
  case atStart => exact ⟨0, Z, Nat.zero_le _, rfl, Blk.new _ _ _, HZ.out, by simp, (by repeat (first | (with_reducible exact Ext.refl _) | (with_reducible assumption) | (with_reducible refine Ext.alloc ?_ _) | (with_reducible refine Ext.drewN ?_ _) | (with_reducible refine Ext.drew ?_) | (with_reducible refine Ext.setCell ?_ ?_ _; rotate_left; (simp only []; omega)) | (with_reducible refine Ext.trans ?_ (by assumption))))⟩
  case round =>
    obtain ⟨k, cur, hk, rfl, hB, hcz, hct, hX⟩ := hrel
    by_cases hlt : k < n
    · obtain ⟨_, b, off, rfl, hb, hc⟩ := (HI.out).resolve_left (by omega)
      have c1 : wr.cell? ⟨b, off + k, none⟩ = some (.int .i64 (nth L k)) := (hX.cells _ _ hb).trans (hc k hlt)
      obtain ⟨v, c2⟩ : ∃ v, wr.cell? ⟨w.heap.size, k, none⟩ = some v := ⟨_, by rw [hB.cells k]; exact Array.getElem?_eq_getElem (by omega)⟩
      have c3 : wr.frozen? ⟨w.heap.size, k, none⟩ = false := hB.frozens k
      have st := fill_one hcz hlt HL.out hct
      have ST := Lib.hid st
      have HZ2 := Lib.hid hcz
      have HT := Lib.hid hct
      clear st hc hmk hcz hct
      go_wp2
      go_roundw
      case rel => exact ⟨k + 1, _, by omega, by go_num, hB.set k _, ST.out.1, ST.out.2, (by repeat (first | (with_reducible exact Ext.refl _) | (with_reducible assumption) | (with_reducible refine Ext.alloc ?_ _) | (with_reducible refine Ext.drewN ?_ _) | (with_reducible refine Ext.drew ?_) | (with_reducible refine Ext.setCell ?_ ?_ _; rotate_left; (simp only []; omega)) | (with_reducible refine Ext.trans ?_ (by assumption))))⟩
      case measure => simp [intOf]; omega
    · have e : k = n := by omega
      subst e
      have HF := Lib.hid (FIN.out wr cur hB hcz hct)
      clear hcz hct hmk
      go_wp2
      go_ret
      exact ⟨_, rfl, HF.out, hX⟩
theorem eqIntS_same (a a' : Option Addr) (n c c' : Nat) (L : List Int) (w : World) (hs : Sl encI 1 w a n c L) (hs' : Sl encI 1 w a' n c' L) :
    Calls Try.prog 59 #[.slice a n c, .slice a' n c'] w fun e w' => e = .returned (.bool true) ∧ Ext w w' := by
  have hle := hs.le
  have hmax := hs.max
  rcases hs.ints with ⟨h0, _⟩ | ⟨h0, b, off, ha, hb, hc⟩
  · subst h0
    clear hs hs'
    go_enter Try.func59, Try.ntmps59
    go_wp2
    go_loop [5] (fun i => i = .int .i64 0) (fun _ => 0)
    case atStart => rfl
    case round =>
      subst hrel
      go_wp2
      go_ret
      exact ⟨rfl, Ext.refl _⟩
  · obtain ⟨_, b', off', ha', hb', hc'⟩ := (hs'.ints).resolve_left (by omega)
    subst ha
    subst ha'
    clear hs hs'
    go_enter Try.func59, Try.ntmps59
    go_wp2
    go_loopw [5] (fun i wr => ∃ k : Nat, k ≤ n ∧ i = .int .i64 k ∧ Ext w wr) (fun i _ => n - (intOf i).toNat)
    case atStart => exact ⟨0, Nat.zero_le _, rfl, Ext.refl _⟩
    case round =>
      obtain ⟨k, hk, rfl, hX⟩ := hrel
      have hcX := hX.cells
      by_cases hlt : k < n
      · have c1 : wr.cell? ⟨b, off + k, none⟩ = some (.int .i64 (nth L k)) := (hcX _ _ hb).trans (hc k hlt)
        have c2 : wr.cell? ⟨b', off' + k, none⟩ = some (.int .i64 (nth L k)) := (hcX _ _ hb').trans (hc' k hlt)
        clear hcX hc hc'
        go_wp2
        go_region
        go_wp2
        go_roundw
        case rel => exact ⟨k + 1, hlt, by go_num, (by repeat (first | (with_reducible exact Ext.refl _) | (with_reducible assumption) | (with_reducible refine Ext.alloc ?_ _) | (with_reducible refine Ext.drewN ?_ _) | (with_reducible refine Ext.drew ?_) | (with_reducible refine Ext.setCell ?_ ?_ _; rotate_left; (simp only []; omega)) | (with_reducible refine Ext.trans ?_ (by assumption))))⟩
        case measure => simp [intOf]; omega
      · clear hcX hc hc'
        go_wp2
        go_ret
        exact ⟨rfl, hX⟩
end Go.Proofs.Ytafmomocmodbhaa
