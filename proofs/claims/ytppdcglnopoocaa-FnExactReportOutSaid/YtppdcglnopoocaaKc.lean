/- The words, laws and contracts that the claims of this seat share: group c. No condition. -/
import Derived.Laws.MakeOwn
import Derived.Test.YtppdcglnopoocaaKa
import Derived.Test.YtppdcglnopoocaaKs
import Derived.Test.YtppdcglnopoocaaKb
/- Contracts of the exact laws' own helpers on lists of integers: size, copy, comparison, marking, finding the marks. -/
namespace Go.Proofs.Ytppdcglnopoocaa
set_option linter.unusedVariables false
set_option linter.unusedSimpArgs false
open Go.RowKit

/-- The numbers from k on, n of them. -/
def marks (k : Int) : Nat → List Int
  | 0 => []
  | n + 1 => k :: marks (k + 1) n
theorem marks_len : ∀ (n : Nat) (k : Int), (marks k n).length = n
  | 0, _ => rfl
  | n + 1, k => by rw [marks, List.length_cons, marks_len]
theorem marks_at : ∀ (n i : Nat) (k : Int), i < n → (marks k n)[i]? = some (k + i)
  | 0, i, k, h => by omega
  | n + 1, 0, k, _ => by simp [marks]
  | n + 1, i + 1, k, h => by
    rw [marks, List.getElem?_cons_succ, marks_at n i (k + 1) (by omega)]
    congr 1
    omega
theorem marks_nth {k : Int} {n i : Nat} (h : i < n) : nth (marks k n) i = k + i := nth_of (marks_at n i k h)
theorem set_take {α : Type} {l : List α} {k : Nat} {x : α} (h : k < l.length) : (l.set k x).take (k + 1) = l.take k ++ [x] := by
  rw [List.take_add_one, List.getElem?_set_self h, List.take_set_of_le (Nat.le_refl k)]
  rfl
theorem fill_one {cur : Array Value} {n k : Nat} {M : List Int} (h1 : cur.size = n) (hk : k < n) (hM : M.length = n) (h2 : cur.toList.take k = (M.take k).flatMap encI) :
    (cur.setIfInBounds k (.int .i64 (nth M k))).size = n ∧ (cur.setIfInBounds k (.int .i64 (nth M k))).toList.take (k + 1) = (M.take (k + 1)).flatMap encI := by
  refine ⟨by simpa using h1, ?_⟩
  rw [Array.toList_setIfInBounds, set_take (by simpa [h1] using hk), h2, take_succ (by omega)]
  simp [encI]
/-- Making a row of n integers. -/
theorem make_ints (n : Nat) (hn : n ≤ 1048576) : ∃ Z : Array Value, Z.size = n ∧ ∀ W : World, (Instr.makeSlice 31 (.int .i64 (n : Int)) (.int .i64 (n : Int))).run Try.prog W = .ok (.slice (some ⟨W.heap.size, 0, none⟩) n n) (W.alloc (.cells Z 3)) := by
  obtain ⟨ht, i, z, hi, hz, hsz, hby, hzs, _⟩ := eiI
  refine ⟨madeCells z.cells (n * i.size), ?_, fun W => ?_⟩
  · simp [hsz, size_madeCells]
  · have := run_makeSlice (P := Try.prog) W 31 3 i z ht hi hz .i64 .i64 (n : Int) (n : Int) (by omega) (by omega) (by rw [hsz]; simp; omega) (by rw [hby]; omega) (by omega)
    simpa using this
theorem szIntS_any (a : Option Addr) (n c : Nat) (left : Int) (w : World) (h0 : 0 ≤ left) (h1 : left ≤ 1048576) (hn : (n : Int) ≤ 9223372036854775807) :
    Calls Try.prog 106 #[.slice a n c, .int .i64 left] w fun e w' => e = .returned (.int .i64 (if (n : Int) ≤ left then left - n else -1)) ∧ w = w' := by
  by_cases h : (n : Int) ≤ left
  · rw [if_pos h]
    go_enter Try.func106, Try.ntmps106
    go_wp2
    go_ret
    exact ⟨rfl, rfl⟩
  · rw [if_neg h]
    go_enter Try.func106, Try.ntmps106
    go_wp2
    go_ret
    exact ⟨rfl, rfl⟩
theorem toIntS_any (a : Option Addr) (n c : Nat) (L : List Int) (w : World) (hs : Sl encI 1 w a n c L) (hn : n ≤ 1048576) :
    Calls Try.prog 108 #[.slice a n c] w fun e w' => ∃ a', e = .returned (.slice a' n n) ∧ Ow 3 encI 1 w.heap.size w' a' n n L ∧ Ext w w' := by
  have hle := hs.le
  have hmax := hs.max
  have hlen := hs.len
  obtain ⟨Z, hZ, hmk⟩ := make_ints n hn
  have fin : ∀ (wr : World) (cur : Array Value), Blk wr w.heap.size 3 cur → cur.size = n → cur.toList.take n = (L.take n).flatMap encI → Ow 3 encI 1 w.heap.size wr (some ⟨w.heap.size, 0, none⟩) n n L := by
    intro wr cur h1 h2 h3
    rw [List.take_of_length_le (by simp; omega), List.take_of_length_le (by omega)] at h3
    exact ⟨hlen, .inr ⟨w.heap.size, cur, rfl, Nat.le_refl _, h1, Nat.le_refl _, by omega, by omega, by rw [Nat.mul_one, List.take_of_length_le (by simp; omega)]; exact h3⟩⟩
  have FIN := Lib.hid fin
  have HL := Lib.hid hlen
  have HZ := Lib.hid hZ
  have HI := Lib.hid hs.ints
  clear fin hlen hs hZ
  go_enter Try.func108, Try.ntmps108
  go_wp2
  go_loopw [4] (fun i wr => ∃ (k : Nat) (cur : Array Value), k ≤ n ∧ i = .int .i64 k ∧ Blk wr w.heap.size 3 cur ∧ cur.size = n ∧ cur.toList.take k = (L.take k).flatMap encI ∧ Ext w wr) (fun i _ => n - (intOf i).toNat)
  case atStart => exact ⟨0, Z, Nat.zero_le _, rfl, Blk.new _ _ _, HZ.out, by simp, (by repeat (first | (with_reducible exact Ext.refl _) | (with_reducible assumption) | (with_reducible refine Ext.alloc ?_ _) | (with_reducible refine Ext.drewN ?_ _) | (with_reducible refine Ext.drew ?_) | (with_reducible refine Ext.setCell ?_ ?_ _; rotate_left; (simp only []; omega)) | (with_reducible refine Ext.trans ?_ (by assumption))))⟩
  case round =>
    obtain ⟨k, cur, hk, rfl, hB, hcz, hct, hX⟩ := hrel
    by_cases hlt : k < n
    · obtain ⟨_, b, off, rfl, hb, hc⟩ := (HI.out).resolve_left (by omega)
      have c1 : wr.cell? ⟨b, off + k, none⟩ = some (.int .i64 (nth L k)) := (hX.cells _ _ hb).trans (hc k hlt)
      obtain ⟨v, c2⟩ : ∃ v, wr.cell? ⟨w.heap.size, k, none⟩ = some v := ⟨_, by rw [hB.cells k]; exact Array.getElem?_eq_getElem (by omega)⟩
      have c3 : wr.frozen? ⟨w.heap.size, k, none⟩ = false := hB.frozens k
      have st := fill_one hcz hlt HL.out hct
      have ST := Lib.hid st
      have HZ2 := Lib.hid hcz
      have HT := Lib.hid hct
      clear st hc hmk hcz hct
      go_wp2
      go_roundw
      case rel => exact ⟨k + 1, _, by omega, by go_num, hB.set k _, ST.out.1, ST.out.2, (by repeat (first | (with_reducible exact Ext.refl _) | (with_reducible assumption) | (with_reducible refine Ext.alloc ?_ _) | (with_reducible refine Ext.drewN ?_ _) | (with_reducible refine Ext.drew ?_) | (with_reducible refine Ext.setCell ?_ ?_ _; rotate_left; (simp only []; omega)) | (with_reducible refine Ext.trans ?_ (by assumption))))⟩
      case measure => simp [intOf]; omega
    · have e : k = n := by omega
      subst e
      have HF := Lib.hid (FIN.out wr cur hB hcz hct)
      clear hcz hct hmk
      go_wp2
      go_ret
      exact ⟨_, rfl, HF.out, hX⟩
theorem eqIntS_same (a a' : Option Addr) (n c c' : Nat) (L : List Int) (w : World) (hs : Sl encI 1 w a n c L) (hs' : Sl encI 1 w a' n c' L) :
    Calls Try.prog 110 #[.slice a n c, .slice a' n c'] w fun e w' => e = .returned (.bool true) ∧ Ext w w' := by
  have hle := hs.le
  have hmax := hs.max
  rcases hs.ints with ⟨h0, _⟩ | ⟨h0, b, off, ha, hb, hc⟩
  · subst h0
    clear hs hs'
    go_enter Try.func110, Try.ntmps110
    go_wp2
    go_loop [5] (fun i => i = .int .i64 0) (fun _ => 0)
    case atStart => rfl
    case round =>
      subst hrel
      go_wp2
      go_ret
      exact ⟨rfl, Ext.refl _⟩
  · obtain ⟨_, b', off', ha', hb', hc'⟩ := (hs'.ints).resolve_left (by omega)
    subst ha
    subst ha'
    clear hs hs'
    go_enter Try.func110, Try.ntmps110
    go_wp2
    go_loopw [5] (fun i wr => ∃ k : Nat, k ≤ n ∧ i = .int .i64 k ∧ Ext w wr) (fun i _ => n - (intOf i).toNat)
    case atStart => exact ⟨0, Nat.zero_le _, rfl, Ext.refl _⟩
    case round =>
      obtain ⟨k, hk, rfl, hX⟩ := hrel
      have hcX := hX.cells
      by_cases hlt : k < n
      · have c1 : wr.cell? ⟨b, off + k, none⟩ = some (.int .i64 (nth L k)) := (hcX _ _ hb).trans (hc k hlt)
        have c2 : wr.cell? ⟨b', off' + k, none⟩ = some (.int .i64 (nth L k)) := (hcX _ _ hb').trans (hc' k hlt)
        clear hcX hc hc'
        go_wp2
        go_region
        go_wp2
        go_roundw
        case rel => exact ⟨k + 1, hlt, by go_num, (by repeat (first | (with_reducible exact Ext.refl _) | (with_reducible assumption) | (with_reducible refine Ext.alloc ?_ _) | (with_reducible refine Ext.drewN ?_ _) | (with_reducible refine Ext.drew ?_) | (with_reducible refine Ext.setCell ?_ ?_ _; rotate_left; (simp only []; omega)) | (with_reducible refine Ext.trans ?_ (by assumption))))⟩
        case measure => simp [intOf]; omega
      · clear hcX hc hc'
        go_wp2
        go_ret
        exact ⟨rfl, hX⟩
theorem heldIntS_any (a : Option Addr) (n c : Nat) (m : Int) (w : World) (hs : Sl encI 1 w a n c (marks m n)) (h0 : 0 ≤ m) (h1 : m ≤ 100000000) (hn : n ≤ 1048576) :
    Calls Try.prog 112 #[.slice a n c, .int .i64 m] w fun e w' => e = .returned (.int .i64 (m + n)) ∧ w = w' := by
  have hle := hs.le
  have hmax := hs.max
  have HI := Lib.hid hs.ints
  clear hs
  go_enter Try.func112, Try.ntmps112
  go_wp2
  go_loop [1, 5] (fun t i => ∃ k : Nat, k ≤ n ∧ i = .int .i64 k ∧ t = .int .i64 (m + k)) (fun _ i => n - (intOf i).toNat)
  case atStart => exact ⟨0, Nat.zero_le _, rfl, by simp⟩
  case round =>
    obtain ⟨k, hk, rfl, rfl⟩ := hrel
    by_cases hlt : k < n
    · obtain ⟨_, b, off, rfl, hb, hc⟩ := (HI.out).resolve_left (by omega)
      have c1 := hc k hlt
      rw [marks_nth hlt] at c1
      clear hc
      go_wp2
      go_round
      case rel => exact ⟨k + 1, by omega, by go_num, by congr 1; omega⟩
      case measure => simp [intOf]; omega
    · have e : k = n := by omega
      subst e
      go_wp2
      go_ret
      exact ⟨rfl, rfl⟩
theorem markIntS_any (a : Option Addr) (n c base : Nat) (L : List Int) (m : Int) (w : World) (hs : Ow 3 encI 1 base w a n c L) (h0 : 0 ≤ m) (h1 : m ≤ 100000000) (hn : n ≤ 1048576) :
    Calls Try.prog 111 #[.slice a n c, .int .i64 m] w fun e w' => e = .returned (.int .i64 (m + n)) ∧ Ow 3 encI 1 base w' a n c (marks m n) ∧ w.grownBy w' (a.map (·.block)) := by
  have hle := (hs.sl encI_len).le
  have hmax := (hs.sl encI_len).max
  obtain ⟨hl, ⟨rfl, hn0, hc0⟩ | ⟨g, cur0, rfl, hg, hgB, hnc, hcm, hcs, ht⟩⟩ := hs
  · subst hn0
    go_enter Try.func111, Try.ntmps111
    go_wp2
    go_loop [1, 5] (fun t i => i = .int .i64 0 ∧ t = .int .i64 m) (fun _ _ => 0)
    case atStart => exact ⟨rfl, rfl⟩
    case round =>
      obtain ⟨rfl, rfl⟩ := hrel
      go_wp2
      go_ret
      exact ⟨ret_int (by simp), ⟨rfl, .inl ⟨rfl, rfl, by first | rfl | exact hc0⟩⟩, World.grownBy.refl w _⟩
  · have HC := Lib.hid hcs
    have HB0 := Lib.hid (show Blk w g 3 cur0 from hgB)
    have hbs : base ≤ g := hg
    clear hl ht hgB hcs
    go_enter Try.func111, Try.ntmps111
    go_wp2
    go_loopw [1, 5] (fun t i wr => ∃ (k : Nat) (cur : Array Value), k ≤ n ∧ i = .int .i64 k ∧ t = .int .i64 (m + k) ∧ Blk wr g 3 cur ∧ cur.size = cur0.size ∧ cur.toList.take k = ((marks m n).take k).flatMap encI ∧ w.grownBy wr (some g)) (fun _ i _ => n - (intOf i).toNat)
    case atStart => exact ⟨0, cur0, Nat.zero_le _, rfl, by simp, HB0.out, rfl, by simp, World.grownBy.refl w _⟩
    case round =>
      obtain ⟨k, cur, hk, rfl, rfl, hB, hcz, hct, hX⟩ := hrel
      by_cases hlt : k < n
      · have hks : k < cur.size := by rw [hcz]; have := HC.out; omega
        obtain ⟨v, c2⟩ : ∃ v, wr.cell? ⟨g, k, none⟩ = some v := ⟨_, by rw [hB.cells k]; exact Array.getElem?_eq_getElem hks⟩
        have c3 : wr.frozen? ⟨g, k, none⟩ = false := hB.frozens k
        have ST := Lib.hid hct
        have HZ2 := Lib.hid hcz
        have HX := Lib.hid hX
        clear hct hcz hX
        go_wp2
        go_roundw
        case rel =>
          refine ⟨k + 1, _, by omega, by go_num, by congr 1; omega, hB.set k _, by simpa using HZ2.out, ?_, ?_⟩
          · rw [Array.toList_setIfInBounds, set_take (by simpa using hks), ST.out, take_succ (by rw [marks_len]; omega), marks_nth hlt]
            simp [encI]
          · exact World.grownBy.trans HX.out ⟨rfl, rfl, rfl, by simp [World.setCell], fun i hi hne => Below.heap_setCell wr ⟨g, k, none⟩ _ i (fun e => hne (by rw [e]))⟩
        case measure => simp [intOf]; omega
      · have e : k = n := by omega
        subst e
        have HF := Lib.hid (show Ow 3 encI 1 base wr (some ⟨g, 0, none⟩) k c (marks m k) by
          refine ⟨marks_len _ _, .inr ⟨g, cur, rfl, hbs, hB, hnc, hcm, by rw [hcz]; exact HC.out, ?_⟩⟩
          rw [Nat.mul_one, hct, List.take_of_length_le (by rw [marks_len]; omega)])
        have HX := Lib.hid hX
        clear hcz hct hX
        go_wp2
        go_ret
        exact ⟨rfl, HF.out, HX.out⟩
end Go.Proofs.Ytppdcglnopoocaa
/- Contracts of the exact laws' own helpers on ends, packets, reports: size, copy, comparison, marking, finding the marks. -/
namespace Go.Proofs.Ytppdcglnopoocaa
set_option linter.unusedVariables false
set_option linter.unusedSimpArgs false
open Go.RowKit

theorem grown_ext {a b : World} {r : Option Nat} (h : Ext a b) : a.grownBy b r := ⟨World.grownBy.os h, World.grownBy.tape h, World.grownBy.output h, h.size, fun i hi _ => h.block i hi⟩
theorem Ow.setC {α : Type} {E : TypeId} {enc : α → List Value} {k base : Nat} {w : World} {a : Option Addr} {n c : Nat} {L : List α} (h : Ow E enc k base w a n c L) {p : Addr} (hp : ∀ x, a = some x → x.block ≠ p.block) (u : Value) :
    Ow E enc k base (w.setCell p u) a n c L := h.keep fun x e _ => Below.heap_setCell w p u x.block (hp x e)
theorem Ow.setBelow {α : Type} {E : TypeId} {enc : α → List Value} {k base : Nat} {w : World} {a : Option Addr} {n c : Nat} {L : List α} (h : Ow E enc k base w a n c L) {p : Addr} (hp : p.block < base) (u : Value) :
    Ow E enc k base (w.setCell p u) a n c L := h.setC (fun x e => by have := (h.lt x e).1; omega) u
theorem toEnd_any (x y : Int) (w : World) : Calls Try.prog 107 #[.agg #[.int .i64 x, .int .i64 y]] w fun e w' => e = .returned (.agg #[.int .i64 x, .int .i64 y]) ∧ Ext w w' := by
  go_enter Try.func107, Try.ntmps107
  go_wp2
  refine' bodyPost_ret (v := _) ?_ rfl ?_
  rotate_left
  · (simp only [results, Try.results107]
     go_simp
     rfl)
  exact ⟨rfl, (by repeat (first | (with_reducible exact Ext.refl _) | (with_reducible assumption) | (with_reducible refine Ext.alloc ?_ _) | (with_reducible refine Ext.drewN ?_ _) | (with_reducible refine Ext.drew ?_) | (with_reducible refine Ext.setCell ?_ ?_ _; rotate_left; (simp only []; omega)) | (with_reducible refine Ext.trans ?_ (by assumption))))⟩
theorem eqEnd_same (x y : Int) (w : World) : Calls Try.prog 109 #[.agg #[.int .i64 x, .int .i64 y], .agg #[.int .i64 x, .int .i64 y]] w fun e w' => e = .returned (.bool true) ∧ Ext w w' := by
  go_enter Try.func109, Try.ntmps109
  go_wp2
  go_ret
  exact ⟨rfl, (by repeat (first | (with_reducible exact Ext.refl _) | (with_reducible assumption) | (with_reducible refine Ext.alloc ?_ _) | (with_reducible refine Ext.drewN ?_ _) | (with_reducible refine Ext.drew ?_) | (with_reducible refine Ext.setCell ?_ ?_ _; rotate_left; (simp only []; omega)) | (with_reducible refine Ext.trans ?_ (by assumption))))⟩
theorem szPacket_any (k fa fp ta tp : Int) (a : Option Addr) (n c : Nat) (left : Int) (w : World) (h0 : 0 ≤ left) (h1 : left ≤ 1048576) (hn : (n : Int) ≤ 9223372036854775807) :
    Calls Try.prog 48 #[.agg #[.int .i64 k, .int .i64 fa, .int .i64 fp, .int .i64 ta, .int .i64 tp, .slice a n c], .int .i64 left] w fun e w' => e = .returned (.int .i64 (if (n : Int) ≤ left then left - n else -1)) ∧ Ext w w' := by
  by_cases h : (n : Int) ≤ left
  · have c1 := szIntS_any a n c left
    rw [if_pos h] at c1 ⊢
    go_enter Try.func48, Try.ntmps48
    go_wp2_with (go_at_call 106; refine (c1 _ h0 h1 hn).mono ?_; rintro e w' ⟨rfl, rfl⟩)
    go_ret
    exact ⟨rfl, (by repeat (first | (with_reducible exact Ext.refl _) | (with_reducible assumption) | (with_reducible refine Ext.alloc ?_ _) | (with_reducible refine Ext.drewN ?_ _) | (with_reducible refine Ext.drew ?_) | (with_reducible refine Ext.setCell ?_ ?_ _; rotate_left; (simp only []; omega)) | (with_reducible refine Ext.trans ?_ (by assumption))))⟩
  · have c1 := szIntS_any a n c left
    rw [if_neg h] at c1 ⊢
    go_enter Try.func48, Try.ntmps48
    go_wp2_with (go_at_call 106; refine (c1 _ h0 h1 hn).mono ?_; rintro e w' ⟨rfl, rfl⟩)
    go_ret
    exact ⟨rfl, (by repeat (first | (with_reducible exact Ext.refl _) | (with_reducible assumption) | (with_reducible refine Ext.alloc ?_ _) | (with_reducible refine Ext.drewN ?_ _) | (with_reducible refine Ext.drew ?_) | (with_reducible refine Ext.setCell ?_ ?_ _; rotate_left; (simp only []; omega)) | (with_reducible refine Ext.trans ?_ (by assumption))))⟩
theorem szReport_any (o s t k fa fp ta tp : Int) (a : Option Addr) (n c : Nat) (left : Int) (w : World) (h0 : 0 ≤ left) (h1 : left ≤ 1048576) (hn : (n : Int) ≤ 9223372036854775807) :
    Calls Try.prog 32 #[.agg #[.int .i64 o, .int .i64 s, .int .i64 t, .int .i64 k, .int .i64 fa, .int .i64 fp, .int .i64 ta, .int .i64 tp, .slice a n c], .int .i64 left] w fun e w' => e = .returned (.int .i64 (if (n : Int) ≤ left then left - n else -1)) ∧ Ext w w' := by
  by_cases h : (n : Int) ≤ left
  · have c1 := szPacket_any k fa fp ta tp a n c left
    rw [if_pos h] at c1 ⊢
    go_enter Try.func32, Try.ntmps32
    go_wp2_with (go_at_call 48; refine (c1 _ h0 h1 hn).mono ?_; rintro e w1 ⟨rfl, hx⟩; have hc := hx.cells; have hf := hx.frozens; have hy := hx.size; (try simp at hy); have hz : w.heap.size < w1.heap.size := (by omega))
    go_ret
    exact ⟨rfl, (by repeat (first | (with_reducible exact Ext.refl _) | (with_reducible assumption) | (with_reducible refine Ext.alloc ?_ _) | (with_reducible refine Ext.drewN ?_ _) | (with_reducible refine Ext.drew ?_) | (with_reducible refine Ext.setCell ?_ ?_ _; rotate_left; (simp only []; omega)) | (with_reducible refine Ext.trans ?_ (by assumption))))⟩
  · have c1 := szPacket_any k fa fp ta tp a n c left
    rw [if_neg h] at c1 ⊢
    go_enter Try.func32, Try.ntmps32
    go_wp2_with (go_at_call 48; refine (c1 _ h0 h1 hn).mono ?_; rintro e w1 ⟨rfl, hx⟩; have hc := hx.cells; have hf := hx.frozens; have hy := hx.size; (try simp at hy); have hz : w.heap.size < w1.heap.size := (by omega))
    go_ret
    exact ⟨rfl, (by repeat (first | (with_reducible exact Ext.refl _) | (with_reducible assumption) | (with_reducible refine Ext.alloc ?_ _) | (with_reducible refine Ext.drewN ?_ _) | (with_reducible refine Ext.drew ?_) | (with_reducible refine Ext.setCell ?_ ?_ _; rotate_left; (simp only []; omega)) | (with_reducible refine Ext.trans ?_ (by assumption))))⟩
set_option maxHeartbeats 1000000 in
theorem toPacket_any (k fa fp ta tp : Int) (a : Option Addr) (n c : Nat) (L : List Int) (w : World) (hs : Sl encI 1 w a n c L) (hn : n ≤ 1048576) :
    Calls Try.prog 49 #[.agg #[.int .i64 k, .int .i64 fa, .int .i64 fp, .int .i64 ta, .int .i64 tp, .slice a n c]] w fun e w' => ∃ a', e = .returned (.agg #[.int .i64 k, .int .i64 fa, .int .i64 fp, .int .i64 ta, .int .i64 tp, .slice a' n n]) ∧
      Ow 3 encI 1 w.heap.size w' a' n n L ∧ Ext w w' := by
  go_enter Try.func49, Try.ntmps49
  go_wp2_with fail
  refine (toEnd_any _ _ _).mono ?_
  rintro e w1 ⟨rfl, hx1⟩
  have hc1 := hx1.cells
  have hf1 := hx1.frozens
  have hy1 := hx1.size
  (try simp at hy1)
  have hz1 : w.heap.size < w1.heap.size ∧ w.heap.size + 1 < w1.heap.size ∧ w.heap.size + 2 < w1.heap.size := (by omega)
  go_wp2_with fail
  refine (toEnd_any _ _ _).mono ?_
  rintro e w2 ⟨rfl, hx2⟩
  have hc2 := hx2.cells
  have hf2 := hx2.frozens
  have hy2 := hx2.size
  (try simp at hy2)
  have hz2 : w.heap.size < w2.heap.size ∧ w.heap.size + 1 < w2.heap.size ∧ w.heap.size + 2 < w2.heap.size := (by omega)
  go_wp2_with fail
  refine (toIntS_any a n c L _ (by exact hs.ext (by repeat (first | (with_reducible exact Ext.refl _) | (with_reducible assumption) | (with_reducible refine Ext.alloc ?_ _) | (with_reducible refine Ext.drewN ?_ _) | (with_reducible refine Ext.drew ?_) | (with_reducible refine Ext.setCell ?_ ?_ _; rotate_left; (simp only []; omega)) | (with_reducible refine Ext.trans ?_ (by assumption))))) hn).mono ?_
  rintro e w3 ⟨a', rfl, how, hx3⟩
  have hc3 := hx3.cells
  have hf3 := hx3.frozens
  have hy3 := hx3.size
  (try simp at hy3)
  have hz3 : w.heap.size < w3.heap.size ∧ w.heap.size + 1 < w3.heap.size ∧ w.heap.size + 2 < w3.heap.size := (by omega)
  have HO := Lib.hid how
  clear how
  go_wp2
  refine' bodyPost_ret (v := _) ?_ rfl ?_
  rotate_left
  · (simp only [results, Try.results49]
     go_simp
     rfl)
  refine ⟨a', rfl, ?_, (by repeat (first | (with_reducible exact Ext.refl _) | (with_reducible assumption) | (with_reducible refine Ext.alloc ?_ _) | (with_reducible refine Ext.drewN ?_ _) | (with_reducible refine Ext.drew ?_) | (with_reducible refine Ext.setCell ?_ ?_ _; rotate_left; (simp only []; omega)) | (with_reducible refine Ext.trans ?_ (by assumption))))⟩
  refine Ow.rebase (base := w2.heap.size) ?_ (by omega)
  repeat (refine Ow.setBelow ?_ (by simp only []; omega) _)
  simpa using HO.out
set_option maxHeartbeats 1000000 in
theorem toReport_any (o s t k fa fp ta tp : Int) (a : Option Addr) (n c : Nat) (L : List Int) (w : World) (hs : Sl encI 1 w a n c L) (hn : n ≤ 1048576) :
    Calls Try.prog 35 #[.agg #[.int .i64 o, .int .i64 s, .int .i64 t, .int .i64 k, .int .i64 fa, .int .i64 fp, .int .i64 ta, .int .i64 tp, .slice a n c]] w fun e w' => ∃ a', e = .returned (.agg #[.int .i64 o, .int .i64 s, .int .i64 t, .int .i64 k, .int .i64 fa, .int .i64 fp, .int .i64 ta, .int .i64 tp, .slice a' n n]) ∧
      Ow 3 encI 1 w.heap.size w' a' n n L ∧ Ext w w' := by
  go_enter Try.func35, Try.ntmps35
  go_wp2_with fail
  refine (toPacket_any _ _ _ _ _ a n c L _ (by exact hs.ext (by repeat (first | (with_reducible exact Ext.refl _) | (with_reducible assumption) | (with_reducible refine Ext.alloc ?_ _) | (with_reducible refine Ext.drewN ?_ _) | (with_reducible refine Ext.drew ?_) | (with_reducible refine Ext.setCell ?_ ?_ _; rotate_left; (simp only []; omega)) | (with_reducible refine Ext.trans ?_ (by assumption))))) hn).mono ?_
  rintro e w3 ⟨a', rfl, how, hx3⟩
  have hc3 := hx3.cells
  have hf3 := hx3.frozens
  have hy3 := hx3.size
  (try simp at hy3)
  have hz3 : w.heap.size < w3.heap.size ∧ w.heap.size + 1 < w3.heap.size ∧ w.heap.size + 2 < w3.heap.size := (by omega)
  have HO := Lib.hid how
  clear how
  go_wp2
  refine' bodyPost_ret (v := _) ?_ rfl ?_
  rotate_left
  · (simp only [results, Try.results35]
     go_simp
     rfl)
  refine ⟨a', rfl, ?_, (by repeat (first | (with_reducible exact Ext.refl _) | (with_reducible assumption) | (with_reducible refine Ext.alloc ?_ _) | (with_reducible refine Ext.drewN ?_ _) | (with_reducible refine Ext.drew ?_) | (with_reducible refine Ext.setCell ?_ ?_ _; rotate_left; (simp only []; omega)) | (with_reducible refine Ext.trans ?_ (by assumption))))⟩
  refine Ow.rebase (base := w.heap.size + 3) ?_ (by omega)
  repeat (refine Ow.setBelow ?_ (by simp only []; omega) _)
  simpa using HO.out
set_option maxHeartbeats 1000000 in
theorem eqPacket_same (k fa fp ta tp : Int) (a a' : Option Addr) (n c c' : Nat) (L : List Int) (w : World) (hs : Sl encI 1 w a n c L) (hs' : Sl encI 1 w a' n c' L) :
    Calls Try.prog 50 #[.agg #[.int .i64 k, .int .i64 fa, .int .i64 fp, .int .i64 ta, .int .i64 tp, .slice a n c], .agg #[.int .i64 k, .int .i64 fa, .int .i64 fp, .int .i64 ta, .int .i64 tp, .slice a' n c']] w fun e w' => e = .returned (.bool true) ∧ Ext w w' := by
  go_enter Try.func50, Try.ntmps50
  go_wp2_with (first | (go_at_call 109; refine (eqEnd_same _ _ _).mono ?_; rintro e w1 ⟨rfl, hx⟩; have hc := hx.cells; have hf := hx.frozens; have hy := hx.size; (try simp at hy); have hz : w.heap.size < w1.heap.size ∧ w.heap.size + 1 < w1.heap.size := (by omega)) | (go_at_call 110; refine (eqIntS_same _ _ n c c' L _ (by exact hs.ext (by repeat (first | (with_reducible exact Ext.refl _) | (with_reducible assumption) | (with_reducible refine Ext.alloc ?_ _) | (with_reducible refine Ext.drewN ?_ _) | (with_reducible refine Ext.drew ?_) | (with_reducible refine Ext.setCell ?_ ?_ _; rotate_left; (simp only []; omega)) | (with_reducible refine Ext.trans ?_ (by assumption))))) (by exact hs'.ext (by repeat (first | (with_reducible exact Ext.refl _) | (with_reducible assumption) | (with_reducible refine Ext.alloc ?_ _) | (with_reducible refine Ext.drewN ?_ _) | (with_reducible refine Ext.drew ?_) | (with_reducible refine Ext.setCell ?_ ?_ _; rotate_left; (simp only []; omega)) | (with_reducible refine Ext.trans ?_ (by assumption)))))).mono ?_; rintro e w1 ⟨rfl, hx⟩; have hc := hx.cells; have hf := hx.frozens; have hy := hx.size; (try simp at hy); have hz : w.heap.size < w1.heap.size ∧ w.heap.size + 1 < w1.heap.size := (by omega)))
  go_ret
  exact ⟨rfl, (by repeat (first | (with_reducible exact Ext.refl _) | (with_reducible assumption) | (with_reducible refine Ext.alloc ?_ _) | (with_reducible refine Ext.drewN ?_ _) | (with_reducible refine Ext.drew ?_) | (with_reducible refine Ext.setCell ?_ ?_ _; rotate_left; (simp only []; omega)) | (with_reducible refine Ext.trans ?_ (by assumption))))⟩
set_option maxHeartbeats 1000000 in
theorem eqReport_same (o s t k fa fp ta tp : Int) (a a' : Option Addr) (n c c' : Nat) (L : List Int) (w : World) (hs : Sl encI 1 w a n c L) (hs' : Sl encI 1 w a' n c' L) :
    Calls Try.prog 37 #[.agg #[.int .i64 o, .int .i64 s, .int .i64 t, .int .i64 k, .int .i64 fa, .int .i64 fp, .int .i64 ta, .int .i64 tp, .slice a n c], .agg #[.int .i64 o, .int .i64 s, .int .i64 t, .int .i64 k, .int .i64 fa, .int .i64 fp, .int .i64 ta, .int .i64 tp, .slice a' n c']] w fun e w' => e = .returned (.bool true) ∧ Ext w w' := by
  go_enter Try.func37, Try.ntmps37
  go_wp2_with (go_at_call 50; refine (eqPacket_same _ _ _ _ _ _ _ n c c' L _ (by exact hs.ext (by repeat (first | (with_reducible exact Ext.refl _) | (with_reducible assumption) | (with_reducible refine Ext.alloc ?_ _) | (with_reducible refine Ext.drewN ?_ _) | (with_reducible refine Ext.drew ?_) | (with_reducible refine Ext.setCell ?_ ?_ _; rotate_left; (simp only []; omega)) | (with_reducible refine Ext.trans ?_ (by assumption))))) (by exact hs'.ext (by repeat (first | (with_reducible exact Ext.refl _) | (with_reducible assumption) | (with_reducible refine Ext.alloc ?_ _) | (with_reducible refine Ext.drewN ?_ _) | (with_reducible refine Ext.drew ?_) | (with_reducible refine Ext.setCell ?_ ?_ _; rotate_left; (simp only []; omega)) | (with_reducible refine Ext.trans ?_ (by assumption)))))).mono ?_; rintro e w1 ⟨rfl, hx⟩; have hc := hx.cells; have hf := hx.frozens; have hy := hx.size; (try simp at hy); have hz : w.heap.size < w1.heap.size ∧ w.heap.size + 1 < w1.heap.size := (by omega))
  go_ret
  exact ⟨rfl, (by repeat (first | (with_reducible exact Ext.refl _) | (with_reducible assumption) | (with_reducible refine Ext.alloc ?_ _) | (with_reducible refine Ext.drewN ?_ _) | (with_reducible refine Ext.drew ?_) | (with_reducible refine Ext.setCell ?_ ?_ _; rotate_left; (simp only []; omega)) | (with_reducible refine Ext.trans ?_ (by assumption))))⟩
theorem heldPacket_any (k fa fp ta tp : Int) (a : Option Addr) (n c : Nat) (m : Int) (w : World) (hs : Sl encI 1 w a n c (marks m n)) (h0 : 0 ≤ m) (h1 : m ≤ 100000000) (hn : n ≤ 1048576) :
    Calls Try.prog 52 #[.agg #[.int .i64 k, .int .i64 fa, .int .i64 fp, .int .i64 ta, .int .i64 tp, .slice a n c], .int .i64 m] w fun e w' => e = .returned (.int .i64 (m + n)) ∧ Ext w w' := by
  go_enter Try.func52, Try.ntmps52
  go_wp2_with (go_at_call 112; refine (heldIntS_any a n c m _ (by exact hs.ext (by repeat (first | (with_reducible exact Ext.refl _) | (with_reducible assumption) | (with_reducible refine Ext.alloc ?_ _) | (with_reducible refine Ext.drewN ?_ _) | (with_reducible refine Ext.drew ?_) | (with_reducible refine Ext.setCell ?_ ?_ _; rotate_left; (simp only []; omega)) | (with_reducible refine Ext.trans ?_ (by assumption))))) h0 h1 hn).mono ?_; rintro e w' ⟨rfl, rfl⟩)
  go_ret
  exact ⟨rfl, (by repeat (first | (with_reducible exact Ext.refl _) | (with_reducible assumption) | (with_reducible refine Ext.alloc ?_ _) | (with_reducible refine Ext.drewN ?_ _) | (with_reducible refine Ext.drew ?_) | (with_reducible refine Ext.setCell ?_ ?_ _; rotate_left; (simp only []; omega)) | (with_reducible refine Ext.trans ?_ (by assumption))))⟩
theorem heldReport_any (o s t k fa fp ta tp : Int) (a : Option Addr) (n c : Nat) (m : Int) (w : World) (hs : Sl encI 1 w a n c (marks m n)) (h0 : 0 ≤ m) (h1 : m ≤ 100000000) (hn : n ≤ 1048576) :
    Calls Try.prog 41 #[.agg #[.int .i64 o, .int .i64 s, .int .i64 t, .int .i64 k, .int .i64 fa, .int .i64 fp, .int .i64 ta, .int .i64 tp, .slice a n c], .int .i64 m] w fun e w' => e = .returned (.int .i64 (m + n)) ∧ Ext w w' := by
  go_enter Try.func41, Try.ntmps41
  go_wp2_with (go_at_call 52; refine (heldPacket_any _ _ _ _ _ a n c m _ (by exact hs.ext (by repeat (first | (with_reducible exact Ext.refl _) | (with_reducible assumption) | (with_reducible refine Ext.alloc ?_ _) | (with_reducible refine Ext.drewN ?_ _) | (with_reducible refine Ext.drew ?_) | (with_reducible refine Ext.setCell ?_ ?_ _; rotate_left; (simp only []; omega)) | (with_reducible refine Ext.trans ?_ (by assumption))))) h0 h1 hn).mono ?_; rintro e w1 ⟨rfl, hx⟩; have hc := hx.cells; have hf := hx.frozens; have hy := hx.size; (try simp at hy); have hz : w.heap.size < w1.heap.size := (by omega))
  go_ret
  exact ⟨rfl, (by repeat (first | (with_reducible exact Ext.refl _) | (with_reducible assumption) | (with_reducible refine Ext.alloc ?_ _) | (with_reducible refine Ext.drewN ?_ _) | (with_reducible refine Ext.drew ?_) | (with_reducible refine Ext.setCell ?_ ?_ _; rotate_left; (simp only []; omega)) | (with_reducible refine Ext.trans ?_ (by assumption))))⟩
theorem markPacket_any (k fa fp ta tp : Int) (a : Option Addr) (n c base : Nat) (L : List Int) (m : Int) (w : World) (hs : Ow 3 encI 1 base w a n c L) (h0 : 0 ≤ m) (h1 : m ≤ 100000000) (hn : n ≤ 1048576) :
    Calls Try.prog 51 #[.agg #[.int .i64 k, .int .i64 fa, .int .i64 fp, .int .i64 ta, .int .i64 tp, .slice a n c], .int .i64 m] w fun e w' => e = .returned (.int .i64 (m + n)) ∧ Ow 3 encI 1 base w' a n c (marks m n) ∧ w.grownBy w' (a.map (·.block)) := by
  have HS := Lib.hid hs
  go_enter Try.func51, Try.ntmps51
  go_wp2_with fail
  refine (markIntS_any a n c base L m _ (by exact HS.out.ext (by repeat (first | (with_reducible exact Ext.refl _) | (with_reducible assumption) | (with_reducible refine Ext.alloc ?_ _) | (with_reducible refine Ext.drewN ?_ _) | (with_reducible refine Ext.drew ?_) | (with_reducible refine Ext.setCell ?_ ?_ _; rotate_left; (simp only []; omega)) | (with_reducible refine Ext.trans ?_ (by assumption))))) h0 h1 hn).mono ?_
  rintro e w1 ⟨rfl, how, hg⟩
  have HO := Lib.hid how
  have HG := Lib.hid (World.grownBy.trans (grown_ext (r := a.map (·.block)) (show Ext w _ from (by repeat (first | (with_reducible exact Ext.refl _) | (with_reducible assumption) | (with_reducible refine Ext.alloc ?_ _) | (with_reducible refine Ext.drewN ?_ _) | (with_reducible refine Ext.drew ?_) | (with_reducible refine Ext.setCell ?_ ?_ _; rotate_left; (simp only []; omega)) | (with_reducible refine Ext.trans ?_ (by assumption)))))) hg)
  clear how hg
  go_wp2
  go_ret
  exact ⟨rfl, HO.out, HG.out⟩
theorem markReport_any (o s t k fa fp ta tp : Int) (a : Option Addr) (n c base : Nat) (L : List Int) (m : Int) (w : World) (hs : Ow 3 encI 1 base w a n c L) (h0 : 0 ≤ m) (h1 : m ≤ 100000000) (hn : n ≤ 1048576) :
    Calls Try.prog 40 #[.agg #[.int .i64 o, .int .i64 s, .int .i64 t, .int .i64 k, .int .i64 fa, .int .i64 fp, .int .i64 ta, .int .i64 tp, .slice a n c], .int .i64 m] w fun e w' => e = .returned (.int .i64 (m + n)) ∧ Ow 3 encI 1 base w' a n c (marks m n) ∧ w.grownBy w' (a.map (·.block)) := by
  have HS := Lib.hid hs
  go_enter Try.func40, Try.ntmps40
  go_wp2_with fail
  refine (markPacket_any _ _ _ _ _ a n c base L m _ (by exact HS.out.ext (by repeat (first | (with_reducible exact Ext.refl _) | (with_reducible assumption) | (with_reducible refine Ext.alloc ?_ _) | (with_reducible refine Ext.drewN ?_ _) | (with_reducible refine Ext.drew ?_) | (with_reducible refine Ext.setCell ?_ ?_ _; rotate_left; (simp only []; omega)) | (with_reducible refine Ext.trans ?_ (by assumption))))) h0 h1 hn).mono ?_
  rintro e w1 ⟨rfl, how, hg⟩
  have HO := Lib.hid how
  have HG := Lib.hid (World.grownBy.trans (grown_ext (r := a.map (·.block)) (show Ext w _ from (by repeat (first | (with_reducible exact Ext.refl _) | (with_reducible assumption) | (with_reducible refine Ext.alloc ?_ _) | (with_reducible refine Ext.drewN ?_ _) | (with_reducible refine Ext.drew ?_) | (with_reducible refine Ext.setCell ?_ ?_ _; rotate_left; (simp only []; omega)) | (with_reducible refine Ext.trans ?_ (by assumption)))))) hg)
  clear how hg
  go_wp2
  go_ret
  exact ⟨rfl, HO.out, HG.out⟩
end Go.Proofs.Ytppdcglnopoocaa
/- Contracts of the second package's time steps. -/
namespace Go.Proofs.Ytppdcglnopoocaa
set_option linter.unusedVariables false
set_option linter.unusedSimpArgs false
open Go.RowKit

theorem spec_expire (a : Option Addr) (n c : Nat) (L : List MapD) (now hold : Int) (w : World) (hs : Sl encM 4 w a n c L) (hn : n ≤ 1000) (hl : ∀ m ∈ L, 0 ≤ m.last ∧ m.last ≤ 10000) (h2 : 0 ≤ now) (h3 : now ≤ 10000) :
    Calls Try.prog 171 #[.slice a n c, .int .i64 now, .int .i64 hold] w fun e w' => ∃ a' m c', e = .returned (.slice a' m c') ∧ OwR 89 encM 4 w.heap.size w' a' m c' (expire L now hold) ∧ m ≤ n ∧ Ext w w' := by
  have hle := hs.le
  have hmax := hs.max
  have hlen := hs.len
  have HL := Lib.hid hlen
  have HI := Lib.hid hs.maps
  have HLL := Lib.hid hl
  clear hlen hs hl
  go_enter Try.func171, Try.ntmps171
  go_wp2
  go_loopw [7, 8] (fun v i wr => ∃ (k : Nat) (a' : Option Addr) (m c' : Nat) (M : List MapD), k ≤ n ∧ i = .int .i64 k ∧ v = .slice a' m c' ∧ m ≤ k ∧ M = expire (L.take k) now hold ∧ OwR 89 encM 4 w.heap.size wr a' m c' M ∧ Ext w wr) (fun _ i _ => n - (intOf i).toNat)
  case atStart => exact ⟨0, _, 0, 0, [], Nat.zero_le _, rfl, rfl, Nat.le_refl _, rfl, OwR.empty w _ rfl (Nat.le_refl _), (by repeat (first | (with_reducible exact Ext.refl _) | (with_reducible assumption) | (with_reducible refine Ext.alloc ?_ _) | (with_reducible refine Ext.drewN ?_ _) | (with_reducible refine Ext.drew ?_) | (with_reducible refine Ext.setCell ?_ ?_ _; rotate_left; (simp only []; omega)) | (with_reducible refine Ext.trans ?_ (by assumption))))⟩
  case round =>
    obtain ⟨k, a', m, c', M, hk, rfl, rfl, hmk, hM, hO, hX⟩ := hrel
    by_cases hlt : k < n
    · obtain ⟨_, b, off, rfl, hb, hc⟩ := (HI.out).resolve_left (by omega)
      obtain ⟨d0, d1, d2, d3⟩ := hc k hlt
      rw [← hX.cells _ _ hb] at d0 d1 d2 d3
      have hbr : b < wr.heap.size := by have := hX.size; omega
      have hbw : w.heap.size ≤ wr.heap.size := hX.size
      have hlk := HLL.out _ (nth_mem (l := L) (i := k) (by rw [HL.out]; exact hlt))
      have he := fun W => spec_expired (nth L k) now hold W hlk.1 hlk.2 h2 h3
      have HX := Lib.hid hX
      have HO := Lib.hid hO
      have HM := Lib.hid hM
      clear hc hX hO hM hlk
      cases hexp : expired (nth L k) now hold with
      | true =>
        rw [hexp] at he
        replace he := Lib.hid he
        go_wp2_with fail
        refine (he.out _).mono ?_
        rintro e w1 ⟨rfl, hx1⟩
        go_wp2
        go_roundw
        case rel => exact ⟨k + 1, a', m, c', M, hlt, by go_num, rfl, by omega, by rw [HM.out]; unfold expire; rw [filt_drop (by rw [HL.out]; exact hlt) (by simp [hexp])], HO.out.ext (show Ext wr _ from (by repeat (first | (with_reducible exact Ext.refl _) | (with_reducible assumption) | (with_reducible refine Ext.alloc ?_ _) | (with_reducible refine Ext.drewN ?_ _) | (with_reducible refine Ext.drew ?_) | (with_reducible refine Ext.setCell ?_ ?_ _; rotate_left; (simp only []; omega)) | (with_reducible refine Ext.trans ?_ (by assumption))))), (show Ext w wr from HX.out).trans (by repeat (first | (with_reducible exact Ext.refl _) | (with_reducible assumption) | (with_reducible refine Ext.alloc ?_ _) | (with_reducible refine Ext.drewN ?_ _) | (with_reducible refine Ext.drew ?_) | (with_reducible refine Ext.setCell ?_ ?_ _; rotate_left; (simp only []; omega)) | (with_reducible refine Ext.trans ?_ (by assumption))))⟩
        case measure => simp [intOf]; omega
      | false =>
        rw [hexp] at he
        replace he := Lib.hid he
        go_wp2_with fail
        refine (he.out _).mono ?_
        rintro e w1 ⟨rfl, hx1⟩
        rw [← hx1.cells _ _ (by simpa using hbr)] at d0 d1 d2 d3
        have hbr1 : b < w1.heap.size := by have := hx1.size; (try simp at this); omega
        have hbw1 : w.heap.size ≤ w1.heap.size := by have := hx1.size; (try simp at this); omega
        go_wp2_with (at_builtin; refine wpList_append_ow _ rfl _ _ rfl eiM encM_len encM_one (by omega) w.heap.size a' m c' M rfl (by exact HO.out.ext (show Ext wr _ from (by repeat (first | (with_reducible exact Ext.refl _) | (with_reducible assumption) | (with_reducible refine Ext.alloc ?_ _) | (with_reducible refine Ext.drewN ?_ _) | (with_reducible refine Ext.drew ?_) | (with_reducible refine Ext.setCell ?_ ?_ _; rotate_left; (simp only []; omega)) | (with_reducible refine Ext.trans ?_ (by assumption)))))) _ 1 1 [nth L k] rfl (by exact Sl.lit1 _ _ (nth L k) _ rfl rfl) (by omega) (by simp; omega) ?_; intro a3 c3 w3 hO3 hX3 _; replace hX3 := hX3 w ((show Ext w wr from HX.out).trans (by repeat (first | (with_reducible exact Ext.refl _) | (with_reducible assumption) | (with_reducible refine Ext.alloc ?_ _) | (with_reducible refine Ext.drewN ?_ _) | (with_reducible refine Ext.drew ?_) | (with_reducible refine Ext.setCell ?_ ?_ _; rotate_left; (simp only []; omega)) | (with_reducible refine Ext.trans ?_ (by assumption))))) (Nat.le_refl _))
        go_roundw
        case rel => exact ⟨k + 1, a3, m + 1, c3, _, hlt, by go_num, rfl, by omega, by rw [HM.out]; unfold expire; rw [filt_keep (by rw [HL.out]; exact hlt) (by simp [hexp])], hO3, hX3⟩
        case measure => simp [intOf]; omega
    · have e : k = n := by omega
      subst e
      rw [List.take_of_length_le (by rw [HL.out]; omega)] at hM
      subst hM
      have HX := Lib.hid hX
      have HO := Lib.hid hO
      clear hX hO
      go_wp2
      go_ret
      exact ⟨a', m, c', rfl, HO.out, hmk, HX.out⟩
theorem spec_ExpiredPorts (a : Option Addr) (n c : Nat) (L : List MapD) (now hold : Int) (w : World) (hs : Sl encM 4 w a n c L) (hn : n ≤ 1000) (hv : validTable L = true) (ht : timer now hold = true) (hl : ∀ m ∈ L, 0 ≤ m.last ∧ m.last ≤ 10000) (h2 : 0 ≤ now) (h3 : now ≤ 10000) :
    Calls Try.prog 169 #[.slice a n c, .int .i64 now, .int .i64 hold] w fun e w' => ∃ a' m c', e = .returned (.slice a' m c') ∧ OwR 3 encI 1 w.heap.size w' a' m c' (expPorts L now hold) ∧ m ≤ n ∧ Ext w w' := by
  have hle := hs.le
  have hmax := hs.max
  have hlen := hs.len
  have HL := Lib.hid hlen
  have HS := Lib.hid hs
  have HI := Lib.hid hs.maps
  have HLL := Lib.hid hl
  have hv1 := fun W h => spec_validTable a n c L W h
  rw [hv] at hv1
  have ht1 := fun W => spec_validTimer now hold W
  rw [ht] at ht1
  replace hv1 := Lib.hid hv1
  replace ht1 := Lib.hid ht1
  clear hlen hs hl hv ht
  go_enter Try.func169, Try.ntmps169
  go_wp2_with (first | (go_at_call 142; refine (hv1.out _ (by exact HS.out.ext (by repeat (first | (with_reducible exact Ext.refl _) | (with_reducible assumption) | (with_reducible refine Ext.alloc ?_ _) | (with_reducible refine Ext.drewN ?_ _) | (with_reducible refine Ext.drew ?_) | (with_reducible refine Ext.setCell ?_ ?_ _; rotate_left; (simp only []; omega)) | (with_reducible refine Ext.trans ?_ (by assumption)))))).mono ?_; rintro e w1 ⟨rfl, hx⟩; have hc := hx.cells; have hf := hx.frozens; have hy := hx.size; (try simp at hy); have hz : w.heap.size < w1.heap.size := (by omega)) | (go_at_call 172; refine (ht1.out _).mono ?_; rintro e w' ⟨rfl, rfl⟩))
  have hO1 : OwR 3 encI 1 w.heap.size w1 (some ⟨w.heap.size, 0, none⟩) 0 0 [] := by refine OwR.ext ?_ hx; exact OwR.empty w _ rfl (Nat.le_refl _)
  have HX1 := Lib.hid (show Ext w w1 from (by repeat (first | (with_reducible exact Ext.refl _) | (with_reducible assumption) | (with_reducible refine Ext.alloc ?_ _) | (with_reducible refine Ext.drewN ?_ _) | (with_reducible refine Ext.drew ?_) | (with_reducible refine Ext.setCell ?_ ?_ _; rotate_left; (simp only []; omega)) | (with_reducible refine Ext.trans ?_ (by assumption)))))
  clear hx hc hf hy hz
  go_loopw [7, 8] (fun v i wr => ∃ (k : Nat) (a' : Option Addr) (m c' : Nat) (M : List Int), k ≤ n ∧ i = .int .i64 k ∧ v = .slice a' m c' ∧ m ≤ k ∧ M = expPorts (L.take k) now hold ∧ OwR 3 encI 1 w.heap.size wr a' m c' M ∧ Ext w wr) (fun _ i _ => n - (intOf i).toNat)
  case atStart => exact ⟨0, _, 0, 0, [], Nat.zero_le _, rfl, rfl, Nat.le_refl _, rfl, hO1, HX1.out⟩
  case round =>
    clear hO1
    obtain ⟨k, a', m, c', M, hk, rfl, rfl, hmk, hM, hO, hX⟩ := hrel
    by_cases hlt : k < n
    · obtain ⟨_, b, off, rfl, hb, hc⟩ := (HI.out).resolve_left (by omega)
      obtain ⟨d0, d1, d2, d3⟩ := hc k hlt
      rw [← hX.cells _ _ hb] at d0 d1 d2 d3
      have hbr : b < wr.heap.size := by have := hX.size; omega
      have hbw : w.heap.size ≤ wr.heap.size := hX.size
      have hlk := HLL.out _ (nth_mem (l := L) (i := k) (by rw [HL.out]; exact hlt))
      have he := fun W => spec_expired (nth L k) now hold W hlk.1 hlk.2 h2 h3
      have HX := Lib.hid hX
      have HO := Lib.hid hO
      have HM := Lib.hid hM
      clear hc hX hO hM hlk
      cases hexp : expired (nth L k) now hold with
      | false =>
        rw [hexp] at he
        replace he := Lib.hid he
        go_wp2_with fail
        refine (he.out _).mono ?_
        rintro e w2 ⟨rfl, hx2⟩
        go_wp2
        go_roundw
        case rel => exact ⟨k + 1, a', m, c', M, hlt, by go_num, rfl, by omega, by rw [HM.out]; unfold expPorts; rw [filt_drop (by rw [HL.out]; exact hlt) hexp], HO.out.ext (show Ext wr _ from (by repeat (first | (with_reducible exact Ext.refl _) | (with_reducible assumption) | (with_reducible refine Ext.alloc ?_ _) | (with_reducible refine Ext.drewN ?_ _) | (with_reducible refine Ext.drew ?_) | (with_reducible refine Ext.setCell ?_ ?_ _; rotate_left; (simp only []; omega)) | (with_reducible refine Ext.trans ?_ (by assumption))))), (show Ext w wr from HX.out).trans (by repeat (first | (with_reducible exact Ext.refl _) | (with_reducible assumption) | (with_reducible refine Ext.alloc ?_ _) | (with_reducible refine Ext.drewN ?_ _) | (with_reducible refine Ext.drew ?_) | (with_reducible refine Ext.setCell ?_ ?_ _; rotate_left; (simp only []; omega)) | (with_reducible refine Ext.trans ?_ (by assumption))))⟩
        case measure => simp [intOf]; omega
      | true =>
        rw [hexp] at he
        replace he := Lib.hid he
        go_wp2_with fail
        refine (he.out _).mono ?_
        rintro e w2 ⟨rfl, hx2⟩
        rw [← hx2.cells _ _ (by simpa using hbr)] at d0 d1 d2 d3
        have hbr1 : b < w2.heap.size := by have := hx2.size; (try simp at this); omega
        have hbw1 : w.heap.size ≤ w2.heap.size := by have := hx2.size; (try simp at this); omega
        go_wp2_with (at_builtin; refine wpList_append_ow _ rfl _ _ rfl eiI encI_len encI_one (by omega) w.heap.size a' m c' M rfl (by exact HO.out.ext (show Ext wr _ from (by repeat (first | (with_reducible exact Ext.refl _) | (with_reducible assumption) | (with_reducible refine Ext.alloc ?_ _) | (with_reducible refine Ext.drewN ?_ _) | (with_reducible refine Ext.drew ?_) | (with_reducible refine Ext.setCell ?_ ?_ _; rotate_left; (simp only []; omega)) | (with_reducible refine Ext.trans ?_ (by assumption)))))) _ 1 1 [(nth L k).port] rfl (by exact Sl.lit1 _ _ (nth L k).port _ rfl rfl) (by omega) (by simp; omega) ?_; intro a3 c3 w3 hO3 hX3 _; replace hX3 := hX3 w ((show Ext w wr from HX.out).trans (by repeat (first | (with_reducible exact Ext.refl _) | (with_reducible assumption) | (with_reducible refine Ext.alloc ?_ _) | (with_reducible refine Ext.drewN ?_ _) | (with_reducible refine Ext.drew ?_) | (with_reducible refine Ext.setCell ?_ ?_ _; rotate_left; (simp only []; omega)) | (with_reducible refine Ext.trans ?_ (by assumption))))) (Nat.le_refl _))
        go_roundw
        case rel => exact ⟨k + 1, a3, m + 1, c3, _, hlt, by go_num, rfl, by omega, by rw [HM.out]; unfold expPorts; rw [filt_keep (by rw [HL.out]; exact hlt) hexp, List.map_append]; rfl, hO3, hX3⟩
        case measure => simp [intOf]; omega
    · have e : k = n := by omega
      subst e
      rw [List.take_of_length_le (by rw [HL.out]; omega)] at hM
      subst hM
      have HX := Lib.hid hX
      have HO := Lib.hid hO
      clear hX hO
      go_wp2
      go_ret
      exact ⟨a', m, c', rfl, HO.out, hmk, HX.out⟩
theorem spec_DropContacts (a : Option Addr) (n c : Nat) (L : List ConD) (q : Int) (w : World) (hs : Sl encC 3 w a n c L) (hn : n ≤ 1000) (hv : validContacts L = true) :
    Calls Try.prog 170 #[.slice a n c, .int .i64 q] w fun e w' => ∃ a' m c', e = .returned (.slice a' m c') ∧ OwR 47 encC 3 w.heap.size w' a' m c' (without L q) ∧ m ≤ n ∧ Ext w w' := by
  have hle := hs.le
  have hmax := hs.max
  have hlen := hs.len
  have HL := Lib.hid hlen
  have HS := Lib.hid hs
  have HI := Lib.hid hs.cons
  have hv1 := fun W h => spec_validContacts a n c L W h
  rw [hv] at hv1
  replace hv1 := Lib.hid hv1
  clear hlen hs hv
  go_enter Try.func170, Try.ntmps170
  go_wp2_with (go_at_call 143; refine (hv1.out _ (by exact HS.out.ext (by repeat (first | (with_reducible exact Ext.refl _) | (with_reducible assumption) | (with_reducible refine Ext.alloc ?_ _) | (with_reducible refine Ext.drewN ?_ _) | (with_reducible refine Ext.drew ?_) | (with_reducible refine Ext.setCell ?_ ?_ _; rotate_left; (simp only []; omega)) | (with_reducible refine Ext.trans ?_ (by assumption)))))).mono ?_; rintro e w1 ⟨rfl, hx⟩; have hc := hx.cells; have hf := hx.frozens; have hy := hx.size; (try simp at hy); have hz : w.heap.size < w1.heap.size := (by omega))
  have hO1 : OwR 47 encC 3 w.heap.size w1 (some ⟨w.heap.size, 0, none⟩) 0 0 [] := by refine OwR.ext ?_ hx; exact OwR.empty w _ rfl (Nat.le_refl _)
  have HX1 := Lib.hid (show Ext w w1 from (by repeat (first | (with_reducible exact Ext.refl _) | (with_reducible assumption) | (with_reducible refine Ext.alloc ?_ _) | (with_reducible refine Ext.drewN ?_ _) | (with_reducible refine Ext.drew ?_) | (with_reducible refine Ext.setCell ?_ ?_ _; rotate_left; (simp only []; omega)) | (with_reducible refine Ext.trans ?_ (by assumption)))))
  clear hx hc hf hy hz
  go_loopw [5, 6] (fun v i wr => ∃ (k : Nat) (a' : Option Addr) (m c' : Nat) (M : List ConD), k ≤ n ∧ i = .int .i64 k ∧ v = .slice a' m c' ∧ m ≤ k ∧ M = without (L.take k) q ∧ OwR 47 encC 3 w.heap.size wr a' m c' M ∧ Ext w wr) (fun _ i _ => n - (intOf i).toNat)
  case atStart => exact ⟨0, _, 0, 0, [], Nat.zero_le _, rfl, rfl, Nat.le_refl _, rfl, hO1, HX1.out⟩
  case round =>
    clear hO1
    obtain ⟨k, a', m, c', M, hk, rfl, rfl, hmk, hM, hO, hX⟩ := hrel
    by_cases hlt : k < n
    · obtain ⟨_, b, off, rfl, hb, hc⟩ := (HI.out).resolve_left (by omega)
      obtain ⟨d0, d1, d2⟩ := hc k hlt
      rw [← hX.cells _ _ hb] at d0 d1 d2
      have hbr : b < wr.heap.size := by have := hX.size; omega
      have hbw : w.heap.size ≤ wr.heap.size := hX.size
      have HX := Lib.hid hX
      have HO := Lib.hid hO
      have HM := Lib.hid hM
      clear hc hX hO hM
      by_cases hq : (nth L k).port = q
      · go_wp2
        go_roundw
        case rel => exact ⟨k + 1, a', m, c', M, hlt, by go_num, rfl, by omega, by rw [HM.out]; unfold without; rw [filt_drop (by rw [HL.out]; exact hlt) (by simp [hq])], HO.out.ext (show Ext wr _ from (by repeat (first | (with_reducible exact Ext.refl _) | (with_reducible assumption) | (with_reducible refine Ext.alloc ?_ _) | (with_reducible refine Ext.drewN ?_ _) | (with_reducible refine Ext.drew ?_) | (with_reducible refine Ext.setCell ?_ ?_ _; rotate_left; (simp only []; omega)) | (with_reducible refine Ext.trans ?_ (by assumption))))), (show Ext w wr from HX.out).trans (by repeat (first | (with_reducible exact Ext.refl _) | (with_reducible assumption) | (with_reducible refine Ext.alloc ?_ _) | (with_reducible refine Ext.drewN ?_ _) | (with_reducible refine Ext.drew ?_) | (with_reducible refine Ext.setCell ?_ ?_ _; rotate_left; (simp only []; omega)) | (with_reducible refine Ext.trans ?_ (by assumption))))⟩
        case measure => simp [intOf]; omega
      · go_wp2_with (at_builtin; refine wpList_append_ow _ rfl _ _ rfl eiC encC_len encC_one (by omega) w.heap.size a' m c' M rfl (by exact HO.out.ext (show Ext wr _ from (by repeat (first | (with_reducible exact Ext.refl _) | (with_reducible assumption) | (with_reducible refine Ext.alloc ?_ _) | (with_reducible refine Ext.drewN ?_ _) | (with_reducible refine Ext.drew ?_) | (with_reducible refine Ext.setCell ?_ ?_ _; rotate_left; (simp only []; omega)) | (with_reducible refine Ext.trans ?_ (by assumption)))))) _ 1 1 [nth L k] rfl (by exact Sl.lit1 _ _ (nth L k) _ rfl rfl) (by omega) (by simp; omega) ?_; intro a3 c3 w3 hO3 hX3 _; replace hX3 := hX3 w ((show Ext w wr from HX.out).trans (by repeat (first | (with_reducible exact Ext.refl _) | (with_reducible assumption) | (with_reducible refine Ext.alloc ?_ _) | (with_reducible refine Ext.drewN ?_ _) | (with_reducible refine Ext.drew ?_) | (with_reducible refine Ext.setCell ?_ ?_ _; rotate_left; (simp only []; omega)) | (with_reducible refine Ext.trans ?_ (by assumption))))) (Nat.le_refl _))
        go_roundw
        case rel => exact ⟨k + 1, a3, m + 1, c3, _, hlt, by go_num, rfl, by omega, by rw [HM.out]; unfold without; rw [filt_keep (by rw [HL.out]; exact hlt) (by simp [hq])], hO3, hX3⟩
        case measure => simp [intOf]; omega
    · have e : k = n := by omega
      subst e
      rw [List.take_of_length_le (by rw [HL.out]; omega)] at hM
      subst hM
      have HX := Lib.hid hX
      have HO := Lib.hid hO
      clear hX hO
      go_wp2
      go_ret
      exact ⟨a', m, c', rfl, HO.out, hmk, HX.out⟩
set_option maxHeartbeats 1000000 in
theorem spec_copyGate (g : GateD) (ta : Option Addr) (tn tc : Nat) (ka : Option Addr) (kn kc : Nat) (w : World) (ht : Sl encM 4 w ta tn tc g.table) (hk : Sl encC 3 w ka kn kc g.cons) (h1 : tn ≤ 1000) (h2 : kn ≤ 1000) :
    Calls Try.prog 128 #[.agg #[.int .i64 g.net.base, .int .i64 g.net.bits, .int .i64 g.out, .slice ta tn tc, .slice ka kn kc, .int .i64 g.filter, .int .i64 g.hold, .int .i64 g.now]] w fun e w' => ∃ sa sc qa qc, e = .returned (.agg #[.int .i64 g.net.base, .int .i64 g.net.bits, .int .i64 g.out, .slice sa tn sc, .slice qa kn qc, .int .i64 g.filter, .int .i64 g.hold, .int .i64 g.now]) ∧ OwR 89 encM 4 w.heap.size w' sa tn sc g.table ∧
      OwR 47 encC 3 w.heap.size w' qa kn qc g.cons ∧ Ext w w' := by
  go_enter Try.func128, Try.ntmps128
  go_wp2_with (first
    | (at_builtin; refine wpList_append_ow _ rfl _ _ rfl (by with_reducible exact eiM) encM_len encM_one (by omega) (w.heap.size + 2) (some ⟨w.heap.size + 2, 0, none⟩) 0 0 [] rfl (by exact OwR.empty _ _ (by simp) (by simp)) ta tn tc g.table rfl (by exact ht.ext (by repeat (first | (with_reducible exact Ext.refl _) | (with_reducible assumption) | (with_reducible refine Ext.alloc ?_ _) | (with_reducible refine Ext.drewN ?_ _) | (with_reducible refine Ext.drew ?_) | (with_reducible refine Ext.setCell ?_ ?_ _; rotate_left; (simp only []; omega)) | (with_reducible refine Ext.trans ?_ (by assumption))))) (by omega) (by simp) ?_; intro a3 c3 w3 hO3 hX3 hg3; (replace hX3 := hX3 w (by repeat (first | (with_reducible exact Ext.refl _) | (with_reducible assumption) | (with_reducible refine Ext.alloc ?_ _) | (with_reducible refine Ext.drewN ?_ _) | (with_reducible refine Ext.drew ?_) | (with_reducible refine Ext.setCell ?_ ?_ _; rotate_left; (simp only []; omega)) | (with_reducible refine Ext.trans ?_ (by assumption)))) (by omega)); (have hB3 : Blk w3 w.heap.size 28 (#[.int .i64 g.net.base, .int .i64 g.net.bits, .int .i64 g.out, .slice ta tn tc, .slice ka kn kc, .int .i64 g.filter, .int .i64 g.hold, .int .i64 g.now]) := Blk.grown (by repeat (first | (with_reducible assumption) | (with_reducible exact Blk.new _ _ _) | exact Blk.newAt _ _ _ (by simp) | (with_reducible refine Blk.alloc ?_ _) | (with_reducible refine Blk.drew ?_) | (with_reducible refine Blk.drewN ?_ _) | refine Blk.far ?_ (by simp only []; omega) _ | refine Blk.rext ?_ (by assumption) (by omega) | refine Blk.ext ?_ (by assumption))) hg3 (by simp)); (have hR3 : Blk w3 (w.heap.size + 1) 28 #[.int .i64 0, .int .i64 0, .int .i64 0, .slice none 0 0, .slice none 0 0, .int .i64 0, .int .i64 0, .int .i64 0] := Blk.grown (by repeat (first | (with_reducible assumption) | (with_reducible exact Blk.new _ _ _) | exact Blk.newAt _ _ _ (by simp) | (with_reducible refine Blk.alloc ?_ _) | (with_reducible refine Blk.drew ?_) | (with_reducible refine Blk.drewN ?_ _) | refine Blk.far ?_ (by simp only []; omega) _ | refine Blk.rext ?_ (by assumption) (by omega) | refine Blk.ext ?_ (by assumption))) hg3 (by simp)); have hc3 := hB3.cells; have hf3 := hB3.frozens; have hz3 := hB3.lt; have hc3' := hR3.cells; have hf3' := hR3.frozens; have hz3' := hR3.lt; simp only [Nat.zero_add, List.nil_append] at hO3)
    | (at_builtin; refine wpList_append_ow _ rfl _ _ rfl (by with_reducible exact eiC) encC_len encC_one (by omega) w3.heap.size (some ⟨w3.heap.size, 0, none⟩) 0 0 [] rfl (by exact OwR.empty _ _ (by simp) (by simp)) ka kn kc g.cons rfl (by exact hk.ext (by repeat (first | (with_reducible exact Ext.refl _) | (with_reducible assumption) | (with_reducible refine Ext.alloc ?_ _) | (with_reducible refine Ext.drewN ?_ _) | (with_reducible refine Ext.drew ?_) | (with_reducible refine Ext.setCell ?_ ?_ _; rotate_left; (simp only []; omega)) | (with_reducible refine Ext.trans ?_ (by assumption))))) (by omega) (by simp) ?_; intro a4 c4 w4 hO4 hX4 hg4; (replace hX4 := hX4 w (by repeat (first | (with_reducible exact Ext.refl _) | (with_reducible assumption) | (with_reducible refine Ext.alloc ?_ _) | (with_reducible refine Ext.drewN ?_ _) | (with_reducible refine Ext.drew ?_) | (with_reducible refine Ext.setCell ?_ ?_ _; rotate_left; (simp only []; omega)) | (with_reducible refine Ext.trans ?_ (by assumption)))) (by omega)); (have hB4 : Blk w4 w.heap.size 28 (#[.int .i64 g.net.base, .int .i64 g.net.bits, .int .i64 g.out, .slice a3 tn c3, .slice ka kn kc, .int .i64 g.filter, .int .i64 g.hold, .int .i64 g.now]) := Blk.grown (Blk.alloc (show Blk (w3.setCell ⟨w.heap.size, 3, none⟩ (.slice a3 tn c3)) w.heap.size 28 (#[.int .i64 g.net.base, .int .i64 g.net.bits, .int .i64 g.out, .slice a3 tn c3, .slice ka kn kc, .int .i64 g.filter, .int .i64 g.hold, .int .i64 g.now]) from hB3.set 3 _) _) hg4 (by simp; omega)); (have hR4 : Blk w4 (w.heap.size + 1) 28 #[.int .i64 0, .int .i64 0, .int .i64 0, .slice none 0 0, .slice none 0 0, .int .i64 0, .int .i64 0, .int .i64 0] := Blk.grown (by repeat (first | exact hR3 | refine Blk.alloc ?_ _ | refine Blk.far ?_ (by simp only []; omega) _)) hg4 (by simp; omega)); have hQ4 := ((hO3.setC (p := ⟨w.heap.size, 3, none⟩) (fun x e => by have := (hO3.lt x e).1; simp only []; omega) (.slice a3 tn c3)).ext ((Ext.refl _).alloc (.cells #[] 47))).keep hg4 (fun x e => by have := (hO3.lt x e).2; simp; omega); clear hc3 hf3 hz3 hc3' hf3' hB3 hR3 hO3 hg3 hX3; have hc4 := hB4.cells; have hf4 := hB4.frozens; have hz4 := hB4.lt; have hc4' := hR4.cells; have hf4' := hR4.frozens; have hz4' := hR4.lt; simp only [Nat.zero_add, List.nil_append] at hO4))
  refine' bodyPost_ret (v := _) ?_ rfl ?_
  rotate_left
  · (simp only [results, Try.results128]
     go_simp
     rfl)
  refine ⟨a3, c3, a4, c4, rfl, ?_, ?_, (by repeat (first | (with_reducible exact Ext.refl _) | (with_reducible assumption) | (with_reducible refine Ext.alloc ?_ _) | (with_reducible refine Ext.drewN ?_ _) | (with_reducible refine Ext.drew ?_) | (with_reducible refine Ext.setCell ?_ ?_ _; rotate_left; (simp only []; omega)) | (with_reducible refine Ext.trans ?_ (by assumption))))⟩
  · refine OwR.rebase (base := w.heap.size + 2) ?_ (by omega)
    repeat (refine OwR.setC ?_ (fun x e => by have := (hQ4.lt x e).1; simp only []; omega) _)
    exact hQ4
  · refine OwR.rebase (base := w3.heap.size) ?_ (by omega)
    repeat (refine OwR.setC ?_ (fun x e => by have := (hO4.lt x e).1; simp only []; omega) _)
    exact hO4
theorem foldl_sub (ps : List Int) (l : List ConD) : (ps.foldl without l).Sublist l := by rw [foldl_without]; exact List.filter_sublist
theorem lastOk {L : List MapD} (h : validTable L = true) : ∀ m ∈ L, 0 ≤ m.last ∧ m.last ≤ 10000 := by
  intro m hm
  have := (validTable_iff.1 h).1 m hm
  simp only [okMap, Bool.and_eq_true, inR_iff] at this
  omega
end Go.Proofs.Ytppdcglnopoocaa
/- The second package's TickGate. -/
namespace Go.Proofs.Ytppdcglnopoocaa
set_option linter.unusedVariables false
set_option linter.unusedSimpArgs false
open Go.RowKit

theorem foldl_take {ps : List Int} {l : List ConD} {k : Nat} (hk : k < ps.length) : (ps.take (k + 1)).foldl without l = without ((ps.take k).foldl without l) (nth ps k) := by
  rw [take_succ hk, List.foldl_append]
  rfl
theorem timer_ok {g : GateD} (hg : VGate g) {now : Int} (h0 : g.now ≤ now) (h1 : now ≤ 10000) : timer now g.hold = true := by
  have := hg.now0
  have := hg.hold0
  have := hg.hold1
  unfold timer
  simp only [Bool.and_eq_true, inR_iff]
  omega
set_option maxHeartbeats 4000000 in
theorem spec_tick (g : GateD) (now : Int) (ta : Option Addr) (tn tc : Nat) (ka : Option Addr) (kn kc : Nat) (w : World) (ht : Sl encM 4 w ta tn tc g.table) (hk : Sl encC 3 w ka kn kc g.cons) (hg : VGate g) (h0 : g.now ≤ now) (h1 : now ≤ 10000) :
    Calls Try.prog 167 #[.agg #[.int .i64 g.net.base, .int .i64 g.net.bits, .int .i64 g.out, .slice ta tn tc, .slice ka kn kc, .int .i64 g.filter, .int .i64 g.hold, .int .i64 g.now], .int .i64 now] w fun e w' => ∃ sa sn sc qa qn qc, e = .returned (.agg #[.int .i64 (tick g now).net.base, .int .i64 (tick g now).net.bits, .int .i64 (tick g now).out, .slice sa sn sc, .slice qa qn qc, .int .i64 (tick g now).filter, .int .i64 (tick g now).hold, .int .i64 (tick g now).now]) ∧ Ow 89 encM 4 w.heap.size w' sa sn sc (tick g now).table ∧
      Ow 47 encC 3 w.heap.size w' qa qn qc (tick g now).cons ∧ Ext w w' := by
  have htl := (validTable_iff.1 hg.tab).2.2
  have hkl := (validContacts_iff.1 hg.con).2.2
  have htn : tn ≤ 8 := by have := ht.len; omega
  have hkn : kn ≤ 10 := by have := hk.len; omega
  have htm := timer_ok hg h0 h1
  have n0 : 0 ≤ now := by have := hg.now0; omega
  have HLa := Lib.hid (lastOk hg.tab)
  have hvt := Lib.hid hg.tab
  have hvc := Lib.hid hg.con
  have T0l := Lib.hid (fun (h : 0 < tn) => ht.lt h)
  obtain ⟨P, hP⟩ : ∃ P, P = expPorts g.table now g.hold := ⟨_, rfl⟩
  replace hP := Lib.hid hP
  have T0 := ht
  have XU := Ext.refl w
  go_enter Try.func167, Try.ntmps167
  go_wp2_with fail
  refine (spec_copyGate g ta tn tc ka kn kc _ (by exact ht.ext (by repeat (first | (with_reducible exact Ext.refl _) | (with_reducible assumption) | (with_reducible refine Ext.alloc ?_ _) | (with_reducible refine Ext.drewN ?_ _) | (with_reducible refine Ext.drew ?_) | (with_reducible refine Ext.setCell ?_ ?_ _; rotate_left; (simp only []; omega)) | (with_reducible refine Ext.trans ?_ (by assumption))))) (by exact hk.ext (by repeat (first | (with_reducible exact Ext.refl _) | (with_reducible assumption) | (with_reducible refine Ext.alloc ?_ _) | (with_reducible refine Ext.drewN ?_ _) | (with_reducible refine Ext.drew ?_) | (with_reducible refine Ext.setCell ?_ ?_ _; rotate_left; (simp only []; omega)) | (with_reducible refine Ext.trans ?_ (by assumption))))) (by omega) (by omega)).mono ?_
  rintro e w1 ⟨sa, sc, qa, qc, rfl, RT, RK, hx1⟩
  have hy1 := hx1.size
  (try simp at hy1)
  have eW1 := useE (fun (h : Ext _ w1) => T0.ext h) (by repeat (first | (with_reducible exact Ext.refl _) | (with_reducible assumption) | (with_reducible refine Ext.alloc ?_ _) | (with_reducible refine Ext.drewN ?_ _) | (with_reducible refine Ext.drew ?_) | (with_reducible refine Ext.setCell ?_ ?_ _; rotate_left; (simp only []; omega)) | (with_reducible refine Ext.trans ?_ (by assumption))))
  replace T0 := T0.ext eW1
  have BG : Blk w1 w.heap.size 28 (#[.int .i64 g.net.base, .int .i64 g.net.bits, .int .i64 g.out, .slice ta tn tc, .slice ka kn kc, .int .i64 g.filter, .int .i64 g.hold, .int .i64 g.now]) := by refine Blk.ext ?_ hx1; exact (by repeat (first | (with_reducible assumption) | (with_reducible exact Blk.new _ _ _) | exact Blk.newAt _ _ _ (by simp) | (with_reducible refine Blk.alloc ?_ _) | (with_reducible refine Blk.drew ?_) | (with_reducible refine Blk.drewN ?_ _) | refine Blk.far ?_ (by simp only []; omega) _ | refine Blk.rext ?_ (by assumption) (by omega) | refine Blk.ext ?_ (by assumption)))
  have BR : Blk w1 (w.heap.size+1) 28 #[.int .i64 0, .int .i64 0, .int .i64 0, .slice none 0 0, .slice none 0 0, .int .i64 0, .int .i64 0, .int .i64 0] := by refine Blk.ext ?_ hx1; exact (by repeat (first | (with_reducible assumption) | (with_reducible exact Blk.new _ _ _) | exact Blk.newAt _ _ _ (by simp) | (with_reducible refine Blk.alloc ?_ _) | (with_reducible refine Blk.drew ?_) | (with_reducible refine Blk.drewN ?_ _) | refine Blk.far ?_ (by simp only []; omega) _ | refine Blk.rext ?_ (by assumption) (by omega) | refine Blk.ext ?_ (by assumption)))
  replace XU := XU.ext eW1
  have cBG := BG.cells
  have fBG := BG.frozens
  have zBG := BG.lt
  have cBR := BR.cells
  have fBR := BR.frozens
  have zBR := BR.lt
  have lK := Lib.hid (show ∀ x, qa = some x → x.block ≠ w1.heap.size from fun x e => by have := (RK.lt x e).2; omega)
  go_wp2_with fail
  refine (spec_ExpiredPorts ta tn tc g.table now g.hold _ (by exact T0.ext (by repeat (first | (with_reducible exact Ext.refl _) | (with_reducible assumption) | (with_reducible refine Ext.alloc ?_ _) | (with_reducible refine Ext.drewN ?_ _) | (with_reducible refine Ext.drew ?_) | (with_reducible refine Ext.setCell ?_ ?_ _; rotate_left; (simp only []; omega)) | (with_reducible refine Ext.trans ?_ (by assumption))))) (by omega) hvt.out htm HLa.out n0 h1).mono ?_
  rintro e w2 ⟨pa, pm, pc, rfl, RP, hpm, hx2⟩
  have hy2 := hx2.size
  (try simp at hy2)
  have eW2 := useE (fun (h : Ext _ w2) => T0.ext h) (by repeat (first | (with_reducible exact Ext.refl _) | (with_reducible assumption) | (with_reducible refine Ext.alloc ?_ _) | (with_reducible refine Ext.drewN ?_ _) | (with_reducible refine Ext.drew ?_) | (with_reducible refine Ext.setCell ?_ ?_ _; rotate_left; (simp only []; omega)) | (with_reducible refine Ext.trans ?_ (by assumption))))
  replace T0 := T0.ext eW2
  clear cBG fBG zBG
  replace BG := BG.ext eW2
  clear cBR fBR zBR
  replace BR := BR.ext eW2
  replace RK := RK.ext eW2
  have BX : Blk w2 w1.heap.size 28 (#[.int .i64 g.net.base, .int .i64 g.net.bits, .int .i64 g.out, .slice sa tn sc, .slice qa kn qc, .int .i64 g.filter, .int .i64 g.hold, .int .i64 g.now]) := by refine Blk.ext ?_ hx2; exact (by repeat (first | (with_reducible assumption) | (with_reducible exact Blk.new _ _ _) | exact Blk.newAt _ _ _ (by simp) | (with_reducible refine Blk.alloc ?_ _) | (with_reducible refine Blk.drew ?_) | (with_reducible refine Blk.drewN ?_ _) | refine Blk.far ?_ (by simp only []; omega) _ | refine Blk.rext ?_ (by assumption) (by omega) | refine Blk.ext ?_ (by assumption)))
  replace XU := XU.ext eW2
  have cBG := BG.cells
  have fBG := BG.frozens
  have zBG := BG.lt
  have cBR := BR.cells
  have fBR := BR.frozens
  have zBR := BR.lt
  have cBX := BX.cells
  have fBX := BX.frozens
  have zBX := BX.lt
  replace RP := (RP.ow encI_len (by omega)).rebase (b' := w1.heap.size + 1) (by (try simp); (try omega))
  rw [← hP.out] at RP
  replace RK := (RK.ow encC_len (by omega)).rebase (b' := w.heap.size + 2) (by (try simp); (try omega))
  clear hx1 hx2 RT hk ht
  generalize w1.heap.size = G at *
  clear cBG cBR cBX fBG fBR fBX
  have hGw : w.heap.size + 1 < G := by omega
  go_wp2
  go_loopw [7] (fun i wr => ∃ (k : Nat) (a' : Option Addr) (m c' : Nat) (M : List ConD), k ≤ pm ∧ i = .int .i64 k ∧ m ≤ 10 ∧ M = (P.take k).foldl without g.cons ∧ Ow 47 encC 3 (w.heap.size + 2) wr a' m c' M ∧ (∀ x, a' = some x → x.block ≠ G) ∧
    Blk wr G 28 (#[.int .i64 g.net.base, .int .i64 g.net.bits, .int .i64 g.out, .slice sa tn sc, .slice a' m c', .int .i64 g.filter, .int .i64 g.hold, .int .i64 g.now]) ∧ Blk wr w.heap.size 28 (#[.int .i64 g.net.base, .int .i64 g.net.bits, .int .i64 g.out, .slice ta tn tc, .slice ka kn kc, .int .i64 g.filter, .int .i64 g.hold, .int .i64 g.now]) ∧ Blk wr (w.heap.size + 1) 28 #[.int .i64 0, .int .i64 0, .int .i64 0, .slice none 0 0, .slice none 0 0, .int .i64 0, .int .i64 0, .int .i64 0] ∧
    Ow 3 encI 1 (G + 1) wr pa pm pc P ∧ Sl encM 4 wr ta tn tc g.table ∧ Ext w wr) (fun i _ => pm - (intOf i).toNat)
  case atStart => exact ⟨0, qa, kn, qc, g.cons, Nat.zero_le _, rfl, hkn, rfl, RK, lK.out, BX, BG, BR, RP, T0, XU⟩
  case round =>
    clear RP RK BX BG BR T0 XU zBG zBR zBX lK
    obtain ⟨k, a', m, c', M, hk, rfl, hm, hM, OK, lK, BX, BG, BR, RP, T0, XU⟩ := hrel
    by_cases hlt : k < pm
    · obtain ⟨_, b, off, rfl, hb, hc⟩ := ((RP.sl encI_len).ints).resolve_left (by omega)
      have d0 := hc k hlt
      have hkl : k < P.length := by have := RP.1; omega
      have hMv : validContacts M = true := by rw [hM]; exact validContacts_sub hvc.out (foldl_sub _ _)
      have hM2 := Lib.hid (show without M (nth P k) = (P.take (k + 1)).foldl without g.cons by rw [foldl_take hkl, ← hM])
      have zG : G < wr.heap.size := BX.lt
      have hMv := Lib.hid hMv
      replace hM := Lib.hid hM
      clear hc hkl
      have cBX := BX.cells
      have fBX := BX.frozens
      have nG : b ≠ G := by have := (RP.lt _ rfl).1; simp at this; omega
      go_wp2_with fail
      go_region_with (go_at_call 170; refine (spec_DropContacts a' m c' M (nth P k) _ (by exact ((OK.sl encC_len).ext (by repeat (first | (with_reducible exact Ext.refl _) | (with_reducible assumption) | (with_reducible refine Ext.alloc ?_ _) | (with_reducible refine Ext.drewN ?_ _) | (with_reducible refine Ext.drew ?_) | (with_reducible refine Ext.setCell ?_ ?_ _; rotate_left; (simp only []; omega)) | (with_reducible refine Ext.trans ?_ (by assumption)))))) (by omega) hMv.out).mono ?_; rintro e w3 ⟨a2, m2, c2, rfl, hO2, hm2, hx3⟩; have BX3 := BX.ext (show Ext _ w3 from (by repeat (first | (with_reducible exact Ext.refl _) | (with_reducible assumption) | (with_reducible refine Ext.alloc ?_ _) | (with_reducible refine Ext.drewN ?_ _) | (with_reducible refine Ext.drew ?_) | (with_reducible refine Ext.setCell ?_ ?_ _; rotate_left; (simp only []; omega)) | (with_reducible refine Ext.trans ?_ (by assumption))))); have cBX3 := BX3.cells; have fBX3 := BX3.frozens; have zBX3 := BX3.lt)
      all_goals
        have BG3 := BG.ext (show Ext _ w3 from (by repeat (first | (with_reducible exact Ext.refl _) | (with_reducible assumption) | (with_reducible refine Ext.alloc ?_ _) | (with_reducible refine Ext.drewN ?_ _) | (with_reducible refine Ext.drew ?_) | (with_reducible refine Ext.setCell ?_ ?_ _; rotate_left; (simp only []; omega)) | (with_reducible refine Ext.trans ?_ (by assumption)))))
        have BR3 := BR.ext (show Ext _ w3 from (by repeat (first | (with_reducible exact Ext.refl _) | (with_reducible assumption) | (with_reducible refine Ext.alloc ?_ _) | (with_reducible refine Ext.drewN ?_ _) | (with_reducible refine Ext.drew ?_) | (with_reducible refine Ext.setCell ?_ ?_ _; rotate_left; (simp only []; omega)) | (with_reducible refine Ext.trans ?_ (by assumption)))))
        have RP3 := RP.ext (show Ext _ w3 from (by repeat (first | (with_reducible exact Ext.refl _) | (with_reducible assumption) | (with_reducible refine Ext.alloc ?_ _) | (with_reducible refine Ext.drewN ?_ _) | (with_reducible refine Ext.drew ?_) | (with_reducible refine Ext.setCell ?_ ?_ _; rotate_left; (simp only []; omega)) | (with_reducible refine Ext.trans ?_ (by assumption)))))
        have T3 := T0.ext (show Ext _ w3 from (by repeat (first | (with_reducible exact Ext.refl _) | (with_reducible assumption) | (with_reducible refine Ext.alloc ?_ _) | (with_reducible refine Ext.drewN ?_ _) | (with_reducible refine Ext.drew ?_) | (with_reducible refine Ext.setCell ?_ ?_ _; rotate_left; (simp only []; omega)) | (with_reducible refine Ext.trans ?_ (by assumption)))))
        have lO := hO2.lt
        have hX3 := XU.ext (show Ext _ w3 from (by repeat (first | (with_reducible exact Ext.refl _) | (with_reducible assumption) | (with_reducible refine Ext.alloc ?_ _) | (with_reducible refine Ext.drewN ?_ _) | (with_reducible refine Ext.drew ?_) | (with_reducible refine Ext.setCell ?_ ?_ _; rotate_left; (simp only []; omega)) | (with_reducible refine Ext.trans ?_ (by assumption)))))
        clear hx3
        go_wp2
        go_roundw
        case rel =>
          refine ⟨k + 1, a2, m2, c2, without M (nth P k), hlt, by go_num, by omega, hM2.out, ?_, ?_, (BX3.set 4 (.slice a2 m2 c2)), BG3.far (by simp only []; omega) _, BR3.far (by simp only []; omega) _, ?_, ?_, (by repeat (first | (with_reducible exact Ext.refl _) | (with_reducible assumption) | (with_reducible refine Ext.alloc ?_ _) | (with_reducible refine Ext.drewN ?_ _) | (with_reducible refine Ext.drew ?_) | (with_reducible refine Ext.setCell ?_ ?_ _; rotate_left; (simp only []; omega)) | (with_reducible refine Ext.trans ?_ (by assumption))))⟩
          · refine Ow.rebase (base := wr.heap.size) ?_ (by omega)
            refine Ow.setC ?_ (fun x e => by have := (lO x e).1; simp only []; (try simp at this); omega) _
            exact (hO2.ow encC_len (by omega))
          · intro x e
            have := (lO x e).1
            (try simp at this)
            omega
          · exact RP3.setC (fun x e => by have := (RP3.lt x e).1; simp only []; omega) _
          · exact T3.setFar (fun hn x e => by have := T0l.out hn x e; simp only []; omega) _
        case measure => simp [intOf]; omega
    · have e : k = pm := by omega
      subst e
      rw [List.take_of_length_le (by have := RP.1; omega)] at hM
      clear hlt hk RP
      have zG : G < wr.heap.size := BX.lt
      have cBX := BX.cells
      have fBX := BX.frozens
      have zBX := BX.lt
      have cBG := BG.cells
      have fBG := BG.frozens
      have zBG := BG.lt
      have cBR := BR.cells
      have fBR := BR.frozens
      have zBR := BR.lt
      go_wp2_with fail
      refine (spec_expire ta tn tc g.table now g.hold _ (by exact T0.ext (by repeat (first | (with_reducible exact Ext.refl _) | (with_reducible assumption) | (with_reducible refine Ext.alloc ?_ _) | (with_reducible refine Ext.drewN ?_ _) | (with_reducible refine Ext.drew ?_) | (with_reducible refine Ext.setCell ?_ ?_ _; rotate_left; (simp only []; omega)) | (with_reducible refine Ext.trans ?_ (by assumption))))) (by omega) HLa.out n0 h1).mono ?_
      rintro e w4 ⟨ea, em, ec, rfl, RE, hem, hx4⟩
      have hy4 := hx4.size
      (try simp at hy4)
      have eW4 := useE (fun (h : Ext _ w4) => T0.ext h) (by repeat (first | (with_reducible exact Ext.refl _) | (with_reducible assumption) | (with_reducible refine Ext.alloc ?_ _) | (with_reducible refine Ext.drewN ?_ _) | (with_reducible refine Ext.drew ?_) | (with_reducible refine Ext.setCell ?_ ?_ _; rotate_left; (simp only []; omega)) | (with_reducible refine Ext.trans ?_ (by assumption))))
      replace T0 := T0.ext eW4
      replace OK := OK.ext eW4
      clear cBX fBX zBX
      replace BX := BX.ext eW4
      clear cBG fBG zBG
      replace BG := BG.ext eW4
      clear cBR fBR zBR
      replace BR := BR.ext eW4
      replace XU := XU.ext eW4
      have cBX := BX.cells
      have fBX := BX.frozens
      have zBX := BX.lt
      have cBG := BG.cells
      have fBG := BG.frozens
      have zBG := BG.lt
      have cBR := BR.cells
      have fBR := BR.frozens
      have zBR := BR.lt
      have lE := RE.lt
      go_wp2
      refine' bodyPost_ret (v := _) ?_ rfl ?_
      rotate_left
      · (simp only [results, Try.results167]
         go_simp
         rfl)
      refine ⟨ea, em, ec, a', m, c', rfl, ?_, ?_, (by repeat (first | (with_reducible exact Ext.refl _) | (with_reducible assumption) | (with_reducible refine Ext.alloc ?_ _) | (with_reducible refine Ext.drewN ?_ _) | (with_reducible refine Ext.drew ?_) | (with_reducible refine Ext.setCell ?_ ?_ _; rotate_left; (simp only []; omega)) | (with_reducible refine Ext.trans ?_ (by assumption))))⟩
      · refine Ow.rebase (base := wr.heap.size) ?_ (by omega)
        repeat (refine Ow.setC ?_ (fun x e => by have := (lE x e).1; simp only []; (try simp at this); omega) _)
        exact (RE.ow encM_len (by omega))
      · refine Ow.rebase (base := w.heap.size + 2) ?_ (by omega)
        repeat (refine Ow.setC ?_ (fun x e => by have := (OK.lt x e).1; have := lK x e; simp only []; omega) _)
        rw [hM, hP.out] at OK
        exact OK
theorem spec_TickGate_no (g : GateD) (now : Int) (ta : Option Addr) (tn tc : Nat) (ka : Option Addr) (kn kc : Nat) (w : World) (ht : Sl encM 4 w ta tn tc g.table) (hk : Sl encC 3 w ka kn kc g.cons) (hv : (validGate g && inR now g.now 10000) = false) :
    Calls Try.prog 153 #[.agg #[.int .i64 g.net.base, .int .i64 g.net.bits, .int .i64 g.out, .slice ta tn tc, .slice ka kn kc, .int .i64 g.filter, .int .i64 g.hold, .int .i64 g.now], .int .i64 now] w fun e w' => e = .returned (.tuple #[.agg #[.int .i64 0, .int .i64 0, .int .i64 0, .slice none 0 0, .slice none 0 0, .int .i64 0, .int .i64 0, .int .i64 0], .bool false]) ∧ Ext w w' := by
  have c1 := fun W h1 h2 => spec_validGate g ta tn tc ka kn kc W h1 h2
  cases hg : validGate g with
  | false =>
    rw [hg] at c1
    go_enter Try.func153, Try.ntmps153
    go_wp2_with (first | (go_at_call 89; refine (c1 _ (by exact ht.ext (by repeat (first | (with_reducible exact Ext.refl _) | (with_reducible assumption) | (with_reducible refine Ext.alloc ?_ _) | (with_reducible refine Ext.drewN ?_ _) | (with_reducible refine Ext.drew ?_) | (with_reducible refine Ext.setCell ?_ ?_ _; rotate_left; (simp only []; omega)) | (with_reducible refine Ext.trans ?_ (by assumption))))) (by exact hk.ext (by repeat (first | (with_reducible exact Ext.refl _) | (with_reducible assumption) | (with_reducible refine Ext.alloc ?_ _) | (with_reducible refine Ext.drewN ?_ _) | (with_reducible refine Ext.drew ?_) | (with_reducible refine Ext.setCell ?_ ?_ _; rotate_left; (simp only []; omega)) | (with_reducible refine Ext.trans ?_ (by assumption)))))).mono ?_; rintro e w1 ⟨rfl, hx⟩; have hc := hx.cells; have hf := hx.frozens; have hy := hx.size; (try simp at hy); have hz : w.heap.size < w1.heap.size ∧ w.heap.size + 1 < w1.heap.size := (by omega)))
    refine' bodyPost_ret (v := _) ?_ rfl ?_
    rotate_left
    · (simp only [results, Try.results153]
       go_simp
       rfl)
    exact ⟨rfl, (by repeat (first | (with_reducible exact Ext.refl _) | (with_reducible assumption) | (with_reducible refine Ext.alloc ?_ _) | (with_reducible refine Ext.drewN ?_ _) | (with_reducible refine Ext.drew ?_) | (with_reducible refine Ext.setCell ?_ ?_ _; rotate_left; (simp only []; omega)) | (with_reducible refine Ext.trans ?_ (by assumption))))⟩
  | true =>
    have c2 := fun W => spec_inRange now g.now 10000 W
    have hi : inR now g.now 10000 = false := by simpa [hg] using hv
    rw [hg] at c1
    rw [hi] at c2
    go_enter Try.func153, Try.ntmps153
    go_wp2_with (first | (go_at_call 89; refine (c1 _ (by exact ht.ext (by repeat (first | (with_reducible exact Ext.refl _) | (with_reducible assumption) | (with_reducible refine Ext.alloc ?_ _) | (with_reducible refine Ext.drewN ?_ _) | (with_reducible refine Ext.drew ?_) | (with_reducible refine Ext.setCell ?_ ?_ _; rotate_left; (simp only []; omega)) | (with_reducible refine Ext.trans ?_ (by assumption))))) (by exact hk.ext (by repeat (first | (with_reducible exact Ext.refl _) | (with_reducible assumption) | (with_reducible refine Ext.alloc ?_ _) | (with_reducible refine Ext.drewN ?_ _) | (with_reducible refine Ext.drew ?_) | (with_reducible refine Ext.setCell ?_ ?_ _; rotate_left; (simp only []; omega)) | (with_reducible refine Ext.trans ?_ (by assumption)))))).mono ?_; rintro e w1 ⟨rfl, hx⟩; have hc := hx.cells; have hf := hx.frozens; have hy := hx.size; (try simp at hy); have hz : w.heap.size < w1.heap.size ∧ w.heap.size + 1 < w1.heap.size := (by omega)) | (go_at_call 144; refine (c2 _).mono ?_; rintro e w' ⟨rfl, rfl⟩))
    refine' bodyPost_ret (v := _) ?_ rfl ?_
    rotate_left
    · (simp only [results, Try.results153]
       go_simp
       rfl)
    exact ⟨rfl, (by repeat (first | (with_reducible exact Ext.refl _) | (with_reducible assumption) | (with_reducible refine Ext.alloc ?_ _) | (with_reducible refine Ext.drewN ?_ _) | (with_reducible refine Ext.drew ?_) | (with_reducible refine Ext.setCell ?_ ?_ _; rotate_left; (simp only []; omega)) | (with_reducible refine Ext.trans ?_ (by assumption))))⟩
set_option maxHeartbeats 1000000 in
theorem spec_TickGate_ok (g : GateD) (now : Int) (ta : Option Addr) (tn tc : Nat) (ka : Option Addr) (kn kc : Nat) (w : World) (ht : Sl encM 4 w ta tn tc g.table) (hk : Sl encC 3 w ka kn kc g.cons) (hv : (validGate g && inR now g.now 10000) = true) :
    Calls Try.prog 153 #[.agg #[.int .i64 g.net.base, .int .i64 g.net.bits, .int .i64 g.out, .slice ta tn tc, .slice ka kn kc, .int .i64 g.filter, .int .i64 g.hold, .int .i64 g.now], .int .i64 now] w fun e w' => ∃ sa sn sc qa qn qc, e = .returned (.tuple #[.agg #[.int .i64 (tick g now).net.base, .int .i64 (tick g now).net.bits, .int .i64 (tick g now).out, .slice sa sn sc, .slice qa qn qc, .int .i64 (tick g now).filter, .int .i64 (tick g now).hold, .int .i64 (tick g now).now], .bool true]) ∧ Ow 89 encM 4 w.heap.size w' sa sn sc (tick g now).table ∧
      Ow 47 encC 3 w.heap.size w' qa qn qc (tick g now).cons ∧ Ext w w' := by
  have c1 := fun W h1 h2 => spec_validGate g ta tn tc ka kn kc W h1 h2
  have c2 := fun W => spec_inRange now g.now 10000 W
  simp only [Bool.and_eq_true] at hv
  rw [hv.1] at c1
  rw [hv.2] at c2
  have hg := Lib.hid (validGate_iff.1 hv.1)
  have h0 := (inR_iff.1 hv.2).1
  have h1 := (inR_iff.1 hv.2).2
  obtain ⟨G, hG⟩ : ∃ G, G = tick g now := ⟨_, rfl⟩
  go_enter Try.func153, Try.ntmps153
  go_wp2_with fail
  refine (c1 _ (by exact ht.ext (by repeat (first | (with_reducible exact Ext.refl _) | (with_reducible assumption) | (with_reducible refine Ext.alloc ?_ _) | (with_reducible refine Ext.drewN ?_ _) | (with_reducible refine Ext.drew ?_) | (with_reducible refine Ext.setCell ?_ ?_ _; rotate_left; (simp only []; omega)) | (with_reducible refine Ext.trans ?_ (by assumption))))) (by exact hk.ext (by repeat (first | (with_reducible exact Ext.refl _) | (with_reducible assumption) | (with_reducible refine Ext.alloc ?_ _) | (with_reducible refine Ext.drewN ?_ _) | (with_reducible refine Ext.drew ?_) | (with_reducible refine Ext.setCell ?_ ?_ _; rotate_left; (simp only []; omega)) | (with_reducible refine Ext.trans ?_ (by assumption)))))).mono ?_
  rintro e w1 ⟨rfl, hx1⟩
  have hy1 := hx1.size
  (try simp at hy1)
  have eW1 := useE (fun (h : Ext _ w1) => ht.ext h) (by repeat (first | (with_reducible exact Ext.refl _) | (with_reducible assumption) | (with_reducible refine Ext.alloc ?_ _) | (with_reducible refine Ext.drewN ?_ _) | (with_reducible refine Ext.drew ?_) | (with_reducible refine Ext.setCell ?_ ?_ _; rotate_left; (simp only []; omega)) | (with_reducible refine Ext.trans ?_ (by assumption))))
  replace ht := ht.ext eW1
  replace hk := hk.ext eW1
  have BG : Blk w1 w.heap.size 28 (#[.int .i64 g.net.base, .int .i64 g.net.bits, .int .i64 g.out, .slice ta tn tc, .slice ka kn kc, .int .i64 g.filter, .int .i64 g.hold, .int .i64 g.now]) := by refine Blk.ext ?_ hx1; exact (by repeat (first | (with_reducible assumption) | (with_reducible exact Blk.new _ _ _) | exact Blk.newAt _ _ _ (by simp) | (with_reducible refine Blk.alloc ?_ _) | (with_reducible refine Blk.drew ?_) | (with_reducible refine Blk.drewN ?_ _) | refine Blk.far ?_ (by simp only []; omega) _ | refine Blk.rext ?_ (by assumption) (by omega) | refine Blk.ext ?_ (by assumption)))
  have BR : Blk w1 (w.heap.size+1) 28 #[.int .i64 0, .int .i64 0, .int .i64 0, .slice none 0 0, .slice none 0 0, .int .i64 0, .int .i64 0, .int .i64 0] := by refine Blk.ext ?_ hx1; exact (by repeat (first | (with_reducible assumption) | (with_reducible exact Blk.new _ _ _) | exact Blk.newAt _ _ _ (by simp) | (with_reducible refine Blk.alloc ?_ _) | (with_reducible refine Blk.drew ?_) | (with_reducible refine Blk.drewN ?_ _) | refine Blk.far ?_ (by simp only []; omega) _ | refine Blk.rext ?_ (by assumption) (by omega) | refine Blk.ext ?_ (by assumption)))
  have cBG := BG.cells
  have fBG := BG.frozens
  have zBG := BG.lt
  have cBR := BR.cells
  have fBR := BR.frozens
  have zBR := BR.lt
  have X1 : Ext w w1 := (by repeat (first | (with_reducible exact Ext.refl _) | (with_reducible assumption) | (with_reducible refine Ext.alloc ?_ _) | (with_reducible refine Ext.drewN ?_ _) | (with_reducible refine Ext.drew ?_) | (with_reducible refine Ext.setCell ?_ ?_ _; rotate_left; (simp only []; omega)) | (with_reducible refine Ext.trans ?_ (by assumption))))
  go_wp2_with (go_at_call 144; refine (c2 _).mono ?_; rintro e w' ⟨rfl, rfl⟩)
  refine (spec_tick g now ta tn tc ka kn kc _ (by exact ht.ext (by repeat (first | (with_reducible exact Ext.refl _) | (with_reducible assumption) | (with_reducible refine Ext.alloc ?_ _) | (with_reducible refine Ext.drewN ?_ _) | (with_reducible refine Ext.drew ?_) | (with_reducible refine Ext.setCell ?_ ?_ _; rotate_left; (simp only []; omega)) | (with_reducible refine Ext.trans ?_ (by assumption))))) (by exact hk.ext (by repeat (first | (with_reducible exact Ext.refl _) | (with_reducible assumption) | (with_reducible refine Ext.alloc ?_ _) | (with_reducible refine Ext.drewN ?_ _) | (with_reducible refine Ext.drew ?_) | (with_reducible refine Ext.setCell ?_ ?_ _; rotate_left; (simp only []; omega)) | (with_reducible refine Ext.trans ?_ (by assumption))))) hg.out h0 h1).mono ?_
  rintro e w3 ⟨sa, sn, sc, qa, qn, qc, rfl, OM, OC, hx3⟩
  have hy3 := hx3.size
  have lM := OM.lt
  have lC := OC.lt
  (try simp at hy3)
  have X3 : Ext w w3 := (by repeat (first | (with_reducible exact Ext.refl _) | (with_reducible assumption) | (with_reducible refine Ext.alloc ?_ _) | (with_reducible refine Ext.drewN ?_ _) | (with_reducible refine Ext.drew ?_) | (with_reducible refine Ext.setCell ?_ ?_ _; rotate_left; (simp only []; omega)) | (with_reducible refine Ext.trans ?_ (by assumption))))
  replace BR := BR.ext (show Ext w1 w3 from (by repeat (first | (with_reducible exact Ext.refl _) | (with_reducible assumption) | (with_reducible refine Ext.alloc ?_ _) | (with_reducible refine Ext.drewN ?_ _) | (with_reducible refine Ext.drew ?_) | (with_reducible refine Ext.setCell ?_ ?_ _; rotate_left; (simp only []; omega)) | (with_reducible refine Ext.trans ?_ (by assumption)))))
  clear cBR cBG fBR fBG zBR
  have cBR := BR.cells
  have fBR := BR.frozens
  have zBR := BR.lt
  have zw : w.heap.size + 1 < w1.heap.size := by (try simp at hy1); omega
  go_wp2
  refine' bodyPost_ret (v := _) ?_ rfl ?_
  rotate_left
  · (simp only [results, Try.results153]
     go_simp
     rfl)
  refine ⟨sa, sn, sc, qa, qn, qc, rfl, ?_, ?_, (by repeat (first | (with_reducible exact Ext.refl _) | (with_reducible assumption) | (with_reducible refine Ext.alloc ?_ _) | (with_reducible refine Ext.drewN ?_ _) | (with_reducible refine Ext.drew ?_) | (with_reducible refine Ext.setCell ?_ ?_ _; rotate_left; (simp only []; omega)) | (with_reducible refine Ext.trans ?_ (by assumption))))⟩
  · refine Ow.rebase (base := w1.heap.size) ?_ (by omega)
    repeat (refine Ow.setC ?_ (fun x e => by have := (lM x e).1; simp only []; (try simp at this); omega) _)
    exact OM
  · refine Ow.rebase (base := w1.heap.size) ?_ (by omega)
    repeat (refine Ow.setC ?_ (fun x e => by have := (lC x e).1; simp only []; (try simp at this); omega) _)
    exact OC
end Go.Proofs.Ytppdcglnopoocaa
