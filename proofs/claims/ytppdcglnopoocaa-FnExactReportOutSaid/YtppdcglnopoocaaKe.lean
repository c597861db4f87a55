/- The words, laws and contracts that the claims of this seat share: group e. No condition. -/
import Derived.Test.YtppdcglnopoocaaKa
/- Contracts of the reader of codes: newReader, pick, one. -/
namespace Go.Proofs.Ytppdcglnopoocaa
set_option linter.unusedVariables false
set_option linter.unusedSimpArgs false
open Go.RowKit

/-- Block B is a reader that has read at most m numbers; it and its bytes lie below block n0. -/
structure Rd (n0 : Nat) (w : World) (B : Nat) (m : Int) : Prop where
  lt : B < n0
  le : n0 ≤ w.heap.size
  ex : ∃ p a n c zs, 0 ≤ p ∧ p ≤ m ∧ w.heap[B]? = some (.cells #[.slice a n c, .int .i64 p] 123 (0, 0)) ∧ Sl encU 1 w a n c zs ∧ (∀ z ∈ zs, 0 ≤ z ∧ z ≤ 255) ∧ n ≤ 2000 ∧
    (0 < n → ∀ x, a = some x → x.block < n0 ∧ x.block ≠ B)

theorem Rd.mono {n0 : Nat} {w : World} {B : Nat} {m m' : Int} (h : Rd n0 w B m) (hm : m ≤ m') : Rd n0 w B m' := by
  obtain ⟨h1, h2, p, a, n, c, zs, h3, h4, r⟩ := h
  exact ⟨h1, h2, p, a, n, c, zs, h3, by omega, r⟩
theorem Rd.keep {n0 : Nat} {w w' : World} {B : Nat} {m : Int} (h : Rd n0 w B m) (hs : w.heap.size ≤ w'.heap.size) (hb : ∀ k, k < n0 → w'.heap[k]? = w.heap[k]?) : Rd n0 w' B m := by
  obtain ⟨h1, h2, p, a, n, c, zs, h3, h4, h5, h6, h7, h8, h9⟩ := h
  refine ⟨h1, by omega, p, a, n, c, zs, h3, h4, (hb B h1).trans h5, h6.keep hs ?_, h7, h8, h9⟩
  intro b off hn e _
  exact hb b (h9 hn _ e).1
theorem Rd.ext {n0 : Nat} {w w' : World} {B : Nat} {m : Int} (h : Rd n0 w B m) (hx : Ext w w') : Rd n0 w' B m := h.keep hx.size fun k hk => hx.block k (by have := h.le; omega)
theorem Rd.alloc {n0 : Nat} {w : World} {B : Nat} {m : Int} (h : Rd n0 w B m) (o : Obj) : Rd n0 (w.alloc o) B m := h.ext ((Ext.refl w).alloc o)
theorem Rd.drewN {n0 : Nat} {w : World} {B : Nat} {m : Int} (h : Rd n0 w B m) (k : Nat) : Rd n0 (w.drewN k) B m := h.ext ((Ext.refl w).drewN k)
theorem Rd.drew {n0 : Nat} {w : World} {B : Nat} {m : Int} (h : Rd n0 w B m) : Rd n0 w.drew B m := h.drewN 1
theorem Rd.setCell {n0 : Nat} {w : World} {B : Nat} {m : Int} (h : Rd n0 w B m) {p : Addr} (hp : n0 ≤ p.block) (u : Value) : Rd n0 (w.setCell p u) B m :=
  h.keep (by simp [World.setCell]) fun k hk => Below.heap_setCell w p u k (by omega)

/-- Below n0 nothing has turned. -/
structure Since (n0 : Nat) (w w' : World) : Prop where
  le : n0 ≤ w.heap.size
  size : w.heap.size ≤ w'.heap.size
  block : ∀ k, k < n0 → w'.heap[k]? = w.heap[k]?
theorem Since.refl {n0 : Nat} {w : World} (h : n0 ≤ w.heap.size) : Since n0 w w := ⟨h, Nat.le_refl _, fun _ _ => rfl⟩
theorem Since.ext {n0 : Nat} {a b c : World} (h : Since n0 a b) (hx : Ext b c) : Since n0 a c :=
  ⟨h.le, Nat.le_trans h.size hx.size, fun k hk => (hx.block k (by have := h.le; have := h.size; omega)).trans (h.block k hk)⟩
theorem Since.alloc {n0 : Nat} {a b : World} (h : Since n0 a b) (o : Obj) : Since n0 a (b.alloc o) := h.ext ((Ext.refl b).alloc o)
theorem Since.drewN {n0 : Nat} {a b : World} (h : Since n0 a b) (k : Nat) : Since n0 a (b.drewN k) := h.ext ((Ext.refl b).drewN k)
theorem Since.drew {n0 : Nat} {a b : World} (h : Since n0 a b) : Since n0 a b.drew := h.drewN 1
theorem Since.setCell {n0 : Nat} {a b : World} (h : Since n0 a b) {p : Addr} (hp : n0 ≤ p.block) (u : Value) : Since n0 a (b.setCell p u) :=
  ⟨h.le, Nat.le_trans h.size (by simp [World.setCell]), fun k hk => (Below.heap_setCell b p u k (by omega)).trans (h.block k hk)⟩
theorem Rd.to {n0 : Nat} {w w' : World} {B : Nat} {m : Int} (h : Rd n0 w B m) (hs : Since n0 w w') : Rd n0 w' B m := h.keep hs.size hs.block

theorem Sl.bytes {w : World} {a : Option Addr} {n c : Nat} {L : List Int} (h : Sl encU 1 w a n c L) :
    (n = 0 ∧ L = []) ∨ (0 < n ∧ ∃ b off, a = some ⟨b, off, none⟩ ∧ b < w.heap.size ∧ ∀ i : Nat, i < n → w.cell? ⟨b, off + i, none⟩ = some (.int .u8 (nth L i))) := by
  rcases h.form with h0 | ⟨h0, b, off, ha, hb, hc⟩
  · exact .inl h0
  · refine .inr ⟨h0, b, off, ha, hb, fun i hi => ?_⟩
    have := hc i _ (nth_some (by rw [h.len]; exact hi)) 0 (.int .u8 (nth L i)) rfl
    simpa using this

theorem xor_nonneg {a b : Int} (ha : 0 ≤ a) (ha' : a < 9223372036854775808) (hb : 0 ≤ b) (hb' : b < 9223372036854775808) : 0 ≤ bits .xor .i64 a b := by
  obtain ⟨x, rfl⟩ := Int.eq_ofNat_of_zero_le ha
  obtain ⟨y, rfl⟩ := Int.eq_ofNat_of_zero_le hb
  have hx : x ^^^ y < 2 ^ 63 := Nat.xor_lt_two_pow (by omega) (by omega)
  have e1 : (BitVec.ofInt 64 (x : Int)).toNat = x := by rw [BitVec.ofInt_natCast, BitVec.toNat_ofNat]; exact Nat.mod_eq_of_lt (by omega)
  have e2 : (BitVec.ofInt 64 (y : Int)).toNat = y := by rw [BitVec.ofInt_natCast, BitVec.toNat_ofNat]; exact Nat.mod_eq_of_lt (by omega)
  show 0 ≤ IntKind.i64.wrap ((BitVec.ofInt 64 (x : Int) ^^^ BitVec.ofInt 64 (y : Int)).toNat : Int)
  rw [BitVec.toNat_xor, e1, e2, IntKind.wrap_i64]
  omega
theorem pick_any (n0 B : Nat) (m n : Int) (w : World) (hr : Rd n0 w B m) (hm : m + 1 ≤ 1000000) (h1 : 1 ≤ n) (hn : n ≤ 1000000) :
    Calls Try.prog 74 #[.pointer (some ⟨B, 0, none⟩), .int .i64 n] w fun e w' => ∃ x, e = .returned (.int .i64 x) ∧ 0 ≤ x ∧ x < n ∧ Rd n0 w' B (m + 1) ∧ RExt B w w' := by
  obtain ⟨hB, hle, p, a, l, c, zs, hp0, hpm, hblk, hs, hz, hl, hne⟩ := hr
  have hBw : B < w.heap.size := by omega
  have hc0 : w.cell? ⟨B, 0, none⟩ = some (.slice a l c) := by rw [cell_of_row w B 0 _ _ _ hblk]; rfl
  have hc1 : w.cell? ⟨B, 1, none⟩ = some (.int .i64 p) := by rw [cell_of_row w B 1 _ _ _ hblk]; rfl
  have hf1 : w.frozen? ⟨B, 1, none⟩ = false := frozen_of_row w B 1 _ _ hblk
  have hc1' : ∀ u, (w.setCell ⟨B, 1, none⟩ u).cell? ⟨B, 0, none⟩ = some (.slice a l c) := by intro u; rw [World.cell?_setCell_other w _ _ _ (by simp)]; exact hc0
  have fin : ∀ x : Int, Rd n0 (w.setCell ⟨B, 1, none⟩ (.int .i64 (p + 1))) B (m + 1) := by
    intro _
    refine ⟨hB, by simp [World.setCell]; omega, p + 1, a, l, c, zs, by omega, by omega, ?_, ?_, hz, hl, hne⟩
    · have := heap_setCell_same w B 1 _ _ (.int .i64 (p + 1)) hblk
      simpa using this
    · exact hs.keep (by simp [World.setCell]) fun b off hn e _ => Below.heap_setCell w _ _ b (by have := (hne hn _ e).2; simpa using this)
  have hx : RExt B w (w.setCell ⟨B, 1, none⟩ (.int .i64 (p + 1))) := (RExt.refl B w).setCell (.inl rfl) _
  have FX := Lib.hid (And.intro (fin 0) hx)
  have hle2 := hs.le
  have hmax := hs.max
  clear fin hx hblk
  have HNE := Lib.hid (fun (h0 : 0 < l) x (h : a = some x) => (hne h0 x h).2)
  rcases hs.bytes with ⟨h0, hL⟩ | ⟨h0, b, off, ha, hb, hc⟩
  · subst h0
    clear hs hL hz hne
    have d1 : decide (n < 1) = false := by simp; omega
    go_enter Try.func74, Try.ntmps74
    go_wp2
    go_ret
    exact ⟨0, by simp, by omega, by omega, FX.out.1, FX.out.2⟩
  · subst ha
    have hz' : ∀ i : Nat, i < l → 0 ≤ nth zs i ∧ nth zs i ≤ 255 := fun i hi => hz _ (nth_mem (by rw [hs.len]; exact hi))
    clear hs hz hne
    have hcs : ∀ u, ∀ i : Nat, i < l → (w.setCell ⟨B, 1, none⟩ u).cell? ⟨b, off + i, none⟩ = some (.int .u8 (nth zs i)) := by
      intro u i hi
      rw [World.cell?_setCell_other w _ _ _ (by intro e; injection e with e1 _; exact HNE.out h0 _ rfl e1.symm)]
      exact hc i hi
    have d1 : decide (n < 1) = false := by simp; omega
    by_cases hlt : p < l
    · obtain ⟨q, rfl⟩ := Int.eq_ofNat_of_zero_le hp0
      have hq : q < l := by omega
      have hzq := hz' q hq
      have hck := fun u => hcs u q hq
      have g0 : 0 ≤ nth zs q := hzq.1
      have g1 : nth zs q ≤ 255 := hzq.2
      have g2 : ¬ n = 0 := by omega
      have g3 : (nth zs q).tmod n = nth zs q % n := Int.tmod_eq_emod_of_nonneg g0
      have g4 : 0 ≤ nth zs q % n := Int.emod_nonneg _ g2
      have g5 : nth zs q % n < n := Int.emod_lt_of_pos _ (by omega)
      clear hz' hcs hc hzq
      have G3 := Lib.hid g3
      clear g3
      go_enter Try.func74, Try.ntmps74
      go_wp2
      go_ret
      exact ⟨_, rfl, g4, g5, FX.out.1, FX.out.2⟩
    · obtain ⟨q, rfl⟩ := Int.eq_ofNat_of_zero_le hp0
      have hq : q ≤ 1000000 := by omega
      have hl0 : ¬ (l : Int) = 0 := by omega
      have hl1 : ¬ l = 0 := by omega
      obtain ⟨i1, hi1, t1⟩ : ∃ i : Nat, i < l ∧ ((q : Int)).tmod (l : Int) = (i : Int) := ⟨q % l, Nat.mod_lt _ h0, by rw [Int.tmod_eq_emod_of_nonneg (by omega)]; rfl⟩
      obtain ⟨i2, hi2, t2⟩ : ∃ i : Nat, i < l ∧ ((q : Int) * 7 + 3).tmod (l : Int) = (i : Int) := ⟨(q * 7 + 3) % l, Nat.mod_lt _ h0, by rw [Int.tmod_eq_emod_of_nonneg (by omega)]; rfl⟩
      obtain ⟨d, hd, t3⟩ : ∃ d : Nat, d ≤ q ∧ ((q : Int)).tdiv (l : Int) = (d : Int) := ⟨q / l, Nat.div_le_self _ _, by rw [Int.tdiv_eq_ediv_of_nonneg (by omega)]; rfl⟩
      have k1 := fun u => hcs u i1 hi1
      have k2 := fun u => hcs u i2 hi2
      obtain ⟨z1, hz1, a1, b1⟩ : ∃ z, nth zs i1 = z ∧ 0 ≤ z ∧ z ≤ 255 := ⟨_, rfl, hz' i1 hi1⟩
      obtain ⟨z2, hz2, a2, b2⟩ : ∃ z, nth zs i2 = z ∧ 0 ≤ z ∧ z ≤ 255 := ⟨_, rfl, hz' i2 hi2⟩
      simp only [hz1, hz2] at k1 k2
      clear hz' hcs hc hz1 hz2
      have r1 : IntKind.i64.wrap z1 = z1 := IntWalk.i64_in _ (by omega)
      have r2 : IntKind.i64.wrap z2 = z2 := IntWalk.i64_in _ (by omega)
      have r3 : IntKind.i64.wrap (d : Int) = (d : Int) := IntWalk.i64_in _ (by omega)
      have m1 : IntKind.i64.wrap ((q : Int) * 7) = (q : Int) * 7 := IntWalk.i64_in _ (by omega)
      have m2 : IntKind.i64.wrap ((q : Int) * 7 + 3) = (q : Int) * 7 + 3 := IntWalk.i64_in _ (by omega)
      have m3 : IntKind.i64.wrap (z1 * 131) = z1 * 131 := IntWalk.i64_in _ (by omega)
      have m4 : IntKind.i64.wrap (z2 * 1117) = z2 * 1117 := IntWalk.i64_in _ (by omega)
      have m5 : IntKind.i64.wrap (z1 * 131 + z2 * 1117) = z1 * 131 + z2 * 1117 := IntWalk.i64_in _ (by omega)
      have m6 : IntKind.i64.wrap ((q : Int) * 29) = (q : Int) * 29 := IntWalk.i64_in _ (by omega)
      have m7 : IntKind.i64.wrap (z1 * 131 + z2 * 1117 + (q : Int) * 29) = z1 * 131 + z2 * 1117 + (q : Int) * 29 := IntWalk.i64_in _ (by omega)
      have m8 : IntKind.i64.wrap ((d : Int) * 53) = (d : Int) * 53 := IntWalk.i64_in _ (by omega)
      have m9 : IntKind.i64.wrap (z1 * 131 + z2 * 1117 + (q : Int) * 29 + (d : Int) * 53) = z1 * 131 + z2 * 1117 + (q : Int) * 29 + (d : Int) * 53 := IntWalk.i64_in _ (by omega)
      have c1 : (0 : Int) ≤ (i1 : Int) := by omega
      have c2 : (i1 : Int) < (l : Int) := by omega
      have c3 : (0 : Int) ≤ (i2 : Int) := by omega
      have c4 : (i2 : Int) < (l : Int) := by omega
      go_enter Try.func74, Try.ntmps74
      go_wp2
      refine wp_region_ext (by kernel_rfl) (by kernel_rfl) ?_
      repeat' (first
        | (refine ChL.skip (by rfl) ?_
           (try simp only [Act.put, List.setIfInBounds_toArray, List.set_cons_zero, List.set_cons_succ]))
        | (refine' ChL.val (v := _) (by rfl) ?_ ?_
           rotate_left
           · (intro wS hS
              have hcS := Ext.cells hS
              go_simp
              with_reducible rfl)
           (try simp only [Act.put, List.setIfInBounds_toArray, List.set_cons_zero, List.set_cons_succ]))
        | (refine' ChL.call (v := _) (f := _) (args := _) (by rfl) ?_ ?_ ?_
           rotate_left 3
           · (intro wS
              go_simp
              (constructor <;> rfl))
           · (intro wS hS
              first | fail)
           (try simp only [Act.put, List.setIfInBounds_toArray, List.set_cons_zero, List.set_cons_succ]))
        | (refine ChL.nil ?_)
        | (refine' ChL.guard (x := _) ?_ ?_ ?_
           rotate_left
           · (go_simp
              rfl)
           all_goals
             intro hg
             simp only [hg]))
      obtain ⟨X, hX, X0, X1⟩ : ∃ X, z1 * 131 + z2 * 1117 + (q : Int) * 29 + (d : Int) * 53 = X ∧ 0 ≤ X ∧ X ≤ 100000000 := ⟨_, rfl, by omega, by omega⟩
      rw [hX]
      intro w' hw'
      clear t1 t2 t3 m1 m2 m3 m4 m5 m6 m7 m8 m9 r1 r2 r3 hX k1 k2
      go_wp2
      go_ret
      have hX0 := xor_nonneg X0 (by omega) (show 0 ≤ X / 64 by omega) (by omega)
      refine ⟨_, rfl, ?_, ?_, FX.out.1.ext hw', FX.out.2.ext hw'⟩
      · rw [Int.tmod_eq_emod_of_nonneg hX0]; exact Int.emod_nonneg _ (by omega)
      · rw [Int.tmod_eq_emod_of_nonneg hX0]; exact Int.emod_lt_of_pos _ (by omega)
theorem newReader_any (a : Option Addr) (n c : Nat) (zs : List Int) (w : World) (hs : Sl encU 1 w a n c zs) (hz : ∀ z ∈ zs, 0 ≤ z ∧ z ≤ 255) :
    Calls Try.prog 54 #[.slice a n c] w fun e w' => ∃ B, e = .returned (.pointer (some ⟨B, 0, none⟩)) ∧ w.heap.size ≤ B ∧ Rd w'.heap.size w' B 0 ∧ Ext w w' := by
  have hle := hs.le
  have hmax := hs.max
  have hb : 0 < n → ∀ x, a = some x → x.block < w.heap.size := fun h0 x hx => by
    obtain ⟨b, off, e, hb, _⟩ := hs.at_ h0
    rw [e] at hx
    injection hx with hx
    subst hx
    exact hb
  by_cases hn : n ≤ 2000
  · go_enter Try.func54, Try.ntmps54
    go_wp2
    go_ret
    refine ⟨_, rfl, by simp, ⟨by simp, by simp, 0, a, n, c, zs, by omega, by omega, ?_, hs.ext (by repeat (first | (with_reducible exact Ext.refl _) | (with_reducible assumption) | (with_reducible refine Ext.alloc ?_ _) | (with_reducible refine Ext.drewN ?_ _) | (with_reducible refine Ext.drew ?_) | (with_reducible refine Ext.setCell ?_ ?_ _; rotate_left; (simp only []; omega)) | (with_reducible refine Ext.trans ?_ (by assumption)))), hz, hn, fun h0 x hx => ?_⟩, (by repeat (first | (with_reducible exact Ext.refl _) | (with_reducible assumption) | (with_reducible refine Ext.alloc ?_ _) | (with_reducible refine Ext.drewN ?_ _) | (with_reducible refine Ext.drew ?_) | (with_reducible refine Ext.setCell ?_ ?_ _; rotate_left; (simp only []; omega)) | (with_reducible refine Ext.trans ?_ (by assumption))))⟩
    · simpa using heap_alloc_new w _
    · have := hb h0 x hx
      refine ⟨by simp; omega, by simp; omega⟩
  · go_enter Try.func54, Try.ntmps54
    go_wp2
    go_ret
    refine ⟨_, rfl, by simp, ⟨by simp, by simp, 0, a, 2000, c, zs.take 2000, by omega, by omega, ?_, (hs.take (by omega) (by omega) (Nat.le_refl _)).ext (by repeat (first | (with_reducible exact Ext.refl _) | (with_reducible assumption) | (with_reducible refine Ext.alloc ?_ _) | (with_reducible refine Ext.drewN ?_ _) | (with_reducible refine Ext.drew ?_) | (with_reducible refine Ext.setCell ?_ ?_ _; rotate_left; (simp only []; omega)) | (with_reducible refine Ext.trans ?_ (by assumption)))), fun z h => hz z (List.mem_of_mem_take h), by omega, fun _ x hx => ?_⟩, (by repeat (first | (with_reducible exact Ext.refl _) | (with_reducible assumption) | (with_reducible refine Ext.alloc ?_ _) | (with_reducible refine Ext.drewN ?_ _) | (with_reducible refine Ext.drew ?_) | (with_reducible refine Ext.setCell ?_ ?_ _; rotate_left; (simp only []; omega)) | (with_reducible refine Ext.trans ?_ (by assumption))))⟩
    · simpa using heap_alloc_new w _
    · have := hb (by omega) x hx
      refine ⟨by simp; omega, by simp; omega⟩
/-- A slice literal of integers, as it stands. -/
theorem Sl.lits (w : World) (T : TypeId) (cs : Array Value) {b n : Nat} (hb : b = w.heap.size) (hn : cs.size = n) (hn' : n ≤ 1000) (hc : ∀ v ∈ cs.toList, v = .int .i64 (intOf v)) :
    Sl encI 1 (w.alloc (.cells cs T)) (some ⟨b, 0, none⟩) n n (cs.toList.map intOf) := by
  refine ⟨by simp [hn], Nat.le_refl _, by omega, (fun e => by cases e), fun _ => ⟨b, 0, rfl, by simp [hb], fun i x hx j u hu => ?_⟩⟩
  have hj : j = 0 := by
    have := (List.getElem?_eq_some_iff.1 hu).1
    simp [encI] at this
    exact this
  subst hj
  simp [encI] at hu
  subst hu
  rw [World.cell?_alloc_at _ _ _ _ hb]
  rw [List.getElem?_map] at hx
  obtain ⟨v, hv, rfl⟩ := Option.map_eq_some_iff.1 hx
  have := hc v (List.mem_of_getElem? hv)
  simp only [Nat.zero_add, Nat.mul_one, Nat.add_zero]
  rw [← this]
  simpa using hv

theorem one_any (n0 B : Nat) (m : Int) (L : List Int) (a : Option Addr) (n c : Nat) (w : World) (hr : Rd n0 w B m) (hm : m + 1 ≤ 1000000) (hs : Sl encI 1 w a n c L) (hn : 0 < n) (hn' : n ≤ 1000)
    (hab : ∀ x, a = some x → x.block ≠ B) :
    Calls Try.prog 116 #[.pointer (some ⟨B, 0, none⟩), .slice a n c] w fun e w' => ∃ x, e = .returned (.int .i64 x) ∧ x ∈ L ∧ Rd n0 w' B (m + 1) ∧ RExt B w w' := by
  rcases hs.ints with ⟨h0, _⟩ | ⟨_, b, off, rfl, hb, hc⟩
  · omega
  have hle := hs.le
  have hmax := hs.max
  go_enter Try.func116, Try.ntmps116
  go_wp2_with fail
  refine (pick_any n0 B m n _ hr hm (by omega) (by omega)).mono ?_
  rintro e w1 ⟨x, rfl, hx0, hx1, hr1, hx⟩
  obtain ⟨i, rfl⟩ := Int.eq_ofNat_of_zero_le hx0
  have hi : i < n := by omega
  have hcell := ((hs.rext hx hab).ints).resolve_left (by omega)
  obtain ⟨_, b', off', he, _, hc1⟩ := hcell
  injection he with he
  injection he with e1 e2
  subst e1; subst e2
  have hci := hc1 i hi
  have hmem : nth L i ∈ L := nth_mem (by rw [hs.len]; exact hi)
  clear hc hc1 hs
  go_wp2
  go_ret
  exact ⟨_, rfl, hmem, hr1, hx⟩
theorem one_lit (n0 B : Nat) (m : Int) (T : TypeId) (cs : Array Value) (b n : Nat) (W : World) (hr : Rd n0 W B m) (hm : m + 1 ≤ 1000000) (hb : b = W.heap.size) (hn : cs.size = n) (h0 : 0 < n) (hn' : n ≤ 1000)
    (hc : ∀ v ∈ cs.toList, v = .int .i64 (intOf v)) :
    Calls Try.prog 116 #[.pointer (some ⟨B, 0, none⟩), .slice (some ⟨b, 0, none⟩) n n] (W.alloc (.cells cs T)) fun e w' => ∃ x, e = .returned (.int .i64 x) ∧ x ∈ cs.toList.map intOf ∧ Rd n0 w' B (m + 1) ∧ RExt B W w' := by
  refine (one_any n0 B m (cs.toList.map intOf) _ _ _ _ (hr.alloc _) hm (Sl.lits W T cs hb hn hn' hc) h0 hn' ?_).mono ?_
  · intro x hx
    injection hx with hx
    subst hx
    have := hr.lt
    have := hr.le
    simp only []
    omega
  · rintro e w' ⟨x, rfl, hx, h1, h2⟩
    exact ⟨x, rfl, hx, h1, ((RExt.refl B W).alloc _).trans h2⟩
end Go.Proofs.Ytppdcglnopoocaa
/- Contracts: states of flows that are held; the generators for them. -/
namespace Go.Proofs.Ytppdcglnopoocaa
set_option linter.unusedVariables false
set_option linter.unusedSimpArgs false
open Go.RowKit

def busy (s : Int) : Bool := inR s 1 5
def holdFor (s h : Int) : Int := if inR s 0 6 && inR h 1 500 then (if s = 3 then h else if s = 0 ∨ s = 6 then 1 else (h + 3) / 4) else -1

end Go.Proofs.Ytppdcglnopoocaa
/- The laws on states of flows that are held, walked: each returns true; nothing that was there turns. -/
namespace Go.Proofs.Ytppdcglnopoocaa
set_option linter.unusedVariables false
set_option linter.unusedSimpArgs false
open Go.RowKit

theorem holdFor_bd {s h : Int} (h0 : 0 ≤ h) (h1 : h ≤ 501) : -1 ≤ holdFor s h ∧ holdFor s h ≤ 501 := by
  unfold holdFor
  split
  · split
    · omega
    · split <;> omega
  · omega
/-- Bytes that came in. -/
structure Code (w : World) (a : Option Addr) (n c : Nat) : Prop where
  ex : ∃ zs, Sl encU 1 w a n c zs ∧ ∀ z ∈ zs, 0 ≤ z ∧ z ≤ 255
end Go.Proofs.Ytppdcglnopoocaa
/- Contracts of the generators: words, ends, packets. -/
namespace Go.Proofs.Ytppdcglnopoocaa
set_option linter.unusedVariables false
set_option linter.unusedSimpArgs false
open Go.RowKit

theorem someWord_any (n0 B : Nat) (m : Int) (w : World) (hr : Rd n0 w B m) (hm : m + 5 ≤ 1000000) :
    Calls Try.prog 155 #[.pointer (some ⟨B, 0, none⟩)] w fun e w' => ∃ x, e = .returned (.int .i64 x) ∧ 0 ≤ x ∧ x ≤ 65535 ∧ Rd n0 w' B (m + 5) ∧ RExt B w w' := by
  have hnw : n0 ≤ w.heap.size := hr.le
  have hBw : B < w.heap.size := (by have := hr.lt; omega)
  go_enter Try.func155, Try.ntmps155
  go_wp2_with (first | (go_at_call 74; refine (pick_any n0 B _ 250 _ (by exact hr.to (by repeat (first | (with_reducible exact Since.refl hr.le) | (with_reducible refine Since.alloc ?_ _) | (with_reducible refine Since.drew ?_) | (with_reducible refine Since.drewN ?_ _) | (with_reducible refine Since.setCell ?_ ?_ _; rotate_left; (simp only []; omega)) | (with_reducible refine Since.ext ?_ (by assumption))))) (by omega) (by omega) (by omega)).mono ?_; rintro e w1 ⟨x, rfl, hx0, hx1, hr, hx⟩; have hc := hx.cellsFrom hBw; have hf := hx.frozensFrom hBw; have hy := hx.size; (try simp at hy); have hz : w.heap.size ≤ w1.heap.size := (by omega)) | (go_at_call 116; refine (one_lit n0 B _ _ _ _ _ _ (by exact hr.to (by repeat (first | (with_reducible exact Since.refl hr.le) | (with_reducible refine Since.alloc ?_ _) | (with_reducible refine Since.drew ?_) | (with_reducible refine Since.drewN ?_ _) | (with_reducible refine Since.setCell ?_ ?_ _; rotate_left; (simp only []; omega)) | (with_reducible refine Since.ext ?_ (by assumption))))) (by omega) (by simp) (by rfl) (by omega) (by omega) (by simp [intOf])).mono ?_; rintro e w1 ⟨x, rfl, hm, hr, hx⟩; have hc := hx.cellsFrom hBw; have hf := hx.frozensFrom hBw; have hy := hx.size; (try simp at hy); have hz : w.heap.size ≤ w1.heap.size := (by omega); simp [intOf] at hm))
  go_ret
  refine ⟨_, rfl, ?_, ?_, hr.mono (by omega), (by repeat (first | (with_reducible exact RExt.refl _ _) | (with_reducible assumption) | (with_reducible refine RExt.alloc ?_ _) | (with_reducible refine RExt.drewN ?_ _) | (with_reducible refine RExt.drew ?_) | (with_reducible refine RExt.setCell ?_ (.inr ?_) _; rotate_left; (simp only []; omega)) | (with_reducible refine RExt.trans ?_ (by assumption)) | (with_reducible refine RExt.ext ?_ (by assumption))))⟩
  all_goals omega
theorem someEnd_any (n0 B : Nat) (m : Int) (w : World) (hr : Rd n0 w B m) (hm : m + 12 ≤ 1000000) :
    Calls Try.prog 154 #[.pointer (some ⟨B, 0, none⟩)] w fun e w' => ∃ x y, e = .returned (.agg #[.int .i64 x, .int .i64 y]) ∧ 0 ≤ x ∧ x ≤ 65535 ∧ 0 ≤ y ∧ y ≤ 65535 ∧ Rd n0 w' B (m + 12) ∧ RExt B w w' := by
  have hnw : n0 ≤ w.heap.size := hr.le
  have hBw : B < w.heap.size := (by have := hr.lt; omega)
  go_enter Try.func154, Try.ntmps154
  go_wp2_with (first | (go_at_call 155; refine (someWord_any n0 B _ _ (by exact hr.to (by repeat (first | (with_reducible exact Since.refl hr.le) | (with_reducible refine Since.alloc ?_ _) | (with_reducible refine Since.drew ?_) | (with_reducible refine Since.drewN ?_ _) | (with_reducible refine Since.setCell ?_ ?_ _; rotate_left; (simp only []; omega)) | (with_reducible refine Since.ext ?_ (by assumption))))) (by omega)).mono ?_; rintro e w1 ⟨x, rfl, hx0, hx1, hr, hx⟩; have hc := hx.cellsFrom hBw; have hf := hx.frozensFrom hBw; have hy := hx.size; (try simp at hy); have hz : w.heap.size < w1.heap.size := (by omega)) | (go_at_call 116; refine (one_lit n0 B _ _ _ _ _ _ (by exact hr.to (by repeat (first | (with_reducible exact Since.refl hr.le) | (with_reducible refine Since.alloc ?_ _) | (with_reducible refine Since.drew ?_) | (with_reducible refine Since.drewN ?_ _) | (with_reducible refine Since.setCell ?_ ?_ _; rotate_left; (simp only []; omega)) | (with_reducible refine Since.ext ?_ (by assumption))))) (by omega) (by simp) (by rfl) (by omega) (by omega) (by simp [intOf])).mono ?_; rintro e w1 ⟨x, rfl, hm, hr, hx⟩; have hc := hx.cellsFrom hBw; have hf := hx.frozensFrom hBw; have hy := hx.size; (try simp at hy); have hz : w.heap.size < w1.heap.size := (by omega); simp [intOf] at hm))
  refine' bodyPost_ret (v := _) ?_ rfl ?_
  rotate_left
  · (simp only [results, Try.results154]
     go_simp
     rfl)
  refine ⟨_, _, rfl, ?_, ?_, ?_, ?_, ?_, (by repeat (first | (with_reducible exact RExt.refl _ _) | (with_reducible assumption) | (with_reducible refine RExt.alloc ?_ _) | (with_reducible refine RExt.drewN ?_ _) | (with_reducible refine RExt.drew ?_) | (with_reducible refine RExt.setCell ?_ (.inr ?_) _; rotate_left; (simp only []; omega)) | (with_reducible refine RExt.trans ?_ (by assumption)) | (with_reducible refine RExt.ext ?_ (by assumption))))⟩
  all_goals (first | omega | exact (Rd.mono hr (by omega)).to (by repeat (first | (with_reducible exact Since.refl hr.le) | (with_reducible refine Since.alloc ?_ _) | (with_reducible refine Since.drew ?_) | (with_reducible refine Since.drewN ?_ _) | (with_reducible refine Since.setCell ?_ ?_ _; rotate_left; (simp only []; omega)) | (with_reducible refine Since.ext ?_ (by assumption)))))
end Go.Proofs.Ytppdcglnopoocaa
/- Contracts of the generators of gates: ends. -/
namespace Go.Proofs.Ytppdcglnopoocaa
set_option linter.unusedVariables false
set_option linter.unusedSimpArgs false
open Go.RowKit

theorem insideEnd_any (n0 B : Nat) (m : Int) (w : World) (hr : Rd n0 w B m) (hm : m + 2 ≤ 1000000) :
    Calls Try.prog 75 #[.pointer (some ⟨B, 0, none⟩)] w fun e w' => ∃ x y, e = .returned (.agg #[.int .i64 x, .int .i64 y]) ∧ 0 ≤ x ∧ x ≤ 65535 ∧ 0 ≤ y ∧ y ≤ 65535 ∧ Rd n0 w' B (m + 2) ∧ RExt B w w' := by
  have hnw : n0 ≤ w.heap.size := hr.le
  have hBw : B < w.heap.size := (by have := hr.lt; omega)
  go_enter Try.func75, Try.ntmps75
  go_wp2_with (first | (go_at_call 74; refine (pick_any n0 B _ 4 _ (by exact hr.to (by repeat (first | (with_reducible exact Since.refl hr.le) | (with_reducible refine Since.alloc ?_ _) | (with_reducible refine Since.drew ?_) | (with_reducible refine Since.drewN ?_ _) | (with_reducible refine Since.setCell ?_ ?_ _; rotate_left; (simp only []; omega)) | (with_reducible refine Since.ext ?_ (by assumption))))) (by omega) (by omega) (by omega)).mono ?_; rintro e w1 ⟨x, rfl, hx0, hx1, hr, hx⟩; have hc := hx.cellsFrom hBw; have hf := hx.frozensFrom hBw; have hy := hx.size; (try simp at hy); have hz : w.heap.size < w1.heap.size := (by omega)) | (go_at_call 116; refine (one_lit n0 B _ _ _ _ _ _ (by exact hr.to (by repeat (first | (with_reducible exact Since.refl hr.le) | (with_reducible refine Since.alloc ?_ _) | (with_reducible refine Since.drew ?_) | (with_reducible refine Since.drewN ?_ _) | (with_reducible refine Since.setCell ?_ ?_ _; rotate_left; (simp only []; omega)) | (with_reducible refine Since.ext ?_ (by assumption))))) (by omega) (by simp) (by rfl) (by omega) (by omega) (by simp [intOf])).mono ?_; rintro e w1 ⟨x, rfl, hm, hr, hx⟩; have hc := hx.cellsFrom hBw; have hf := hx.frozensFrom hBw; have hy := hx.size; (try simp at hy); have hz : w.heap.size < w1.heap.size := (by omega); simp [intOf] at hm))
  refine' bodyPost_ret (v := _) ?_ rfl ?_
  rotate_left
  · (simp only [results, Try.results75]
     go_simp
     rfl)
  refine ⟨_, _, rfl, ?_, ?_, ?_, ?_, ?_, (by repeat (first | (with_reducible exact RExt.refl _ _) | (with_reducible assumption) | (with_reducible refine RExt.alloc ?_ _) | (with_reducible refine RExt.drewN ?_ _) | (with_reducible refine RExt.drew ?_) | (with_reducible refine RExt.setCell ?_ (.inr ?_) _; rotate_left; (simp only []; omega)) | (with_reducible refine RExt.trans ?_ (by assumption)) | (with_reducible refine RExt.ext ?_ (by assumption))))⟩
  all_goals (first | omega | exact (Rd.mono hr (by omega)).to (by repeat (first | (with_reducible exact Since.refl hr.le) | (with_reducible refine Since.alloc ?_ _) | (with_reducible refine Since.drew ?_) | (with_reducible refine Since.drewN ?_ _) | (with_reducible refine Since.setCell ?_ ?_ _; rotate_left; (simp only []; omega)) | (with_reducible refine Since.ext ?_ (by assumption)))))
theorem farEnd_any (n0 B : Nat) (m : Int) (w : World) (hr : Rd n0 w B m) (hm : m + 2 ≤ 1000000) :
    Calls Try.prog 76 #[.pointer (some ⟨B, 0, none⟩)] w fun e w' => ∃ x y, e = .returned (.agg #[.int .i64 x, .int .i64 y]) ∧ 0 ≤ x ∧ x ≤ 65535 ∧ 0 ≤ y ∧ y ≤ 65535 ∧ Rd n0 w' B (m + 2) ∧ RExt B w w' := by
  have hnw : n0 ≤ w.heap.size := hr.le
  have hBw : B < w.heap.size := (by have := hr.lt; omega)
  go_enter Try.func76, Try.ntmps76
  go_wp2_with (go_at_call 116; refine (one_lit n0 B _ _ _ _ _ _ (by exact hr.to (by repeat (first | (with_reducible exact Since.refl hr.le) | (with_reducible refine Since.alloc ?_ _) | (with_reducible refine Since.drew ?_) | (with_reducible refine Since.drewN ?_ _) | (with_reducible refine Since.setCell ?_ ?_ _; rotate_left; (simp only []; omega)) | (with_reducible refine Since.ext ?_ (by assumption))))) (by omega) (by simp) (by rfl) (by omega) (by omega) (by simp [intOf])).mono ?_; rintro e w1 ⟨x, rfl, hm, hr, hx⟩; have hc := hx.cellsFrom hBw; have hf := hx.frozensFrom hBw; have hy := hx.size; (try simp at hy); have hz : w.heap.size < w1.heap.size := (by omega); simp [intOf] at hm)
  refine' bodyPost_ret (v := _) ?_ rfl ?_
  rotate_left
  · (simp only [results, Try.results76]
     go_simp
     rfl)
  refine ⟨_, _, rfl, ?_, ?_, ?_, ?_, ?_, (by repeat (first | (with_reducible exact RExt.refl _ _) | (with_reducible assumption) | (with_reducible refine RExt.alloc ?_ _) | (with_reducible refine RExt.drewN ?_ _) | (with_reducible refine RExt.drew ?_) | (with_reducible refine RExt.setCell ?_ (.inr ?_) _; rotate_left; (simp only []; omega)) | (with_reducible refine RExt.trans ?_ (by assumption)) | (with_reducible refine RExt.ext ?_ (by assumption))))⟩
  all_goals (first | omega | exact (Rd.mono hr (by omega)).to (by repeat (first | (with_reducible exact Since.refl hr.le) | (with_reducible refine Since.alloc ?_ _) | (with_reducible refine Since.drew ?_) | (with_reducible refine Since.drewN ?_ _) | (with_reducible refine Since.setCell ?_ ?_ _; rotate_left; (simp only []; omega)) | (with_reducible refine Since.ext ?_ (by assumption)))))
end Go.Proofs.Ytppdcglnopoocaa
/- Contracts of the generators of packets. -/
namespace Go.Proofs.Ytppdcglnopoocaa
set_option linter.unusedVariables false
set_option linter.unusedSimpArgs false
open Go.RowKit

set_option maxHeartbeats 1000000 in
theorem somePacket_any (n0 B : Nat) (m : Int) (w : World) (hr : Rd n0 w B m) (hm : m + 98 ≤ 1000000) :
    Calls Try.prog 117 #[.pointer (some ⟨B, 0, none⟩)] w fun e w' => ∃ k fa fp ta tp a n c L, e = .returned (.agg #[.int .i64 k, .int .i64 fa, .int .i64 fp, .int .i64 ta, .int .i64 tp, .slice a n c]) ∧
      Sl encI 1 w' a n c L ∧ validPkt ⟨k, ⟨fa, fp⟩, ⟨ta, tp⟩, L⟩ = true ∧ (∀ x, a = some x → w.heap.size ≤ x.block) ∧ Rd n0 w' B (m + 98) ∧ RExt B w w' := by
  have hnw : n0 ≤ w.heap.size := hr.le
  have hBw : B < w.heap.size := (by have := hr.lt; omega)
  go_enter Try.func117, Try.ntmps117
  go_wp2_with fail
  refine (pick_any n0 B _ 3 _ (by exact hr.to (by repeat (first | (with_reducible exact Since.refl hr.le) | (with_reducible refine Since.alloc ?_ _) | (with_reducible refine Since.drew ?_) | (with_reducible refine Since.drewN ?_ _) | (with_reducible refine Since.setCell ?_ ?_ _; rotate_left; (simp only []; omega)) | (with_reducible refine Since.ext ?_ (by assumption))))) (by omega) (by omega) (by omega)).mono ?_
  rintro e w1 ⟨kd, rfl, kd0, kd1, hr1, hx1⟩
  have hz1 := hx1.size
  simp at hz1
  go_wp2_with fail
  refine (someEnd_any n0 B _ _ (by exact hr1.to (by repeat (first | (with_reducible exact Since.refl hr1.le) | (with_reducible refine Since.alloc ?_ _) | (with_reducible refine Since.drew ?_) | (with_reducible refine Since.drewN ?_ _) | (with_reducible refine Since.setCell ?_ ?_ _; rotate_left; (simp only []; omega)) | (with_reducible refine Since.ext ?_ (by assumption))))) (by omega)).mono ?_
  rintro e w2 ⟨fa, fp, rfl, fa0, fa1, fp0, fp1, hr2, hx2⟩
  have hz2 := hx2.size
  go_wp2_with fail
  refine (someEnd_any n0 B _ _ (by exact hr2.to (by repeat (first | (with_reducible exact Since.refl hr2.le) | (with_reducible refine Since.alloc ?_ _) | (with_reducible refine Since.drew ?_) | (with_reducible refine Since.drewN ?_ _) | (with_reducible refine Since.setCell ?_ ?_ _; rotate_left; (simp only []; omega)) | (with_reducible refine Since.ext ?_ (by assumption))))) (by omega)).mono ?_
  rintro e w3 ⟨ta, tp, rfl, ta0, ta1, tp0, tp1, hr3, hx3⟩
  have hz3 := hx3.size
  go_wp2_with fail
  refine (one_lit n0 B _ _ _ _ _ _ (by exact hr3.to (by repeat (first | (with_reducible exact Since.refl hr3.le) | (with_reducible refine Since.alloc ?_ _) | (with_reducible refine Since.drew ?_) | (with_reducible refine Since.drewN ?_ _) | (with_reducible refine Since.setCell ?_ ?_ _; rotate_left; (simp only []; omega)) | (with_reducible refine Since.ext ?_ (by assumption))))) (by omega) (by simp) (by rfl) (by omega) (by omega) (by simp [intOf])).mono ?_
  rintro e w4 ⟨n, rfl, hm4, hr4, hx4⟩
  simp [intOf] at hm4
  have hz4 := hx4.size
  simp at hz4
  have hn0 : 0 ≤ n := by omega
  have hn1 : n ≤ 12 := by omega
  clear hm4
  have hBR : Blk w4 w.heap.size 33 _ := Blk.rext (Blk.alloc (Blk.alloc (Blk.rext (Blk.rext (Blk.rext (Blk.new w _ _) hx1 (by omega)) hx2 (by omega)) hx3 (by omega)) _) _) hx4 (by omega)
  have hBP : Blk w4 (w3.heap.size + 1) 33 _ := Blk.rext (Blk.newAt _ _ _ (by simp)) hx4 (by omega)
  obtain ⟨P, hP⟩ : ∃ P, P = w3.heap.size + 1 := ⟨_, rfl⟩
  have hPn : w.heap.size < P := by omega
  rw [← hP] at hBP
  have hX4 : RExt B w w4 := (by repeat (first | (with_reducible exact RExt.refl _ _) | (with_reducible assumption) | (with_reducible refine RExt.alloc ?_ _) | (with_reducible refine RExt.drewN ?_ _) | (with_reducible refine RExt.drew ?_) | (with_reducible refine RExt.setCell ?_ (.inr ?_) _; rotate_left; (simp only []; omega)) | (with_reducible refine RExt.trans ?_ (by assumption)) | (with_reducible refine RExt.ext ?_ (by assumption))))
  have hr5 := hr4.mono (show m + 1 + 12 + 12 + 1 ≤ m + 26 by omega)
  go_wp2
  rw [← hP]
  have hw3 : w.heap.size < w3.heap.size := by omega
  clear hx1 hx2 hx3 hx4 hr1 hr2 hr3 hr4 hz1 hz2 hz3 hz4 hP
  go_loopw [4] (fun i wr => ∃ (k : Nat) (a : Option Addr) (l c : Nat) (L : List Int), k ≤ 12 ∧ i = .int .i64 k ∧
      Blk wr w.heap.size 33 #[.int .i64 0, .int .i64 0, .int .i64 0, .int .i64 0, .int .i64 0, .slice none 0 0] ∧
      Blk wr P 33 #[.int .i64 kd, .int .i64 fa, .int .i64 fp, .int .i64 ta, .int .i64 tp, .slice a l c] ∧
      Sl encI 1 wr a l c L ∧ l + k ≤ 12 ∧ L.all word = true ∧ (∀ x, a = some x → w.heap.size < x.block) ∧ Rd n0 wr B (m + 26 + 6 * (12 - k)) ∧ RExt B w wr) (fun i _ => (intOf i).toNat)
  case atStart =>
    obtain ⟨q, rfl⟩ := Int.eq_ofNat_of_zero_le hn0
    exact ⟨q, _, 0, 0, [], by omega, rfl, hBR, hBP, ⟨rfl, Nat.le_refl _, by omega, (fun e => by cases e), (fun h => by omega)⟩, by omega, rfl, (fun x hx => by injection hx with hx; subst hx; simp only []; omega), hr5.mono (by omega), hX4⟩
  case round =>
    obtain ⟨k, a, l, c, L, hk, rfl, hBR, hBP, hs, hlk, hw, hfr, hr, hX⟩ := hrel
    have hsz := hX.size
    have hPl := hBP.lt
    have hBl := hBw
    have hle := hs.le
    have hmax := hs.max
    by_cases hk0 : k = 0
    · subst hk0
      have hcR := hBR.cells
      have hfR := hBR.frozens
      have hcP := hBP.cells
      go_wp2
      refine' bodyPost_ret (v := _) ?_ rfl ?_
      rotate_left
      · (simp only [results, Try.results117]
         go_simp
         rfl)
      refine ⟨kd, fa, fp, ta, tp, a, l, c, L, rfl, ?_, ?_, (fun x hx => by have := hfr x hx; omega), ?_, ?_⟩
      · repeat (refine Sl.setCell ?_ (fun y hy => by have := hfr y hy; simp only []; omega) _)
        exact hs
      · have hlen := hs.len
        simp only [validPkt, validEnd, word_iff, inR_iff, Bool.and_eq_true, decide_eq_true_eq]
        refine ⟨⟨⟨⟨?_, ?_⟩, ?_⟩, ?_⟩, hw⟩ <;> omega
      · exact (Rd.mono hr (by omega)).to (by repeat (first | (with_reducible exact Since.refl hr.le) | (with_reducible refine Since.alloc ?_ _) | (with_reducible refine Since.drew ?_) | (with_reducible refine Since.drewN ?_ _) | (with_reducible refine Since.setCell ?_ ?_ _; rotate_left; (simp only []; omega)) | (with_reducible refine Since.ext ?_ (by assumption))))
      · exact (by repeat (first | (with_reducible exact RExt.refl _ _) | (with_reducible assumption) | (with_reducible refine RExt.alloc ?_ _) | (with_reducible refine RExt.drewN ?_ _) | (with_reducible refine RExt.drew ?_) | (with_reducible refine RExt.setCell ?_ (.inr ?_) _; rotate_left; (simp only []; omega)) | (with_reducible refine RExt.trans ?_ (by assumption)) | (with_reducible refine RExt.ext ?_ (by assumption))))
    · have hkp : (0 : Int) < (k : Int) := by omega
      have hcP := hBP.cells
      go_wp2_with fail
      refine (spec_copyInts a l c L _ hs (by omega)).mono ?_
      rintro e v1 ⟨a1, c1, rfl, hown1, hy1⟩
      have hs1 := hy1.size
      clear hcP
      go_wp2_with fail
      refine (someWord_any n0 B _ _ (hr.ext hy1) (by omega)).mono ?_
      rintro e v2 ⟨x, rfl, x0, x1, hr2, hy2⟩
      have hs2 := hy2.size
      have hlt1 := hown1.lt
      have hown2 := World.ownsRow.kept hown1 hy2 (by
        cases ha : (Value.slice a1 l c1).ownBlock with
        | none => exact .inl rfl
        | some g => right; intro e; injection e with e; have := (hlt1 g ha).1; omega)
      go_wp2_with (at_builtin; refine wpList_append_sl _ rfl _ _ rfl eiI encI_len encI_one wr.heap.size (.slice a1 l c1) l (L.flatMap encI) rfl (hown2.alloc _) _ 1 1 [x] rfl (by exact Sl.lit _ _ [x] rfl) (by simp only [maxLen]; omega) (by omega) (by simp; omega) ?_; intro a3 c3 v3 hown3 hg3 hat3; have hBP3 := Blk.grown (((hBP.ext hy1).rext hy2 (by omega)).alloc _) hg3 (by intro e; have := (hlt1 P e.symm).1; omega); have hcP := hBP3.cells; have hfP := hBP3.frozens)
      have how3 : Ow 3 encI 1 wr.heap.size v3 a3 (l + 1) c3 (L ++ [x]) := Ow.of_row (by simpa using hown3) encI_len (by omega)
      have hlt3 := how3.lt
      have hX3 : RExt B w v3 := by
        have h1 : RExt B w (v2.alloc (Obj.cells #[Value.int IntKind.i64 x] 3)) := ((hX.ext hy1).trans hy2).alloc _
        refine ⟨(World.grownBy.os hg3).trans (World.grownBy.os h1), (World.grownBy.tape hg3).trans (World.grownBy.tape h1), (World.grownBy.output hg3).trans (World.grownBy.output h1), Nat.le_trans h1.size hg3.size, fun i hi hne => ?_⟩
        have hsz1 := h1.size
        exact (hg3.block i (by omega) (by intro e; have := (hlt1 i e.symm).1; omega)).trans (World.grownBy.block h1 i hi hne)
      have hr3 : Rd n0 v3 B (m + 26 + 6 * (12 - k) + 5) := by
        refine (hr2.alloc (Obj.cells #[Value.int IntKind.i64 x] 3)).keep hg3.size fun i hi => ?_
        have := hr2.le
        exact hg3.block i (by simp; omega) (by intro e; have := (hlt1 i e.symm).1; omega)
      go_roundw
      case rel =>
        refine ⟨k - 1, a3, l + 1, c3, L ++ [x], by omega, ?_, ?_, ?_, ?_, by omega, ?_, ?_, ?_, ?_⟩
        · rw [show ((k : Int) - 1) = ((k - 1 : Nat) : Int) by omega]
        · exact Blk.far (Blk.grown (((hBR.ext hy1).rext hy2 (by omega)).alloc _) hg3 (by intro e; have := (hlt1 w.heap.size e.symm).1; omega)) (by simp only []; omega) _
        · exact hBP3.set 5 _
        · exact (how3.sl encI_len).setCell (fun y hy => by have := (hlt3 y hy).1; simp only []; omega) _
        · rw [List.all_append, hw]; simp [word, inR, x0, x1]
        · intro y hy
          have := (hlt3 y hy).1
          omega
        · exact (hr3.mono (by omega)).setCell (by simp only []; omega) _
        · exact hX3.setCell (.inr (by simp only []; omega)) _
      case measure => simp [intOf]; omega
end Go.Proofs.Ytppdcglnopoocaa
/- Contracts of the generators: packets and reports that may be invalid. -/
namespace Go.Proofs.Ytppdcglnopoocaa
set_option linter.unusedVariables false
set_option linter.unusedSimpArgs false
open Go.RowKit

set_option maxRecDepth 100000 in
set_option maxHeartbeats 2000000 in
theorem anyPacket_any (n0 B : Nat) (m : Int) (w : World) (hr : Rd n0 w B m) (hm : m + 100 ≤ 1000000) :
    Calls Try.prog 73 #[.pointer (some ⟨B, 0, none⟩)] w fun e w' => ∃ k fa fp ta tp a n c L, e = .returned (.agg #[.int .i64 k, .int .i64 fa, .int .i64 fp, .int .i64 ta, .int .i64 tp, .slice a n c]) ∧
      Sl encI 1 w' a n c L ∧ n ≤ 13 ∧ (∀ x, a = some x → w.heap.size ≤ x.block) ∧ Rd n0 w' B (m + 100) ∧ RExt B w w' := by
  have hnw : n0 ≤ w.heap.size := hr.le
  have hBw : B < w.heap.size := (by have := hr.lt; omega)
  go_enter Try.func73, Try.ntmps73
  go_wp2_with fail
  refine (somePacket_any n0 B m _ (by exact hr.to (by repeat (first | (with_reducible exact Since.refl hr.le) | (with_reducible refine Since.alloc ?_ _) | (with_reducible refine Since.drew ?_) | (with_reducible refine Since.drewN ?_ _) | (with_reducible refine Since.setCell ?_ ?_ _; rotate_left; (simp only []; omega)) | (with_reducible refine Since.ext ?_ (by assumption))))) (by omega)).mono ?_
  rintro e w1 ⟨k, fa, fp, ta, tp, a, n, c, L, rfl, hs, hv, hfr, hr1, hx1⟩
  have hz1 := hx1.size
  simp at hz1
  have hB0 : Blk w1 w.heap.size 33 #[.int .i64 0, .int .i64 0, .int .i64 0, .int .i64 0, .int .i64 0, .slice none 0 0] := by refine Blk.rext ?_ hx1 (by omega); exact (by repeat (first | (with_reducible assumption) | (with_reducible exact Blk.new _ _ _) | exact Blk.newAt _ _ _ (by simp) | (with_reducible refine Blk.alloc ?_ _) | (with_reducible refine Blk.drew ?_) | (with_reducible refine Blk.drewN ?_ _) | refine Blk.far ?_ (by simp only []; omega) _ | refine Blk.rext ?_ (by assumption) (by omega) | refine Blk.ext ?_ (by assumption)))
  have hn12 : n ≤ 12 := by
    have h1 := hs.len
    simp only [validPkt, Bool.and_eq_true, decide_eq_true_eq] at hv
    omega
  have hfr1 : ∀ x, a = some x → w.heap.size < x.block := by
    intro x hx
    have h2 := hfr x hx
    simp at h2
    omega
  have hfr' : 0 < n → ∀ x, a = some x → w.heap.size < x.block ∧ x.block < w1.heap.size := fun h x hx => ⟨hfr1 x hx, hs.lt h x hx⟩
  go_wp2_with fail
  refine (pick_any n0 B _ 24 _ (by exact hr1.to (by repeat (first | (with_reducible exact Since.refl hr1.le) | (with_reducible refine Since.alloc ?_ _) | (with_reducible refine Since.drew ?_) | (with_reducible refine Since.drewN ?_ _) | (with_reducible refine Since.setCell ?_ ?_ _; rotate_left; (simp only []; omega)) | (with_reducible refine Since.ext ?_ (by assumption))))) (by omega) (by omega) (by omega)).mono ?_
  rintro e w2 ⟨d, rfl, d0, d1, hr2, hx2⟩
  have hz2 := hx2.size
  simp at hz2
  have hBR : Blk w2 w.heap.size 33 #[.int .i64 0, .int .i64 0, .int .i64 0, .int .i64 0, .int .i64 0, .slice none 0 0] := by refine Blk.rext ?_ hx2 (by omega); exact (by repeat (first | (with_reducible assumption) | (with_reducible exact Blk.new _ _ _) | exact Blk.newAt _ _ _ (by simp) | (with_reducible refine Blk.alloc ?_ _) | (with_reducible refine Blk.drew ?_) | (with_reducible refine Blk.drewN ?_ _) | refine Blk.far ?_ (by simp only []; omega) _ | refine Blk.rext ?_ (by assumption) (by omega) | refine Blk.ext ?_ (by assumption)))
  have hBP : Blk w2 w1.heap.size 33 #[.int .i64 k, .int .i64 fa, .int .i64 fp, .int .i64 ta, .int .i64 tp, .slice a n c] := by refine Blk.rext ?_ hx2 (by omega); exact (by repeat (first | (with_reducible assumption) | (with_reducible exact Blk.new _ _ _) | exact Blk.newAt _ _ _ (by simp) | (with_reducible refine Blk.alloc ?_ _) | (with_reducible refine Blk.drew ?_) | (with_reducible refine Blk.drewN ?_ _) | refine Blk.far ?_ (by simp only []; omega) _ | refine Blk.rext ?_ (by assumption) (by omega) | refine Blk.ext ?_ (by assumption)))
  have hs2 : Sl encI 1 w2 a n c L := (hs.alloc _).rextFar hx2 (fun h x hx => by have := hfr' h x hx; omega)
  have hX2 : RExt B w w2 := (by repeat (first | (with_reducible exact RExt.refl _ _) | (with_reducible assumption) | (with_reducible refine RExt.alloc ?_ _) | (with_reducible refine RExt.drewN ?_ _) | (with_reducible refine RExt.drew ?_) | (with_reducible refine RExt.setCell ?_ (.inr ?_) _; rotate_left; (simp only []; omega)) | (with_reducible refine RExt.trans ?_ (by assumption)) | (with_reducible refine RExt.ext ?_ (by assumption))))
  have hwl : w.heap.size < w2.heap.size := by omega
  have hPl : w1.heap.size < w2.heap.size := by omega
  have hB2 : B < w2.heap.size := by omega
  have hw1 : w.heap.size < w1.heap.size := by omega
  clear hx1 hx2 hr1 hz1 hz2 hs hfr hB0
  generalize w1.heap.size = P at *
  by_cases e2 : d = 2
  · subst e2
    have hcP := hBP.cells
    go_wp2_with fail
    refine (spec_copyInts a n c L _ hs2 (by omega)).mono ?_
    rintro e v1 ⟨a1, c1, rfl, hown1, hy1⟩
    have hs1 := hy1.size
    have hlt1 := hown1.lt
    clear hcP
    go_wp2_with fail
    refine (one_lit n0 B _ _ _ _ _ _ (hr2.ext hy1) (by omega) (by simp) (by rfl) (by omega) (by omega) (by simp [intOf])).mono ?_
    rintro e v2 ⟨x, rfl, _, hr3, hy2⟩
    have hs2' := hy2.size
    have hown2 := World.ownsRow.kept hown1 hy2 (by
      cases ha : (Value.slice a1 n c1).ownBlock with
      | none => exact .inl rfl
      | some g => right; intro e; injection e with e; have := (hlt1 g ha).1; omega)
    go_wp2_with (at_builtin; refine wpList_append_sl _ rfl _ _ rfl eiI encI_len encI_one w2.heap.size (.slice a1 n c1) n (L.flatMap encI) rfl (hown2.alloc _) _ 1 1 [x] rfl (by exact Sl.lit _ _ [x] rfl) (by simp only [maxLen]; omega) (by omega) (by simp; omega) ?_; intro a3 c3 v3 hown3 hg3 hat3; have hBP3 := Blk.grown (((hBP.ext hy1).rext hy2 (by omega)).alloc _) hg3 (by intro e; have := (hlt1 P e.symm).1; omega); have hcP := hBP3.cells; have hfP := hBP3.frozens; have hBR3 := Blk.grown (((hBR.ext hy1).rext hy2 (by omega)).alloc _) hg3 (by intro e; have := (hlt1 w.heap.size e.symm).1; omega); have hcR := hBR3.cells; have hfR := hBR3.frozens)
    have how3 : Ow 3 encI 1 w2.heap.size v3 a3 (n + 1) c3 (L ++ [x]) := Ow.of_row (by simpa using hown3) encI_len (by omega)
    have hlt3 := how3.lt
    have hX3 : RExt B w v3 := by
      have h1 : RExt B w (v2.alloc (Obj.cells #[Value.int IntKind.i64 x] 3)) := ((hX2.ext hy1).trans hy2).alloc _
      refine ⟨(World.grownBy.os hg3).trans (World.grownBy.os h1), (World.grownBy.tape hg3).trans (World.grownBy.tape h1), (World.grownBy.output hg3).trans (World.grownBy.output h1), Nat.le_trans h1.size hg3.size, fun i hi hne => ?_⟩
      have hsz1 := h1.size
      exact (hg3.block i (by omega) (by intro e; have := (hlt1 i e.symm).1; omega)).trans (World.grownBy.block h1 i hi hne)
    have hr3 : Rd n0 v3 B (m + 100) := by
      refine (Rd.mono (hr3.alloc (Obj.cells #[Value.int IntKind.i64 x] 3)) (by omega)).keep hg3.size fun i hi => ?_
      have := hr2.le
      exact hg3.block i (by simp; omega) (by intro e; have := (hlt1 i e.symm).1; omega)
    refine' bodyPost_ret (v := _) ?_ rfl ?_
    rotate_left
    · (simp only [results, Try.results73]
       go_simp
       rfl)
    refine ⟨k, fa, fp, ta, tp, a3, n + 1, c3, L ++ [x], rfl, ?_, by omega, (fun y hy => by have := (hlt3 y hy).1; omega), (by exact hr3.to (by repeat (first | (with_reducible exact Since.refl hr3.le) | (with_reducible refine Since.alloc ?_ _) | (with_reducible refine Since.drew ?_) | (with_reducible refine Since.drewN ?_ _) | (with_reducible refine Since.setCell ?_ ?_ _; rotate_left; (simp only []; omega)) | (with_reducible refine Since.ext ?_ (by assumption))))), (by repeat (first | (with_reducible exact RExt.refl _ _) | (with_reducible assumption) | (with_reducible refine RExt.alloc ?_ _) | (with_reducible refine RExt.drewN ?_ _) | (with_reducible refine RExt.drew ?_) | (with_reducible refine RExt.setCell ?_ (.inr ?_) _; rotate_left; (simp only []; omega)) | (with_reducible refine RExt.trans ?_ (by assumption)) | (with_reducible refine RExt.ext ?_ (by assumption))))⟩
    · repeat (refine Sl.setCell ?_ (fun y hy => by have := (hlt3 y hy).1; simp only []; omega) _)
      exact how3.sl encI_len
  · have hcP := hBP.cells
    have hfP := hBP.frozens
    have hcR := hBR.cells
    have hfR := hBR.frozens
    by_cases e0 : d = 0
    · subst e0
      go_wp2_with fail
      refine (one_lit n0 B _ _ _ _ _ _ hr2 (by omega) (by simp) (by rfl) (by omega) (by omega) (by simp [intOf])).mono ?_
      rintro e w3 ⟨z, rfl, _, hr3, hx3⟩
      have hBR3 := hBR.rext hx3 (by omega)
      have hBP3 := hBP.rext hx3 (by omega)
      have hcP3 := hBP3.cells
      have hfP3 := hBP3.frozens
      have hcR3 := hBR3.cells
      have hfR3 := hBR3.frozens
      have hy3 := hx3.size
      have hs3 := hs2.rextFar hx3 (fun h x hx => by have := hfr' h x hx; omega)
      have hX3 := hX2.trans hx3
      clear hx3 hX2
      go_wp2
      refine' bodyPost_ret (v := _) ?_ rfl ?_
      rotate_left
      · (simp only [results, Try.results73]
         go_simp
         rfl)
      refine ⟨_, _, _, _, _, a, n, c, L, rfl, ?_, by omega, (fun y hy => by have := hfr1 y hy; omega), (by exact (hr3.mono (show m + 98 + 1 + 1 ≤ m + 100 by omega)).to (by repeat (first | (with_reducible exact Since.refl (hr3.mono (show m + 98 + 1 + 1 ≤ m + 100 by omega)).le) | (with_reducible refine Since.alloc ?_ _) | (with_reducible refine Since.drew ?_) | (with_reducible refine Since.drewN ?_ _) | (with_reducible refine Since.setCell ?_ ?_ _; rotate_left; (simp only []; omega)) | (with_reducible refine Since.ext ?_ (by assumption))))), (by repeat (first | (with_reducible exact RExt.refl _ _) | (with_reducible assumption) | (with_reducible refine RExt.alloc ?_ _) | (with_reducible refine RExt.drewN ?_ _) | (with_reducible refine RExt.drew ?_) | (with_reducible refine RExt.setCell ?_ (.inr ?_) _; rotate_left; (simp only []; omega)) | (with_reducible refine RExt.trans ?_ (by assumption)) | (with_reducible refine RExt.ext ?_ (by assumption))))⟩
      repeat (refine Sl.setFar ?_ (fun h y hy => by have := hfr' h y hy; simp only []; omega) _)
      exact hs3
    by_cases e1 : d = 1
    · subst e1
      go_wp2_with fail
      refine (one_lit n0 B _ _ _ _ _ _ hr2 (by omega) (by simp) (by rfl) (by omega) (by omega) (by simp [intOf])).mono ?_
      rintro e w3 ⟨z, rfl, _, hr3, hx3⟩
      have hBR3 := hBR.rext hx3 (by omega)
      have hBP3 := hBP.rext hx3 (by omega)
      have hcP3 := hBP3.cells
      have hfP3 := hBP3.frozens
      have hcR3 := hBR3.cells
      have hfR3 := hBR3.frozens
      have hy3 := hx3.size
      have hs3 := hs2.rextFar hx3 (fun h x hx => by have := hfr' h x hx; omega)
      have hX3 := hX2.trans hx3
      clear hx3 hX2
      go_wp2
      refine' bodyPost_ret (v := _) ?_ rfl ?_
      rotate_left
      · (simp only [results, Try.results73]
         go_simp
         rfl)
      refine ⟨_, _, _, _, _, a, n, c, L, rfl, ?_, by omega, (fun y hy => by have := hfr1 y hy; omega), (by exact (hr3.mono (show m + 98 + 1 + 1 ≤ m + 100 by omega)).to (by repeat (first | (with_reducible exact Since.refl (hr3.mono (show m + 98 + 1 + 1 ≤ m + 100 by omega)).le) | (with_reducible refine Since.alloc ?_ _) | (with_reducible refine Since.drew ?_) | (with_reducible refine Since.drewN ?_ _) | (with_reducible refine Since.setCell ?_ ?_ _; rotate_left; (simp only []; omega)) | (with_reducible refine Since.ext ?_ (by assumption))))), (by repeat (first | (with_reducible exact RExt.refl _ _) | (with_reducible assumption) | (with_reducible refine RExt.alloc ?_ _) | (with_reducible refine RExt.drewN ?_ _) | (with_reducible refine RExt.drew ?_) | (with_reducible refine RExt.setCell ?_ (.inr ?_) _; rotate_left; (simp only []; omega)) | (with_reducible refine RExt.trans ?_ (by assumption)) | (with_reducible refine RExt.ext ?_ (by assumption))))⟩
      repeat (refine Sl.setFar ?_ (fun h y hy => by have := hfr' h y hy; simp only []; omega) _)
      exact hs3
    by_cases e3 : d = 3
    · subst e3
      obtain ⟨cs, hcs, hmk⟩ : ∃ cs : Array Value, cs = #[.int .i64 0, .int .i64 0, .int .i64 0, .int .i64 0, .int .i64 0, .int .i64 0, .int .i64 0, .int .i64 0, .int .i64 0, .int .i64 0, .int .i64 0, .int .i64 0, .int .i64 0] ∧ ∀ W : World, (Instr.makeSlice 31 (.int .i64 13) (.int .i64 13)).run Try.prog W = .ok (.slice (some ⟨W.heap.size, 0, none⟩) 13 13) (W.alloc (.cells cs 3)) := ⟨_, rfl, fun _ => by kernel_rfl⟩
      have hsl : ∀ (W : World) (b : Nat), b = W.heap.size → Sl encI 1 (W.alloc (.cells cs 3)) (some ⟨b, 0, none⟩) 13 13 (List.replicate 13 0) := by
        rintro W b rfl
        have h := Sl.lits W 3 cs (n := 13) rfl (by rw [hcs]; rfl) (by omega) (by rw [hcs]; simp [intOf])
        rw [show cs.toList.map intOf = List.replicate 13 0 by rw [hcs]; rfl] at h
        exact h
      clear hcs
      go_wp2
      refine' bodyPost_ret (v := _) ?_ rfl ?_
      rotate_left
      · (simp only [results, Try.results73]
         go_simp
         rfl)
      refine ⟨_, _, _, _, _, _, 13, 13, List.replicate 13 0, rfl, ?_, by omega, ?_, (by exact (hr2.mono (show m + 98 + 1 ≤ m + 100 by omega)).to (by repeat (first | (with_reducible exact Since.refl (hr2.mono (show m + 98 + 1 ≤ m + 100 by omega)).le) | (with_reducible refine Since.alloc ?_ _) | (with_reducible refine Since.drew ?_) | (with_reducible refine Since.drewN ?_ _) | (with_reducible refine Since.setCell ?_ ?_ _; rotate_left; (simp only []; omega)) | (with_reducible refine Since.ext ?_ (by assumption))))), (by repeat (first | (with_reducible exact RExt.refl _ _) | (with_reducible assumption) | (with_reducible refine RExt.alloc ?_ _) | (with_reducible refine RExt.drewN ?_ _) | (with_reducible refine RExt.drew ?_) | (with_reducible refine RExt.setCell ?_ (.inr ?_) _; rotate_left; (simp only []; omega)) | (with_reducible refine RExt.trans ?_ (by assumption)) | (with_reducible refine RExt.ext ?_ (by assumption))))⟩
      · exact hsl _ _ (by simp)
      · intro y hy
        injection hy with hy
        subst hy
        simp only []
        omega
    · go_wp2
      refine' bodyPost_ret (v := _) ?_ rfl ?_
      rotate_left
      · (simp only [results, Try.results73]
         go_simp
         rfl)
      refine ⟨_, _, _, _, _, a, n, c, L, rfl, ?_, by omega, (fun y hy => by have := hfr1 y hy; omega), (by exact (hr2.mono (show m + 98 + 1 ≤ m + 100 by omega)).to (by repeat (first | (with_reducible exact Since.refl (hr2.mono (show m + 98 + 1 ≤ m + 100 by omega)).le) | (with_reducible refine Since.alloc ?_ _) | (with_reducible refine Since.drew ?_) | (with_reducible refine Since.drewN ?_ _) | (with_reducible refine Since.setCell ?_ ?_ _; rotate_left; (simp only []; omega)) | (with_reducible refine Since.ext ?_ (by assumption))))), (by repeat (first | (with_reducible exact RExt.refl _ _) | (with_reducible assumption) | (with_reducible refine RExt.alloc ?_ _) | (with_reducible refine RExt.drewN ?_ _) | (with_reducible refine RExt.drew ?_) | (with_reducible refine RExt.setCell ?_ (.inr ?_) _; rotate_left; (simp only []; omega)) | (with_reducible refine RExt.trans ?_ (by assumption)) | (with_reducible refine RExt.ext ?_ (by assumption))))⟩
      repeat (refine Sl.setFar ?_ (fun h y hy => by have := hfr' h y hy; simp only []; omega) _)
      exact hs2
end Go.Proofs.Ytppdcglnopoocaa
/- Contracts: valid reports; the law on them. -/
namespace Go.Proofs.Ytppdcglnopoocaa
set_option linter.unusedVariables false
set_option linter.unusedSimpArgs false
open Go.RowKit

theorem impl_ValidReport (o s t kind fa fp ta tp : Int) (a : Option Addr) (n c : Nat) (L : List Int) (w : World) (hs : Sl encI 1 w a n c L) :
    Calls Try.prog 97 #[.agg #[.int .i64 o, .int .i64 s, .int .i64 t, .int .i64 kind, .int .i64 fa, .int .i64 fp, .int .i64 ta, .int .i64 tp, .slice a n c]] w fun e w' =>
      e = .returned (.bool (validRep ⟨o, s, t, ⟨kind, ⟨fa, fp⟩, ⟨ta, tp⟩, L⟩⟩)) ∧ Ext w w' := by
  rw [show validRep ⟨o, s, t, ⟨kind, ⟨fa, fp⟩, ⟨ta, tp⟩, L⟩⟩ = (inR o 0 15 && ([s, t].all word) && validPkt ⟨kind, ⟨fa, fp⟩, ⟨ta, tp⟩, L⟩) by simp [validRep, Bool.and_assoc]]
  go_enter Try.func97, Try.ntmps97
  go_wp2_with (first | (go_at_call 66; refine (impl_in _ _ _ _).mono ?_; rintro e w' ⟨rfl, rfl⟩) | (go_at_call 119; refine (impl_areWords _ _ _ [s, t] _ (by exact Sl.lit _ _ [s, t] (by simp))).mono ?_; rintro e w' ⟨rfl, rfl⟩) | (go_at_call 57; refine (impl_ValidPacket _ _ _ _ _ _ _ _ L _ (by exact hs.ext (by repeat (first | (with_reducible exact Ext.refl _) | (with_reducible assumption) | (with_reducible refine Ext.alloc ?_ _) | (with_reducible refine Ext.drewN ?_ _) | (with_reducible refine Ext.drew ?_) | (with_reducible refine Ext.setCell ?_ ?_ _; rotate_left; (simp only []; omega)) | (with_reducible refine Ext.trans ?_ (by assumption)))))).mono ?_; rintro e w1 ⟨rfl, hx⟩; have hc := hx.cells; have hf := hx.frozens; have hy := hx.size; (try simp at hy); have hz : w.heap.size < w1.heap.size := (by omega)))
  all_goals (go_ret; exact ⟨ret_bool (by simp [*]), (by repeat (first | (with_reducible exact Ext.refl _) | (with_reducible assumption) | (with_reducible refine Ext.alloc ?_ _) | (with_reducible refine Ext.drewN ?_ _) | (with_reducible refine Ext.drew ?_) | (with_reducible refine Ext.setCell ?_ ?_ _; rotate_left; (simp only []; omega)) | (with_reducible refine Ext.trans ?_ (by assumption))))⟩)
theorem spec_validReport (o s t kind fa fp ta tp : Int) (a : Option Addr) (n c : Nat) (L : List Int) (w : World) (hs : Sl encI 1 w a n c L) :
    Calls Try.prog 90 #[.agg #[.int .i64 o, .int .i64 s, .int .i64 t, .int .i64 kind, .int .i64 fa, .int .i64 fp, .int .i64 ta, .int .i64 tp, .slice a n c]] w fun e w' =>
      e = .returned (.bool (validRep ⟨o, s, t, ⟨kind, ⟨fa, fp⟩, ⟨ta, tp⟩, L⟩⟩)) ∧ Ext w w' := by
  rw [show validRep ⟨o, s, t, ⟨kind, ⟨fa, fp⟩, ⟨ta, tp⟩, L⟩⟩ = (inR o 0 15 && word s && word t && validPkt ⟨kind, ⟨fa, fp⟩, ⟨ta, tp⟩, L⟩) by simp [validRep, Bool.and_assoc]]
  go_enter Try.func90, Try.ntmps90
  go_wp2_with (first | (go_at_call 144; refine (spec_inRange _ _ _ _).mono ?_; rintro e w' ⟨rfl, rfl⟩) | (go_at_call 141; refine (spec_validAddr _ _).mono ?_; rintro e w' ⟨rfl, rfl⟩) | (go_at_call 125; refine (spec_validPacket _ _ _ _ _ _ _ _ L _ (by exact hs.ext (by repeat (first | (with_reducible exact Ext.refl _) | (with_reducible assumption) | (with_reducible refine Ext.alloc ?_ _) | (with_reducible refine Ext.drewN ?_ _) | (with_reducible refine Ext.drew ?_) | (with_reducible refine Ext.setCell ?_ ?_ _; rotate_left; (simp only []; omega)) | (with_reducible refine Ext.trans ?_ (by assumption)))))).mono ?_; rintro e w1 ⟨rfl, hx⟩; have hc := hx.cells; have hf := hx.frozens; have hy := hx.size; (try simp at hy); have hz : w.heap.size < w1.heap.size := (by omega)))
  all_goals (go_ret; exact ⟨ret_bool (by simp [*]), (by repeat (first | (with_reducible exact Ext.refl _) | (with_reducible assumption) | (with_reducible refine Ext.alloc ?_ _) | (with_reducible refine Ext.drewN ?_ _) | (with_reducible refine Ext.drew ?_) | (with_reducible refine Ext.setCell ?_ ?_ _; rotate_left; (simp only []; omega)) | (with_reducible refine Ext.trans ?_ (by assumption))))⟩)
end Go.Proofs.Ytppdcglnopoocaa
/- Contracts: the report about a packet. -/
namespace Go.Proofs.Ytppdcglnopoocaa
set_option linter.unusedVariables false
set_option linter.unusedSimpArgs false
open Go.RowKit

theorem Ow.setCell {α : Type} {E : TypeId} {enc : α → List Value} {k base : Nat} {w : World} {a : Option Addr} {n c : Nat} {L : List α} (h : Ow E enc k base w a n c L) {p : Addr} (hp : ∀ x, a = some x → x.block ≠ p.block) (u : Value) :
    Ow E enc k base (w.setCell p u) a n c L := h.keep fun x e _ => Below.heap_setCell w p u x.block (hp x e)
theorem spec_copyPacket (k fa fp ta tp : Int) (a : Option Addr) (n c : Nat) (L : List Int) (w : World) (hs : Sl encI 1 w a n c L) (hn : n ≤ 1048576) :
    Calls Try.prog 127 #[.agg #[.int .i64 k, .int .i64 fa, .int .i64 fp, .int .i64 ta, .int .i64 tp, .slice a n c]] w fun e w' => ∃ a' c', e = .returned (.agg #[.int .i64 k, .int .i64 fa, .int .i64 fp, .int .i64 ta, .int .i64 tp, .slice a' n c']) ∧
      Ow 3 encI 1 w.heap.size w' a' n c' L ∧ Ext w w' := by
  go_enter Try.func127, Try.ntmps127
  go_wp2_with fail
  refine (spec_copyInts a n c L _ (by exact hs.ext (by repeat (first | (with_reducible exact Ext.refl _) | (with_reducible assumption) | (with_reducible refine Ext.alloc ?_ _) | (with_reducible refine Ext.drewN ?_ _) | (with_reducible refine Ext.drew ?_) | (with_reducible refine Ext.setCell ?_ ?_ _; rotate_left; (simp only []; omega)) | (with_reducible refine Ext.trans ?_ (by assumption))))) hn).mono ?_
  rintro e w1 ⟨a', c', rfl, hown, hx⟩
  have how := Ow.of_row hown encI_len (by omega)
  have hB1 : Blk w1 w.heap.size 33 #[.int .i64 k, .int .i64 fa, .int .i64 fp, .int .i64 ta, .int .i64 tp, .slice a n c] := by refine Blk.ext ?_ hx; exact (by repeat (first | (with_reducible assumption) | (with_reducible exact Blk.new _ _ _) | exact Blk.newAt _ _ _ (by simp) | (with_reducible refine Blk.alloc ?_ _) | (with_reducible refine Blk.drew ?_) | (with_reducible refine Blk.drewN ?_ _) | refine Blk.far ?_ (by simp only []; omega) _ | refine Blk.rext ?_ (by assumption) (by omega) | refine Blk.ext ?_ (by assumption)))
  have hB2 : Blk w1 (w.heap.size + 1) 33 #[.int .i64 0, .int .i64 0, .int .i64 0, .int .i64 0, .int .i64 0, .slice none 0 0] := by refine Blk.ext ?_ hx; exact (by repeat (first | (with_reducible assumption) | (with_reducible exact Blk.new _ _ _) | exact Blk.newAt _ _ _ (by simp) | (with_reducible refine Blk.alloc ?_ _) | (with_reducible refine Blk.drew ?_) | (with_reducible refine Blk.drewN ?_ _) | refine Blk.far ?_ (by simp only []; omega) _ | refine Blk.rext ?_ (by assumption) (by omega) | refine Blk.ext ?_ (by assumption)))
  have hc1 := hB1.cells
  have hf1 := hB1.frozens
  have hc2 := hB2.cells
  have hf2 := hB2.frozens
  have hy := hx.size
  simp at hy
  have hz : w.heap.size < w1.heap.size ∧ w.heap.size + 1 < w1.heap.size := by omega
  have hlt := how.lt
  simp at hlt
  clear hown
  go_wp2
  refine' bodyPost_ret (v := _) ?_ rfl ?_
  rotate_left
  · (simp only [results, Try.results127]
     go_simp
     rfl)
  refine ⟨a', c', rfl, ?_, (by repeat (first | (with_reducible exact Ext.refl _) | (with_reducible assumption) | (with_reducible refine Ext.alloc ?_ _) | (with_reducible refine Ext.drewN ?_ _) | (with_reducible refine Ext.drew ?_) | (with_reducible refine Ext.setCell ?_ ?_ _; rotate_left; (simp only []; omega)) | (with_reducible refine Ext.trans ?_ (by assumption))))⟩
  refine Ow.rebase (base := w.heap.size + 2) ?_ (by omega)
  repeat (refine Ow.setCell ?_ (fun y hy => by have := (hlt y hy).1; simp only []; omega) _)
  simpa using how
set_option maxHeartbeats 1000000 in
theorem impl_ReportOf_no (o s k fa fp ta tp : Int) (a : Option Addr) (n c : Nat) (L : List Int) (w : World) (hs : Sl encI 1 w a n c L) (h : (inR o 0 15 && word s && validPkt ⟨k, ⟨fa, fp⟩, ⟨ta, tp⟩, L⟩) = false) :
    Calls Try.prog 43 #[.int .i64 o, .int .i64 s, .agg #[.int .i64 k, .int .i64 fa, .int .i64 fp, .int .i64 ta, .int .i64 tp, .slice a n c]] w fun e w' => e = .returned (.tuple #[.agg #[.int .i64 0, .int .i64 0, .int .i64 0, .int .i64 0, .int .i64 0, .int .i64 0, .int .i64 0, .int .i64 0, .slice none 0 0], .bool false]) ∧ Ext w w' := by
  cases h1 : inR o 0 15 with
  | false =>
    clear h
    go_enter Try.func43, Try.ntmps43
    go_wp2_with (first | (go_at_call 66; refine (impl_in _ _ _ _).mono ?_; rintro e w' ⟨rfl, rfl⟩) | (go_at_call 72; refine (impl_isWord _ _).mono ?_; rintro e w' ⟨rfl, rfl⟩) | (go_at_call 57; refine (impl_ValidPacket _ _ _ _ _ _ _ _ L _ (by exact hs.ext (by repeat (first | (with_reducible exact Ext.refl _) | (with_reducible assumption) | (with_reducible refine Ext.alloc ?_ _) | (with_reducible refine Ext.drewN ?_ _) | (with_reducible refine Ext.drew ?_) | (with_reducible refine Ext.setCell ?_ ?_ _; rotate_left; (simp only []; omega)) | (with_reducible refine Ext.trans ?_ (by assumption)))))).mono ?_; rintro e w1 ⟨rfl, hx⟩; have hc := hx.cells; have hf := hx.frozens; have hy := hx.size; (try simp at hy); have hz : w.heap.size < w1.heap.size ∧ w.heap.size + 1 < w1.heap.size := (by omega)))
    refine' bodyPost_ret (v := _) ?_ rfl ?_
    rotate_left
    · (simp only [results, Try.results43]
       go_simp
       rfl)
    exact ⟨rfl, (by repeat (first | (with_reducible exact Ext.refl _) | (with_reducible assumption) | (with_reducible refine Ext.alloc ?_ _) | (with_reducible refine Ext.drewN ?_ _) | (with_reducible refine Ext.drew ?_) | (with_reducible refine Ext.setCell ?_ ?_ _; rotate_left; (simp only []; omega)) | (with_reducible refine Ext.trans ?_ (by assumption))))⟩
  | true =>
    cases h2 : word s with
    | false =>
      clear h
      go_enter Try.func43, Try.ntmps43
      go_wp2_with (first | (go_at_call 66; refine (impl_in _ _ _ _).mono ?_; rintro e w' ⟨rfl, rfl⟩) | (go_at_call 72; refine (impl_isWord _ _).mono ?_; rintro e w' ⟨rfl, rfl⟩) | (go_at_call 57; refine (impl_ValidPacket _ _ _ _ _ _ _ _ L _ (by exact hs.ext (by repeat (first | (with_reducible exact Ext.refl _) | (with_reducible assumption) | (with_reducible refine Ext.alloc ?_ _) | (with_reducible refine Ext.drewN ?_ _) | (with_reducible refine Ext.drew ?_) | (with_reducible refine Ext.setCell ?_ ?_ _; rotate_left; (simp only []; omega)) | (with_reducible refine Ext.trans ?_ (by assumption)))))).mono ?_; rintro e w1 ⟨rfl, hx⟩; have hc := hx.cells; have hf := hx.frozens; have hy := hx.size; (try simp at hy); have hz : w.heap.size < w1.heap.size ∧ w.heap.size + 1 < w1.heap.size := (by omega)))
      refine' bodyPost_ret (v := _) ?_ rfl ?_
      rotate_left
      · (simp only [results, Try.results43]
         go_simp
         rfl)
      exact ⟨rfl, (by repeat (first | (with_reducible exact Ext.refl _) | (with_reducible assumption) | (with_reducible refine Ext.alloc ?_ _) | (with_reducible refine Ext.drewN ?_ _) | (with_reducible refine Ext.drew ?_) | (with_reducible refine Ext.setCell ?_ ?_ _; rotate_left; (simp only []; omega)) | (with_reducible refine Ext.trans ?_ (by assumption))))⟩
    | true =>
      cases h3 : validPkt ⟨k, ⟨fa, fp⟩, ⟨ta, tp⟩, L⟩ with
      | false =>
        clear h
        go_enter Try.func43, Try.ntmps43
        go_wp2_with (first | (go_at_call 66; refine (impl_in _ _ _ _).mono ?_; rintro e w' ⟨rfl, rfl⟩) | (go_at_call 72; refine (impl_isWord _ _).mono ?_; rintro e w' ⟨rfl, rfl⟩) | (go_at_call 57; refine (impl_ValidPacket _ _ _ _ _ _ _ _ L _ (by exact hs.ext (by repeat (first | (with_reducible exact Ext.refl _) | (with_reducible assumption) | (with_reducible refine Ext.alloc ?_ _) | (with_reducible refine Ext.drewN ?_ _) | (with_reducible refine Ext.drew ?_) | (with_reducible refine Ext.setCell ?_ ?_ _; rotate_left; (simp only []; omega)) | (with_reducible refine Ext.trans ?_ (by assumption)))))).mono ?_; rintro e w1 ⟨rfl, hx⟩; have hc := hx.cells; have hf := hx.frozens; have hy := hx.size; (try simp at hy); have hz : w.heap.size < w1.heap.size ∧ w.heap.size + 1 < w1.heap.size := (by omega)))
        refine' bodyPost_ret (v := _) ?_ rfl ?_
        rotate_left
        · (simp only [results, Try.results43]
           go_simp
           rfl)
        exact ⟨rfl, (by repeat (first | (with_reducible exact Ext.refl _) | (with_reducible assumption) | (with_reducible refine Ext.alloc ?_ _) | (with_reducible refine Ext.drewN ?_ _) | (with_reducible refine Ext.drew ?_) | (with_reducible refine Ext.setCell ?_ ?_ _; rotate_left; (simp only []; omega)) | (with_reducible refine Ext.trans ?_ (by assumption))))⟩
      | true => rw [h1, h2, h3] at h; cases h
set_option maxHeartbeats 2000000 in
theorem impl_ReportOf_own (o s k fa fp ta tp : Int) (a : Option Addr) (n c : Nat) (L : List Int) (w : World) (hs : Sl encI 1 w a n c L) (h1 : inR o 0 15 = true) (h2 : word s = true) (h3 : validPkt ⟨k, ⟨fa, fp⟩, ⟨ta, tp⟩, L⟩ = true) :
    Calls Try.prog 43 #[.int .i64 o, .int .i64 s, .agg #[.int .i64 k, .int .i64 fa, .int .i64 fp, .int .i64 ta, .int .i64 tp, .slice a n c]] w fun e w' => ∃ a' c', e = .returned (.tuple #[.agg #[.int .i64 o, .int .i64 s, .int .i64 fa, .int .i64 k, .int .i64 fa, .int .i64 fp, .int .i64 ta, .int .i64 tp, .slice a' (min n 4) c'], .bool true]) ∧
      Ow 3 encI 1 w.heap.size w' a' (min n 4) c' (L.take 4) ∧ Ext w w' := by
  have hn : n ≤ 12 := by
    have h4 := hs.len
    have h5 := h3
    simp only [validPkt, Bool.and_eq_true, decide_eq_true_eq] at h5
    omega
  have hle := hs.le
  have hmax := hs.max
  have hlen := hs.len
  by_cases hm : n < 4
  · rw [show min n 4 = n by omega]
    have ht : Sl encI 1 w a n c (L.take 4) := by
      rw [List.take_of_length_le (by omega)]; exact hs
    clear hlen
    go_enter Try.func43, Try.ntmps43
    go_wp2_with (first | (go_at_call 66; refine (impl_in _ _ _ _).mono ?_; rintro e w' ⟨rfl, rfl⟩) | (go_at_call 72; refine (impl_isWord _ _).mono ?_; rintro e w' ⟨rfl, rfl⟩) | (go_at_call 57; refine (impl_ValidPacket _ _ _ _ _ _ _ _ L _ (by exact hs.ext (by repeat (first | (with_reducible exact Ext.refl _) | (with_reducible assumption) | (with_reducible refine Ext.alloc ?_ _) | (with_reducible refine Ext.drewN ?_ _) | (with_reducible refine Ext.drew ?_) | (with_reducible refine Ext.setCell ?_ ?_ _; rotate_left; (simp only []; omega)) | (with_reducible refine Ext.trans ?_ (by assumption)))))).mono ?_; rintro e w1 ⟨rfl, hx⟩; have hc := hx.cells; have hf := hx.frozens; have hy := hx.size; (try simp at hy); have hz : w.heap.size < w1.heap.size ∧ w.heap.size + 1 < w1.heap.size := (by omega)))
    refine (impl_clone_int a n c (L.take 4) _ (by exact ht.ext (by repeat (first | (with_reducible exact Ext.refl _) | (with_reducible assumption) | (with_reducible refine Ext.alloc ?_ _) | (with_reducible refine Ext.drewN ?_ _) | (with_reducible refine Ext.drew ?_) | (with_reducible refine Ext.setCell ?_ ?_ _; rotate_left; (simp only []; omega)) | (with_reducible refine Ext.trans ?_ (by assumption))))) (by omega)).mono ?_
    rintro e w2 ⟨a2, rfl, how, hx2⟩
    have hlt := how.lt
    have hy2 := hx2.size
    simp at hlt hy2
    have hX : Ext w w2 := (by repeat (first | (with_reducible exact Ext.refl _) | (with_reducible assumption) | (with_reducible refine Ext.alloc ?_ _) | (with_reducible refine Ext.drewN ?_ _) | (with_reducible refine Ext.drew ?_) | (with_reducible refine Ext.setCell ?_ ?_ _; rotate_left; (simp only []; omega)) | (with_reducible refine Ext.trans ?_ (by assumption))))
    have hC1 : Blk w2 w.heap.size 33 #[.int .i64 k, .int .i64 fa, .int .i64 fp, .int .i64 ta, .int .i64 tp, .slice a n c] := by refine Blk.ext ?_ hx2; exact (by repeat (first | (with_reducible assumption) | (with_reducible exact Blk.new _ _ _) | exact Blk.newAt _ _ _ (by simp) | (with_reducible refine Blk.alloc ?_ _) | (with_reducible refine Blk.drew ?_) | (with_reducible refine Blk.drewN ?_ _) | refine Blk.far ?_ (by simp only []; omega) _ | refine Blk.rext ?_ (by assumption) (by omega) | refine Blk.ext ?_ (by assumption)))
    have hC2 : Blk w2 (w.heap.size + 1) 63 #[.int .i64 0, .int .i64 0, .int .i64 0, .int .i64 0, .int .i64 0, .int .i64 0, .int .i64 0, .int .i64 0, .slice none 0 0] := by refine Blk.ext ?_ hx2; exact (by repeat (first | (with_reducible assumption) | (with_reducible exact Blk.new _ _ _) | exact Blk.newAt _ _ _ (by simp) | (with_reducible refine Blk.alloc ?_ _) | (with_reducible refine Blk.drew ?_) | (with_reducible refine Blk.drewN ?_ _) | refine Blk.far ?_ (by simp only []; omega) _ | refine Blk.rext ?_ (by assumption) (by omega) | refine Blk.ext ?_ (by assumption)))
    have hC3 : Blk w2 w1.heap.size 33 #[.int .i64 k, .int .i64 fa, .int .i64 fp, .int .i64 ta, .int .i64 tp, .slice a n c] := by refine Blk.ext ?_ hx2; exact (by repeat (first | (with_reducible assumption) | (with_reducible exact Blk.new _ _ _) | exact Blk.newAt _ _ _ (by simp) | (with_reducible refine Blk.alloc ?_ _) | (with_reducible refine Blk.drew ?_) | (with_reducible refine Blk.drewN ?_ _) | refine Blk.far ?_ (by simp only []; omega) _ | refine Blk.rext ?_ (by assumption) (by omega) | refine Blk.ext ?_ (by assumption)))
    have hd1 := hC1.cells
    have hd2 := hC2.cells
    have hd3 := hC3.cells
    have he2 := hC2.frozens
    have he3 := hC3.frozens
    clear hc hf hx2 hx
    go_wp2
    refine' bodyPost_ret (v := _) ?_ rfl ?_
    rotate_left
    · (simp only [results, Try.results43]
       go_simp
       rfl)
    refine ⟨a2, n, rfl, ?_, (by repeat (first | (with_reducible exact Ext.refl _) | (with_reducible assumption) | (with_reducible refine Ext.alloc ?_ _) | (with_reducible refine Ext.drewN ?_ _) | (with_reducible refine Ext.drew ?_) | (with_reducible refine Ext.setCell ?_ ?_ _; rotate_left; (simp only []; omega)) | (with_reducible refine Ext.trans ?_ (by assumption))))⟩
    refine Ow.rebase (base := w1.heap.size) ?_ (by omega)
    repeat (refine Ow.setCell ?_ (fun y hy => by have := (hlt y hy).1; simp only []; omega) _)
    exact how.rebase (by simp)
  · rw [show min n 4 = 4 by omega]
    have ht : Sl encI 1 w a 4 c (L.take 4) := by
      exact hs.take (by omega) (by omega) (by omega)
    clear hlen
    go_enter Try.func43, Try.ntmps43
    go_wp2_with (first | (go_at_call 66; refine (impl_in _ _ _ _).mono ?_; rintro e w' ⟨rfl, rfl⟩) | (go_at_call 72; refine (impl_isWord _ _).mono ?_; rintro e w' ⟨rfl, rfl⟩) | (go_at_call 57; refine (impl_ValidPacket _ _ _ _ _ _ _ _ L _ (by exact hs.ext (by repeat (first | (with_reducible exact Ext.refl _) | (with_reducible assumption) | (with_reducible refine Ext.alloc ?_ _) | (with_reducible refine Ext.drewN ?_ _) | (with_reducible refine Ext.drew ?_) | (with_reducible refine Ext.setCell ?_ ?_ _; rotate_left; (simp only []; omega)) | (with_reducible refine Ext.trans ?_ (by assumption)))))).mono ?_; rintro e w1 ⟨rfl, hx⟩; have hc := hx.cells; have hf := hx.frozens; have hy := hx.size; (try simp at hy); have hz : w.heap.size < w1.heap.size ∧ w.heap.size + 1 < w1.heap.size := (by omega)))
    refine (impl_clone_int a 4 c (L.take 4) _ (by exact ht.ext (by repeat (first | (with_reducible exact Ext.refl _) | (with_reducible assumption) | (with_reducible refine Ext.alloc ?_ _) | (with_reducible refine Ext.drewN ?_ _) | (with_reducible refine Ext.drew ?_) | (with_reducible refine Ext.setCell ?_ ?_ _; rotate_left; (simp only []; omega)) | (with_reducible refine Ext.trans ?_ (by assumption))))) (by omega)).mono ?_
    rintro e w2 ⟨a2, rfl, how, hx2⟩
    have hlt := how.lt
    have hy2 := hx2.size
    simp at hlt hy2
    have hX : Ext w w2 := (by repeat (first | (with_reducible exact Ext.refl _) | (with_reducible assumption) | (with_reducible refine Ext.alloc ?_ _) | (with_reducible refine Ext.drewN ?_ _) | (with_reducible refine Ext.drew ?_) | (with_reducible refine Ext.setCell ?_ ?_ _; rotate_left; (simp only []; omega)) | (with_reducible refine Ext.trans ?_ (by assumption))))
    have hC1 : Blk w2 w.heap.size 33 #[.int .i64 k, .int .i64 fa, .int .i64 fp, .int .i64 ta, .int .i64 tp, .slice a n c] := by refine Blk.ext ?_ hx2; exact (by repeat (first | (with_reducible assumption) | (with_reducible exact Blk.new _ _ _) | exact Blk.newAt _ _ _ (by simp) | (with_reducible refine Blk.alloc ?_ _) | (with_reducible refine Blk.drew ?_) | (with_reducible refine Blk.drewN ?_ _) | refine Blk.far ?_ (by simp only []; omega) _ | refine Blk.rext ?_ (by assumption) (by omega) | refine Blk.ext ?_ (by assumption)))
    have hC2 : Blk w2 (w.heap.size + 1) 63 #[.int .i64 0, .int .i64 0, .int .i64 0, .int .i64 0, .int .i64 0, .int .i64 0, .int .i64 0, .int .i64 0, .slice none 0 0] := by refine Blk.ext ?_ hx2; exact (by repeat (first | (with_reducible assumption) | (with_reducible exact Blk.new _ _ _) | exact Blk.newAt _ _ _ (by simp) | (with_reducible refine Blk.alloc ?_ _) | (with_reducible refine Blk.drew ?_) | (with_reducible refine Blk.drewN ?_ _) | refine Blk.far ?_ (by simp only []; omega) _ | refine Blk.rext ?_ (by assumption) (by omega) | refine Blk.ext ?_ (by assumption)))
    have hC3 : Blk w2 w1.heap.size 33 #[.int .i64 k, .int .i64 fa, .int .i64 fp, .int .i64 ta, .int .i64 tp, .slice a n c] := by refine Blk.ext ?_ hx2; exact (by repeat (first | (with_reducible assumption) | (with_reducible exact Blk.new _ _ _) | exact Blk.newAt _ _ _ (by simp) | (with_reducible refine Blk.alloc ?_ _) | (with_reducible refine Blk.drew ?_) | (with_reducible refine Blk.drewN ?_ _) | refine Blk.far ?_ (by simp only []; omega) _ | refine Blk.rext ?_ (by assumption) (by omega) | refine Blk.ext ?_ (by assumption)))
    have hd1 := hC1.cells
    have hd2 := hC2.cells
    have hd3 := hC3.cells
    have he2 := hC2.frozens
    have he3 := hC3.frozens
    clear hc hf hx2 hx
    go_wp2
    refine' bodyPost_ret (v := _) ?_ rfl ?_
    rotate_left
    · (simp only [results, Try.results43]
       go_simp
       rfl)
    refine ⟨a2, 4, rfl, ?_, (by repeat (first | (with_reducible exact Ext.refl _) | (with_reducible assumption) | (with_reducible refine Ext.alloc ?_ _) | (with_reducible refine Ext.drewN ?_ _) | (with_reducible refine Ext.drew ?_) | (with_reducible refine Ext.setCell ?_ ?_ _; rotate_left; (simp only []; omega)) | (with_reducible refine Ext.trans ?_ (by assumption))))⟩
    refine Ow.rebase (base := w1.heap.size) ?_ (by omega)
    repeat (refine Ow.setCell ?_ (fun y hy => by have := (hlt y hy).1; simp only []; omega) _)
    exact how.rebase (by simp)
theorem impl_ReportOf_ok (o s k fa fp ta tp : Int) (a : Option Addr) (n c : Nat) (L : List Int) (w : World) (hs : Sl encI 1 w a n c L) (h1 : inR o 0 15 = true) (h2 : word s = true) (h3 : validPkt ⟨k, ⟨fa, fp⟩, ⟨ta, tp⟩, L⟩ = true) :
    Calls Try.prog 43 #[.int .i64 o, .int .i64 s, .agg #[.int .i64 k, .int .i64 fa, .int .i64 fp, .int .i64 ta, .int .i64 tp, .slice a n c]] w fun e w' => ∃ a' c', e = .returned (.tuple #[.agg #[.int .i64 o, .int .i64 s, .int .i64 fa, .int .i64 k, .int .i64 fa, .int .i64 fp, .int .i64 ta, .int .i64 tp, .slice a' (min n 4) c'], .bool true]) ∧
      Sl encI 1 w' a' (min n 4) c' (L.take 4) ∧ (∀ x, a' = some x → w.heap.size ≤ x.block) ∧ Ext w w' :=
  (impl_ReportOf_own o s k fa fp ta tp a n c L w hs h1 h2 h3).mono fun _ _ ⟨a', c', e, how, hx⟩ => ⟨a', c', e, how.sl encI_len, fun x hx => (how.lt x hx).1, hx⟩
end Go.Proofs.Ytppdcglnopoocaa
