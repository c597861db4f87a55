/- Contracts of the reader of codes: newReader, pick, one. -/
import Derived.Test.YtafmomocmodbhaaSlice
namespace Go.Proofs.Ytafmomocmodbhaa
open Go.RowKit

/-- Block B is a reader that has read at most m numbers; it and its bytes lie below block n0. -/
structure Rd (n0 : Nat) (w : World) (B : Nat) (m : Int) : Prop where
  lt : B < n0
  le : n0 ≤ w.heap.size
  ex : ∃ p a n c zs, 0 ≤ p ∧ p ≤ m ∧ w.heap[B]? = some (.cells #[.slice a n c, .int .i64 p] 135 (0, 0)) ∧ Sl encU 1 w a n c zs ∧ (∀ z ∈ zs, 0 ≤ z ∧ z ≤ 255) ∧ n ≤ 2000 ∧
    (0 < n → ∀ x, a = some x → x.block < n0 ∧ x.block ≠ B)

theorem Rd.mono {n0 : Nat} {w : World} {B : Nat} {m m' : Int} (h : Rd n0 w B m) (hm : m ≤ m') : Rd n0 w B m' := by
  obtain ⟨h1, h2, p, a, n, c, zs, h3, h4, r⟩ := h
  exact ⟨h1, h2, p, a, n, c, zs, h3, by omega, r⟩
theorem Rd.keep {n0 : Nat} {w w' : World} {B : Nat} {m : Int} (h : Rd n0 w B m) (hs : w.heap.size ≤ w'.heap.size) (hb : ∀ k, k < n0 → w'.heap[k]? = w.heap[k]?) : Rd n0 w' B m := by
  obtain ⟨h1, h2, p, a, n, c, zs, h3, h4, h5, h6, h7, h8, h9⟩ := h
  refine ⟨h1, by omega, p, a, n, c, zs, h3, h4, (hb B h1).trans h5, h6.keep hs ?_, h7, h8, h9⟩
  intro b off hn e _
  exact hb b (h9 hn _ e).1
theorem Rd.ext {n0 : Nat} {w w' : World} {B : Nat} {m : Int} (h : Rd n0 w B m) (hx : Ext w w') : Rd n0 w' B m := h.keep hx.size fun k hk => hx.block k (by have := h.le; omega)
theorem Rd.alloc {n0 : Nat} {w : World} {B : Nat} {m : Int} (h : Rd n0 w B m) (o : Obj) : Rd n0 (w.alloc o) B m := h.ext ((Ext.refl w).alloc o)
theorem Rd.drewN {n0 : Nat} {w : World} {B : Nat} {m : Int} (h : Rd n0 w B m) (k : Nat) : Rd n0 (w.drewN k) B m := h.ext ((Ext.refl w).drewN k)
theorem Rd.drew {n0 : Nat} {w : World} {B : Nat} {m : Int} (h : Rd n0 w B m) : Rd n0 w.drew B m := h.drewN 1
theorem Rd.setCell {n0 : Nat} {w : World} {B : Nat} {m : Int} (h : Rd n0 w B m) {p : Addr} (hp : n0 ≤ p.block) (u : Value) : Rd n0 (w.setCell p u) B m :=
  h.keep (by simp [World.setCell]) fun k hk => Below.heap_setCell w p u k (by omega)

/-- Below n0 nothing has turned. -/
structure Since (n0 : Nat) (w w' : World) : Prop where
  le : n0 ≤ w.heap.size
  size : w.heap.size ≤ w'.heap.size
  block : ∀ k, k < n0 → w'.heap[k]? = w.heap[k]?
theorem Since.refl {n0 : Nat} {w : World} (h : n0 ≤ w.heap.size) : Since n0 w w := ⟨h, Nat.le_refl _, fun _ _ => rfl⟩
theorem Since.ext {n0 : Nat} {a b c : World} (h : Since n0 a b) (hx : Ext b c) : Since n0 a c :=
  ⟨h.le, Nat.le_trans h.size hx.size, fun k hk => (hx.block k (by have := h.le; have := h.size; omega)).trans (h.block k hk)⟩
theorem Since.alloc {n0 : Nat} {a b : World} (h : Since n0 a b) (o : Obj) : Since n0 a (b.alloc o) := h.ext ((Ext.refl b).alloc o)
theorem Since.drewN {n0 : Nat} {a b : World} (h : Since n0 a b) (k : Nat) : Since n0 a (b.drewN k) := h.ext ((Ext.refl b).drewN k)
theorem Since.drew {n0 : Nat} {a b : World} (h : Since n0 a b) : Since n0 a b.drew := h.drewN 1
theorem Since.setCell {n0 : Nat} {a b : World} (h : Since n0 a b) {p : Addr} (hp : n0 ≤ p.block) (u : Value) : Since n0 a (b.setCell p u) :=
  ⟨h.le, Nat.le_trans h.size (by simp [World.setCell]), fun k hk => (Below.heap_setCell b p u k (by omega)).trans (h.block k hk)⟩
theorem Rd.to {n0 : Nat} {w w' : World} {B : Nat} {m : Int} (h : Rd n0 w B m) (hs : Since n0 w w') : Rd n0 w' B m := h.keep hs.size hs.block

theorem Sl.bytes {w : World} {a : Option Addr} {n c : Nat} {L : List Int} (h : Sl encU 1 w a n c L) :
    (n = 0 ∧ L = []) ∨ (0 < n ∧ ∃ b off, a = some ⟨b, off, none⟩ ∧ b < w.heap.size ∧ ∀ i : Nat, i < n → w.cell? ⟨b, off + i, none⟩ = some (.int .u8 (nth L i))) := by
  rcases h.form with h0 | ⟨h0, b, off, ha, hb, hc⟩
  · exact .inl h0
  · refine .inr ⟨h0, b, off, ha, hb, fun i hi => ?_⟩
    have := hc i _ (nth_some (by rw [h.len]; exact hi)) 0 (.int .u8 (nth L i)) rfl
    simpa using this

theorem xor_nonneg {a b : Int} (ha : 0 ≤ a) (ha' : a < 9223372036854775808) (hb : 0 ≤ b) (hb' : b < 9223372036854775808) : 0 ≤ bits .xor .i64 a b := by
  obtain ⟨x, rfl⟩ := Int.eq_ofNat_of_zero_le ha
  obtain ⟨y, rfl⟩ := Int.eq_ofNat_of_zero_le hb
  have hx : x ^^^ y < 2 ^ 63 := Nat.xor_lt_two_pow (by omega) (by omega)
  have e1 : (BitVec.ofInt 64 (x : Int)).toNat = x := by rw [BitVec.ofInt_natCast, BitVec.toNat_ofNat]; exact Nat.mod_eq_of_lt (by omega)
  have e2 : (BitVec.ofInt 64 (y : Int)).toNat = y := by rw [BitVec.ofInt_natCast, BitVec.toNat_ofNat]; exact Nat.mod_eq_of_lt (by omega)
  show 0 ≤ IntKind.i64.wrap ((BitVec.ofInt 64 (x : Int) ^^^ BitVec.ofInt 64 (y : Int)).toNat : Int)
  rw [BitVec.toNat_xor, e1, e2, IntKind.wrap_i64]
  omega
theorem pick_any (n0 B : Nat) (m n : Int) (w : World) (hr : Rd n0 w B m) (hm : m + 1 ≤ 1000000) (h1 : 1 ≤ n) (hn : n ≤ 1000000) :
    Calls Try.prog 73 #[.pointer (some ⟨B, 0, none⟩), .int .i64 n] w fun e w' => ∃ x, e = .returned (.int .i64 x) ∧ 0 ≤ x ∧ x < n ∧ Rd n0 w' B (m + 1) ∧ RExt B w w' := by
  obtain ⟨hB, hle, p, a, l, c, zs, hp0, hpm, hblk, hs, hz, hl, hne⟩ := hr
  have hBw : B < w.heap.size := by omega
  have hc0 : w.cell? ⟨B, 0, none⟩ = some (.slice a l c) := by rw [cell_of_row w B 0 _ _ _ hblk]; rfl
  have hc1 : w.cell? ⟨B, 1, none⟩ = some (.int .i64 p) := by rw [cell_of_row w B 1 _ _ _ hblk]; rfl
  have hf1 : w.frozen? ⟨B, 1, none⟩ = false := frozen_of_row w B 1 _ _ hblk
  have hc1' : ∀ u, (w.setCell ⟨B, 1, none⟩ u).cell? ⟨B, 0, none⟩ = some (.slice a l c) := by intro u; rw [World.cell?_setCell_other w _ _ _ (by simp)]; exact hc0
  have fin : ∀ x : Int, Rd n0 (w.setCell ⟨B, 1, none⟩ (.int .i64 (p + 1))) B (m + 1) := by
    intro _
    refine ⟨hB, by simp [World.setCell]; omega, p + 1, a, l, c, zs, by omega, by omega, ?_, ?_, hz, hl, hne⟩
    · have := heap_setCell_same w B 1 _ _ (.int .i64 (p + 1)) hblk
      simpa using this
    · exact hs.keep (by simp [World.setCell]) fun b off hn e _ => Below.heap_setCell w _ _ b (by have := (hne hn _ e).2; simpa using this)
  have hx : RExt B w (w.setCell ⟨B, 1, none⟩ (.int .i64 (p + 1))) := (RExt.refl B w).setCell (.inl rfl) _
  have FX := Lib.hid (And.intro (fin 0) hx)
  have hle2 := hs.le
  have hmax := hs.max
  clear fin hx hblk
  have HNE := Lib.hid (fun (h0 : 0 < l) x (h : a = some x) => (hne h0 x h).2)
  rcases hs.bytes with ⟨h0, hL⟩ | ⟨h0, b, off, ha, hb, hc⟩
  · subst h0
    clear hs hL hz hne
    have d1 : decide (n < 1) = false := by simp; omega
    go_enter Try.func73, Try.ntmps73
    go_wp2
    go_ret
    exact ⟨0, by simp, by omega, by omega, FX.out.1, FX.out.2⟩
  · subst ha
    have hz' : ∀ i : Nat, i < l → 0 ≤ nth zs i ∧ nth zs i ≤ 255 := fun i hi => hz _ (nth_mem (by rw [hs.len]; exact hi))
    clear hs hz hne
    have hcs : ∀ u, ∀ i : Nat, i < l → (w.setCell ⟨B, 1, none⟩ u).cell? ⟨b, off + i, none⟩ = some (.int .u8 (nth zs i)) := by
      intro u i hi
      rw [World.cell?_setCell_other w _ _ _ (by intro e; injection e with e1 _; exact HNE.out h0 _ rfl e1.symm)]
      exact hc i hi
    have d1 : decide (n < 1) = false := by simp; omega
    by_cases hlt : p < l
    · obtain ⟨q, rfl⟩ := Int.eq_ofNat_of_zero_le hp0
      have hq : q < l := by omega
      have hzq := hz' q hq
      have hck := fun u => hcs u q hq
      have g0 : 0 ≤ nth zs q := hzq.1
      have g1 : nth zs q ≤ 255 := hzq.2
      have g2 : ¬ n = 0 := by omega
      have g3 : (nth zs q).tmod n = nth zs q % n := Int.tmod_eq_emod_of_nonneg g0
      have g4 : 0 ≤ nth zs q % n := Int.emod_nonneg _ g2
      have g5 : nth zs q % n < n := Int.emod_lt_of_pos _ (by omega)
      clear hz' hcs hc hzq
      have G3 := Lib.hid g3
      clear g3
      go_enter Try.func73, Try.ntmps73
      go_wp2
      go_ret
      exact ⟨_, rfl, g4, g5, FX.out.1, FX.out.2⟩
    · obtain ⟨q, rfl⟩ := Int.eq_ofNat_of_zero_le hp0
      have hq : q ≤ 1000000 := by omega
      have hl0 : ¬ (l : Int) = 0 := by omega
      have hl1 : ¬ l = 0 := by omega
      obtain ⟨i1, hi1, t1⟩ : ∃ i : Nat, i < l ∧ ((q : Int)).tmod (l : Int) = (i : Int) := ⟨q % l, Nat.mod_lt _ h0, by rw [Int.tmod_eq_emod_of_nonneg (by omega)]; rfl⟩
      obtain ⟨i2, hi2, t2⟩ : ∃ i : Nat, i < l ∧ ((q : Int) * 7 + 3).tmod (l : Int) = (i : Int) := ⟨(q * 7 + 3) % l, Nat.mod_lt _ h0, by rw [Int.tmod_eq_emod_of_nonneg (by omega)]; rfl⟩
      obtain ⟨d, hd, t3⟩ : ∃ d : Nat, d ≤ q ∧ ((q : Int)).tdiv (l : Int) = (d : Int) := ⟨q / l, Nat.div_le_self _ _, by rw [Int.tdiv_eq_ediv_of_nonneg (by omega)]; rfl⟩
      have k1 := fun u => hcs u i1 hi1
      have k2 := fun u => hcs u i2 hi2
      obtain ⟨z1, hz1, a1, b1⟩ : ∃ z, nth zs i1 = z ∧ 0 ≤ z ∧ z ≤ 255 := ⟨_, rfl, hz' i1 hi1⟩
      obtain ⟨z2, hz2, a2, b2⟩ : ∃ z, nth zs i2 = z ∧ 0 ≤ z ∧ z ≤ 255 := ⟨_, rfl, hz' i2 hi2⟩
      simp only [hz1, hz2] at k1 k2
      clear hz' hcs hc hz1 hz2
      have r1 : IntKind.i64.wrap z1 = z1 := IntWalk.i64_in _ (by omega)
      have r2 : IntKind.i64.wrap z2 = z2 := IntWalk.i64_in _ (by omega)
      have r3 : IntKind.i64.wrap (d : Int) = (d : Int) := IntWalk.i64_in _ (by omega)
      have m1 : IntKind.i64.wrap ((q : Int) * 7) = (q : Int) * 7 := IntWalk.i64_in _ (by omega)
      have m2 : IntKind.i64.wrap ((q : Int) * 7 + 3) = (q : Int) * 7 + 3 := IntWalk.i64_in _ (by omega)
      have m3 : IntKind.i64.wrap (z1 * 131) = z1 * 131 := IntWalk.i64_in _ (by omega)
      have m4 : IntKind.i64.wrap (z2 * 1117) = z2 * 1117 := IntWalk.i64_in _ (by omega)
      have m5 : IntKind.i64.wrap (z1 * 131 + z2 * 1117) = z1 * 131 + z2 * 1117 := IntWalk.i64_in _ (by omega)
      have m6 : IntKind.i64.wrap ((q : Int) * 29) = (q : Int) * 29 := IntWalk.i64_in _ (by omega)
      have m7 : IntKind.i64.wrap (z1 * 131 + z2 * 1117 + (q : Int) * 29) = z1 * 131 + z2 * 1117 + (q : Int) * 29 := IntWalk.i64_in _ (by omega)
      have m8 : IntKind.i64.wrap ((d : Int) * 53) = (d : Int) * 53 := IntWalk.i64_in _ (by omega)
      have m9 : IntKind.i64.wrap (z1 * 131 + z2 * 1117 + (q : Int) * 29 + (d : Int) * 53) = z1 * 131 + z2 * 1117 + (q : Int) * 29 + (d : Int) * 53 := IntWalk.i64_in _ (by omega)
      have c1 : (0 : Int) ≤ (i1 : Int) := by omega
      have c2 : (i1 : Int) < (l : Int) := by omega
      have c3 : (0 : Int) ≤ (i2 : Int) := by omega
      have c4 : (i2 : Int) < (l : Int) := by omega
      go_enter Try.func73, Try.ntmps73
      go_wp2
      refine wp_region_ext (by kernel_rfl) (by kernel_rfl) ?_
      repeat' (first
        | (refine ChL.skip (by rfl) ?_
           (try simp only [Act.put, List.setIfInBounds_toArray, List.set_cons_zero, List.set_cons_succ]))
        | (refine' ChL.val (v := _) (by rfl) ?_ ?_
           rotate_left
           · (intro wS hS
              have hcS := Ext.cells hS
              go_simp
              with_reducible rfl)
           (try simp only [Act.put, List.setIfInBounds_toArray, List.set_cons_zero, List.set_cons_succ]))
        | (refine' ChL.call (v := _) (f := _) (args := _) (by rfl) ?_ ?_ ?_
           rotate_left 3
           · (intro wS
              go_simp
              (constructor <;> rfl))
           · (intro wS hS
              first | fail)
           (try simp only [Act.put, List.setIfInBounds_toArray, List.set_cons_zero, List.set_cons_succ]))
        | (refine ChL.nil ?_)
        | (refine' ChL.guard (x := _) ?_ ?_ ?_
           rotate_left
           · (go_simp
              rfl)
           all_goals
             intro hg
             simp only [hg]))
      obtain ⟨X, hX, X0, X1⟩ : ∃ X, z1 * 131 + z2 * 1117 + (q : Int) * 29 + (d : Int) * 53 = X ∧ 0 ≤ X ∧ X ≤ 100000000 := ⟨_, rfl, by omega, by omega⟩
      rw [hX]
      intro w' hw'
      clear t1 t2 t3 m1 m2 m3 m4 m5 m6 m7 m8 m9 r1 r2 r3 hX k1 k2
      go_wp2
      go_ret
      have hX0 := xor_nonneg X0 (by omega) (show 0 ≤ X / 64 by omega) (by omega)
      refine ⟨_, rfl, ?_, ?_, FX.out.1.ext hw', FX.out.2.ext hw'⟩
      · rw [Int.tmod_eq_emod_of_nonneg hX0]; exact Int.emod_nonneg _ (by omega)
      · rw [Int.tmod_eq_emod_of_nonneg hX0]; exact Int.emod_lt_of_pos _ (by omega)
theorem newReader_any (a : Option Addr) (n c : Nat) (zs : List Int) (w : World) (hs : Sl encU 1 w a n c zs) (hz : ∀ z ∈ zs, 0 ≤ z ∧ z ≤ 255) :
    Calls Try.prog 60 #[.slice a n c] w fun e w' => ∃ B, e = .returned (.pointer (some ⟨B, 0, none⟩)) ∧ w.heap.size ≤ B ∧ Rd w'.heap.size w' B 0 ∧ Ext w w' := by
  have hle := hs.le
  have hmax := hs.max
  have hb : 0 < n → ∀ x, a = some x → x.block < w.heap.size := fun h0 x hx => by
    obtain ⟨b, off, e, hb, _⟩ := hs.at_ h0
    rw [e] at hx
    injection hx with hx
    subst hx
    exact hb
  by_cases hn : n ≤ 2000
  · go_enter Try.func60, Try.ntmps60
    go_wp2
    go_ret
    refine ⟨_, rfl, by simp, ⟨by simp, by simp, 0, a, n, c, zs, by omega, by omega, ?_, hs.ext (by repeat (first | (with_reducible exact Ext.refl _) | (with_reducible assumption) | (with_reducible refine Ext.alloc ?_ _) | (with_reducible refine Ext.drewN ?_ _) | (with_reducible refine Ext.drew ?_) | (with_reducible refine Ext.setCell ?_ ?_ _; rotate_left; (simp only []; omega)) | (with_reducible refine Ext.trans ?_ (by assumption)))), hz, hn, fun h0 x hx => ?_⟩, (by repeat (first | (with_reducible exact Ext.refl _) | (with_reducible assumption) | (with_reducible refine Ext.alloc ?_ _) | (with_reducible refine Ext.drewN ?_ _) | (with_reducible refine Ext.drew ?_) | (with_reducible refine Ext.setCell ?_ ?_ _; rotate_left; (simp only []; omega)) | (with_reducible refine Ext.trans ?_ (by assumption))))⟩
    · simpa using heap_alloc_new w _
    · have := hb h0 x hx
      refine ⟨by simp; omega, by simp; omega⟩
  · go_enter Try.func60, Try.ntmps60
    go_wp2
    go_ret
    refine ⟨_, rfl, by simp, ⟨by simp, by simp, 0, a, 2000, c, zs.take 2000, by omega, by omega, ?_, (hs.take (by omega) (by omega) (Nat.le_refl _)).ext (by repeat (first | (with_reducible exact Ext.refl _) | (with_reducible assumption) | (with_reducible refine Ext.alloc ?_ _) | (with_reducible refine Ext.drewN ?_ _) | (with_reducible refine Ext.drew ?_) | (with_reducible refine Ext.setCell ?_ ?_ _; rotate_left; (simp only []; omega)) | (with_reducible refine Ext.trans ?_ (by assumption)))), fun z h => hz z (List.mem_of_mem_take h), by omega, fun _ x hx => ?_⟩, (by repeat (first | (with_reducible exact Ext.refl _) | (with_reducible assumption) | (with_reducible refine Ext.alloc ?_ _) | (with_reducible refine Ext.drewN ?_ _) | (with_reducible refine Ext.drew ?_) | (with_reducible refine Ext.setCell ?_ ?_ _; rotate_left; (simp only []; omega)) | (with_reducible refine Ext.trans ?_ (by assumption))))⟩
    · simpa using heap_alloc_new w _
    · have := hb (by omega) x hx
      refine ⟨by simp; omega, by simp; omega⟩
/-- A slice literal of integers, as it stands. -/
theorem Sl.lits (w : World) (T : TypeId) (cs : Array Value) {b n : Nat} (hb : b = w.heap.size) (hn : cs.size = n) (hn' : n ≤ 1000) (hc : ∀ v ∈ cs.toList, v = .int .i64 (intOf v)) :
    Sl encI 1 (w.alloc (.cells cs T)) (some ⟨b, 0, none⟩) n n (cs.toList.map intOf) := by
  refine ⟨by simp [hn], Nat.le_refl _, by omega, (fun e => by cases e), fun _ => ⟨b, 0, rfl, by simp [hb], fun i x hx j u hu => ?_⟩⟩
  have hj : j = 0 := by
    have := (List.getElem?_eq_some_iff.1 hu).1
    simp [encI] at this
    exact this
  subst hj
  simp [encI] at hu
  subst hu
  rw [World.cell?_alloc_at _ _ _ _ hb]
  rw [List.getElem?_map] at hx
  obtain ⟨v, hv, rfl⟩ := Option.map_eq_some_iff.1 hx
  have := hc v (List.mem_of_getElem? hv)
  simp only [Nat.zero_add, Nat.mul_one, Nat.add_zero]
  rw [← this]
  simpa using hv

theorem one_any (n0 B : Nat) (m : Int) (L : List Int) (a : Option Addr) (n c : Nat) (w : World) (hr : Rd n0 w B m) (hm : m + 1 ≤ 1000000) (hs : Sl encI 1 w a n c L) (hn : 0 < n) (hn' : n ≤ 1000)
    (hab : ∀ x, a = some x → x.block ≠ B) :
    Calls Try.prog 62 #[.pointer (some ⟨B, 0, none⟩), .slice a n c] w fun e w' => ∃ x, e = .returned (.int .i64 x) ∧ x ∈ L ∧ Rd n0 w' B (m + 1) ∧ RExt B w w' := by
  rcases hs.ints with ⟨h0, _⟩ | ⟨_, b, off, rfl, hb, hc⟩
  · omega
  have hle := hs.le
  have hmax := hs.max
  go_enter Try.func62, Try.ntmps62
  go_wp2_with fail
  refine (pick_any n0 B m n _ hr hm (by omega) (by omega)).mono ?_
  rintro e w1 ⟨x, rfl, hx0, hx1, hr1, hx⟩
  obtain ⟨i, rfl⟩ := Int.eq_ofNat_of_zero_le hx0
  have hi : i < n := by omega
  have hcell := ((hs.rext hx hab).ints).resolve_left (by omega)
  obtain ⟨_, b', off', he, _, hc1⟩ := hcell
  injection he with he
  injection he with e1 e2
  subst e1; subst e2
  have hci := hc1 i hi
  have hmem : nth L i ∈ L := nth_mem (by rw [hs.len]; exact hi)
  clear hc hc1 hs
  go_wp2
  go_ret
  exact ⟨_, rfl, hmem, hr1, hx⟩
theorem one_lit (n0 B : Nat) (m : Int) (T : TypeId) (cs : Array Value) (b n : Nat) (W : World) (hr : Rd n0 W B m) (hm : m + 1 ≤ 1000000) (hb : b = W.heap.size) (hn : cs.size = n) (h0 : 0 < n) (hn' : n ≤ 1000)
    (hc : ∀ v ∈ cs.toList, v = .int .i64 (intOf v)) :
    Calls Try.prog 62 #[.pointer (some ⟨B, 0, none⟩), .slice (some ⟨b, 0, none⟩) n n] (W.alloc (.cells cs T)) fun e w' => ∃ x, e = .returned (.int .i64 x) ∧ x ∈ cs.toList.map intOf ∧ Rd n0 w' B (m + 1) ∧ RExt B W w' := by
  refine (one_any n0 B m (cs.toList.map intOf) _ _ _ _ (hr.alloc _) hm (Sl.lits W T cs hb hn hn' hc) h0 hn' ?_).mono ?_
  · intro x hx
    injection hx with hx
    subst hx
    have := hr.lt
    have := hr.le
    simp only []
    omega
  · rintro e w' ⟨x, rfl, hx, h1, h2⟩
    exact ⟨x, rfl, hx, h1, ((RExt.refl B W).alloc _).trans h2⟩
end Go.Proofs.Ytafmomocmodbhaa
