/- Plain laws of the gate: valid tables, contacts and gates by their elements; what mapping an end, noting a contact, sending, receiving and ticking keep. No program in sight. No condition. -/
import Derived.Test.YtafmomocmodbhaaPure
namespace Go.Proofs.Ytafmomocmodbhaa

theorem upTo_pair {α : Type} [Inhabited α] {p : α → Bool} {r : α → α → Bool} {l : List α} :
    upTo (fun i => p (nth l i) && (l.take i).all fun q => r q (nth l i)) l.length = true ↔ (∀ x ∈ l, p x = true) ∧ l.Pairwise (fun a b => r a b = true) := by
  rw [upTo_iff, List.pairwise_iff_getElem]
  constructor
  · intro h
    refine ⟨fun x hx => ?_, fun i j hi hj hij => ?_⟩
    · obtain ⟨i, hi, rfl⟩ := List.mem_iff_getElem.1 hx
      have := h i hi
      rw [Bool.and_eq_true, nth_of (List.getElem?_eq_getElem hi)] at this
      exact this.1
    · have := h j hj
      rw [Bool.and_eq_true, nth_of (List.getElem?_eq_getElem hj), List.all_eq_true] at this
      exact this.2 _ (List.mem_take_iff_getElem.2 ⟨i, by omega, rfl⟩)
  · rintro ⟨h1, h2⟩ i hi
    rw [Bool.and_eq_true, nth_of (List.getElem?_eq_getElem hi), List.all_eq_true]
    refine ⟨h1 _ (List.getElem_mem hi), fun x hx => ?_⟩
    obtain ⟨j, hj, rfl⟩ := List.mem_take_iff_getElem.1 hx
    exact h2 j i (by omega) hi (by omega)
def MapNe (a b : MapD) : Prop := a.ins ≠ b.ins ∧ a.port ≠ b.port
theorem validTable_iff {l : List MapD} : validTable l = true ↔ (∀ m ∈ l, okMap m = true) ∧ l.Pairwise MapNe ∧ l.length ≤ 8 := by
  have h := upTo_pair (p := okMap) (r := fun q m => !decide (q.ins = m.ins) && !decide (q.port = m.port)) (l := l)
  have e : (l.Pairwise fun a b => (!decide (a.ins = b.ins) && !decide (a.port = b.port)) = true) ↔ l.Pairwise MapNe := by
    constructor <;> intro h <;> refine h.imp fun {a b} hab => ?_
    · simpa [MapNe] using hab
    · simpa [MapNe] using hab
  rw [e] at h
  unfold validTable
  rw [Bool.and_eq_true, decide_eq_true_eq]
  exact ⟨fun ⟨a, b⟩ => ⟨(h.1 a).1, (h.1 a).2, b⟩, fun ⟨a, b, c⟩ => ⟨h.2 ⟨a, b⟩, c⟩⟩
theorem validContacts_iff {l : List ConD} : validContacts l = true ↔ (∀ c ∈ l, okCon c = true) ∧ l.Pairwise (· ≠ ·) ∧ l.length ≤ 10 := by
  have h := upTo_pair (p := okCon) (r := fun q m => !decide (q = m)) (l := l)
  have e : (l.Pairwise fun a b => (!decide (a = b)) = true) ↔ l.Pairwise (· ≠ ·) := by
    constructor <;> intro h <;> refine h.imp fun {a b} hab => ?_
    · simpa using hab
    · simpa using hab
  rw [e] at h
  unfold validContacts
  rw [Bool.and_eq_true, decide_eq_true_eq]
  exact ⟨fun ⟨a, b⟩ => ⟨(h.1 a).1, (h.1 a).2, b⟩, fun ⟨a, b, c⟩ => ⟨h.2 ⟨a, b⟩, c⟩⟩

/-- The place of the one element with a key, where keys differ. -/
theorem ix_key {α β : Type} [DecidableEq β] {f : α → β} {l : List α} (hp : l.Pairwise fun a b => f a ≠ f b) {k : Nat} {x : α} (h : l[k]? = some x) : ix (fun m => decide (f m = f x)) l = (k : Int) := by
  obtain ⟨hk, hx⟩ := List.getElem?_eq_some_iff.1 h
  refine ix_some (fun y hy => ?_) h (by simp)
  obtain ⟨j, hj, rfl⟩ := List.mem_take_iff_getElem.1 hy
  have := (List.pairwise_iff_getElem.1 hp) j k (by omega) hk (by omega)
  simp [← hx, this]
theorem byEnd_of {l : List MapD} (hl : validTable l = true) {k : Nat} {m : MapD} (h : l[k]? = some m) : byEnd l m.ins = (k : Int) :=
  ix_key (f := fun m : MapD => m.ins) ((validTable_iff.1 hl).2.1.imp fun {_ _} h => h.1) h
theorem byPort_of {l : List MapD} (hl : validTable l = true) {k : Nat} {m : MapD} (h : l[k]? = some m) : byPort l m.port = (k : Int) :=
  ix_key (f := fun m : MapD => m.port) ((validTable_iff.1 hl).2.1.imp fun {_ _} h => h.2) h
theorem byEnd_some {l : List MapD} {e : EndD} (h : 0 ≤ byEnd l e) : ∃ k m, byEnd l e = ((k : Nat) : Int) ∧ l[k]? = some m ∧ m.ins = e ∧ nth l (byEnd l e).toNat = m := by
  unfold byEnd at h ⊢
  rcases ix_cases (fun m : MapD => decide (m.ins = e)) l with ⟨h1, _⟩ | ⟨k, x, h1, h2, h3, _⟩
  · omega
  · exact ⟨k, x, h1, h2, by simpa using h3, by rw [h1]; exact nth_of (by simpa using h2)⟩
theorem byPort_some {l : List MapD} {p : Int} (h : 0 ≤ byPort l p) : ∃ k m, byPort l p = ((k : Nat) : Int) ∧ l[k]? = some m ∧ m.port = p ∧ nth l (byPort l p).toNat = m := by
  unfold byPort at h ⊢
  rcases ix_cases (fun m : MapD => decide (m.port = p)) l with ⟨h1, _⟩ | ⟨k, x, h1, h2, h3, _⟩
  · omega
  · exact ⟨k, x, h1, h2, by simpa using h3, by rw [h1]; exact nth_of (by simpa using h2)⟩
theorem byEnd_neg {l : List MapD} {e : EndD} (h : ¬ 0 ≤ byEnd l e) : byEnd l e = -1 ∧ ∀ m ∈ l, m.ins ≠ e := by
  unfold byEnd at h ⊢
  rcases ix_cases (fun m : MapD => decide (m.ins = e)) l with ⟨h1, h2⟩ | ⟨k, x, h1, h2, h3, _⟩
  · exact ⟨h1, fun m hm => by simpa using h2 m hm⟩
  · omega
theorem byPort_neg {l : List MapD} {p : Int} (h : ¬ 0 ≤ byPort l p) : byPort l p = -1 ∧ ∀ m ∈ l, m.port ≠ p := by
  unfold byPort at h ⊢
  rcases ix_cases (fun m : MapD => decide (m.port = p)) l with ⟨h1, h2⟩ | ⟨k, x, h1, h2, h3, _⟩
  · exact ⟨h1, fun m hm => by simpa using h2 m hm⟩
  · omega
theorem byEnd_mem {l : List MapD} {m : MapD} (h : m ∈ l) : 0 ≤ byEnd l m.ins := by
  rcases Int.lt_or_le (byEnd l m.ins) 0 with h' | h'
  · exact absurd rfl ((byEnd_neg (by omega)).2 m h)
  · exact h'
theorem byPort_mem {l : List MapD} {m : MapD} (h : m ∈ l) : 0 ≤ byPort l m.port := by
  rcases Int.lt_or_le (byPort l m.port) 0 with h' | h'
  · exact absurd rfl ((byPort_neg (by omega)).2 m h)
  · exact h'

theorem freeAt_iff {l : List MapD} {p : Int} : freeAt l p = true ↔ ∀ m ∈ l, m.port ≠ p := by
  unfold freeAt
  rw [decide_eq_true_eq]
  constructor
  · intro h
    exact (byPort_neg (by omega)).2
  · intro h
    rcases Int.lt_or_le (byPort l p) 0 with h' | h'
    · exact h'
    · obtain ⟨k, m, _, h2, h3, _⟩ := byPort_some h'
      exact absurd h3 (h m (List.mem_of_getElem? h2))
theorem freePort_ok {l : List MapD} {want : Int} (h : ¬ freePort l want < 0) : 1000 ≤ freePort l want ∧ freePort l want ≤ 1007 ∧ ∀ m ∈ l, m.port ≠ freePort l want := by
  unfold freePort at h ⊢
  split at h
  case isTrue h1 =>
    rw [if_pos h1]
    rw [Bool.and_eq_true, inR_iff] at h1
    exact ⟨h1.1.1, h1.1.2, freeAt_iff.1 h1.2⟩
  case isFalse h1 =>
    rw [if_neg h1]
    split at h
    case isTrue h2 =>
      rw [if_pos h2]
      rcases firstOf_cases (freeAt l) 8 1000 with ⟨h3, _⟩ | ⟨h3, h4, h5⟩
      · omega
      · exact ⟨h3, by omega, freeAt_iff.1 h5⟩
    case isFalse h2 =>
      rw [if_neg h2]
      rcases firstOf_cases (fun n => decide (n % 2 = want % 2) && freeAt l n) 8 1000 with ⟨h3, _⟩ | ⟨h3, h4, h5⟩
      · omega
      · rw [Bool.and_eq_true] at h5
        exact ⟨h3, by omega, freeAt_iff.1 h5.2⟩
/-- Different numbers of n numbers are at most n; and n of them are all. -/
theorem pigeon : ∀ (n : Nat) (lo : Int) (l : List Int), l.Pairwise (· ≠ ·) → (∀ x ∈ l, lo ≤ x ∧ x < lo + n) → l.length ≤ n ∧ (l.length = n → ∀ y, lo ≤ y → y < lo + n → y ∈ l)
  | 0, lo, l, _, h => by
    cases l with
    | nil => exact ⟨Nat.le_refl _, fun _ y h1 h2 => by omega⟩
    | cons x l => have := h x (by simp); omega
  | n + 1, lo, l, hp, h => by
    have ih := pigeon n lo (l.filter fun x => !decide (x = lo + n)) (hp.filter _) (fun x hx => by
      simp only [List.mem_filter, Bool.not_eq_true', decide_eq_false_iff_not] at hx
      have := h x hx.1
      omega)
    by_cases hm : lo + (n : Int) ∈ l
    · have hlen : l.length = (l.filter fun x => !decide (x = lo + n)).length + 1 := by
        obtain ⟨s, t, rfl⟩ := List.append_of_mem hm
        rw [List.pairwise_append] at hp
        have h1 : (s.filter fun x => !decide (x = lo + n)) = s := List.filter_eq_self.2 fun x hx => by
          have := hp.2.2 x hx _ (List.mem_cons_self)
          simpa using this
        have h2 : (t.filter fun x => !decide (x = lo + n)) = t := List.filter_eq_self.2 fun x hx => by
          have := (List.pairwise_cons.1 hp.2.1).1 x hx
          simpa using fun e => this e.symm
        rw [List.filter_append, List.filter_cons, h1, h2]
        simp
        omega
      refine ⟨by omega, fun he y h1 h2 => ?_⟩
      by_cases hy : y = lo + n
      · rw [hy]; exact hm
      · exact (List.mem_filter.1 (ih.2 (by omega) y h1 (by omega))).1
    · have h1 : (l.filter fun x => !decide (x = lo + n)) = l := List.filter_eq_self.2 fun x hx => by
        have : x ≠ lo + n := fun e => hm (e ▸ hx)
        simpa using this
      rw [h1] at ih
      exact ⟨by omega, fun he => by omega⟩
theorem table_pigeon {l : List MapD} (hl : validTable l = true) : l.length = 8 → ∀ p, 1000 ≤ p → p ≤ 1007 → ∃ m ∈ l, m.port = p := by
  obtain ⟨h1, h2, h3⟩ := validTable_iff.1 hl
  have h := pigeon 8 1000 (l.map (·.port)) (List.pairwise_map.2 (h2.imp fun {_ _} h => h.2)) (fun x hx => by
    obtain ⟨m, hm, rfl⟩ := List.mem_map.1 hx
    have := h1 m hm
    simp only [okMap, Bool.and_eq_true, inR_iff] at this
    omega)
  intro h8 p p0 p1
  obtain ⟨m, hm, e⟩ := List.mem_map.1 (h.2 (by simpa using h8) p p0 (by omega))
  exact ⟨m, hm, e⟩
theorem freePort_full {l : List MapD} (hl : validTable l = true) (want : Int) (h : l.length = 8) : freePort l want < 0 := by
  rcases Int.lt_or_le (freePort l want) 0 with h' | h'
  · exact h'
  · obtain ⟨a, b, c⟩ := freePort_ok (l := l) (want := want) (by omega)
    obtain ⟨m, hm, e⟩ := table_pigeon hl h _ a b
    exact absurd e (c m hm)
theorem freePort_room {l : List MapD} (want : Int) (h : l.length < 8) : ¬ freePort l want < 0 := by
  have hex : ∃ p, 1000 ≤ p ∧ p < 1000 + 8 ∧ freeAt l p = true := by
    apply Classical.byContradiction
    intro hn
    have hall : ∀ p : Int, 1000 ≤ p → p < 1000 + 8 → p ∈ l.map (·.port) := by
      intro p h0 h1
      apply Classical.byContradiction
      intro hm
      exact hn ⟨p, h0, h1, freeAt_iff.2 fun m hm' e => hm (List.mem_map.2 ⟨m, hm', e⟩)⟩
    have hle : ∀ (n : Nat) (L : List Int), (∀ p : Int, 1000 ≤ p → p < 1000 + (n : Int) → p ∈ L) → n ≤ L.length := by
      intro n
      induction n with
      | zero => intro L _; omega
      | succ n ih =>
        intro L hL
        have hm := hL (1000 + (n : Int)) (by omega) (by omega)
        obtain ⟨s, t, rfl⟩ := List.append_of_mem hm
        have := ih (s ++ t) (fun p h0 h1 => by
          have := hL p h0 (by omega)
          simp only [List.mem_append, List.mem_cons] at this ⊢
          rcases this with h | h | h
          · exact .inl h
          · omega
          · exact .inr h)
        simp only [List.length_append, List.length_cons] at this ⊢
        omega
    have := hle 8 _ hall
    simp at this
    omega
  obtain ⟨p, p0, p1, pf⟩ := hex
  unfold freePort
  split
  case isTrue h1 =>
    rw [Bool.and_eq_true, inR_iff] at h1
    omega
  case isFalse h1 =>
    split
    case isTrue h2 =>
      rcases firstOf_cases (freeAt l) 8 1000 with ⟨_, h4⟩ | ⟨h3, _, _⟩
      · rw [h4 p p0 p1] at pf; cases pf
      · omega
    case isFalse h2 => exact h2

/-- What mapping an end makes of a table in which nothing is newer than now. -/
structure Mapped (l t : List MapD) (e : EndD) (port now : Int) : Prop where
  valid : validTable t = true
  lo : 1000 ≤ port
  hi : port ≤ 1007
  len0 : l.length ≤ t.length
  len1 : t.length ≤ l.length + 1
  at_ : ∃ k : Nat, t[k]? = some (⟨e, port, now⟩ : MapD)
  old : ∀ m ∈ t, m ∈ l ∨ m = ⟨e, port, now⟩
  all : ∀ m ∈ l, ∃ q ∈ t, q.port = m.port ∧ q.ins = m.ins
theorem mapEnd_ok {l t : List MapD} {e : EndD} {port now : Int} (hl : validTable l = true) (he : validEnd e = true) (h0 : 0 ≤ now) (h1 : now ≤ 10000) (hn : ∀ m ∈ l, m.last ≤ now)
    (h : mapEnd l e now = some (t, port)) : Mapped l t e port now := by
  obtain ⟨v1, v2, v3⟩ := validTable_iff.1 hl
  unfold mapEnd at h
  split at h
  case isTrue hb =>
    obtain ⟨k, m, b1, b2, b3, b4⟩ := byEnd_some hb
    rw [b4, b1] at h
    simp only [Option.some.injEq, Prod.mk.injEq, Int.toNat_natCast] at h
    obtain ⟨rfl, rfl⟩ := h
    have hm : m ∈ l := List.mem_of_getElem? b2
    have hmax : max m.last now = now := by have := hn m hm; omega
    rw [hmax]
    obtain ⟨hk, hx⟩ := List.getElem?_eq_some_iff.1 b2
    have hok := v1 m hm
    have hok2 := hok
    simp only [okMap, Bool.and_eq_true, inR_iff] at hok2
    have hkey : (l.set k { m with last := now }).map (fun q => (q.ins, q.port)) = l.map (fun q => (q.ins, q.port)) := by
      rw [List.map_set]
      refine List.ext_getElem? fun i => ?_
      rw [List.getElem?_set]
      split
      · next e =>
        subst e
        simp [hk, hx]
      · rfl
    refine ⟨validTable_iff.2 ⟨fun q hq => ?_, ?_, by simpa using v3⟩, by omega, by omega, by simp, by simp, ⟨k, ?_⟩, fun q hq => ?_, fun q hq => ?_⟩
    · rcases List.mem_or_eq_of_mem_set hq with hq | rfl
      · exact v1 q hq
      · simp only [okMap, Bool.and_eq_true, inR_iff]
        exact ⟨⟨hok2.1.1, hok2.1.2⟩, h0, h1⟩
    · have hP : (l.map fun q => (q.ins, q.port)).Pairwise (fun a b => a.1 ≠ b.1 ∧ a.2 ≠ b.2) := List.pairwise_map.2 v2
      rw [← hkey] at hP
      exact (List.pairwise_map (f := fun q : MapD => (q.ins, q.port))).1 hP
    · rw [List.getElem?_set_self hk]
      simp [← b3]
    · rcases List.mem_or_eq_of_mem_set hq with hq | rfl
      · exact .inl hq
      · exact .inr (by simp [← b3])
    · have h5 : (q.ins, q.port) ∈ (l.set k { m with last := now }).map (fun q => (q.ins, q.port)) := by
        rw [hkey]; exact List.mem_map.2 ⟨q, hq, rfl⟩
      obtain ⟨q', hq', e'⟩ := List.mem_map.1 h5
      injection e' with e1 e2
      exact ⟨q', hq', e2, e1⟩
  case isFalse hb =>
    split at h
    · cases h
    case isFalse hf =>
      simp only [Option.some.injEq, Prod.mk.injEq] at h
      obtain ⟨rfl, rfl⟩ := h
      obtain ⟨f1, f2, f3⟩ := freePort_ok hf
      have hlen : l.length < 8 := by
        rcases Nat.lt_or_ge l.length 8 with h | h
        · exact h
        · exact absurd (freePort_full hl e.port (by omega)) hf
      refine ⟨validTable_iff.2 ⟨fun q hq => ?_, ?_, by simp; omega⟩, f1, f2, by simp, by simp, ⟨l.length, by simp⟩, fun q hq => ?_, fun q hq => ⟨q, by simp [hq], rfl, rfl⟩⟩
      · simp only [List.mem_append, List.mem_singleton] at hq
        rcases hq with hq | rfl
        · exact v1 q hq
        · simp only [okMap, Bool.and_eq_true, inR_iff]
          exact ⟨⟨he, f1, f2⟩, h0, h1⟩
      · rw [List.pairwise_append]
        refine ⟨v2, by simp, fun a ha b hb' => ?_⟩
        simp only [List.mem_singleton] at hb'
        subst hb'
        exact ⟨(byEnd_neg hb).2 a ha, f3 a ha⟩
      · simp only [List.mem_append, List.mem_singleton] at hq
        exact hq
theorem mapEnd_again {l t : List MapD} {e : EndD} {port now : Int} (h : Mapped l t e port now) : mapEnd t e now = some (t, port) := by
  obtain ⟨k, hk⟩ := h.at_
  have hb := byEnd_of h.valid hk
  simp only at hb
  unfold mapEnd
  rw [if_pos (by omega), hb, Int.toNat_natCast, nth_of hk]
  have hs : t.set k { (⟨e, port, now⟩ : MapD) with last := max now now } = t := by
    refine List.ext_getElem? fun i => ?_
    rw [List.getElem?_set]
    split
    · next e' =>
      subst e'
      obtain ⟨h1, h2⟩ := List.getElem?_eq_some_iff.1 hk
      rw [if_pos h1, hk]
      simp
    · rfl
  simp only [hs]
theorem mapEnd_none {l : List MapD} {e : EndD} {now : Int} (hl : validTable l = true) : mapEnd l e now = none ↔ ¬ 0 ≤ byEnd l e ∧ ¬ l.length < 8 := by
  unfold mapEnd
  split
  case isTrue h => simp [h]
  case isFalse h =>
    split
    case isTrue h2 =>
      refine ⟨fun _ => ⟨h, fun h3 => freePort_room e.port h3 h2⟩, fun _ => rfl⟩
    case isFalse h2 =>
      refine ⟨(fun h3 => by cases h3), fun ⟨_, h3⟩ => absurd (freePort_full hl e.port (by have := (validTable_iff.1 hl).2.2; omega)) h2⟩
theorem Mapped.out {l t : List MapD} {e : EndD} {port now : Int} (h : Mapped l t e port now) : outsidePort t e = port := by
  obtain ⟨k, hk⟩ := h.at_
  have hb := byEnd_of h.valid hk
  simp only at hb
  unfold outsidePort
  rw [h.valid, hb, Int.toNat_natCast, nth_of hk]
  simp
theorem Mapped.inside {l t : List MapD} {e : EndD} {port now : Int} (h : Mapped l t e port now) : 0 ≤ byPort t port ∧ nth t (byPort t port).toNat = ⟨e, port, now⟩ := by
  obtain ⟨k, hk⟩ := h.at_
  have hb := byPort_of h.valid hk
  simp only at hb
  rw [hb, Int.toNat_natCast, nth_of hk]
  exact ⟨by omega, rfl⟩

theorem note_eq (l : List ConD) (c : ConD) : note l c = (l.filter fun d => !decide (d = c)).drop ((l.filter fun d => !decide (d = c)).length + 1 - 10) ++ [c] := by
  unfold note noteAll
  rw [List.length_append, List.length_singleton, List.drop_append_of_le_length (by omega)]
theorem note_ok {l : List ConD} {c : ConD} (hl : validContacts l = true) (hc : okCon c = true) : validContacts (note l c) = true ∧ ∀ x ∈ note l c, x ∈ l ∨ x = c := by
  obtain ⟨v1, v2, v3⟩ := validContacts_iff.1 hl
  rw [note_eq]
  have hsub : ((l.filter fun d => !decide (d = c)).drop ((l.filter fun d => !decide (d = c)).length + 1 - 10)).Sublist l := (List.drop_sublist _ _).trans List.filter_sublist
  refine ⟨validContacts_iff.2 ⟨fun x hx => ?_, ?_, ?_⟩, fun x hx => ?_⟩
  · simp only [List.mem_append, List.mem_singleton] at hx
    rcases hx with hx | rfl
    · exact v1 x (hsub.subset hx)
    · exact hc
  · rw [List.pairwise_append]
    refine ⟨v2.sublist hsub, by simp, fun a ha b hb => ?_⟩
    simp only [List.mem_singleton] at hb
    subst hb
    have := (List.mem_filter.1 (List.mem_of_mem_drop ha)).2
    simpa using this
  · simp only [List.length_append, List.length_drop, List.length_singleton]
    omega
  · simp only [List.mem_append, List.mem_singleton] at hx
    rcases hx with hx | rfl
    · exact .inl (hsub.subset hx)
    · exact .inr rfl
theorem note_again (l : List ConD) (c : ConD) : note (note l c) c = note l c := by
  have hf : ((note l c).filter fun d => !decide (d = c)) = (l.filter fun d => !decide (d = c)).drop ((l.filter fun d => !decide (d = c)).length + 1 - 10) := by
    rw [note_eq, List.filter_append]
    rw [List.filter_eq_self.2 (fun x hx => (List.mem_filter.1 (List.mem_of_mem_drop hx)).2)]
    simp
  rw [note_eq (note l c) c, hf]
  rw [note_eq l c]
  rw [show ((l.filter fun d => !decide (d = c)).drop ((l.filter fun d => !decide (d = c)).length + 1 - 10)).length + 1 - 10 = 0 by rw [List.length_drop]; omega]
  rfl
theorem note_mem (l : List ConD) (c : ConD) : c ∈ note l c := by rw [note_eq]; simp
theorem note_len (l : List ConD) (c : ConD) : 0 < (note l c).length ∧ (note l c).length ≤ 10 := by
  rw [note_eq]
  simp only [List.length_append, List.length_drop, List.length_singleton]
  omega
theorem note_last (l : List ConD) (c : ConD) : nth (note l c) ((note l c).length - 1) = c := by
  refine nth_of ?_
  rw [note_eq]
  simp

/-- A valid gate, part by part. -/
structure VGate (g : GateD) : Prop where
  net : validNet g.net = true
  out : word g.out = true
  nin : has g.net g.out = false
  tab : validTable g.table = true
  con : validContacts g.cons = true
  fil : inR g.filter 0 2 = true
  now0 : 0 ≤ g.now
  now1 : g.now ≤ 10000
  hold0 : 1 ≤ g.hold
  hold1 : g.hold ≤ 500
  maps : ∀ m ∈ g.table, has g.net m.ins.addr = true ∧ m.last ≤ g.now ∧ g.now - m.last < g.hold
  cons : ∀ c ∈ g.cons, 0 ≤ byPort g.table c.port
theorem validGate_iff {g : GateD} : validGate g = true ↔ VGate g := by
  unfold validGate
  simp only [Bool.and_eq_true, Bool.not_eq_true', timer, inR_iff, List.all_eq_true, okGateMap, okGateCon, expired, decide_eq_true_eq, decide_eq_false_iff_not]
  constructor
  · rintro ⟨⟨⟨⟨⟨⟨⟨⟨h1, h2⟩, h3⟩, h4⟩, h5⟩, h6⟩, h7⟩, h8⟩, h9⟩
    exact ⟨h1, h2, h3, h4, h5, inR_iff.2 h6, h7.1.1, h7.1.2, h7.2.1, h7.2.2, fun m hm => by have := h8 m hm; exact ⟨this.1.1, this.1.2, by omega⟩, h9⟩
  · intro h
    exact ⟨⟨⟨⟨⟨⟨⟨⟨h.net, h.out⟩, h.nin⟩, h.tab⟩, h.con⟩, inR_iff.1 h.fil⟩, ⟨⟨h.now0, h.now1⟩, h.hold0, h.hold1⟩⟩, fun m hm => by have := h.maps m hm; exact ⟨⟨this.1, this.2.1⟩, by omega⟩⟩, h.cons⟩
theorem validPkt_iff {p : PktD} : validPkt p = true ↔ inR p.kind 0 2 = true ∧ validEnd p.fr = true ∧ validEnd p.to_ = true ∧ p.data.length ≤ 12 ∧ p.data.all word = true := by
  simp only [validPkt, Bool.and_eq_true, decide_eq_true_eq]
  constructor
  · rintro ⟨⟨⟨⟨a, b⟩, c⟩, d⟩, e⟩; exact ⟨a, b, c, d, e⟩
  · rintro ⟨a, b, c, d, e⟩; exact ⟨⟨⟨⟨a, b⟩, c⟩, d⟩, e⟩
theorem word_port {p : Int} (h0 : 1000 ≤ p) (h1 : p ≤ 1007) : word p = true := word_iff.2 (by omega)

/-- What sending a packet from inside gives. -/
structure Sent (g : GateD) (p q : PktD) (h : GateD) : Prop where
  mapped : Mapped g.table h.table p.fr q.fr.port g.now
  cons : h.cons = note g.cons ⟨q.fr.port, p.to_⟩
  same : h = { g with table := h.table, cons := h.cons }
  pkt : q = { p with fr := ⟨g.out, q.fr.port⟩ }
  valid : VGate h
  validq : validPkt q = true
  again : send h p = some (q, h)
theorem send_ok {g : GateD} {p q : PktD} {h : GateD} (hg : VGate g) (hp : validPkt p = true) (hin : has g.net p.fr.addr = true) (hs : send g p = some (q, h)) : Sent g p q h := by
  obtain ⟨p1, p2, p3, p4, p5⟩ := validPkt_iff.1 hp
  unfold send at hs
  cases hm : mapEnd g.table p.fr g.now with
  | none => rw [hm] at hs; cases hs
  | some r =>
    obtain ⟨t, port⟩ := r
    rw [hm] at hs
    simp only [Option.some.injEq, Prod.mk.injEq] at hs
    obtain ⟨rfl, rfl⟩ := hs
    have M := mapEnd_ok hg.tab p2 hg.now0 hg.now1 (fun m hm' => (hg.maps m hm').2.1) hm
    have hc : okCon ⟨port, p.to_⟩ = true := by
      simp only [okCon, Bool.and_eq_true, inR_iff]
      exact ⟨⟨M.lo, M.hi⟩, p3⟩
    obtain ⟨n1, n2⟩ := note_ok hg.con hc
    refine ⟨M, rfl, rfl, rfl, ⟨hg.net, hg.out, hg.nin, M.valid, n1, hg.fil, hg.now0, hg.now1, hg.hold0, hg.hold1, fun m hm' => ?_, fun c hc' => ?_⟩, validPkt_iff.2 ⟨p1, ?_, p3, p4, p5⟩, ?_⟩
    · rcases M.old m hm' with h | rfl
      · exact hg.maps m h
      · have := hg.hold0
        exact ⟨hin, by simp, by simp; omega⟩
    · rcases n2 c hc' with h | rfl
      · obtain ⟨k, m, b1, b2, b3, _⟩ := byPort_some (hg.cons c h)
        obtain ⟨q, hq, e, _⟩ := M.all m (List.mem_of_getElem? b2)
        have := byPort_mem hq
        rw [e, b3] at this
        exact this
      · exact M.inside.1
    · simp only [validEnd, Bool.and_eq_true]
      exact ⟨hg.out, word_port M.lo M.hi⟩
    · unfold send
      simp only [mapEnd_again M, note_again]
theorem send_none {g : GateD} {p : PktD} (hg : VGate g) : send g p = none ↔ ¬ 0 ≤ byEnd g.table p.fr ∧ ¬ g.table.length < 8 := by
  rw [← mapEnd_none (now := g.now) hg.tab]
  unfold send
  cases mapEnd g.table p.fr g.now with
  | none => simp
  | some r => simp
end Go.Proofs.Ytafmomocmodbhaa
