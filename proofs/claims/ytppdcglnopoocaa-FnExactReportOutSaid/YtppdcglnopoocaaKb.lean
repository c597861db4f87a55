/- The words, laws and contracts that the claims of this seat share: group b. No condition. -/
import Derived.Test.YtppdcglnopoocaaKa
import Derived.Test.YtppdcglnopoocaaKs
/- Plain laws of the gate: valid tables, contacts and gates by their elements; what mapping an end, noting a contact, sending, receiving and ticking keep. No program in sight. No condition. -/
namespace Go.Proofs.Ytppdcglnopoocaa
set_option linter.unusedVariables false
set_option linter.unusedSimpArgs false

theorem upTo_pair {α : Type} [Inhabited α] {p : α → Bool} {r : α → α → Bool} {l : List α} :
    upTo (fun i => p (nth l i) && (l.take i).all fun q => r q (nth l i)) l.length = true ↔ (∀ x ∈ l, p x = true) ∧ l.Pairwise (fun a b => r a b = true) := by
  rw [upTo_iff, List.pairwise_iff_getElem]
  constructor
  · intro h
    refine ⟨fun x hx => ?_, fun i j hi hj hij => ?_⟩
    · obtain ⟨i, hi, rfl⟩ := List.mem_iff_getElem.1 hx
      have := h i hi
      rw [Bool.and_eq_true, nth_of (List.getElem?_eq_getElem hi)] at this
      exact this.1
    · have := h j hj
      rw [Bool.and_eq_true, nth_of (List.getElem?_eq_getElem hj), List.all_eq_true] at this
      exact this.2 _ (List.mem_take_iff_getElem.2 ⟨i, by omega, rfl⟩)
  · rintro ⟨h1, h2⟩ i hi
    rw [Bool.and_eq_true, nth_of (List.getElem?_eq_getElem hi), List.all_eq_true]
    refine ⟨h1 _ (List.getElem_mem hi), fun x hx => ?_⟩
    obtain ⟨j, hj, rfl⟩ := List.mem_take_iff_getElem.1 hx
    exact h2 j i (by omega) hi (by omega)
def MapNe (a b : MapD) : Prop := a.ins ≠ b.ins ∧ a.port ≠ b.port
theorem validTable_iff {l : List MapD} : validTable l = true ↔ (∀ m ∈ l, okMap m = true) ∧ l.Pairwise MapNe ∧ l.length ≤ 8 := by
  have h := upTo_pair (p := okMap) (r := fun q m => !decide (q.ins = m.ins) && !decide (q.port = m.port)) (l := l)
  have e : (l.Pairwise fun a b => (!decide (a.ins = b.ins) && !decide (a.port = b.port)) = true) ↔ l.Pairwise MapNe := by
    constructor <;> intro h <;> refine h.imp fun {a b} hab => ?_
    · simpa [MapNe] using hab
    · simpa [MapNe] using hab
  rw [e] at h
  unfold validTable
  rw [Bool.and_eq_true, decide_eq_true_eq]
  exact ⟨fun ⟨a, b⟩ => ⟨(h.1 a).1, (h.1 a).2, b⟩, fun ⟨a, b, c⟩ => ⟨h.2 ⟨a, b⟩, c⟩⟩
theorem validContacts_iff {l : List ConD} : validContacts l = true ↔ (∀ c ∈ l, okCon c = true) ∧ l.Pairwise (· ≠ ·) ∧ l.length ≤ 10 := by
  have h := upTo_pair (p := okCon) (r := fun q m => !decide (q = m)) (l := l)
  have e : (l.Pairwise fun a b => (!decide (a = b)) = true) ↔ l.Pairwise (· ≠ ·) := by
    constructor <;> intro h <;> refine h.imp fun {a b} hab => ?_
    · simpa using hab
    · simpa using hab
  rw [e] at h
  unfold validContacts
  rw [Bool.and_eq_true, decide_eq_true_eq]
  exact ⟨fun ⟨a, b⟩ => ⟨(h.1 a).1, (h.1 a).2, b⟩, fun ⟨a, b, c⟩ => ⟨h.2 ⟨a, b⟩, c⟩⟩

/-- The place of the one element with a key, where keys differ. -/
theorem ix_key {α β : Type} [DecidableEq β] {f : α → β} {l : List α} (hp : l.Pairwise fun a b => f a ≠ f b) {k : Nat} {x : α} (h : l[k]? = some x) : ix (fun m => decide (f m = f x)) l = (k : Int) := by
  obtain ⟨hk, hx⟩ := List.getElem?_eq_some_iff.1 h
  refine ix_some (fun y hy => ?_) h (by simp)
  obtain ⟨j, hj, rfl⟩ := List.mem_take_iff_getElem.1 hy
  have := (List.pairwise_iff_getElem.1 hp) j k (by omega) hk (by omega)
  simp [← hx, this]
theorem byEnd_of {l : List MapD} (hl : validTable l = true) {k : Nat} {m : MapD} (h : l[k]? = some m) : byEnd l m.ins = (k : Int) :=
  ix_key (f := fun m : MapD => m.ins) ((validTable_iff.1 hl).2.1.imp fun {_ _} h => h.1) h
theorem byPort_of {l : List MapD} (hl : validTable l = true) {k : Nat} {m : MapD} (h : l[k]? = some m) : byPort l m.port = (k : Int) :=
  ix_key (f := fun m : MapD => m.port) ((validTable_iff.1 hl).2.1.imp fun {_ _} h => h.2) h
theorem byEnd_some {l : List MapD} {e : EndD} (h : 0 ≤ byEnd l e) : ∃ k m, byEnd l e = ((k : Nat) : Int) ∧ l[k]? = some m ∧ m.ins = e ∧ nth l (byEnd l e).toNat = m := by
  unfold byEnd at h ⊢
  rcases ix_cases (fun m : MapD => decide (m.ins = e)) l with ⟨h1, _⟩ | ⟨k, x, h1, h2, h3, _⟩
  · omega
  · exact ⟨k, x, h1, h2, by simpa using h3, by rw [h1]; exact nth_of (by simpa using h2)⟩
theorem byPort_some {l : List MapD} {p : Int} (h : 0 ≤ byPort l p) : ∃ k m, byPort l p = ((k : Nat) : Int) ∧ l[k]? = some m ∧ m.port = p ∧ nth l (byPort l p).toNat = m := by
  unfold byPort at h ⊢
  rcases ix_cases (fun m : MapD => decide (m.port = p)) l with ⟨h1, _⟩ | ⟨k, x, h1, h2, h3, _⟩
  · omega
  · exact ⟨k, x, h1, h2, by simpa using h3, by rw [h1]; exact nth_of (by simpa using h2)⟩
theorem byEnd_neg {l : List MapD} {e : EndD} (h : ¬ 0 ≤ byEnd l e) : byEnd l e = -1 ∧ ∀ m ∈ l, m.ins ≠ e := by
  unfold byEnd at h ⊢
  rcases ix_cases (fun m : MapD => decide (m.ins = e)) l with ⟨h1, h2⟩ | ⟨k, x, h1, h2, h3, _⟩
  · exact ⟨h1, fun m hm => by simpa using h2 m hm⟩
  · omega
theorem byPort_neg {l : List MapD} {p : Int} (h : ¬ 0 ≤ byPort l p) : byPort l p = -1 ∧ ∀ m ∈ l, m.port ≠ p := by
  unfold byPort at h ⊢
  rcases ix_cases (fun m : MapD => decide (m.port = p)) l with ⟨h1, h2⟩ | ⟨k, x, h1, h2, h3, _⟩
  · exact ⟨h1, fun m hm => by simpa using h2 m hm⟩
  · omega
theorem byEnd_mem {l : List MapD} {m : MapD} (h : m ∈ l) : 0 ≤ byEnd l m.ins := by
  rcases Int.lt_or_le (byEnd l m.ins) 0 with h' | h'
  · exact absurd rfl ((byEnd_neg (by omega)).2 m h)
  · exact h'
theorem byPort_mem {l : List MapD} {m : MapD} (h : m ∈ l) : 0 ≤ byPort l m.port := by
  rcases Int.lt_or_le (byPort l m.port) 0 with h' | h'
  · exact absurd rfl ((byPort_neg (by omega)).2 m h)
  · exact h'

theorem freeAt_iff {l : List MapD} {p : Int} : freeAt l p = true ↔ ∀ m ∈ l, m.port ≠ p := by
  unfold freeAt
  rw [decide_eq_true_eq]
  constructor
  · intro h
    exact (byPort_neg (by omega)).2
  · intro h
    rcases Int.lt_or_le (byPort l p) 0 with h' | h'
    · exact h'
    · obtain ⟨k, m, _, h2, h3, _⟩ := byPort_some h'
      exact absurd h3 (h m (List.mem_of_getElem? h2))
theorem freePort_ok {l : List MapD} {want : Int} (h : ¬ freePort l want < 0) : 1000 ≤ freePort l want ∧ freePort l want ≤ 1007 ∧ ∀ m ∈ l, m.port ≠ freePort l want := by
  unfold freePort at h ⊢
  split at h
  case isTrue h1 =>
    rw [if_pos h1]
    rw [Bool.and_eq_true, inR_iff] at h1
    exact ⟨h1.1.1, h1.1.2, freeAt_iff.1 h1.2⟩
  case isFalse h1 =>
    rw [if_neg h1]
    split at h
    case isTrue h2 =>
      rw [if_pos h2]
      rcases firstOf_cases (freeAt l) 8 1000 with ⟨h3, _⟩ | ⟨h3, h4, h5⟩
      · omega
      · exact ⟨h3, by omega, freeAt_iff.1 h5⟩
    case isFalse h2 =>
      rw [if_neg h2]
      rcases firstOf_cases (fun n => decide (n % 2 = want % 2) && freeAt l n) 8 1000 with ⟨h3, _⟩ | ⟨h3, h4, h5⟩
      · omega
      · rw [Bool.and_eq_true] at h5
        exact ⟨h3, by omega, freeAt_iff.1 h5.2⟩
/-- Different numbers of n numbers are at most n; and n of them are all. -/
theorem pigeon : ∀ (n : Nat) (lo : Int) (l : List Int), l.Pairwise (· ≠ ·) → (∀ x ∈ l, lo ≤ x ∧ x < lo + n) → l.length ≤ n ∧ (l.length = n → ∀ y, lo ≤ y → y < lo + n → y ∈ l)
  | 0, lo, l, _, h => by
    cases l with
    | nil => exact ⟨Nat.le_refl _, fun _ y h1 h2 => by omega⟩
    | cons x l => have := h x (by simp); omega
  | n + 1, lo, l, hp, h => by
    have ih := pigeon n lo (l.filter fun x => !decide (x = lo + n)) (hp.filter _) (fun x hx => by
      simp only [List.mem_filter, Bool.not_eq_true', decide_eq_false_iff_not] at hx
      have := h x hx.1
      omega)
    by_cases hm : lo + (n : Int) ∈ l
    · have hlen : l.length = (l.filter fun x => !decide (x = lo + n)).length + 1 := by
        obtain ⟨s, t, rfl⟩ := List.append_of_mem hm
        rw [List.pairwise_append] at hp
        have h1 : (s.filter fun x => !decide (x = lo + n)) = s := List.filter_eq_self.2 fun x hx => by
          have := hp.2.2 x hx _ (List.mem_cons_self)
          simpa using this
        have h2 : (t.filter fun x => !decide (x = lo + n)) = t := List.filter_eq_self.2 fun x hx => by
          have := (List.pairwise_cons.1 hp.2.1).1 x hx
          simpa using fun e => this e.symm
        rw [List.filter_append, List.filter_cons, h1, h2]
        simp
        omega
      refine ⟨by omega, fun he y h1 h2 => ?_⟩
      by_cases hy : y = lo + n
      · rw [hy]; exact hm
      · exact (List.mem_filter.1 (ih.2 (by omega) y h1 (by omega))).1
    · have h1 : (l.filter fun x => !decide (x = lo + n)) = l := List.filter_eq_self.2 fun x hx => by
        have : x ≠ lo + n := fun e => hm (e ▸ hx)
        simpa using this
      rw [h1] at ih
      exact ⟨by omega, fun he => by omega⟩
theorem table_pigeon {l : List MapD} (hl : validTable l = true) : l.length = 8 → ∀ p, 1000 ≤ p → p ≤ 1007 → ∃ m ∈ l, m.port = p := by
  obtain ⟨h1, h2, h3⟩ := validTable_iff.1 hl
  have h := pigeon 8 1000 (l.map (·.port)) (List.pairwise_map.2 (h2.imp fun {_ _} h => h.2)) (fun x hx => by
    obtain ⟨m, hm, rfl⟩ := List.mem_map.1 hx
    have := h1 m hm
    simp only [okMap, Bool.and_eq_true, inR_iff] at this
    omega)
  intro h8 p p0 p1
  obtain ⟨m, hm, e⟩ := List.mem_map.1 (h.2 (by simpa using h8) p p0 (by omega))
  exact ⟨m, hm, e⟩
theorem freePort_full {l : List MapD} (hl : validTable l = true) (want : Int) (h : l.length = 8) : freePort l want < 0 := by
  rcases Int.lt_or_le (freePort l want) 0 with h' | h'
  · exact h'
  · obtain ⟨a, b, c⟩ := freePort_ok (l := l) (want := want) (by omega)
    obtain ⟨m, hm, e⟩ := table_pigeon hl h _ a b
    exact absurd e (c m hm)
theorem freePort_room {l : List MapD} (want : Int) (h : l.length < 8) : ¬ freePort l want < 0 := by
  have hex : ∃ p, 1000 ≤ p ∧ p < 1000 + 8 ∧ freeAt l p = true := by
    apply Classical.byContradiction
    intro hn
    have hall : ∀ p : Int, 1000 ≤ p → p < 1000 + 8 → p ∈ l.map (·.port) := by
      intro p h0 h1
      apply Classical.byContradiction
      intro hm
      exact hn ⟨p, h0, h1, freeAt_iff.2 fun m hm' e => hm (List.mem_map.2 ⟨m, hm', e⟩)⟩
    have hle : ∀ (n : Nat) (L : List Int), (∀ p : Int, 1000 ≤ p → p < 1000 + (n : Int) → p ∈ L) → n ≤ L.length := by
      intro n
      induction n with
      | zero => intro L _; omega
      | succ n ih =>
        intro L hL
        have hm := hL (1000 + (n : Int)) (by omega) (by omega)
        obtain ⟨s, t, rfl⟩ := List.append_of_mem hm
        have := ih (s ++ t) (fun p h0 h1 => by
          have := hL p h0 (by omega)
          simp only [List.mem_append, List.mem_cons] at this ⊢
          rcases this with h | h | h
          · exact .inl h
          · omega
          · exact .inr h)
        simp only [List.length_append, List.length_cons] at this ⊢
        omega
    have := hle 8 _ hall
    simp at this
    omega
  obtain ⟨p, p0, p1, pf⟩ := hex
  unfold freePort
  split
  case isTrue h1 =>
    rw [Bool.and_eq_true, inR_iff] at h1
    omega
  case isFalse h1 =>
    split
    case isTrue h2 =>
      rcases firstOf_cases (freeAt l) 8 1000 with ⟨_, h4⟩ | ⟨h3, _, _⟩
      · rw [h4 p p0 p1] at pf; cases pf
      · omega
    case isFalse h2 => exact h2

/-- What mapping an end makes of a table in which nothing is newer than now. -/
structure Mapped (l t : List MapD) (e : EndD) (port now : Int) : Prop where
  valid : validTable t = true
  lo : 1000 ≤ port
  hi : port ≤ 1007
  len0 : l.length ≤ t.length
  len1 : t.length ≤ l.length + 1
  at_ : ∃ k : Nat, t[k]? = some (⟨e, port, now⟩ : MapD)
  old : ∀ m ∈ t, m ∈ l ∨ m = ⟨e, port, now⟩
  all : ∀ m ∈ l, ∃ q ∈ t, q.port = m.port ∧ q.ins = m.ins
theorem mapEnd_ok {l t : List MapD} {e : EndD} {port now : Int} (hl : validTable l = true) (he : validEnd e = true) (h0 : 0 ≤ now) (h1 : now ≤ 10000) (hn : ∀ m ∈ l, m.last ≤ now)
    (h : mapEnd l e now = some (t, port)) : Mapped l t e port now := by
  obtain ⟨v1, v2, v3⟩ := validTable_iff.1 hl
  unfold mapEnd at h
  split at h
  case isTrue hb =>
    obtain ⟨k, m, b1, b2, b3, b4⟩ := byEnd_some hb
    rw [b4, b1] at h
    simp only [Option.some.injEq, Prod.mk.injEq, Int.toNat_natCast] at h
    obtain ⟨rfl, rfl⟩ := h
    have hm : m ∈ l := List.mem_of_getElem? b2
    have hmax : max m.last now = now := by have := hn m hm; omega
    rw [hmax]
    obtain ⟨hk, hx⟩ := List.getElem?_eq_some_iff.1 b2
    have hok := v1 m hm
    have hok2 := hok
    simp only [okMap, Bool.and_eq_true, inR_iff] at hok2
    have hkey : (l.set k { m with last := now }).map (fun q => (q.ins, q.port)) = l.map (fun q => (q.ins, q.port)) := by
      rw [List.map_set]
      refine List.ext_getElem? fun i => ?_
      rw [List.getElem?_set]
      split
      · next e =>
        subst e
        simp [hk, hx]
      · rfl
    refine ⟨validTable_iff.2 ⟨fun q hq => ?_, ?_, by simpa using v3⟩, by omega, by omega, by simp, by simp, ⟨k, ?_⟩, fun q hq => ?_, fun q hq => ?_⟩
    · rcases List.mem_or_eq_of_mem_set hq with hq | rfl
      · exact v1 q hq
      · simp only [okMap, Bool.and_eq_true, inR_iff]
        exact ⟨⟨hok2.1.1, hok2.1.2⟩, h0, h1⟩
    · have hP : (l.map fun q => (q.ins, q.port)).Pairwise (fun a b => a.1 ≠ b.1 ∧ a.2 ≠ b.2) := List.pairwise_map.2 v2
      rw [← hkey] at hP
      exact (List.pairwise_map (f := fun q : MapD => (q.ins, q.port))).1 hP
    · rw [List.getElem?_set_self hk]
      simp [← b3]
    · rcases List.mem_or_eq_of_mem_set hq with hq | rfl
      · exact .inl hq
      · exact .inr (by simp [← b3])
    · have h5 : (q.ins, q.port) ∈ (l.set k { m with last := now }).map (fun q => (q.ins, q.port)) := by
        rw [hkey]; exact List.mem_map.2 ⟨q, hq, rfl⟩
      obtain ⟨q', hq', e'⟩ := List.mem_map.1 h5
      injection e' with e1 e2
      exact ⟨q', hq', e2, e1⟩
  case isFalse hb =>
    split at h
    · cases h
    case isFalse hf =>
      simp only [Option.some.injEq, Prod.mk.injEq] at h
      obtain ⟨rfl, rfl⟩ := h
      obtain ⟨f1, f2, f3⟩ := freePort_ok hf
      have hlen : l.length < 8 := by
        rcases Nat.lt_or_ge l.length 8 with h | h
        · exact h
        · exact absurd (freePort_full hl e.port (by omega)) hf
      refine ⟨validTable_iff.2 ⟨fun q hq => ?_, ?_, by simp; omega⟩, f1, f2, by simp, by simp, ⟨l.length, by simp⟩, fun q hq => ?_, fun q hq => ⟨q, by simp [hq], rfl, rfl⟩⟩
      · simp only [List.mem_append, List.mem_singleton] at hq
        rcases hq with hq | rfl
        · exact v1 q hq
        · simp only [okMap, Bool.and_eq_true, inR_iff]
          exact ⟨⟨he, f1, f2⟩, h0, h1⟩
      · rw [List.pairwise_append]
        refine ⟨v2, by simp, fun a ha b hb' => ?_⟩
        simp only [List.mem_singleton] at hb'
        subst hb'
        exact ⟨(byEnd_neg hb).2 a ha, f3 a ha⟩
      · simp only [List.mem_append, List.mem_singleton] at hq
        exact hq
theorem mapEnd_again {l t : List MapD} {e : EndD} {port now : Int} (h : Mapped l t e port now) : mapEnd t e now = some (t, port) := by
  obtain ⟨k, hk⟩ := h.at_
  have hb := byEnd_of h.valid hk
  simp only at hb
  unfold mapEnd
  rw [if_pos (by omega), hb, Int.toNat_natCast, nth_of hk]
  have hs : t.set k { (⟨e, port, now⟩ : MapD) with last := max now now } = t := by
    refine List.ext_getElem? fun i => ?_
    rw [List.getElem?_set]
    split
    · next e' =>
      subst e'
      obtain ⟨h1, h2⟩ := List.getElem?_eq_some_iff.1 hk
      rw [if_pos h1, hk]
      simp
    · rfl
  simp only [hs]
theorem mapEnd_none {l : List MapD} {e : EndD} {now : Int} (hl : validTable l = true) : mapEnd l e now = none ↔ ¬ 0 ≤ byEnd l e ∧ ¬ l.length < 8 := by
  unfold mapEnd
  split
  case isTrue h => simp [h]
  case isFalse h =>
    split
    case isTrue h2 =>
      refine ⟨fun _ => ⟨h, fun h3 => freePort_room e.port h3 h2⟩, fun _ => rfl⟩
    case isFalse h2 =>
      refine ⟨(fun h3 => by cases h3), fun ⟨_, h3⟩ => absurd (freePort_full hl e.port (by have := (validTable_iff.1 hl).2.2; omega)) h2⟩
theorem Mapped.out {l t : List MapD} {e : EndD} {port now : Int} (h : Mapped l t e port now) : outsidePort t e = port := by
  obtain ⟨k, hk⟩ := h.at_
  have hb := byEnd_of h.valid hk
  simp only at hb
  unfold outsidePort
  rw [h.valid, hb, Int.toNat_natCast, nth_of hk]
  simp
theorem Mapped.inside {l t : List MapD} {e : EndD} {port now : Int} (h : Mapped l t e port now) : 0 ≤ byPort t port ∧ nth t (byPort t port).toNat = ⟨e, port, now⟩ := by
  obtain ⟨k, hk⟩ := h.at_
  have hb := byPort_of h.valid hk
  simp only at hb
  rw [hb, Int.toNat_natCast, nth_of hk]
  exact ⟨by omega, rfl⟩

theorem note_eq (l : List ConD) (c : ConD) : note l c = (l.filter fun d => !decide (d = c)).drop ((l.filter fun d => !decide (d = c)).length + 1 - 10) ++ [c] := by
  unfold note noteAll
  rw [List.length_append, List.length_singleton, List.drop_append_of_le_length (by omega)]
theorem note_ok {l : List ConD} {c : ConD} (hl : validContacts l = true) (hc : okCon c = true) : validContacts (note l c) = true ∧ ∀ x ∈ note l c, x ∈ l ∨ x = c := by
  obtain ⟨v1, v2, v3⟩ := validContacts_iff.1 hl
  rw [note_eq]
  have hsub : ((l.filter fun d => !decide (d = c)).drop ((l.filter fun d => !decide (d = c)).length + 1 - 10)).Sublist l := (List.drop_sublist _ _).trans List.filter_sublist
  refine ⟨validContacts_iff.2 ⟨fun x hx => ?_, ?_, ?_⟩, fun x hx => ?_⟩
  · simp only [List.mem_append, List.mem_singleton] at hx
    rcases hx with hx | rfl
    · exact v1 x (hsub.subset hx)
    · exact hc
  · rw [List.pairwise_append]
    refine ⟨v2.sublist hsub, by simp, fun a ha b hb => ?_⟩
    simp only [List.mem_singleton] at hb
    subst hb
    have := (List.mem_filter.1 (List.mem_of_mem_drop ha)).2
    simpa using this
  · simp only [List.length_append, List.length_drop, List.length_singleton]
    omega
  · simp only [List.mem_append, List.mem_singleton] at hx
    rcases hx with hx | rfl
    · exact .inl (hsub.subset hx)
    · exact .inr rfl
theorem note_again (l : List ConD) (c : ConD) : note (note l c) c = note l c := by
  have hf : ((note l c).filter fun d => !decide (d = c)) = (l.filter fun d => !decide (d = c)).drop ((l.filter fun d => !decide (d = c)).length + 1 - 10) := by
    rw [note_eq, List.filter_append]
    rw [List.filter_eq_self.2 (fun x hx => (List.mem_filter.1 (List.mem_of_mem_drop hx)).2)]
    simp
  rw [note_eq (note l c) c, hf]
  rw [note_eq l c]
  rw [show ((l.filter fun d => !decide (d = c)).drop ((l.filter fun d => !decide (d = c)).length + 1 - 10)).length + 1 - 10 = 0 by rw [List.length_drop]; omega]
  rfl
theorem note_mem (l : List ConD) (c : ConD) : c ∈ note l c := by rw [note_eq]; simp
theorem note_len (l : List ConD) (c : ConD) : 0 < (note l c).length ∧ (note l c).length ≤ 10 := by
  rw [note_eq]
  simp only [List.length_append, List.length_drop, List.length_singleton]
  omega
theorem note_last (l : List ConD) (c : ConD) : nth (note l c) ((note l c).length - 1) = c := by
  refine nth_of ?_
  rw [note_eq]
  simp

/-- A valid gate, part by part. -/
structure VGate (g : GateD) : Prop where
  net : validNet g.net = true
  out : word g.out = true
  nin : has g.net g.out = false
  tab : validTable g.table = true
  con : validContacts g.cons = true
  fil : inR g.filter 0 2 = true
  now0 : 0 ≤ g.now
  now1 : g.now ≤ 10000
  hold0 : 1 ≤ g.hold
  hold1 : g.hold ≤ 500
  maps : ∀ m ∈ g.table, has g.net m.ins.addr = true ∧ m.last ≤ g.now ∧ g.now - m.last < g.hold
  cons : ∀ c ∈ g.cons, 0 ≤ byPort g.table c.port
theorem validGate_iff {g : GateD} : validGate g = true ↔ VGate g := by
  unfold validGate
  simp only [Bool.and_eq_true, Bool.not_eq_true', timer, inR_iff, List.all_eq_true, okGateMap, okGateCon, expired, decide_eq_true_eq, decide_eq_false_iff_not]
  constructor
  · rintro ⟨⟨⟨⟨⟨⟨⟨⟨h1, h2⟩, h3⟩, h4⟩, h5⟩, h6⟩, h7⟩, h8⟩, h9⟩
    exact ⟨h1, h2, h3, h4, h5, inR_iff.2 h6, h7.1.1, h7.1.2, h7.2.1, h7.2.2, fun m hm => by have := h8 m hm; exact ⟨this.1.1, this.1.2, by omega⟩, h9⟩
  · intro h
    exact ⟨⟨⟨⟨⟨⟨⟨⟨h.net, h.out⟩, h.nin⟩, h.tab⟩, h.con⟩, inR_iff.1 h.fil⟩, ⟨⟨h.now0, h.now1⟩, h.hold0, h.hold1⟩⟩, fun m hm => by have := h.maps m hm; exact ⟨⟨this.1, this.2.1⟩, by omega⟩⟩, h.cons⟩
theorem validPkt_iff {p : PktD} : validPkt p = true ↔ inR p.kind 0 2 = true ∧ validEnd p.fr = true ∧ validEnd p.to_ = true ∧ p.data.length ≤ 12 ∧ p.data.all word = true := by
  simp only [validPkt, Bool.and_eq_true, decide_eq_true_eq]
  constructor
  · rintro ⟨⟨⟨⟨a, b⟩, c⟩, d⟩, e⟩; exact ⟨a, b, c, d, e⟩
  · rintro ⟨a, b, c, d, e⟩; exact ⟨⟨⟨⟨a, b⟩, c⟩, d⟩, e⟩
theorem word_port {p : Int} (h0 : 1000 ≤ p) (h1 : p ≤ 1007) : word p = true := word_iff.2 (by omega)

/-- What sending a packet from inside gives. -/
structure Sent (g : GateD) (p q : PktD) (h : GateD) : Prop where
  mapped : Mapped g.table h.table p.fr q.fr.port g.now
  cons : h.cons = note g.cons ⟨q.fr.port, p.to_⟩
  same : h = { g with table := h.table, cons := h.cons }
  pkt : q = { p with fr := ⟨g.out, q.fr.port⟩ }
  valid : VGate h
  validq : validPkt q = true
  again : send h p = some (q, h)
theorem send_ok {g : GateD} {p q : PktD} {h : GateD} (hg : VGate g) (hp : validPkt p = true) (hin : has g.net p.fr.addr = true) (hs : send g p = some (q, h)) : Sent g p q h := by
  obtain ⟨p1, p2, p3, p4, p5⟩ := validPkt_iff.1 hp
  unfold send at hs
  cases hm : mapEnd g.table p.fr g.now with
  | none => rw [hm] at hs; cases hs
  | some r =>
    obtain ⟨t, port⟩ := r
    rw [hm] at hs
    simp only [Option.some.injEq, Prod.mk.injEq] at hs
    obtain ⟨rfl, rfl⟩ := hs
    have M := mapEnd_ok hg.tab p2 hg.now0 hg.now1 (fun m hm' => (hg.maps m hm').2.1) hm
    have hc : okCon ⟨port, p.to_⟩ = true := by
      simp only [okCon, Bool.and_eq_true, inR_iff]
      exact ⟨⟨M.lo, M.hi⟩, p3⟩
    obtain ⟨n1, n2⟩ := note_ok hg.con hc
    refine ⟨M, rfl, rfl, rfl, ⟨hg.net, hg.out, hg.nin, M.valid, n1, hg.fil, hg.now0, hg.now1, hg.hold0, hg.hold1, fun m hm' => ?_, fun c hc' => ?_⟩, validPkt_iff.2 ⟨p1, ?_, p3, p4, p5⟩, ?_⟩
    · rcases M.old m hm' with h | rfl
      · exact hg.maps m h
      · have := hg.hold0
        exact ⟨hin, by simp, by simp; omega⟩
    · rcases n2 c hc' with h | rfl
      · obtain ⟨k, m, b1, b2, b3, _⟩ := byPort_some (hg.cons c h)
        obtain ⟨q, hq, e, _⟩ := M.all m (List.mem_of_getElem? b2)
        have := byPort_mem hq
        rw [e, b3] at this
        exact this
      · exact M.inside.1
    · simp only [validEnd, Bool.and_eq_true]
      exact ⟨hg.out, word_port M.lo M.hi⟩
    · unfold send
      simp only [mapEnd_again M, note_again]
theorem send_none {g : GateD} {p : PktD} (hg : VGate g) : send g p = none ↔ ¬ 0 ≤ byEnd g.table p.fr ∧ ¬ g.table.length < 8 := by
  rw [← mapEnd_none (now := g.now) hg.tab]
  unfold send
  cases mapEnd g.table p.fr g.now with
  | none => simp
  | some r => simp
end Go.Proofs.Ytppdcglnopoocaa
/- Plain laws of the gate: ticking; looking up ends and ports. No program in sight. No condition. -/
namespace Go.Proofs.Ytppdcglnopoocaa
set_option linter.unusedVariables false
set_option linter.unusedSimpArgs false

theorem foldl_without : ∀ (ps : List Int) (l : List ConD), ps.foldl without l = l.filter fun c => !decide (c.port ∈ ps)
  | [], l => by simp only [List.foldl_nil, List.not_mem_nil, decide_false, Bool.not_false]; exact (List.filter_eq_self.2 fun _ _ => rfl).symm
  | p :: ps, l => by
    rw [List.foldl_cons, foldl_without ps]
    unfold without
    rw [List.filter_filter]
    congr 1
    funext c
    rw [Bool.eq_iff_iff]
    simp
    exact ⟨fun ⟨a, b⟩ => ⟨b, a⟩, fun ⟨a, b⟩ => ⟨b, a⟩⟩
theorem mem_expPorts {l : List MapD} {now hold p : Int} : p ∈ expPorts l now hold ↔ ∃ m ∈ l, hold ≤ now - m.last ∧ m.port = p := by
  unfold expPorts expired
  simp only [List.mem_map, List.mem_filter, decide_eq_true_eq]
  exact ⟨fun ⟨m, ⟨a, b⟩, c⟩ => ⟨m, a, b, c⟩, fun ⟨m, a, b, c⟩ => ⟨m, ⟨a, b⟩, c⟩⟩
theorem mem_expire {l : List MapD} {now hold : Int} {m : MapD} : m ∈ expire l now hold ↔ m ∈ l ∧ now - m.last < hold := by
  unfold expire expired
  simp only [List.mem_filter, Bool.not_eq_true', decide_eq_false_iff_not]
  exact ⟨fun ⟨a, b⟩ => ⟨a, by omega⟩, fun ⟨a, b⟩ => ⟨a, by omega⟩⟩
theorem validTable_sub {l l' : List MapD} (h : validTable l = true) (hs : l'.Sublist l) : validTable l' = true := by
  obtain ⟨a, b, c⟩ := validTable_iff.1 h
  exact validTable_iff.2 ⟨fun m hm => a m (hs.subset hm), b.sublist hs, Nat.le_trans hs.length_le c⟩
theorem validContacts_sub {l l' : List ConD} (h : validContacts l = true) (hs : l'.Sublist l) : validContacts l' = true := by
  obtain ⟨a, b, c⟩ := validContacts_iff.1 h
  exact validContacts_iff.2 ⟨fun m hm => a m (hs.subset hm), b.sublist hs, Nat.le_trans hs.length_le c⟩
theorem tick_valid {g : GateD} {now : Int} (hg : VGate g) (h0 : g.now ≤ now) (h1 : now ≤ 10000) : VGate (tick g now) := by
  have := hg.now0
  refine ⟨hg.net, hg.out, hg.nin, validTable_sub hg.tab List.filter_sublist, ?_, hg.fil, by simp only [tick]; omega, h1, hg.hold0, hg.hold1, fun m hm => ?_, fun c hc => ?_⟩
  · simp only [tick, foldl_without]
    exact validContacts_sub hg.con List.filter_sublist
  · simp only [tick] at hm ⊢
    obtain ⟨m1, m2⟩ := mem_expire.1 hm
    have := hg.maps m m1
    exact ⟨this.1, by omega, m2⟩
  · simp only [tick, foldl_without, List.mem_filter, Bool.not_eq_true', decide_eq_false_iff_not] at hc ⊢
    obtain ⟨k, m, b1, b2, b3, _⟩ := byPort_some (hg.cons c hc.1)
    have hm : m ∈ g.table := List.mem_of_getElem? b2
    have hne : ¬ g.hold ≤ now - m.last := fun e => hc.2 (mem_expPorts.2 ⟨m, hm, e, b3⟩)
    have := byPort_mem (mem_expire.2 ⟨hm, show now - m.last < g.hold by omega⟩)
    rw [b3] at this
    exact this
theorem tick_step {g : GateD} {mid now : Int} (h : mid ≤ now) : tick (tick g mid) now = tick g now := by
  have ht : expire (expire g.table mid g.hold) now g.hold = expire g.table now g.hold := by
    unfold expire expired
    rw [List.filter_filter]
    congr 1
    funext m
    rw [Bool.eq_iff_iff]
    simp
    omega
  have hc : ∀ p, (p ∈ expPorts g.table mid g.hold ∨ p ∈ expPorts (expire g.table mid g.hold) now g.hold) ↔ p ∈ expPorts g.table now g.hold := by
    intro p
    simp only [mem_expPorts, mem_expire]
    constructor
    · rintro (⟨m, a, b, c⟩ | ⟨m, ⟨a, _⟩, b, c⟩)
      · exact ⟨m, a, by omega, c⟩
      · exact ⟨m, a, b, c⟩
    · rintro ⟨m, a, b, c⟩
      by_cases h1 : g.hold ≤ mid - m.last
      · exact .inl ⟨m, a, h1, c⟩
      · exact .inr ⟨m, ⟨a, by omega⟩, b, c⟩
  unfold tick
  simp only [ht, foldl_without, List.filter_filter]
  congr 1
  congr 1
  funext c
  have := hc c.port
  rw [Bool.eq_iff_iff]
  simp only [Bool.and_eq_true, Bool.not_eq_true', decide_eq_false_iff_not]
  rw [← this]
  constructor
  · rintro ⟨a, b⟩ (c | c)
    · exact b c
    · exact a c
  · intro a
    exact ⟨fun b => a (.inr b), fun b => a (.inl b)⟩
theorem table_one {l : List MapD} (hl : validTable l = true) {a b : MapD} (ha : a ∈ l) (hb : b ∈ l) (h : a.ins = b.ins) : a = b := by
  obtain ⟨i, hi⟩ := List.getElem?_of_mem ha
  obtain ⟨j, hj⟩ := List.getElem?_of_mem hb
  have h1 := byEnd_of hl hi
  have h2 := byEnd_of hl hj
  rw [h] at h1
  have : i = j := by omega
  subst this
  rw [hi] at hj
  exact Option.some.inj hj
theorem table_one' {l : List MapD} (hl : validTable l = true) {a b : MapD} (ha : a ∈ l) (hb : b ∈ l) (h : a.port = b.port) : a = b := by
  obtain ⟨i, hi⟩ := List.getElem?_of_mem ha
  obtain ⟨j, hj⟩ := List.getElem?_of_mem hb
  have h1 := byPort_of hl hi
  have h2 := byPort_of hl hj
  rw [h] at h1
  have : i = j := by omega
  subst this
  rw [hi] at hj
  exact Option.some.inj hj
theorem outsidePort_mem {l : List MapD} (hl : validTable l = true) {m : MapD} (hm : m ∈ l) : outsidePort l m.ins = m.port := by
  obtain ⟨i, hi⟩ := List.getElem?_of_mem hm
  have h1 := byEnd_of hl hi
  unfold outsidePort
  rw [hl, h1, Int.toNat_natCast, nth_of hi]
  simp
theorem insideEnd_mem {l : List MapD} (hl : validTable l = true) {m : MapD} (hm : m ∈ l) : insideEnd l m.port = some m.ins := by
  obtain ⟨i, hi⟩ := List.getElem?_of_mem hm
  have h1 := byPort_of hl hi
  unfold insideEnd
  rw [hl, h1, Int.toNat_natCast, nth_of hi]
  simp
theorem outsidePort_none {l : List MapD} {e : EndD} (h : ∀ m ∈ l, m.ins ≠ e) : outsidePort l e = -1 := by
  unfold outsidePort
  rw [if_neg]
  rw [Bool.and_eq_true, decide_eq_true_eq]
  rintro ⟨_, h0⟩
  obtain ⟨k, m, _, b2, b3, _⟩ := byEnd_some h0
  exact h m (List.mem_of_getElem? b2) b3
end Go.Proofs.Ytppdcglnopoocaa
/- Contracts: places, valid tables, valid contacts, of the reference. -/
namespace Go.Proofs.Ytppdcglnopoocaa
set_option linter.unusedVariables false
set_option linter.unusedSimpArgs false
open Go.RowKit Go.Shelf

theorem spec_byPort (q : Int) (a : Option Addr) (n c : Nat) (L : List MapD) (w : World) (hs : Sl encM 4 w a n c L) :
    Calls Try.prog 92 #[.slice a n c, .int .i64 q] w fun r w' => r = .returned (.int .i64 (byPort L q)) ∧ w = w' := by
  have hle := hs.le
  have hmax := hs.max
  have hlen := Lib.hid hs.len
  unfold byPort
  rcases hs.maps with ⟨h0, hL⟩ | ⟨h0, b, off, ha, hb, hc⟩
  · subst h0
    subst hL
    clear hs hlen
    go_enter Try.func92, Try.ntmps92
    go_wp2
    go_loop [5] (fun i => i = .int .i64 0) (fun _ => 0)
    case atStart => rfl
    case round =>
      subst hrel
      go_wp2
      go_ret
      exact ⟨rfl, rfl⟩
  · subst ha
    have HC2 := Lib.hid hc
    clear hs hc
    go_enter Try.func92, Try.ntmps92
    go_wp2
    go_loop [5] (fun i => ∃ k : Nat, k ≤ n ∧ i = .int .i64 k ∧ (∀ j, j < k → (nth L j).port ≠ q)) (fun i => n - (intOf i).toNat)
    case atStart => exact ⟨0, Nat.zero_le _, rfl, by omega⟩
    case round =>
      obtain ⟨k, hk, rfl, hall⟩ := hrel
      have HA := Lib.hid hall
      clear hall
      by_cases hlt : k < n
      · obtain ⟨_, _, d2, _⟩ := HC2.out k hlt
        by_cases hq : (nth L k).port = q
        · rw [hq] at d2
          replace hq := Lib.hid hq
          go_wp2
          go_ret
          refine ⟨ret_int (ix_some (k := k) (x := nth L k) ?_ (nth_some (by rw [hlen.out]; exact hlt)) (by simpa using hq.out)).symm, rfl⟩
          intro y hy
          obtain ⟨j, hj, rfl⟩ := List.mem_take_iff_getElem.1 hy
          have h1 := HA.out j (by omega)
          rw [nth_of (List.getElem?_eq_getElem (by omega))] at h1
          simpa using h1
        · have hqf : ((nth L k).port == q) = false := by simpa using hq
          replace hq := Lib.hid hq
          go_wp2
          go_round
          case rel => exact ⟨k + 1, hlt, by go_num, fun j hj => by
            rcases Nat.lt_or_ge j k with h | h
            · exact HA.out j h
            · have e : j = k := by omega
              rw [e]; exact hq.out⟩
          case measure => simp [intOf]; omega
      · have e : k = n := by omega
        subst e
        go_wp2
        go_ret
        refine ⟨ret_int (ix_none fun y hy => ?_).symm, rfl⟩
        obtain ⟨j, hj, rfl⟩ := List.mem_iff_getElem.1 hy
        have h1 := HA.out j (by rw [← hlen.out]; exact hj)
        rw [nth_of (List.getElem?_eq_getElem hj)] at h1
        simpa using h1
theorem spec_byInside (x : EndD) (a : Option Addr) (n c : Nat) (L : List MapD) (w : World) (hs : Sl encM 4 w a n c L) :
    Calls Try.prog 105 #[.slice a n c, .agg #[.int .i64 x.addr, .int .i64 x.port]] w fun r w' => r = .returned (.int .i64 (byEnd L x)) ∧ Ext w w' := by
  have hle := hs.le
  have hmax := hs.max
  have hlen := Lib.hid hs.len
  unfold byEnd
  rcases hs.maps with ⟨h0, hL⟩ | ⟨h0, b, off, ha, hb, hc⟩
  · subst h0
    subst hL
    clear hs hlen
    go_enter Try.func105, Try.ntmps105
    go_wp2
    go_loop [5] (fun i => i = .int .i64 0) (fun _ => 0)
    case atStart => rfl
    case round =>
      subst hrel
      go_wp2
      go_ret
      exact ⟨rfl, (by repeat (first | (with_reducible exact Ext.refl _) | (with_reducible assumption) | (with_reducible refine Ext.alloc ?_ _) | (with_reducible refine Ext.drewN ?_ _) | (with_reducible refine Ext.drew ?_) | (with_reducible refine Ext.setCell ?_ ?_ _; rotate_left; (simp only []; omega)) | (with_reducible refine Ext.trans ?_ (by assumption))))⟩
  · subst ha
    have HC2 := Lib.hid hc
    clear hs hc
    go_enter Try.func105, Try.ntmps105
    go_wp2
    go_loopw [5] (fun i wr => ∃ k : Nat, k ≤ n ∧ i = .int .i64 k ∧ (∀ j, j < k → (nth L j).ins ≠ x) ∧ Blk wr w.heap.size 30 #[.int .i64 x.addr, .int .i64 x.port] ∧ Ext w wr) (fun i _ => n - (intOf i).toNat)
    case atStart => exact ⟨0, Nat.zero_le _, rfl, by omega, Blk.new _ _ _, (by repeat (first | (with_reducible exact Ext.refl _) | (with_reducible assumption) | (with_reducible refine Ext.alloc ?_ _) | (with_reducible refine Ext.drewN ?_ _) | (with_reducible refine Ext.drew ?_) | (with_reducible refine Ext.setCell ?_ ?_ _; rotate_left; (simp only []; omega)) | (with_reducible refine Ext.trans ?_ (by assumption))))⟩
    case round =>
      obtain ⟨k, hk, rfl, hall, hB, hX⟩ := hrel
      have HA := Lib.hid hall
      clear hall
      by_cases hlt : k < n
      · obtain ⟨d0, d1, _, _⟩ := HC2.out k hlt
        rw [← hX.cells _ _ hb] at d0 d1
        have hcB := hB.cells
        have hzB := hB.lt
        have hbr : b < wr.heap.size := by have := hX.size; omega
        have HX := Lib.hid hX
        clear hX
        by_cases hq : (nth L k).ins = x
        · have heq : ∀ W : World, (Go.binOp .eql 30 (.agg #[.int .i64 (nth L k).ins.addr, .int .i64 (nth L k).ins.port]) (.agg #[.int .i64 x.addr, .int .i64 x.port])).run Try.prog W = .ok (.bool true) W := fun W => by rw [run_eql_E (nth L k).ins x, decide_eq_true hq]
          replace hq := Lib.hid hq
          go_wp2_with fail
          have hdrS : ∀ W : World, W.drew.heap.size = W.heap.size := fun _ => rfl
          refine wp_region_eager (R := Ext) [0, 1, 2, 3, 4, 5, 6] (by kernel_rfl) (by kernel_rfl) Ext.refl (fun _ _ _ => Ext.trans) ?_
          repeat' (first
            | (refine ChX.skip (by rfl) (by rfl) ?_
               (try simp only [Act.put, List.setIfInBounds_toArray, List.set_cons_zero, List.set_cons_succ]))
            | (refine' ChX.quiet (v := _) (by rfl) (by rfl) (by rfl) ?_ ?_
               rotate_left
               · (intro wS hS
                  have hcS := Ext.cells hS
                  go_simp
                  with_reducible rfl)
               (try simp only [Act.put, List.setIfInBounds_toArray, List.set_cons_zero, List.set_cons_succ]))
            | (refine ChX.nil ?_)
            | (refine' ChX.guard (x := _) (by rfl) ?_ ?_ ?_
               rotate_left
               · (go_simp
                  rfl)
               all_goals
                 intro hg
                 simp only [hg])
            | (refine' ChX.guardN (x := _) (by rfl) ?_ ?_ ?_
               rotate_left
               · (go_simp
                  rfl)
               all_goals
                 intro hg
                 simp only [hg]))
          go_wp2
          go_ret
          refine ⟨ret_int (ix_some (k := k) (x := nth L k) ?_ (nth_some (by rw [hlen.out]; exact hlt)) (by simpa using hq.out)).symm, (show Ext w wr from HX.out).trans (by repeat (first | (with_reducible exact Ext.refl _) | (with_reducible assumption) | (with_reducible refine Ext.alloc ?_ _) | (with_reducible refine Ext.drewN ?_ _) | (with_reducible refine Ext.drew ?_) | (with_reducible refine Ext.setCell ?_ ?_ _; rotate_left; (simp only []; omega)) | (with_reducible refine Ext.trans ?_ (by assumption))))⟩
          intro y hy
          obtain ⟨j, hj, rfl⟩ := List.mem_take_iff_getElem.1 hy
          have h1 := HA.out j (by omega)
          rw [nth_of (List.getElem?_eq_getElem (by omega))] at h1
          simpa using h1
        · have heq : ∀ W : World, (Go.binOp .eql 30 (.agg #[.int .i64 (nth L k).ins.addr, .int .i64 (nth L k).ins.port]) (.agg #[.int .i64 x.addr, .int .i64 x.port])).run Try.prog W = .ok (.bool false) W := fun W => by rw [run_eql_E (nth L k).ins x, decide_eq_false hq]
          replace hq := Lib.hid hq
          go_wp2_with fail
          have hdrS : ∀ W : World, W.drew.heap.size = W.heap.size := fun _ => rfl
          refine wp_region_eager (R := Ext) [0, 1, 2, 3, 4, 5, 6] (by kernel_rfl) (by kernel_rfl) Ext.refl (fun _ _ _ => Ext.trans) ?_
          repeat' (first
            | (refine ChX.skip (by rfl) (by rfl) ?_
               (try simp only [Act.put, List.setIfInBounds_toArray, List.set_cons_zero, List.set_cons_succ]))
            | (refine' ChX.quiet (v := _) (by rfl) (by rfl) (by rfl) ?_ ?_
               rotate_left
               · (intro wS hS
                  have hcS := Ext.cells hS
                  go_simp
                  with_reducible rfl)
               (try simp only [Act.put, List.setIfInBounds_toArray, List.set_cons_zero, List.set_cons_succ]))
            | (refine ChX.nil ?_)
            | (refine' ChX.guard (x := _) (by rfl) ?_ ?_ ?_
               rotate_left
               · (go_simp
                  rfl)
               all_goals
                 intro hg
                 simp only [hg])
            | (refine' ChX.guardN (x := _) (by rfl) ?_ ?_ ?_
               rotate_left
               · (go_simp
                  rfl)
               all_goals
                 intro hg
                 simp only [hg]))
          go_wp2
          go_roundw
          case rel => exact ⟨k + 1, hlt, by go_num, fun j hj => by
            rcases Nat.lt_or_ge j k with h | h
            · exact HA.out j h
            · have e : j = k := by omega
              rw [e]; exact hq.out, hB.ext (by repeat (first | (with_reducible exact Ext.refl _) | (with_reducible assumption) | (with_reducible refine Ext.alloc ?_ _) | (with_reducible refine Ext.drewN ?_ _) | (with_reducible refine Ext.drew ?_) | (with_reducible refine Ext.setCell ?_ ?_ _; rotate_left; (simp only []; omega)) | (with_reducible refine Ext.trans ?_ (by assumption)))), (show Ext w wr from HX.out).trans (by repeat (first | (with_reducible exact Ext.refl _) | (with_reducible assumption) | (with_reducible refine Ext.alloc ?_ _) | (with_reducible refine Ext.drewN ?_ _) | (with_reducible refine Ext.drew ?_) | (with_reducible refine Ext.setCell ?_ ?_ _; rotate_left; (simp only []; omega)) | (with_reducible refine Ext.trans ?_ (by assumption))))⟩
          case measure => simp [intOf]; omega
      · have e : k = n := by omega
        have HX := Lib.hid hX
        clear hX
        subst e
        go_wp2
        go_ret
        refine ⟨ret_int (ix_none fun y hy => ?_).symm, HX.out⟩
        obtain ⟨j, hj, rfl⟩ := List.mem_iff_getElem.1 hy
        have h1 := HA.out j (by rw [← hlen.out]; exact hj)
        rw [nth_of (List.getElem?_eq_getElem hj)] at h1
        simpa using h1
theorem spec_expired (m : MapD) (now hold : Int) (w : World) (h0 : 0 ≤ m.last) (h1 : m.last ≤ 10000) (h2 : 0 ≤ now) (h3 : now ≤ 10000) :
    Calls Try.prog 145 #[.agg #[.int .i64 m.ins.addr, .int .i64 m.ins.port, .int .i64 m.port, .int .i64 m.last], .int .i64 now, .int .i64 hold] w fun e w' => e = .returned (.bool (expired m now hold)) ∧ Ext w w' := by
  unfold expired
  go_enter Try.func145, Try.ntmps145
  go_wp2
  go_ret
  exact ⟨rfl, (by repeat (first | (with_reducible exact Ext.refl _) | (with_reducible assumption) | (with_reducible refine Ext.alloc ?_ _) | (with_reducible refine Ext.drewN ?_ _) | (with_reducible refine Ext.drew ?_) | (with_reducible refine Ext.setCell ?_ ?_ _; rotate_left; (simp only []; omega)) | (with_reducible refine Ext.trans ?_ (by assumption))))⟩
theorem spec_validTimer (now hold : Int) (w : World) : Calls Try.prog 172 #[.int .i64 now, .int .i64 hold] w fun e w' => e = .returned (.bool (timer now hold)) ∧ w = w' := by
  unfold timer
  go_enter Try.func172, Try.ntmps172
  go_wp2_with (go_at_call 144; refine (spec_inRange _ _ _ _).mono ?_; rintro e w' ⟨rfl, rfl⟩)
  all_goals (go_ret; exact ⟨ret_bool (by simp [*]), rfl⟩)
theorem okMapAt_spec {L : List MapD} {k : Nat} (hk : k < L.length) (h : okMap (nth L k) = true) (hall : ∀ j, j < k → (nth L j).ins ≠ (nth L k).ins ∧ (nth L j).port ≠ (nth L k).port) : okMapAt L k = true := by
  unfold okMapAt
  rw [h, Bool.true_and, List.all_eq_true]
  intro y hy
  obtain ⟨j, hj, rfl⟩ := List.mem_take_iff_getElem.1 hy
  have h1 := hall j (by omega)
  rw [nth_of (List.getElem?_eq_getElem (show j < L.length by omega))] at h1
  simpa using h1
theorem okMapAt_no {L : List MapD} {k j : Nat} (hk : k < L.length) (hj : j < k) (h : (nth L j).ins = (nth L k).ins ∨ (nth L j).port = (nth L k).port) : okMapAt L k = false := by
  have hm : nth L j ∈ L.take k := by
    rw [← nth_take hj]
    exact nth_mem (by simp; omega)
  unfold okMapAt
  rw [Bool.and_eq_false_iff]
  right
  rw [List.all_eq_false]
  refine ⟨_, hm, ?_⟩
  rcases h with h | h <;> simp [h]
theorem spec_validEnd' (e : EndD) (w : World) : Calls Try.prog 160 #[.agg #[.int .i64 e.addr, .int .i64 e.port]] w fun r w' => r = .returned (.bool (validEnd e)) ∧ Ext w w' := spec_validEnd e.addr e.port w
set_option maxHeartbeats 2000000 in
theorem spec_validTable (a : Option Addr) (n c : Nat) (L : List MapD) (w : World) (hs : Sl encM 4 w a n c L) :
    Calls Try.prog 142 #[.slice a n c] w fun e w' => e = .returned (.bool (validTable L)) ∧ Ext w w' := by
  have hle := hs.le
  have hmax := hs.max
  have hlen := Lib.hid hs.len
  have hfin : validTable L = (upTo (okMapAt L) n && decide (n ≤ 8)) := by rw [← hs.len]; rfl
  rw [hfin]
  clear hfin
  rcases hs.maps with ⟨h0, hL⟩ | ⟨h0, b, off, ha, hb, hc⟩
  · subst h0
    subst hL
    clear hs hlen
    go_enter Try.func142, Try.ntmps142
    go_wp2
    go_loop [3, 4, 5] (fun i _ _ => i = .int .i64 0) (fun _ _ _ => 0)
    case atStart => rfl
    case round =>
      subst hrel
      go_wp2
      go_ret
      exact ⟨rfl, Ext.refl _⟩
  · subst ha
    have HC2 := Lib.hid hc
    clear hc hs
    go_enter Try.func142, Try.ntmps142
    go_wp2
    go_loopw [3, 4, 5] (fun i _ _ wr => ∃ k : Nat, k ≤ n ∧ i = .int .i64 k ∧ (∀ j, j < k → okMapAt L j = true) ∧ Ext w wr) (fun i _ _ _ => n - (intOf i).toNat)
    case atStart => exact ⟨0, Nat.zero_le _, rfl, by omega, Ext.refl _⟩
    case round =>
      obtain ⟨k, hk, rfl, hall, hX⟩ := hrel
      have HA := Lib.hid hall
      clear hall
      obtain ⟨wo, rfl⟩ : ∃ wo : World, wo = wr := ⟨_, rfl⟩
      by_cases hlt : k < n
      · obtain ⟨d0, d1, d2, d3⟩ := HC2.out k hlt
        rw [← hX.cells _ _ hb] at d0 d1 d2 d3
        have hbr : b < wo.heap.size := by have := hX.size; omega
        cases h1 : validEnd (nth L k).ins with
        | false =>
          have hno := Lib.hid (show okMapAt L k = false by unfold okMapAt okMap; rw [h1]; rfl)
          go_wp2_with (go_at_call 160; refine (spec_validEnd' (nth L k).ins _).mono ?_; rintro e w1 ⟨rfl, hx⟩; have hc := hx.cells; have hf := hx.frozens; have hy := hx.size; (try simp at hy); have hz : wo.heap.size < w1.heap.size := (by omega))
          go_ret
          exact ⟨ret_bool (by rw [upTo_f hlt hno.out]; rfl), hX.trans (by repeat (first | (with_reducible exact Ext.refl _) | (with_reducible assumption) | (with_reducible refine Ext.alloc ?_ _) | (with_reducible refine Ext.drewN ?_ _) | (with_reducible refine Ext.drew ?_) | (with_reducible refine Ext.setCell ?_ ?_ _; rotate_left; (simp only []; omega)) | (with_reducible refine Ext.trans ?_ (by assumption))))⟩
        | true =>
        cases h2 : inR (nth L k).port 1000 1007 with
        | false =>
          have hno := Lib.hid (show okMapAt L k = false by unfold okMapAt okMap; rw [h1, h2]; rfl)
          go_wp2_with (first | (go_at_call 160; refine (spec_validEnd' (nth L k).ins _).mono ?_; rintro e w1 ⟨rfl, hx⟩; have hc := hx.cells; have hf := hx.frozens; have hy := hx.size; (try simp at hy); have hz : wo.heap.size < w1.heap.size := (by omega)) | (go_at_call 144; refine (spec_inRange _ _ _ _).mono ?_; rintro e w' ⟨rfl, rfl⟩))
          go_ret
          exact ⟨ret_bool (by rw [upTo_f hlt hno.out]; rfl), hX.trans (by repeat (first | (with_reducible exact Ext.refl _) | (with_reducible assumption) | (with_reducible refine Ext.alloc ?_ _) | (with_reducible refine Ext.drewN ?_ _) | (with_reducible refine Ext.drew ?_) | (with_reducible refine Ext.setCell ?_ ?_ _; rotate_left; (simp only []; omega)) | (with_reducible refine Ext.trans ?_ (by assumption))))⟩
        | true =>
        cases h3 : inR (nth L k).last 0 10000 with
        | false =>
          have hno := Lib.hid (show okMapAt L k = false by unfold okMapAt okMap; rw [h1, h2, h3]; rfl)
          go_wp2_with (first | (go_at_call 160; refine (spec_validEnd' (nth L k).ins _).mono ?_; rintro e w1 ⟨rfl, hx⟩; have hc := hx.cells; have hf := hx.frozens; have hy := hx.size; (try simp at hy); have hz : wo.heap.size < w1.heap.size := (by omega)) | (go_at_call 144; refine (spec_inRange _ _ _ _).mono ?_; rintro e w' ⟨rfl, rfl⟩))
          go_ret
          exact ⟨ret_bool (by rw [upTo_f hlt hno.out]; rfl), hX.trans (by repeat (first | (with_reducible exact Ext.refl _) | (with_reducible assumption) | (with_reducible refine Ext.alloc ?_ _) | (with_reducible refine Ext.drewN ?_ _) | (with_reducible refine Ext.drew ?_) | (with_reducible refine Ext.setCell ?_ ?_ _; rotate_left; (simp only []; omega)) | (with_reducible refine Ext.trans ?_ (by assumption))))⟩
        | true =>
          have hokm := Lib.hid (show okMap (nth L k) = true by unfold okMap; rw [h1, h2, h3]; rfl)
          go_wp2_with fail
          refine (spec_validEnd' (nth L k).ins _).mono ?_
          rintro e w1 ⟨rfl, hx1⟩
          have hB1 : Blk w1 wo.heap.size 89 #[.int .i64 (nth L k).ins.addr, .int .i64 (nth L k).ins.port, .int .i64 (nth L k).port, .int .i64 (nth L k).last] := by refine Blk.ext ?_ hx1; exact (by repeat (first | (with_reducible assumption) | (with_reducible exact Blk.new _ _ _) | exact Blk.newAt _ _ _ (by simp) | (with_reducible refine Blk.alloc ?_ _) | (with_reducible refine Blk.drew ?_) | (with_reducible refine Blk.drewN ?_ _) | refine Blk.far ?_ (by simp only []; omega) _ | refine Blk.rext ?_ (by assumption) (by omega) | refine Blk.ext ?_ (by assumption)))
          have hX1 : Ext w w1 := hX.trans (Ext.trans (show Ext wo _ from (by repeat (first | (with_reducible exact Ext.refl _) | (with_reducible assumption) | (with_reducible refine Ext.alloc ?_ _) | (with_reducible refine Ext.drewN ?_ _) | (with_reducible refine Ext.drew ?_) | (with_reducible refine Ext.setCell ?_ ?_ _; rotate_left; (simp only []; omega)) | (with_reducible refine Ext.trans ?_ (by assumption))))) hx1)
          have hcB := hB1.cells
          clear hx1
          go_wp2_with (go_at_call 144; refine (spec_inRange _ _ _ _).mono ?_; rintro e w' ⟨rfl, rfl⟩)
          obtain ⟨M, hM⟩ : ∃ M, M = wo.heap.size := ⟨_, rfl⟩
          rw [← hM] at hB1 ⊢
          clear hcB hM hX d0 d1 d2 d3 h1 h2 h3
          go_loopw [5] (fun i2 w2 => ∃ k2 : Nat, k2 ≤ k ∧ i2 = .int .i64 k2 ∧ (∀ j, j < k2 → (nth L j).ins ≠ (nth L k).ins ∧ (nth L j).port ≠ (nth L k).port) ∧ Blk w2 M 89 #[.int .i64 (nth L k).ins.addr, .int .i64 (nth L k).ins.port, .int .i64 (nth L k).port, .int .i64 (nth L k).last] ∧ Ext w w2) (fun i2 _ => k - (intOf i2).toNat)
          case atStart => exact ⟨0, Nat.zero_le _, rfl, by omega, hB1, hX1⟩
          case round =>
            obtain ⟨k2, hk2, rfl, hall2, hB, hX2⟩ := hrel
            have HA2 := Lib.hid hall2
            clear hall2 hB1 hX1
            by_cases hlt2 : k2 < k
            · obtain ⟨e0, e1, e2, _⟩ := HC2.out k2 (by omega)
              rw [← hX2.cells _ _ hb] at e0 e1 e2
              have hcM := hB.cells
              have hzM := hB.lt
              have hbr2 : b < wr.heap.size := by have := hX2.size; omega
              have hk2n : k2 < n := by omega
              have HX2 := Lib.hid hX2
              clear hX2
              by_cases p1 : (nth L k2).ins = (nth L k).ins
              · have heq : ∀ W : World, (Go.binOp .eql 30 (.agg #[.int .i64 (nth L k2).ins.addr, .int .i64 (nth L k2).ins.port]) (.agg #[.int .i64 (nth L k).ins.addr, .int .i64 (nth L k).ins.port])).run Try.prog W = .ok (.bool true) W := fun W => by rw [run_eql_E (nth L k2).ins (nth L k).ins, decide_eq_true p1]
                have hno := Lib.hid (okMapAt_no (by rw [hlen.out]; exact hlt) hlt2 (.inl p1))
                clear p1
                go_wp2_with fail
                have hdrS : ∀ W : World, W.drew.heap.size = W.heap.size := fun _ => rfl
                refine wp_region_eager (R := Ext) [0, 1, 2, 3, 4, 5, 6, 7, 8, 9, 10, 11, 12, 13, 14, 15, 16, 17] (by kernel_rfl) (by kernel_rfl) Ext.refl (fun _ _ _ => Ext.trans) ?_
                repeat' (first
                  | (refine ChX.skip (by rfl) (by rfl) ?_
                     (try simp only [Act.put, List.setIfInBounds_toArray, List.set_cons_zero, List.set_cons_succ]))
                  | (refine' ChX.quiet (v := _) (by rfl) (by rfl) (by rfl) ?_ ?_
                     rotate_left
                     · (intro wS hS
                        have hcS := Ext.cells hS
                        go_simp
                        with_reducible rfl)
                     (try simp only [Act.put, List.setIfInBounds_toArray, List.set_cons_zero, List.set_cons_succ]))
                  | (refine ChX.nil ?_)
                  | (refine' ChX.guard (x := _) (by rfl) ?_ ?_ ?_
                     rotate_left
                     · (go_simp
                        rfl)
                     all_goals
                       intro hg
                       simp only [hg])
                  | (refine' ChX.guardN (x := _) (by rfl) ?_ ?_ ?_
                     rotate_left
                     · (go_simp
                        rfl)
                     all_goals
                       intro hg
                       simp only [hg]))
                go_wp2
                go_ret
                exact ⟨ret_bool (by rw [upTo_f hlt hno.out]; rfl), (show Ext w wr from HX2.out).trans (by repeat (first | (with_reducible exact Ext.refl _) | (with_reducible assumption) | (with_reducible refine Ext.alloc ?_ _) | (with_reducible refine Ext.drewN ?_ _) | (with_reducible refine Ext.drew ?_) | (with_reducible refine Ext.setCell ?_ ?_ _; rotate_left; (simp only []; omega)) | (with_reducible refine Ext.trans ?_ (by assumption))))⟩
              · have heq : ∀ W : World, (Go.binOp .eql 30 (.agg #[.int .i64 (nth L k2).ins.addr, .int .i64 (nth L k2).ins.port]) (.agg #[.int .i64 (nth L k).ins.addr, .int .i64 (nth L k).ins.port])).run Try.prog W = .ok (.bool false) W := fun W => by rw [run_eql_E (nth L k2).ins (nth L k).ins, decide_eq_false p1]
                by_cases p2 : (nth L k2).port = (nth L k).port
                · have hno := Lib.hid (okMapAt_no (by rw [hlen.out]; exact hlt) hlt2 (.inr p2))
                  rw [p2] at e2
                  clear p1 p2
                  go_wp2_with fail
                  have hdrS : ∀ W : World, W.drew.heap.size = W.heap.size := fun _ => rfl
                  refine wp_region_eager (R := Ext) [0, 1, 2, 3, 4, 5, 6, 7, 8, 9, 10, 11, 12, 13, 14, 15, 16, 17] (by kernel_rfl) (by kernel_rfl) Ext.refl (fun _ _ _ => Ext.trans) ?_
                  repeat' (first
                    | (refine ChX.skip (by rfl) (by rfl) ?_
                       (try simp only [Act.put, List.setIfInBounds_toArray, List.set_cons_zero, List.set_cons_succ]))
                    | (refine' ChX.quiet (v := _) (by rfl) (by rfl) (by rfl) ?_ ?_
                       rotate_left
                       · (intro wS hS
                          have hcS := Ext.cells hS
                          go_simp
                          with_reducible rfl)
                       (try simp only [Act.put, List.setIfInBounds_toArray, List.set_cons_zero, List.set_cons_succ]))
                    | (refine ChX.nil ?_)
                    | (refine' ChX.guard (x := _) (by rfl) ?_ ?_ ?_
                       rotate_left
                       · (go_simp
                          rfl)
                       all_goals
                         intro hg
                         simp only [hg])
                    | (refine' ChX.guardN (x := _) (by rfl) ?_ ?_ ?_
                       rotate_left
                       · (go_simp
                          rfl)
                       all_goals
                         intro hg
                         simp only [hg]))
                  go_wp2
                  go_ret
                  exact ⟨ret_bool (by rw [upTo_f hlt hno.out]; rfl), (show Ext w wr from HX2.out).trans (by repeat (first | (with_reducible exact Ext.refl _) | (with_reducible assumption) | (with_reducible refine Ext.alloc ?_ _) | (with_reducible refine Ext.drewN ?_ _) | (with_reducible refine Ext.drew ?_) | (with_reducible refine Ext.setCell ?_ ?_ _; rotate_left; (simp only []; omega)) | (with_reducible refine Ext.trans ?_ (by assumption))))⟩
                · have hqf : ((nth L k2).port == (nth L k).port) = false := by simpa using p2
                  replace p1 := Lib.hid p1
                  replace p2 := Lib.hid p2
                  go_wp2_with fail
                  have hdrS : ∀ W : World, W.drew.heap.size = W.heap.size := fun _ => rfl
                  refine wp_region_eager (R := Ext) [0, 1, 2, 3, 4, 5, 6, 7, 8, 9, 10, 11, 12, 13, 14, 15, 16, 17] (by kernel_rfl) (by kernel_rfl) Ext.refl (fun _ _ _ => Ext.trans) ?_
                  repeat' (first
                    | (refine ChX.skip (by rfl) (by rfl) ?_
                       (try simp only [Act.put, List.setIfInBounds_toArray, List.set_cons_zero, List.set_cons_succ]))
                    | (refine' ChX.quiet (v := _) (by rfl) (by rfl) (by rfl) ?_ ?_
                       rotate_left
                       · (intro wS hS
                          have hcS := Ext.cells hS
                          go_simp
                          with_reducible rfl)
                       (try simp only [Act.put, List.setIfInBounds_toArray, List.set_cons_zero, List.set_cons_succ]))
                    | (refine ChX.nil ?_)
                    | (refine' ChX.guard (x := _) (by rfl) ?_ ?_ ?_
                       rotate_left
                       · (go_simp
                          rfl)
                       all_goals
                         intro hg
                         simp only [hg])
                    | (refine' ChX.guardN (x := _) (by rfl) ?_ ?_ ?_
                       rotate_left
                       · (go_simp
                          rfl)
                       all_goals
                         intro hg
                         simp only [hg]))
                  go_wp2
                  go_roundw
                  case rel => exact ⟨k2 + 1, hlt2, by go_num, fun j hj => by
                    rcases Nat.lt_or_ge j k2 with h | h
                    · exact HA2.out j h
                    · have e : j = k2 := by omega
                      rw [e]; exact ⟨p1.out, p2.out⟩, hB.ext (by repeat (first | (with_reducible exact Ext.refl _) | (with_reducible assumption) | (with_reducible refine Ext.alloc ?_ _) | (with_reducible refine Ext.drewN ?_ _) | (with_reducible refine Ext.drew ?_) | (with_reducible refine Ext.setCell ?_ ?_ _; rotate_left; (simp only []; omega)) | (with_reducible refine Ext.trans ?_ (by assumption)))), (show Ext w wr from HX2.out).trans (by repeat (first | (with_reducible exact Ext.refl _) | (with_reducible assumption) | (with_reducible refine Ext.alloc ?_ _) | (with_reducible refine Ext.drewN ?_ _) | (with_reducible refine Ext.drew ?_) | (with_reducible refine Ext.setCell ?_ ?_ _; rotate_left; (simp only []; omega)) | (with_reducible refine Ext.trans ?_ (by assumption))))⟩
                  case measure => simp [intOf]; omega
            · have e : k2 = k := by omega
              subst e
              have HX2 := Lib.hid hX2
              clear hX2
              go_wp2
              go_roundw
              case rel => exact ⟨k2 + 1, hlt, by go_num, fun j hj => by
                rcases Nat.lt_or_ge j k2 with h | h
                · exact HA.out j h
                · have e : j = k2 := by omega
                  rw [e]; exact okMapAt_spec (by rw [hlen.out]; exact hlt) hokm.out HA2.out, HX2.out⟩
              case measure => simp [intOf]; omega
      · have e : k = n := by omega
        subst e
        have HX := Lib.hid hX
        clear hX
        go_wp2
        go_ret
        exact ⟨ret_bool (by rw [upTo_iff.2 HA.out, Bool.eq_iff_iff]; simp; omega), HX.out⟩
theorem okConAt_spec {L : List ConD} {k : Nat} (hk : k < L.length) (h : okCon (nth L k) = true) (hall : ∀ j, j < k → nth L j ≠ nth L k) : okConAt L k = true := by
  unfold okConAt
  rw [h, Bool.true_and, List.all_eq_true]
  intro y hy
  obtain ⟨j, hj, rfl⟩ := List.mem_take_iff_getElem.1 hy
  have h1 := hall j (by omega)
  rw [nth_of (List.getElem?_eq_getElem (show j < L.length by omega))] at h1
  simpa using h1
theorem okConAt_no {L : List ConD} {k j : Nat} (hk : k < L.length) (hj : j < k) (h : nth L j = nth L k) : okConAt L k = false := by
  have hm : nth L j ∈ L.take k := by
    rw [← nth_take hj]
    exact nth_mem (by simp; omega)
  unfold okConAt
  rw [Bool.and_eq_false_iff]
  right
  rw [List.all_eq_false]
  exact ⟨_, hm, by simp [h]⟩
set_option maxHeartbeats 2000000 in
theorem spec_validContacts (a : Option Addr) (n c : Nat) (L : List ConD) (w : World) (hs : Sl encC 3 w a n c L) :
    Calls Try.prog 143 #[.slice a n c] w fun e w' => e = .returned (.bool (validContacts L)) ∧ Ext w w' := by
  have hle := hs.le
  have hmax := hs.max
  have hlen := Lib.hid hs.len
  have hfin : validContacts L = (upTo (okConAt L) n && decide (n ≤ 10)) := by rw [← hs.len]; rfl
  rw [hfin]
  clear hfin
  rcases hs.cons with ⟨h0, hL⟩ | ⟨h0, b, off, ha, hb, hc⟩
  · subst h0
    subst hL
    clear hs hlen
    go_enter Try.func143, Try.ntmps143
    go_wp2
    go_loop [3, 4] (fun i _ => i = .int .i64 0) (fun _ _ => 0)
    case atStart => rfl
    case round =>
      subst hrel
      go_wp2
      go_ret
      exact ⟨rfl, Ext.refl _⟩
  · subst ha
    have HC2 := Lib.hid hc
    clear hc hs
    go_enter Try.func143, Try.ntmps143
    go_wp2
    go_loopw [3, 4] (fun i _ wr => ∃ k : Nat, k ≤ n ∧ i = .int .i64 k ∧ (∀ j, j < k → okConAt L j = true) ∧ Ext w wr) (fun i _ _ => n - (intOf i).toNat)
    case atStart => exact ⟨0, Nat.zero_le _, rfl, by omega, Ext.refl _⟩
    case round =>
      obtain ⟨k, hk, rfl, hall, hX⟩ := hrel
      have HA := Lib.hid hall
      clear hall
      obtain ⟨wo, rfl⟩ : ∃ wo : World, wo = wr := ⟨_, rfl⟩
      by_cases hlt : k < n
      · obtain ⟨d0, d1, d2⟩ := HC2.out k hlt
        rw [← hX.cells _ _ hb] at d0 d1 d2
        have hbr : b < wo.heap.size := by have := hX.size; omega
        cases h1 : inR (nth L k).port 1000 1007 with
        | false =>
          have hno := Lib.hid (show okConAt L k = false by unfold okConAt okCon; rw [h1]; rfl)
          go_wp2_with (go_at_call 144; refine (spec_inRange _ _ _ _).mono ?_; rintro e w' ⟨rfl, rfl⟩)
          go_ret
          exact ⟨ret_bool (by rw [upTo_f hlt hno.out]; rfl), hX.trans (by repeat (first | (with_reducible exact Ext.refl _) | (with_reducible assumption) | (with_reducible refine Ext.alloc ?_ _) | (with_reducible refine Ext.drewN ?_ _) | (with_reducible refine Ext.drew ?_) | (with_reducible refine Ext.setCell ?_ ?_ _; rotate_left; (simp only []; omega)) | (with_reducible refine Ext.trans ?_ (by assumption))))⟩
        | true =>
        cases h2 : validEnd (nth L k).to_ with
        | false =>
          have hno := Lib.hid (show okConAt L k = false by unfold okConAt okCon; rw [h1, h2]; rfl)
          go_wp2_with (first | (go_at_call 160; refine (spec_validEnd' (nth L k).to_ _).mono ?_; rintro e w1 ⟨rfl, hx⟩; have hc := hx.cells; have hf := hx.frozens; have hy := hx.size; (try simp at hy); have hz : b < w1.heap.size := (by omega)) | (go_at_call 144; refine (spec_inRange _ _ _ _).mono ?_; rintro e w' ⟨rfl, rfl⟩))
          go_ret
          exact ⟨ret_bool (by rw [upTo_f hlt hno.out]; rfl), hX.trans (by repeat (first | (with_reducible exact Ext.refl _) | (with_reducible assumption) | (with_reducible refine Ext.alloc ?_ _) | (with_reducible refine Ext.drewN ?_ _) | (with_reducible refine Ext.drew ?_) | (with_reducible refine Ext.setCell ?_ ?_ _; rotate_left; (simp only []; omega)) | (with_reducible refine Ext.trans ?_ (by assumption))))⟩
        | true =>
          have hokm := Lib.hid (show okCon (nth L k) = true by unfold okCon; rw [h1, h2]; rfl)
          go_wp2_with (go_at_call 144; refine (spec_inRange _ _ _ _).mono ?_; rintro e w' ⟨rfl, rfl⟩)
          refine (spec_validEnd' (nth L k).to_ _).mono ?_
          rintro e w1 ⟨rfl, hx1⟩
          have hX1 : Ext w w1 := hX.trans (Ext.trans (show Ext wo _ from (by repeat (first | (with_reducible exact Ext.refl _) | (with_reducible assumption) | (with_reducible refine Ext.alloc ?_ _) | (with_reducible refine Ext.drewN ?_ _) | (with_reducible refine Ext.drew ?_) | (with_reducible refine Ext.setCell ?_ ?_ _; rotate_left; (simp only []; omega)) | (with_reducible refine Ext.trans ?_ (by assumption))))) hx1)
          clear hx1 d0 d1 d2 hX
          go_wp2
          clear h1 h2
          go_loopw [4] (fun i2 w2 => ∃ k2 : Nat, k2 ≤ k ∧ i2 = .int .i64 k2 ∧ (∀ j, j < k2 → nth L j ≠ nth L k) ∧ Ext w w2) (fun i2 _ => k - (intOf i2).toNat)
          case atStart => exact ⟨0, Nat.zero_le _, rfl, by omega, hX1⟩
          case round =>
            obtain ⟨k2, hk2, rfl, hall2, hX2⟩ := hrel
            have HA2 := Lib.hid hall2
            clear hall2 hX1
            by_cases hlt2 : k2 < k
            · obtain ⟨e0, e1, e2⟩ := HC2.out k2 (by omega)
              obtain ⟨d0, d1, d2⟩ := HC2.out k (by omega)
              rw [← hX2.cells _ _ hb] at e0 e1 e2 d0 d1 d2
              have hbr2 : b < wr.heap.size := by have := hX2.size; omega
              have hk2n : k2 < n := by omega
              have HX2 := Lib.hid hX2
              clear hX2
              by_cases p1 : nth L k2 = nth L k
              · have heq : ∀ W : World, (Go.binOp .eql 47 (.agg #[.int .i64 (nth L k2).port, .int .i64 (nth L k2).to_.addr, .int .i64 (nth L k2).to_.port]) (.agg #[.int .i64 (nth L k).port, .int .i64 (nth L k).to_.addr, .int .i64 (nth L k).to_.port])).run Try.prog W = .ok (.bool true) W := fun W => by rw [run_eql_C (nth L k2) (nth L k), decide_eq_true p1]
                have hno := Lib.hid (okConAt_no (by rw [hlen.out]; exact hlt) hlt2 p1)
                clear p1
                go_wp2_with fail
                have hdrS : ∀ W : World, W.drew.heap.size = W.heap.size := fun _ => rfl
                refine wp_region_eager (R := Ext) [0, 1, 2, 3, 4, 5, 6, 7, 8] (by kernel_rfl) (by kernel_rfl) Ext.refl (fun _ _ _ => Ext.trans) ?_
                repeat' (first
                  | (refine ChX.skip (by rfl) (by rfl) ?_
                     (try simp only [Act.put, List.setIfInBounds_toArray, List.set_cons_zero, List.set_cons_succ]))
                  | (refine' ChX.quiet (v := _) (by rfl) (by rfl) (by rfl) ?_ ?_
                     rotate_left
                     · (intro wS hS
                        have hcS := Ext.cells hS
                        go_simp
                        with_reducible rfl)
                     (try simp only [Act.put, List.setIfInBounds_toArray, List.set_cons_zero, List.set_cons_succ]))
                  | (refine ChX.nil ?_)
                  | (refine' ChX.guard (x := _) (by rfl) ?_ ?_ ?_
                     rotate_left
                     · (go_simp
                        rfl)
                     all_goals
                       intro hg
                       simp only [hg])
                  | (refine' ChX.guardN (x := _) (by rfl) ?_ ?_ ?_
                     rotate_left
                     · (go_simp
                        rfl)
                     all_goals
                       intro hg
                       simp only [hg]))
                go_wp2
                go_ret
                exact ⟨ret_bool (by rw [upTo_f hlt hno.out]; rfl), (show Ext w wr from HX2.out).trans (by repeat (first | (with_reducible exact Ext.refl _) | (with_reducible assumption) | (with_reducible refine Ext.alloc ?_ _) | (with_reducible refine Ext.drewN ?_ _) | (with_reducible refine Ext.drew ?_) | (with_reducible refine Ext.setCell ?_ ?_ _; rotate_left; (simp only []; omega)) | (with_reducible refine Ext.trans ?_ (by assumption))))⟩
              · have heq : ∀ W : World, (Go.binOp .eql 47 (.agg #[.int .i64 (nth L k2).port, .int .i64 (nth L k2).to_.addr, .int .i64 (nth L k2).to_.port]) (.agg #[.int .i64 (nth L k).port, .int .i64 (nth L k).to_.addr, .int .i64 (nth L k).to_.port])).run Try.prog W = .ok (.bool false) W := fun W => by rw [run_eql_C (nth L k2) (nth L k), decide_eq_false p1]
                replace p1 := Lib.hid p1
                go_wp2_with fail
                have hdrS : ∀ W : World, W.drew.heap.size = W.heap.size := fun _ => rfl
                refine wp_region_eager (R := Ext) [0, 1, 2, 3, 4, 5, 6, 7, 8] (by kernel_rfl) (by kernel_rfl) Ext.refl (fun _ _ _ => Ext.trans) ?_
                repeat' (first
                  | (refine ChX.skip (by rfl) (by rfl) ?_
                     (try simp only [Act.put, List.setIfInBounds_toArray, List.set_cons_zero, List.set_cons_succ]))
                  | (refine' ChX.quiet (v := _) (by rfl) (by rfl) (by rfl) ?_ ?_
                     rotate_left
                     · (intro wS hS
                        have hcS := Ext.cells hS
                        go_simp
                        with_reducible rfl)
                     (try simp only [Act.put, List.setIfInBounds_toArray, List.set_cons_zero, List.set_cons_succ]))
                  | (refine ChX.nil ?_)
                  | (refine' ChX.guard (x := _) (by rfl) ?_ ?_ ?_
                     rotate_left
                     · (go_simp
                        rfl)
                     all_goals
                       intro hg
                       simp only [hg])
                  | (refine' ChX.guardN (x := _) (by rfl) ?_ ?_ ?_
                     rotate_left
                     · (go_simp
                        rfl)
                     all_goals
                       intro hg
                       simp only [hg]))
                go_wp2
                go_roundw
                case rel => exact ⟨k2 + 1, hlt2, by go_num, fun j hj => by
                  rcases Nat.lt_or_ge j k2 with h | h
                  · exact HA2.out j h
                  · have e : j = k2 := by omega
                    rw [e]; exact p1.out, (show Ext w wr from HX2.out).trans (by repeat (first | (with_reducible exact Ext.refl _) | (with_reducible assumption) | (with_reducible refine Ext.alloc ?_ _) | (with_reducible refine Ext.drewN ?_ _) | (with_reducible refine Ext.drew ?_) | (with_reducible refine Ext.setCell ?_ ?_ _; rotate_left; (simp only []; omega)) | (with_reducible refine Ext.trans ?_ (by assumption))))⟩
                case measure => simp [intOf]; omega
            · have e : k2 = k := by omega
              subst e
              have HX2 := Lib.hid hX2
              clear hX2
              go_wp2
              go_roundw
              case rel => exact ⟨k2 + 1, hlt, by go_num, fun j hj => by
                rcases Nat.lt_or_ge j k2 with h | h
                · exact HA.out j h
                · have e : j = k2 := by omega
                  rw [e]; exact okConAt_spec (by rw [hlen.out]; exact hlt) hokm.out HA2.out, HX2.out⟩
              case measure => simp [intOf]; omega
      · have e : k = n := by omega
        subst e
        have HX := Lib.hid hX
        clear hX
        go_wp2
        go_ret
        exact ⟨ret_bool (by rw [upTo_iff.2 HA.out, Bool.eq_iff_iff]; simp; omega), HX.out⟩
end Go.Proofs.Ytppdcglnopoocaa
/- Contracts: valid gates, of the program. -/
namespace Go.Proofs.Ytppdcglnopoocaa
set_option linter.unusedVariables false
set_option linter.unusedSimpArgs false
open Go.RowKit Go.Shelf

theorem any_not {α : Type} (f : α → Bool) (l : List α) : (l.any fun x => !f x) = !l.all f := by
  induction l with
  | nil => rfl
  | cons x l ih => rw [List.any_cons, List.all_cons, ih]; cases f x <;> rfl
theorem impl_ValidNet' (n : NetD) (w : World) : Calls Try.prog 71 #[.agg #[.int .i64 n.base, .int .i64 n.bits]] w fun e w' => e = .returned (.bool (validNet n)) ∧ Ext w w' := impl_ValidNet n.base n.bits w
theorem impl_has' (n : NetD) (a : Int) (w : World) (h : validNet n = true) : Calls Try.prog 58 #[.agg #[.int .i64 n.base, .int .i64 n.bits], .int .i64 a] w fun e w' => e = .returned (.bool (has n a)) ∧ Ext w w' := impl_has n.base n.bits a w h
theorem impl_timed (a : Option Addr) (n c : Nat) (L : List MapD) (now hold : Int) (w : World) (hs : Sl encM 4 w a n c L) :
    Calls Try.prog 82 #[.slice a n c, .int .i64 now, .int .i64 hold] w fun e w' => e = .returned (.bool (validTable L && timer now hold)) ∧ Ext w w' := by
  unfold timer
  go_enter Try.func82, Try.ntmps82
  go_wp2_with (first | (go_at_call 70; refine (impl_ValidTable _ _ _ L _ (by exact hs.ext (by repeat (first | (with_reducible exact Ext.refl _) | (with_reducible assumption) | (with_reducible refine Ext.alloc ?_ _) | (with_reducible refine Ext.drewN ?_ _) | (with_reducible refine Ext.drew ?_) | (with_reducible refine Ext.setCell ?_ ?_ _; rotate_left; (simp only []; omega)) | (with_reducible refine Ext.trans ?_ (by assumption)))))).mono ?_; rintro e w1 ⟨rfl, hx⟩; have hc := hx.cells; have hf := hx.frozens; have hy := hx.size; (try simp at hy); have hz : w.heap.size ≤ w1.heap.size := (by omega)) | (go_at_call 133; refine (impl_isTime _ _).mono ?_; rintro e w' ⟨rfl, rfl⟩) | (go_at_call 66; refine (impl_in _ _ _ _).mono ?_; rintro e w' ⟨rfl, rfl⟩))
  all_goals (go_ret; exact ⟨ret_bool (by simp [*]), (by repeat (first | (with_reducible exact Ext.refl _) | (with_reducible assumption) | (with_reducible refine Ext.alloc ?_ _) | (with_reducible refine Ext.drewN ?_ _) | (with_reducible refine Ext.drew ?_) | (with_reducible refine Ext.setCell ?_ ?_ _; rotate_left; (simp only []; omega)) | (with_reducible refine Ext.trans ?_ (by assumption))))⟩)
theorem impl_expired (m : MapD) (now hold : Int) (w : World) (h0 : 0 ≤ m.last) (h1 : m.last ≤ 10000) (h2 : 0 ≤ now) (h3 : now ≤ 10000) :
    Calls Try.prog 85 #[.agg #[.int .i64 m.ins.addr, .int .i64 m.ins.port, .int .i64 m.port, .int .i64 m.last], .int .i64 now, .int .i64 hold] w fun e w' => e = .returned (.bool (expired m now hold)) ∧ Ext w w' := by
  unfold expired
  go_enter Try.func85, Try.ntmps85
  go_wp2
  go_ret
  exact ⟨rfl, (by repeat (first | (with_reducible exact Ext.refl _) | (with_reducible assumption) | (with_reducible refine Ext.alloc ?_ _) | (with_reducible refine Ext.drewN ?_ _) | (with_reducible refine Ext.drew ?_) | (with_reducible refine Ext.setCell ?_ ?_ _; rotate_left; (simp only []; omega)) | (with_reducible refine Ext.trans ?_ (by assumption))))⟩
theorem clo_gate1 (g : GateD) (m : MapD) (s t : Value) (G : Nat) (W : World) (hB : Blk W G 28 #[.int .i64 g.net.base, .int .i64 g.net.bits, .int .i64 g.out, s, t, .int .i64 g.filter, .int .i64 g.hold, .int .i64 g.now])
    (hv : validNet g.net = true) (n0 : 0 ≤ g.now) (n1 : g.now ≤ 10000) (l0 : 0 ≤ m.last) (l1 : m.last ≤ 10000) :
    Calls Try.prog 84 (#[.agg #[.int .i64 m.ins.addr, .int .i64 m.ins.port, .int .i64 m.port, .int .i64 m.last]] ++ #[.pointer (some ⟨G, 0, none⟩)]) W fun r w' => r = .returned (.bool (!okGateMap g m)) ∧ Ext W w' := by
  show Calls Try.prog 84 #[.agg #[.int .i64 m.ins.addr, .int .i64 m.ins.port, .int .i64 m.port, .int .i64 m.last], .pointer (some ⟨G, 0, none⟩)] W _
  have hcB := hB.cells
  have hzB := hB.lt
  clear hB
  cases hh : has g.net m.ins.addr with
  | false =>
    rw [show (!okGateMap g m) = true by simp [okGateMap, hh]]
    go_enter Try.func84, Try.ntmps84
    go_wp2_with (go_at_call 58; refine (impl_has' g.net _ _ hv).mono ?_; rintro e w1 ⟨rfl, hx⟩; have hc := hx.cells; have hf := hx.frozens; have hy := hx.size; (try simp at hy); have hz : W.heap.size < w1.heap.size ∧ G < w1.heap.size := (by omega))
    go_ret
    exact ⟨rfl, (by repeat (first | (with_reducible exact Ext.refl _) | (with_reducible assumption) | (with_reducible refine Ext.alloc ?_ _) | (with_reducible refine Ext.drewN ?_ _) | (with_reducible refine Ext.drew ?_) | (with_reducible refine Ext.setCell ?_ ?_ _; rotate_left; (simp only []; omega)) | (with_reducible refine Ext.trans ?_ (by assumption))))⟩
  | true =>
    by_cases hl : g.now < m.last
    · rw [show (!okGateMap g m) = true by simp [okGateMap]; omega]
      go_enter Try.func84, Try.ntmps84
      go_wp2_with (go_at_call 58; refine (impl_has' g.net _ _ hv).mono ?_; rintro e w1 ⟨rfl, hx⟩; have hc := hx.cells; have hf := hx.frozens; have hy := hx.size; (try simp at hy); have hz : W.heap.size < w1.heap.size ∧ G < w1.heap.size := (by omega))
      go_ret
      exact ⟨rfl, (by repeat (first | (with_reducible exact Ext.refl _) | (with_reducible assumption) | (with_reducible refine Ext.alloc ?_ _) | (with_reducible refine Ext.drewN ?_ _) | (with_reducible refine Ext.drew ?_) | (with_reducible refine Ext.setCell ?_ ?_ _; rotate_left; (simp only []; omega)) | (with_reducible refine Ext.trans ?_ (by assumption))))⟩
    · rw [show (!okGateMap g m) = expired m g.now g.hold by
        have : m.last ≤ g.now := by omega
        simp [okGateMap, hh, this]]
      go_enter Try.func84, Try.ntmps84
      go_wp2_with (first | (go_at_call 58; refine (impl_has' g.net _ _ hv).mono ?_; rintro e w1 ⟨rfl, hx⟩; have hc := hx.cells; have hf := hx.frozens; have hy := hx.size; (try simp at hy); have hz : W.heap.size < w1.heap.size ∧ G < w1.heap.size := (by omega)) | (go_at_call 85; refine (impl_expired m _ _ _ l0 l1 n0 n1).mono ?_; rintro e w1 ⟨rfl, hx⟩; have hc := hx.cells; have hf := hx.frozens; have hy := hx.size; (try simp at hy); have hz : W.heap.size < w1.heap.size := (by omega)))
      go_ret
      exact ⟨ret_bool (by have hl' : ¬ g.now < m.last := (by omega); rw [decide_eq_false hl']; rfl), (by repeat (first | (with_reducible exact Ext.refl _) | (with_reducible assumption) | (with_reducible refine Ext.alloc ?_ _) | (with_reducible refine Ext.drewN ?_ _) | (with_reducible refine Ext.drew ?_) | (with_reducible refine Ext.setCell ?_ ?_ _; rotate_left; (simp only []; omega)) | (with_reducible refine Ext.trans ?_ (by assumption))))⟩
theorem clo_gate2 (g : GateD) (x : ConD) (a : Option Addr) (n c : Nat) (t : Value) (G : Nat) (W : World) (hB : Blk W G 28 #[.int .i64 g.net.base, .int .i64 g.net.bits, .int .i64 g.out, .slice a n c, t, .int .i64 g.filter, .int .i64 g.hold, .int .i64 g.now])
    (hs : Sl encM 4 W a n c g.table) :
    Calls Try.prog 86 (#[.agg #[.int .i64 x.port, .int .i64 x.to_.addr, .int .i64 x.to_.port]] ++ #[.pointer (some ⟨G, 0, none⟩)]) W fun r w' => r = .returned (.bool (!okGateCon g x)) ∧ Ext W w' := by
  show Calls Try.prog 86 #[.agg #[.int .i64 x.port, .int .i64 x.to_.addr, .int .i64 x.to_.port], .pointer (some ⟨G, 0, none⟩)] W _
  rw [show (!okGateCon g x) = decide (byPort g.table x.port < 0) by
    unfold okGateCon
    rw [Bool.eq_iff_iff]
    simp]
  have hcB := hB.cells
  have hzB := hB.lt
  clear hB
  go_enter Try.func86, Try.ntmps86
  go_wp2_with (go_at_call 59; refine (impl_byPort _ _ _ _ g.table _ (by exact hs.ext (by repeat (first | (with_reducible exact Ext.refl _) | (with_reducible assumption) | (with_reducible refine Ext.alloc ?_ _) | (with_reducible refine Ext.drewN ?_ _) | (with_reducible refine Ext.drew ?_) | (with_reducible refine Ext.setCell ?_ ?_ _; rotate_left; (simp only []; omega)) | (with_reducible refine Ext.trans ?_ (by assumption)))))).mono ?_; rintro e w1 ⟨rfl, hx⟩; have hc := hx.cells; have hf := hx.frozens; have hy := hx.size; (try simp at hy); have hz : W.heap.size < w1.heap.size := (by omega))
  go_ret
  exact ⟨rfl, (by repeat (first | (with_reducible exact Ext.refl _) | (with_reducible assumption) | (with_reducible refine Ext.alloc ?_ _) | (with_reducible refine Ext.drewN ?_ _) | (with_reducible refine Ext.drew ?_) | (with_reducible refine Ext.setCell ?_ ?_ _; rotate_left; (simp only []; omega)) | (with_reducible refine Ext.trans ?_ (by assumption))))⟩
set_option maxHeartbeats 1000000 in
theorem impl_ValidGate (g : GateD) (ta : Option Addr) (tn tc : Nat) (ka : Option Addr) (kn kc : Nat) (w : World) (ht : Sl encM 4 w ta tn tc g.table) (hk : Sl encC 3 w ka kn kc g.cons) :
    Calls Try.prog 30 #[.agg #[.int .i64 g.net.base, .int .i64 g.net.bits, .int .i64 g.out, .slice ta tn tc, .slice ka kn kc, .int .i64 g.filter, .int .i64 g.hold, .int .i64 g.now]] w fun r w' => r = .returned (.bool (validGate g)) ∧ Ext w w' := by
  cases h1 : validNet g.net with
  | false =>
    go_enter Try.func30, Try.ntmps30
    go_wp2_with (first | (go_at_call 71; refine (impl_ValidNet' g.net _).mono ?_; rintro e w1 ⟨rfl, hx⟩; have hc := hx.cells; have hf := hx.frozens; have hy := hx.size; (try simp at hy); have hz : w.heap.size < w1.heap.size := (by omega)) | (go_at_call 72; refine (impl_isWord _ _).mono ?_; rintro e w' ⟨rfl, rfl⟩) | (go_at_call 58; refine (impl_has' g.net _ _ (by assumption)).mono ?_; rintro e w1 ⟨rfl, hx⟩; have hc := hx.cells; have hf := hx.frozens; have hy := hx.size; (try simp at hy); have hz : w.heap.size < w1.heap.size := (by omega)) | (go_at_call 82; refine (impl_timed _ _ _ g.table _ _ _ (by exact ht.ext (by repeat (first | (with_reducible exact Ext.refl _) | (with_reducible assumption) | (with_reducible refine Ext.alloc ?_ _) | (with_reducible refine Ext.drewN ?_ _) | (with_reducible refine Ext.drew ?_) | (with_reducible refine Ext.setCell ?_ ?_ _; rotate_left; (simp only []; omega)) | (with_reducible refine Ext.trans ?_ (by assumption)))))).mono ?_; rintro e w1 ⟨rfl, hx⟩; have hc := hx.cells; have hf := hx.frozens; have hy := hx.size; (try simp at hy); have hz : w.heap.size < w1.heap.size := (by omega)) | (go_at_call 67; refine (impl_ValidContacts _ _ _ g.cons _ (by exact hk.ext (by repeat (first | (with_reducible exact Ext.refl _) | (with_reducible assumption) | (with_reducible refine Ext.alloc ?_ _) | (with_reducible refine Ext.drewN ?_ _) | (with_reducible refine Ext.drew ?_) | (with_reducible refine Ext.setCell ?_ ?_ _; rotate_left; (simp only []; omega)) | (with_reducible refine Ext.trans ?_ (by assumption)))))).mono ?_; rintro e w1 ⟨rfl, hx⟩; have hc := hx.cells; have hf := hx.frozens; have hy := hx.size; (try simp at hy); have hz : w.heap.size < w1.heap.size := (by omega)) | (go_at_call 66; refine (impl_in _ _ _ _).mono ?_; rintro e w' ⟨rfl, rfl⟩))
    go_ret
    exact ⟨ret_bool (by have hh : validTable g.table = true → timer g.now g.hold = false → validGate g = false := (by intro a b; simp [validGate, a, b]); simp_all [validGate]), (by repeat (first | (with_reducible exact Ext.refl _) | (with_reducible assumption) | (with_reducible refine Ext.alloc ?_ _) | (with_reducible refine Ext.drewN ?_ _) | (with_reducible refine Ext.drew ?_) | (with_reducible refine Ext.setCell ?_ ?_ _; rotate_left; (simp only []; omega)) | (with_reducible refine Ext.trans ?_ (by assumption))))⟩
  | true =>
  cases h2 : word g.out with
  | false =>
    go_enter Try.func30, Try.ntmps30
    go_wp2_with (first | (go_at_call 71; refine (impl_ValidNet' g.net _).mono ?_; rintro e w1 ⟨rfl, hx⟩; have hc := hx.cells; have hf := hx.frozens; have hy := hx.size; (try simp at hy); have hz : w.heap.size < w1.heap.size := (by omega)) | (go_at_call 72; refine (impl_isWord _ _).mono ?_; rintro e w' ⟨rfl, rfl⟩) | (go_at_call 58; refine (impl_has' g.net _ _ (by assumption)).mono ?_; rintro e w1 ⟨rfl, hx⟩; have hc := hx.cells; have hf := hx.frozens; have hy := hx.size; (try simp at hy); have hz : w.heap.size < w1.heap.size := (by omega)) | (go_at_call 82; refine (impl_timed _ _ _ g.table _ _ _ (by exact ht.ext (by repeat (first | (with_reducible exact Ext.refl _) | (with_reducible assumption) | (with_reducible refine Ext.alloc ?_ _) | (with_reducible refine Ext.drewN ?_ _) | (with_reducible refine Ext.drew ?_) | (with_reducible refine Ext.setCell ?_ ?_ _; rotate_left; (simp only []; omega)) | (with_reducible refine Ext.trans ?_ (by assumption)))))).mono ?_; rintro e w1 ⟨rfl, hx⟩; have hc := hx.cells; have hf := hx.frozens; have hy := hx.size; (try simp at hy); have hz : w.heap.size < w1.heap.size := (by omega)) | (go_at_call 67; refine (impl_ValidContacts _ _ _ g.cons _ (by exact hk.ext (by repeat (first | (with_reducible exact Ext.refl _) | (with_reducible assumption) | (with_reducible refine Ext.alloc ?_ _) | (with_reducible refine Ext.drewN ?_ _) | (with_reducible refine Ext.drew ?_) | (with_reducible refine Ext.setCell ?_ ?_ _; rotate_left; (simp only []; omega)) | (with_reducible refine Ext.trans ?_ (by assumption)))))).mono ?_; rintro e w1 ⟨rfl, hx⟩; have hc := hx.cells; have hf := hx.frozens; have hy := hx.size; (try simp at hy); have hz : w.heap.size < w1.heap.size := (by omega)) | (go_at_call 66; refine (impl_in _ _ _ _).mono ?_; rintro e w' ⟨rfl, rfl⟩))
    go_ret
    exact ⟨ret_bool (by have hh : validTable g.table = true → timer g.now g.hold = false → validGate g = false := (by intro a b; simp [validGate, a, b]); simp_all [validGate]), (by repeat (first | (with_reducible exact Ext.refl _) | (with_reducible assumption) | (with_reducible refine Ext.alloc ?_ _) | (with_reducible refine Ext.drewN ?_ _) | (with_reducible refine Ext.drew ?_) | (with_reducible refine Ext.setCell ?_ ?_ _; rotate_left; (simp only []; omega)) | (with_reducible refine Ext.trans ?_ (by assumption))))⟩
  | true =>
  cases h3 : has g.net g.out with
  | true =>
    go_enter Try.func30, Try.ntmps30
    go_wp2_with (first | (go_at_call 71; refine (impl_ValidNet' g.net _).mono ?_; rintro e w1 ⟨rfl, hx⟩; have hc := hx.cells; have hf := hx.frozens; have hy := hx.size; (try simp at hy); have hz : w.heap.size < w1.heap.size := (by omega)) | (go_at_call 72; refine (impl_isWord _ _).mono ?_; rintro e w' ⟨rfl, rfl⟩) | (go_at_call 58; refine (impl_has' g.net _ _ (by assumption)).mono ?_; rintro e w1 ⟨rfl, hx⟩; have hc := hx.cells; have hf := hx.frozens; have hy := hx.size; (try simp at hy); have hz : w.heap.size < w1.heap.size := (by omega)) | (go_at_call 82; refine (impl_timed _ _ _ g.table _ _ _ (by exact ht.ext (by repeat (first | (with_reducible exact Ext.refl _) | (with_reducible assumption) | (with_reducible refine Ext.alloc ?_ _) | (with_reducible refine Ext.drewN ?_ _) | (with_reducible refine Ext.drew ?_) | (with_reducible refine Ext.setCell ?_ ?_ _; rotate_left; (simp only []; omega)) | (with_reducible refine Ext.trans ?_ (by assumption)))))).mono ?_; rintro e w1 ⟨rfl, hx⟩; have hc := hx.cells; have hf := hx.frozens; have hy := hx.size; (try simp at hy); have hz : w.heap.size < w1.heap.size := (by omega)) | (go_at_call 67; refine (impl_ValidContacts _ _ _ g.cons _ (by exact hk.ext (by repeat (first | (with_reducible exact Ext.refl _) | (with_reducible assumption) | (with_reducible refine Ext.alloc ?_ _) | (with_reducible refine Ext.drewN ?_ _) | (with_reducible refine Ext.drew ?_) | (with_reducible refine Ext.setCell ?_ ?_ _; rotate_left; (simp only []; omega)) | (with_reducible refine Ext.trans ?_ (by assumption)))))).mono ?_; rintro e w1 ⟨rfl, hx⟩; have hc := hx.cells; have hf := hx.frozens; have hy := hx.size; (try simp at hy); have hz : w.heap.size < w1.heap.size := (by omega)) | (go_at_call 66; refine (impl_in _ _ _ _).mono ?_; rintro e w' ⟨rfl, rfl⟩))
    go_ret
    exact ⟨ret_bool (by have hh : validTable g.table = true → timer g.now g.hold = false → validGate g = false := (by intro a b; simp [validGate, a, b]); simp_all [validGate]), (by repeat (first | (with_reducible exact Ext.refl _) | (with_reducible assumption) | (with_reducible refine Ext.alloc ?_ _) | (with_reducible refine Ext.drewN ?_ _) | (with_reducible refine Ext.drew ?_) | (with_reducible refine Ext.setCell ?_ ?_ _; rotate_left; (simp only []; omega)) | (with_reducible refine Ext.trans ?_ (by assumption))))⟩
  | false =>
  cases h4 : (validTable g.table && timer g.now g.hold) with
  | false =>
    go_enter Try.func30, Try.ntmps30
    go_wp2_with (first | (go_at_call 71; refine (impl_ValidNet' g.net _).mono ?_; rintro e w1 ⟨rfl, hx⟩; have hc := hx.cells; have hf := hx.frozens; have hy := hx.size; (try simp at hy); have hz : w.heap.size < w1.heap.size := (by omega)) | (go_at_call 72; refine (impl_isWord _ _).mono ?_; rintro e w' ⟨rfl, rfl⟩) | (go_at_call 58; refine (impl_has' g.net _ _ (by assumption)).mono ?_; rintro e w1 ⟨rfl, hx⟩; have hc := hx.cells; have hf := hx.frozens; have hy := hx.size; (try simp at hy); have hz : w.heap.size < w1.heap.size := (by omega)) | (go_at_call 82; refine (impl_timed _ _ _ g.table _ _ _ (by exact ht.ext (by repeat (first | (with_reducible exact Ext.refl _) | (with_reducible assumption) | (with_reducible refine Ext.alloc ?_ _) | (with_reducible refine Ext.drewN ?_ _) | (with_reducible refine Ext.drew ?_) | (with_reducible refine Ext.setCell ?_ ?_ _; rotate_left; (simp only []; omega)) | (with_reducible refine Ext.trans ?_ (by assumption)))))).mono ?_; rintro e w1 ⟨rfl, hx⟩; have hc := hx.cells; have hf := hx.frozens; have hy := hx.size; (try simp at hy); have hz : w.heap.size < w1.heap.size := (by omega)) | (go_at_call 67; refine (impl_ValidContacts _ _ _ g.cons _ (by exact hk.ext (by repeat (first | (with_reducible exact Ext.refl _) | (with_reducible assumption) | (with_reducible refine Ext.alloc ?_ _) | (with_reducible refine Ext.drewN ?_ _) | (with_reducible refine Ext.drew ?_) | (with_reducible refine Ext.setCell ?_ ?_ _; rotate_left; (simp only []; omega)) | (with_reducible refine Ext.trans ?_ (by assumption)))))).mono ?_; rintro e w1 ⟨rfl, hx⟩; have hc := hx.cells; have hf := hx.frozens; have hy := hx.size; (try simp at hy); have hz : w.heap.size < w1.heap.size := (by omega)) | (go_at_call 66; refine (impl_in _ _ _ _).mono ?_; rintro e w' ⟨rfl, rfl⟩))
    go_ret
    exact ⟨ret_bool (by have hh : validTable g.table = true → timer g.now g.hold = false → validGate g = false := (by intro a b; simp [validGate, a, b]); simp_all [validGate]), (by repeat (first | (with_reducible exact Ext.refl _) | (with_reducible assumption) | (with_reducible refine Ext.alloc ?_ _) | (with_reducible refine Ext.drewN ?_ _) | (with_reducible refine Ext.drew ?_) | (with_reducible refine Ext.setCell ?_ ?_ _; rotate_left; (simp only []; omega)) | (with_reducible refine Ext.trans ?_ (by assumption))))⟩
  | true =>
  cases h5 : validContacts g.cons with
  | false =>
    go_enter Try.func30, Try.ntmps30
    go_wp2_with (first | (go_at_call 71; refine (impl_ValidNet' g.net _).mono ?_; rintro e w1 ⟨rfl, hx⟩; have hc := hx.cells; have hf := hx.frozens; have hy := hx.size; (try simp at hy); have hz : w.heap.size < w1.heap.size := (by omega)) | (go_at_call 72; refine (impl_isWord _ _).mono ?_; rintro e w' ⟨rfl, rfl⟩) | (go_at_call 58; refine (impl_has' g.net _ _ (by assumption)).mono ?_; rintro e w1 ⟨rfl, hx⟩; have hc := hx.cells; have hf := hx.frozens; have hy := hx.size; (try simp at hy); have hz : w.heap.size < w1.heap.size := (by omega)) | (go_at_call 82; refine (impl_timed _ _ _ g.table _ _ _ (by exact ht.ext (by repeat (first | (with_reducible exact Ext.refl _) | (with_reducible assumption) | (with_reducible refine Ext.alloc ?_ _) | (with_reducible refine Ext.drewN ?_ _) | (with_reducible refine Ext.drew ?_) | (with_reducible refine Ext.setCell ?_ ?_ _; rotate_left; (simp only []; omega)) | (with_reducible refine Ext.trans ?_ (by assumption)))))).mono ?_; rintro e w1 ⟨rfl, hx⟩; have hc := hx.cells; have hf := hx.frozens; have hy := hx.size; (try simp at hy); have hz : w.heap.size < w1.heap.size := (by omega)) | (go_at_call 67; refine (impl_ValidContacts _ _ _ g.cons _ (by exact hk.ext (by repeat (first | (with_reducible exact Ext.refl _) | (with_reducible assumption) | (with_reducible refine Ext.alloc ?_ _) | (with_reducible refine Ext.drewN ?_ _) | (with_reducible refine Ext.drew ?_) | (with_reducible refine Ext.setCell ?_ ?_ _; rotate_left; (simp only []; omega)) | (with_reducible refine Ext.trans ?_ (by assumption)))))).mono ?_; rintro e w1 ⟨rfl, hx⟩; have hc := hx.cells; have hf := hx.frozens; have hy := hx.size; (try simp at hy); have hz : w.heap.size < w1.heap.size := (by omega)) | (go_at_call 66; refine (impl_in _ _ _ _).mono ?_; rintro e w' ⟨rfl, rfl⟩))
    go_ret
    exact ⟨ret_bool (by have hh : validTable g.table = true → timer g.now g.hold = false → validGate g = false := (by intro a b; simp [validGate, a, b]); simp_all [validGate]), (by repeat (first | (with_reducible exact Ext.refl _) | (with_reducible assumption) | (with_reducible refine Ext.alloc ?_ _) | (with_reducible refine Ext.drewN ?_ _) | (with_reducible refine Ext.drew ?_) | (with_reducible refine Ext.setCell ?_ ?_ _; rotate_left; (simp only []; omega)) | (with_reducible refine Ext.trans ?_ (by assumption))))⟩
  | true =>
  cases h6 : inR g.filter 0 2 with
  | false =>
    go_enter Try.func30, Try.ntmps30
    go_wp2_with (first | (go_at_call 71; refine (impl_ValidNet' g.net _).mono ?_; rintro e w1 ⟨rfl, hx⟩; have hc := hx.cells; have hf := hx.frozens; have hy := hx.size; (try simp at hy); have hz : w.heap.size < w1.heap.size := (by omega)) | (go_at_call 72; refine (impl_isWord _ _).mono ?_; rintro e w' ⟨rfl, rfl⟩) | (go_at_call 58; refine (impl_has' g.net _ _ (by assumption)).mono ?_; rintro e w1 ⟨rfl, hx⟩; have hc := hx.cells; have hf := hx.frozens; have hy := hx.size; (try simp at hy); have hz : w.heap.size < w1.heap.size := (by omega)) | (go_at_call 82; refine (impl_timed _ _ _ g.table _ _ _ (by exact ht.ext (by repeat (first | (with_reducible exact Ext.refl _) | (with_reducible assumption) | (with_reducible refine Ext.alloc ?_ _) | (with_reducible refine Ext.drewN ?_ _) | (with_reducible refine Ext.drew ?_) | (with_reducible refine Ext.setCell ?_ ?_ _; rotate_left; (simp only []; omega)) | (with_reducible refine Ext.trans ?_ (by assumption)))))).mono ?_; rintro e w1 ⟨rfl, hx⟩; have hc := hx.cells; have hf := hx.frozens; have hy := hx.size; (try simp at hy); have hz : w.heap.size < w1.heap.size := (by omega)) | (go_at_call 67; refine (impl_ValidContacts _ _ _ g.cons _ (by exact hk.ext (by repeat (first | (with_reducible exact Ext.refl _) | (with_reducible assumption) | (with_reducible refine Ext.alloc ?_ _) | (with_reducible refine Ext.drewN ?_ _) | (with_reducible refine Ext.drew ?_) | (with_reducible refine Ext.setCell ?_ ?_ _; rotate_left; (simp only []; omega)) | (with_reducible refine Ext.trans ?_ (by assumption)))))).mono ?_; rintro e w1 ⟨rfl, hx⟩; have hc := hx.cells; have hf := hx.frozens; have hy := hx.size; (try simp at hy); have hz : w.heap.size < w1.heap.size := (by omega)) | (go_at_call 66; refine (impl_in _ _ _ _).mono ?_; rintro e w' ⟨rfl, rfl⟩))
    go_ret
    exact ⟨ret_bool (by have hh : validTable g.table = true → timer g.now g.hold = false → validGate g = false := (by intro a b; simp [validGate, a, b]); simp_all [validGate]), (by repeat (first | (with_reducible exact Ext.refl _) | (with_reducible assumption) | (with_reducible refine Ext.alloc ?_ _) | (with_reducible refine Ext.drewN ?_ _) | (with_reducible refine Ext.drew ?_) | (with_reducible refine Ext.setCell ?_ ?_ _; rotate_left; (simp only []; omega)) | (with_reducible refine Ext.trans ?_ (by assumption))))⟩
  | true =>
    have h4' := h4
    simp only [Bool.and_eq_true, timer, inR_iff] at h4'
    obtain ⟨t1, ⟨t2, t3⟩, t4, t5⟩ := h4'
    have e1 : ∀ args w, (callFunc 84 args).run Try.prog w = .ok (.enter 84 args) w := enters_of Try.func84 (by kernel_rfl) rfl
    have e2 : ∀ args w, (callFunc 86 args).run Try.prog w = .ok (.enter 86 args) w := enters_of Try.func86 (by kernel_rfl) rfl
    have C1 : ∀ W : World, Ext (w.alloc (.cells #[.int .i64 g.net.base, .int .i64 g.net.bits, .int .i64 g.out, .slice ta tn tc, .slice ka kn kc, .int .i64 g.filter, .int .i64 g.hold, .int .i64 g.now] 28)) W → Calls Try.prog 83 #[.slice ta tn tc, .func (.func 84) #[] #[.pointer (some ⟨w.heap.size, 0, none⟩)]] W fun e w' => e = .returned (.bool (!g.table.all (okGateMap g))) ∧ Ext W w' := by
      intro W hW
      rw [← any_not]
      refine ContainsFunc_M 84 _ e1 _ ta tn tc g.table W ((ht.alloc _).ext hW) fun x hx W' hW' => ?_
      have hx2 := (validTable_iff.1 t1).1 x hx
      simp only [okMap, Bool.and_eq_true, inR_iff] at hx2
      exact clo_gate1 g x _ _ w.heap.size W' (((Blk.new w _ _).ext hW).ext hW') h1 t2 t3 hx2.2.1 hx2.2.2
    have C2 : ∀ W : World, Ext (w.alloc (.cells #[.int .i64 g.net.base, .int .i64 g.net.bits, .int .i64 g.out, .slice ta tn tc, .slice ka kn kc, .int .i64 g.filter, .int .i64 g.hold, .int .i64 g.now] 28)) W → Calls Try.prog 68 #[.slice ka kn kc, .func (.func 86) #[] #[.pointer (some ⟨w.heap.size, 0, none⟩)]] W fun e w' => e = .returned (.bool (!g.cons.all (okGateCon g))) ∧ Ext W w' := by
      intro W hW
      rw [← any_not]
      refine ContainsFunc_C 86 _ e2 _ ka kn kc g.cons W ((hk.alloc _).ext hW) fun x hx W' hW' => ?_
      exact clo_gate2 g x ta tn tc _ w.heap.size W' (((Blk.new w _ _).ext hW).ext hW') (((ht.alloc _).ext hW).ext hW')
    replace C1 := Lib.hid C1
    replace C2 := Lib.hid C2
    have hfin := Lib.hid (show validGate g = (g.table.all (okGateMap g) && g.cons.all (okGateCon g)) by
      have h4'' := h4
      rw [Bool.and_eq_true] at h4''
      unfold validGate
      simp [h1, h2, h3, h4''.1, h4''.2, h5, h6])
    clear e1 e2 t1 t2 t3 t4 t5
    generalize g.table.all (okGateMap g) = q1 at *
    generalize g.cons.all (okGateCon g) = q2 at *
    go_enter Try.func30, Try.ntmps30
    go_wp2_with (first | (go_at_call 71; refine (impl_ValidNet' g.net _).mono ?_; rintro e w1 ⟨rfl, hx⟩; have hc := hx.cells; have hf := hx.frozens; have hy := hx.size; (try simp at hy); have hz : w.heap.size < w1.heap.size := (by omega)) | (go_at_call 72; refine (impl_isWord _ _).mono ?_; rintro e w' ⟨rfl, rfl⟩) | (go_at_call 58; refine (impl_has' g.net _ _ (by assumption)).mono ?_; rintro e w1 ⟨rfl, hx⟩; have hc := hx.cells; have hf := hx.frozens; have hy := hx.size; (try simp at hy); have hz : w.heap.size < w1.heap.size := (by omega)) | (go_at_call 82; refine (impl_timed _ _ _ g.table _ _ _ (by exact ht.ext (by repeat (first | (with_reducible exact Ext.refl _) | (with_reducible assumption) | (with_reducible refine Ext.alloc ?_ _) | (with_reducible refine Ext.drewN ?_ _) | (with_reducible refine Ext.drew ?_) | (with_reducible refine Ext.setCell ?_ ?_ _; rotate_left; (simp only []; omega)) | (with_reducible refine Ext.trans ?_ (by assumption)))))).mono ?_; rintro e w1 ⟨rfl, hx⟩; have hc := hx.cells; have hf := hx.frozens; have hy := hx.size; (try simp at hy); have hz : w.heap.size < w1.heap.size := (by omega)) | (go_at_call 67; refine (impl_ValidContacts _ _ _ g.cons _ (by exact hk.ext (by repeat (first | (with_reducible exact Ext.refl _) | (with_reducible assumption) | (with_reducible refine Ext.alloc ?_ _) | (with_reducible refine Ext.drewN ?_ _) | (with_reducible refine Ext.drew ?_) | (with_reducible refine Ext.setCell ?_ ?_ _; rotate_left; (simp only []; omega)) | (with_reducible refine Ext.trans ?_ (by assumption)))))).mono ?_; rintro e w1 ⟨rfl, hx⟩; have hc := hx.cells; have hf := hx.frozens; have hy := hx.size; (try simp at hy); have hz : w.heap.size < w1.heap.size := (by omega)) | (go_at_call 66; refine (impl_in _ _ _ _).mono ?_; rintro e w' ⟨rfl, rfl⟩) | (go_at_call 83; refine (C1.out _ (by exact (by repeat (first | (with_reducible exact Ext.refl _) | (with_reducible assumption) | (with_reducible refine Ext.alloc ?_ _) | (with_reducible refine Ext.drewN ?_ _) | (with_reducible refine Ext.drew ?_) | (with_reducible refine Ext.setCell ?_ ?_ _; rotate_left; (simp only []; omega)) | (with_reducible refine Ext.trans ?_ (by assumption)))))).mono ?_; rintro e w1 ⟨rfl, hx⟩; have hc := hx.cells; have hf := hx.frozens; have hy := hx.size; (try simp at hy); have hz : w.heap.size < w1.heap.size := (by omega)) | (go_at_call 68; refine (C2.out _ (by exact (by repeat (first | (with_reducible exact Ext.refl _) | (with_reducible assumption) | (with_reducible refine Ext.alloc ?_ _) | (with_reducible refine Ext.drewN ?_ _) | (with_reducible refine Ext.drew ?_) | (with_reducible refine Ext.setCell ?_ ?_ _; rotate_left; (simp only []; omega)) | (with_reducible refine Ext.trans ?_ (by assumption)))))).mono ?_; rintro e w1 ⟨rfl, hx⟩; have hc := hx.cells; have hf := hx.frozens; have hy := hx.size; (try simp at hy); have hz : w.heap.size < w1.heap.size := (by omega)))
    all_goals (go_ret; exact ⟨ret_bool (by rw [hfin.out]; simp [*]), (by repeat (first | (with_reducible exact Ext.refl _) | (with_reducible assumption) | (with_reducible refine Ext.alloc ?_ _) | (with_reducible refine Ext.drewN ?_ _) | (with_reducible refine Ext.drew ?_) | (with_reducible refine Ext.setCell ?_ ?_ _; rotate_left; (simp only []; omega)) | (with_reducible refine Ext.trans ?_ (by assumption))))⟩)
end Go.Proofs.Ytppdcglnopoocaa
/- Contracts: valid gates of the reference; ways of packets, of both. -/
namespace Go.Proofs.Ytppdcglnopoocaa
set_option linter.unusedVariables false
set_option linter.unusedSimpArgs false
open Go.RowKit Go.Shelf

theorem spec_validNet' (n : NetD) (w : World) : Calls Try.prog 140 #[.agg #[.int .i64 n.base, .int .i64 n.bits]] w fun e w' => e = .returned (.bool (validNet n)) ∧ Ext w w' := spec_validNet n.base n.bits w
theorem spec_inNet' (n : NetD) (a : Int) (w : World) (h : validNet n = true) : Calls Try.prog 91 #[.agg #[.int .i64 n.base, .int .i64 n.bits], .int .i64 a] w fun e w' => e = .returned (.bool (has n a)) ∧ Ext w w' := spec_inNet n.base n.bits a w h
set_option maxHeartbeats 2000000 in
theorem spec_validGate (g : GateD) (ta : Option Addr) (tn tc : Nat) (ka : Option Addr) (kn kc : Nat) (w : World) (ht : Sl encM 4 w ta tn tc g.table) (hk : Sl encC 3 w ka kn kc g.cons) :
    Calls Try.prog 89 #[.agg #[.int .i64 g.net.base, .int .i64 g.net.bits, .int .i64 g.out, .slice ta tn tc, .slice ka kn kc, .int .i64 g.filter, .int .i64 g.hold, .int .i64 g.now]] w fun r w' => r = .returned (.bool (validGate g)) ∧ Ext w w' := by
  have hmx1 := ht.max
  have hmx2 := hk.max
  have hle1 := ht.le
  have hle2 := hk.le
  cases h1 : validNet g.net with
  | false =>
    go_enter Try.func89, Try.ntmps89
    go_wp2_with (first | (go_at_call 140; refine (spec_validNet' g.net _).mono ?_; rintro e w1 ⟨rfl, hx⟩; have hc := hx.cells; have hf := hx.frozens; have hy := hx.size; (try simp at hy); have hz : w.heap.size < w1.heap.size := (by omega)) | (go_at_call 141; refine (spec_validAddr _ _).mono ?_; rintro e w' ⟨rfl, rfl⟩) | (go_at_call 91; refine (spec_inNet' g.net _ _ (by assumption)).mono ?_; rintro e w1 ⟨rfl, hx⟩; have hc := hx.cells; have hf := hx.frozens; have hy := hx.size; (try simp at hy); have hz : w.heap.size < w1.heap.size := (by omega)) | (go_at_call 142; refine (spec_validTable _ _ _ g.table _ (by exact ht.ext (by repeat (first | (with_reducible exact Ext.refl _) | (with_reducible assumption) | (with_reducible refine Ext.alloc ?_ _) | (with_reducible refine Ext.drewN ?_ _) | (with_reducible refine Ext.drew ?_) | (with_reducible refine Ext.setCell ?_ ?_ _; rotate_left; (simp only []; omega)) | (with_reducible refine Ext.trans ?_ (by assumption)))))).mono ?_; rintro e w1 ⟨rfl, hx⟩; have hc := hx.cells; have hf := hx.frozens; have hy := hx.size; (try simp at hy); have hz : w.heap.size < w1.heap.size := (by omega)) | (go_at_call 143; refine (spec_validContacts _ _ _ g.cons _ (by exact hk.ext (by repeat (first | (with_reducible exact Ext.refl _) | (with_reducible assumption) | (with_reducible refine Ext.alloc ?_ _) | (with_reducible refine Ext.drewN ?_ _) | (with_reducible refine Ext.drew ?_) | (with_reducible refine Ext.setCell ?_ ?_ _; rotate_left; (simp only []; omega)) | (with_reducible refine Ext.trans ?_ (by assumption)))))).mono ?_; rintro e w1 ⟨rfl, hx⟩; have hc := hx.cells; have hf := hx.frozens; have hy := hx.size; (try simp at hy); have hz : w.heap.size < w1.heap.size := (by omega)) | (go_at_call 144; refine (spec_inRange _ _ _ _).mono ?_; rintro e w' ⟨rfl, rfl⟩))
    go_ret
    exact ⟨ret_bool (by simp [validGate, timer, *]), (by repeat (first | (with_reducible exact Ext.refl _) | (with_reducible assumption) | (with_reducible refine Ext.alloc ?_ _) | (with_reducible refine Ext.drewN ?_ _) | (with_reducible refine Ext.drew ?_) | (with_reducible refine Ext.setCell ?_ ?_ _; rotate_left; (simp only []; omega)) | (with_reducible refine Ext.trans ?_ (by assumption))))⟩
  | true =>
  cases h2 : word g.out with
  | false =>
    go_enter Try.func89, Try.ntmps89
    go_wp2_with (first | (go_at_call 140; refine (spec_validNet' g.net _).mono ?_; rintro e w1 ⟨rfl, hx⟩; have hc := hx.cells; have hf := hx.frozens; have hy := hx.size; (try simp at hy); have hz : w.heap.size < w1.heap.size := (by omega)) | (go_at_call 141; refine (spec_validAddr _ _).mono ?_; rintro e w' ⟨rfl, rfl⟩) | (go_at_call 91; refine (spec_inNet' g.net _ _ (by assumption)).mono ?_; rintro e w1 ⟨rfl, hx⟩; have hc := hx.cells; have hf := hx.frozens; have hy := hx.size; (try simp at hy); have hz : w.heap.size < w1.heap.size := (by omega)) | (go_at_call 142; refine (spec_validTable _ _ _ g.table _ (by exact ht.ext (by repeat (first | (with_reducible exact Ext.refl _) | (with_reducible assumption) | (with_reducible refine Ext.alloc ?_ _) | (with_reducible refine Ext.drewN ?_ _) | (with_reducible refine Ext.drew ?_) | (with_reducible refine Ext.setCell ?_ ?_ _; rotate_left; (simp only []; omega)) | (with_reducible refine Ext.trans ?_ (by assumption)))))).mono ?_; rintro e w1 ⟨rfl, hx⟩; have hc := hx.cells; have hf := hx.frozens; have hy := hx.size; (try simp at hy); have hz : w.heap.size < w1.heap.size := (by omega)) | (go_at_call 143; refine (spec_validContacts _ _ _ g.cons _ (by exact hk.ext (by repeat (first | (with_reducible exact Ext.refl _) | (with_reducible assumption) | (with_reducible refine Ext.alloc ?_ _) | (with_reducible refine Ext.drewN ?_ _) | (with_reducible refine Ext.drew ?_) | (with_reducible refine Ext.setCell ?_ ?_ _; rotate_left; (simp only []; omega)) | (with_reducible refine Ext.trans ?_ (by assumption)))))).mono ?_; rintro e w1 ⟨rfl, hx⟩; have hc := hx.cells; have hf := hx.frozens; have hy := hx.size; (try simp at hy); have hz : w.heap.size < w1.heap.size := (by omega)) | (go_at_call 144; refine (spec_inRange _ _ _ _).mono ?_; rintro e w' ⟨rfl, rfl⟩))
    go_ret
    exact ⟨ret_bool (by simp [validGate, timer, *]), (by repeat (first | (with_reducible exact Ext.refl _) | (with_reducible assumption) | (with_reducible refine Ext.alloc ?_ _) | (with_reducible refine Ext.drewN ?_ _) | (with_reducible refine Ext.drew ?_) | (with_reducible refine Ext.setCell ?_ ?_ _; rotate_left; (simp only []; omega)) | (with_reducible refine Ext.trans ?_ (by assumption))))⟩
  | true =>
  cases h3 : has g.net g.out with
  | true =>
    go_enter Try.func89, Try.ntmps89
    go_wp2_with (first | (go_at_call 140; refine (spec_validNet' g.net _).mono ?_; rintro e w1 ⟨rfl, hx⟩; have hc := hx.cells; have hf := hx.frozens; have hy := hx.size; (try simp at hy); have hz : w.heap.size < w1.heap.size := (by omega)) | (go_at_call 141; refine (spec_validAddr _ _).mono ?_; rintro e w' ⟨rfl, rfl⟩) | (go_at_call 91; refine (spec_inNet' g.net _ _ (by assumption)).mono ?_; rintro e w1 ⟨rfl, hx⟩; have hc := hx.cells; have hf := hx.frozens; have hy := hx.size; (try simp at hy); have hz : w.heap.size < w1.heap.size := (by omega)) | (go_at_call 142; refine (spec_validTable _ _ _ g.table _ (by exact ht.ext (by repeat (first | (with_reducible exact Ext.refl _) | (with_reducible assumption) | (with_reducible refine Ext.alloc ?_ _) | (with_reducible refine Ext.drewN ?_ _) | (with_reducible refine Ext.drew ?_) | (with_reducible refine Ext.setCell ?_ ?_ _; rotate_left; (simp only []; omega)) | (with_reducible refine Ext.trans ?_ (by assumption)))))).mono ?_; rintro e w1 ⟨rfl, hx⟩; have hc := hx.cells; have hf := hx.frozens; have hy := hx.size; (try simp at hy); have hz : w.heap.size < w1.heap.size := (by omega)) | (go_at_call 143; refine (spec_validContacts _ _ _ g.cons _ (by exact hk.ext (by repeat (first | (with_reducible exact Ext.refl _) | (with_reducible assumption) | (with_reducible refine Ext.alloc ?_ _) | (with_reducible refine Ext.drewN ?_ _) | (with_reducible refine Ext.drew ?_) | (with_reducible refine Ext.setCell ?_ ?_ _; rotate_left; (simp only []; omega)) | (with_reducible refine Ext.trans ?_ (by assumption)))))).mono ?_; rintro e w1 ⟨rfl, hx⟩; have hc := hx.cells; have hf := hx.frozens; have hy := hx.size; (try simp at hy); have hz : w.heap.size < w1.heap.size := (by omega)) | (go_at_call 144; refine (spec_inRange _ _ _ _).mono ?_; rintro e w' ⟨rfl, rfl⟩))
    go_ret
    exact ⟨ret_bool (by simp [validGate, timer, *]), (by repeat (first | (with_reducible exact Ext.refl _) | (with_reducible assumption) | (with_reducible refine Ext.alloc ?_ _) | (with_reducible refine Ext.drewN ?_ _) | (with_reducible refine Ext.drew ?_) | (with_reducible refine Ext.setCell ?_ ?_ _; rotate_left; (simp only []; omega)) | (with_reducible refine Ext.trans ?_ (by assumption))))⟩
  | false =>
  cases h4 : validTable g.table with
  | false =>
    go_enter Try.func89, Try.ntmps89
    go_wp2_with (first | (go_at_call 140; refine (spec_validNet' g.net _).mono ?_; rintro e w1 ⟨rfl, hx⟩; have hc := hx.cells; have hf := hx.frozens; have hy := hx.size; (try simp at hy); have hz : w.heap.size < w1.heap.size := (by omega)) | (go_at_call 141; refine (spec_validAddr _ _).mono ?_; rintro e w' ⟨rfl, rfl⟩) | (go_at_call 91; refine (spec_inNet' g.net _ _ (by assumption)).mono ?_; rintro e w1 ⟨rfl, hx⟩; have hc := hx.cells; have hf := hx.frozens; have hy := hx.size; (try simp at hy); have hz : w.heap.size < w1.heap.size := (by omega)) | (go_at_call 142; refine (spec_validTable _ _ _ g.table _ (by exact ht.ext (by repeat (first | (with_reducible exact Ext.refl _) | (with_reducible assumption) | (with_reducible refine Ext.alloc ?_ _) | (with_reducible refine Ext.drewN ?_ _) | (with_reducible refine Ext.drew ?_) | (with_reducible refine Ext.setCell ?_ ?_ _; rotate_left; (simp only []; omega)) | (with_reducible refine Ext.trans ?_ (by assumption)))))).mono ?_; rintro e w1 ⟨rfl, hx⟩; have hc := hx.cells; have hf := hx.frozens; have hy := hx.size; (try simp at hy); have hz : w.heap.size < w1.heap.size := (by omega)) | (go_at_call 143; refine (spec_validContacts _ _ _ g.cons _ (by exact hk.ext (by repeat (first | (with_reducible exact Ext.refl _) | (with_reducible assumption) | (with_reducible refine Ext.alloc ?_ _) | (with_reducible refine Ext.drewN ?_ _) | (with_reducible refine Ext.drew ?_) | (with_reducible refine Ext.setCell ?_ ?_ _; rotate_left; (simp only []; omega)) | (with_reducible refine Ext.trans ?_ (by assumption)))))).mono ?_; rintro e w1 ⟨rfl, hx⟩; have hc := hx.cells; have hf := hx.frozens; have hy := hx.size; (try simp at hy); have hz : w.heap.size < w1.heap.size := (by omega)) | (go_at_call 144; refine (spec_inRange _ _ _ _).mono ?_; rintro e w' ⟨rfl, rfl⟩))
    go_ret
    exact ⟨ret_bool (by simp [validGate, timer, *]), (by repeat (first | (with_reducible exact Ext.refl _) | (with_reducible assumption) | (with_reducible refine Ext.alloc ?_ _) | (with_reducible refine Ext.drewN ?_ _) | (with_reducible refine Ext.drew ?_) | (with_reducible refine Ext.setCell ?_ ?_ _; rotate_left; (simp only []; omega)) | (with_reducible refine Ext.trans ?_ (by assumption))))⟩
  | true =>
  cases h5 : validContacts g.cons with
  | false =>
    go_enter Try.func89, Try.ntmps89
    go_wp2_with (first | (go_at_call 140; refine (spec_validNet' g.net _).mono ?_; rintro e w1 ⟨rfl, hx⟩; have hc := hx.cells; have hf := hx.frozens; have hy := hx.size; (try simp at hy); have hz : w.heap.size < w1.heap.size := (by omega)) | (go_at_call 141; refine (spec_validAddr _ _).mono ?_; rintro e w' ⟨rfl, rfl⟩) | (go_at_call 91; refine (spec_inNet' g.net _ _ (by assumption)).mono ?_; rintro e w1 ⟨rfl, hx⟩; have hc := hx.cells; have hf := hx.frozens; have hy := hx.size; (try simp at hy); have hz : w.heap.size < w1.heap.size := (by omega)) | (go_at_call 142; refine (spec_validTable _ _ _ g.table _ (by exact ht.ext (by repeat (first | (with_reducible exact Ext.refl _) | (with_reducible assumption) | (with_reducible refine Ext.alloc ?_ _) | (with_reducible refine Ext.drewN ?_ _) | (with_reducible refine Ext.drew ?_) | (with_reducible refine Ext.setCell ?_ ?_ _; rotate_left; (simp only []; omega)) | (with_reducible refine Ext.trans ?_ (by assumption)))))).mono ?_; rintro e w1 ⟨rfl, hx⟩; have hc := hx.cells; have hf := hx.frozens; have hy := hx.size; (try simp at hy); have hz : w.heap.size < w1.heap.size := (by omega)) | (go_at_call 143; refine (spec_validContacts _ _ _ g.cons _ (by exact hk.ext (by repeat (first | (with_reducible exact Ext.refl _) | (with_reducible assumption) | (with_reducible refine Ext.alloc ?_ _) | (with_reducible refine Ext.drewN ?_ _) | (with_reducible refine Ext.drew ?_) | (with_reducible refine Ext.setCell ?_ ?_ _; rotate_left; (simp only []; omega)) | (with_reducible refine Ext.trans ?_ (by assumption)))))).mono ?_; rintro e w1 ⟨rfl, hx⟩; have hc := hx.cells; have hf := hx.frozens; have hy := hx.size; (try simp at hy); have hz : w.heap.size < w1.heap.size := (by omega)) | (go_at_call 144; refine (spec_inRange _ _ _ _).mono ?_; rintro e w' ⟨rfl, rfl⟩))
    go_ret
    exact ⟨ret_bool (by simp [validGate, timer, *]), (by repeat (first | (with_reducible exact Ext.refl _) | (with_reducible assumption) | (with_reducible refine Ext.alloc ?_ _) | (with_reducible refine Ext.drewN ?_ _) | (with_reducible refine Ext.drew ?_) | (with_reducible refine Ext.setCell ?_ ?_ _; rotate_left; (simp only []; omega)) | (with_reducible refine Ext.trans ?_ (by assumption))))⟩
  | true =>
  cases h6 : inR g.filter 0 2 with
  | false =>
    go_enter Try.func89, Try.ntmps89
    go_wp2_with (first | (go_at_call 140; refine (spec_validNet' g.net _).mono ?_; rintro e w1 ⟨rfl, hx⟩; have hc := hx.cells; have hf := hx.frozens; have hy := hx.size; (try simp at hy); have hz : w.heap.size < w1.heap.size := (by omega)) | (go_at_call 141; refine (spec_validAddr _ _).mono ?_; rintro e w' ⟨rfl, rfl⟩) | (go_at_call 91; refine (spec_inNet' g.net _ _ (by assumption)).mono ?_; rintro e w1 ⟨rfl, hx⟩; have hc := hx.cells; have hf := hx.frozens; have hy := hx.size; (try simp at hy); have hz : w.heap.size < w1.heap.size := (by omega)) | (go_at_call 142; refine (spec_validTable _ _ _ g.table _ (by exact ht.ext (by repeat (first | (with_reducible exact Ext.refl _) | (with_reducible assumption) | (with_reducible refine Ext.alloc ?_ _) | (with_reducible refine Ext.drewN ?_ _) | (with_reducible refine Ext.drew ?_) | (with_reducible refine Ext.setCell ?_ ?_ _; rotate_left; (simp only []; omega)) | (with_reducible refine Ext.trans ?_ (by assumption)))))).mono ?_; rintro e w1 ⟨rfl, hx⟩; have hc := hx.cells; have hf := hx.frozens; have hy := hx.size; (try simp at hy); have hz : w.heap.size < w1.heap.size := (by omega)) | (go_at_call 143; refine (spec_validContacts _ _ _ g.cons _ (by exact hk.ext (by repeat (first | (with_reducible exact Ext.refl _) | (with_reducible assumption) | (with_reducible refine Ext.alloc ?_ _) | (with_reducible refine Ext.drewN ?_ _) | (with_reducible refine Ext.drew ?_) | (with_reducible refine Ext.setCell ?_ ?_ _; rotate_left; (simp only []; omega)) | (with_reducible refine Ext.trans ?_ (by assumption)))))).mono ?_; rintro e w1 ⟨rfl, hx⟩; have hc := hx.cells; have hf := hx.frozens; have hy := hx.size; (try simp at hy); have hz : w.heap.size < w1.heap.size := (by omega)) | (go_at_call 144; refine (spec_inRange _ _ _ _).mono ?_; rintro e w' ⟨rfl, rfl⟩))
    go_ret
    exact ⟨ret_bool (by simp [validGate, timer, *]), (by repeat (first | (with_reducible exact Ext.refl _) | (with_reducible assumption) | (with_reducible refine Ext.alloc ?_ _) | (with_reducible refine Ext.drewN ?_ _) | (with_reducible refine Ext.drew ?_) | (with_reducible refine Ext.setCell ?_ ?_ _; rotate_left; (simp only []; omega)) | (with_reducible refine Ext.trans ?_ (by assumption))))⟩
  | true =>
  cases h7 : inR g.hold 1 500 with
  | false =>
    go_enter Try.func89, Try.ntmps89
    go_wp2_with (first | (go_at_call 140; refine (spec_validNet' g.net _).mono ?_; rintro e w1 ⟨rfl, hx⟩; have hc := hx.cells; have hf := hx.frozens; have hy := hx.size; (try simp at hy); have hz : w.heap.size < w1.heap.size := (by omega)) | (go_at_call 141; refine (spec_validAddr _ _).mono ?_; rintro e w' ⟨rfl, rfl⟩) | (go_at_call 91; refine (spec_inNet' g.net _ _ (by assumption)).mono ?_; rintro e w1 ⟨rfl, hx⟩; have hc := hx.cells; have hf := hx.frozens; have hy := hx.size; (try simp at hy); have hz : w.heap.size < w1.heap.size := (by omega)) | (go_at_call 142; refine (spec_validTable _ _ _ g.table _ (by exact ht.ext (by repeat (first | (with_reducible exact Ext.refl _) | (with_reducible assumption) | (with_reducible refine Ext.alloc ?_ _) | (with_reducible refine Ext.drewN ?_ _) | (with_reducible refine Ext.drew ?_) | (with_reducible refine Ext.setCell ?_ ?_ _; rotate_left; (simp only []; omega)) | (with_reducible refine Ext.trans ?_ (by assumption)))))).mono ?_; rintro e w1 ⟨rfl, hx⟩; have hc := hx.cells; have hf := hx.frozens; have hy := hx.size; (try simp at hy); have hz : w.heap.size < w1.heap.size := (by omega)) | (go_at_call 143; refine (spec_validContacts _ _ _ g.cons _ (by exact hk.ext (by repeat (first | (with_reducible exact Ext.refl _) | (with_reducible assumption) | (with_reducible refine Ext.alloc ?_ _) | (with_reducible refine Ext.drewN ?_ _) | (with_reducible refine Ext.drew ?_) | (with_reducible refine Ext.setCell ?_ ?_ _; rotate_left; (simp only []; omega)) | (with_reducible refine Ext.trans ?_ (by assumption)))))).mono ?_; rintro e w1 ⟨rfl, hx⟩; have hc := hx.cells; have hf := hx.frozens; have hy := hx.size; (try simp at hy); have hz : w.heap.size < w1.heap.size := (by omega)) | (go_at_call 144; refine (spec_inRange _ _ _ _).mono ?_; rintro e w' ⟨rfl, rfl⟩))
    go_ret
    exact ⟨ret_bool (by simp [validGate, timer, *]), (by repeat (first | (with_reducible exact Ext.refl _) | (with_reducible assumption) | (with_reducible refine Ext.alloc ?_ _) | (with_reducible refine Ext.drewN ?_ _) | (with_reducible refine Ext.drew ?_) | (with_reducible refine Ext.setCell ?_ ?_ _; rotate_left; (simp only []; omega)) | (with_reducible refine Ext.trans ?_ (by assumption))))⟩
  | true =>
  cases h8 : inR g.now 0 10000 with
  | false =>
    go_enter Try.func89, Try.ntmps89
    go_wp2_with (first | (go_at_call 140; refine (spec_validNet' g.net _).mono ?_; rintro e w1 ⟨rfl, hx⟩; have hc := hx.cells; have hf := hx.frozens; have hy := hx.size; (try simp at hy); have hz : w.heap.size < w1.heap.size := (by omega)) | (go_at_call 141; refine (spec_validAddr _ _).mono ?_; rintro e w' ⟨rfl, rfl⟩) | (go_at_call 91; refine (spec_inNet' g.net _ _ (by assumption)).mono ?_; rintro e w1 ⟨rfl, hx⟩; have hc := hx.cells; have hf := hx.frozens; have hy := hx.size; (try simp at hy); have hz : w.heap.size < w1.heap.size := (by omega)) | (go_at_call 142; refine (spec_validTable _ _ _ g.table _ (by exact ht.ext (by repeat (first | (with_reducible exact Ext.refl _) | (with_reducible assumption) | (with_reducible refine Ext.alloc ?_ _) | (with_reducible refine Ext.drewN ?_ _) | (with_reducible refine Ext.drew ?_) | (with_reducible refine Ext.setCell ?_ ?_ _; rotate_left; (simp only []; omega)) | (with_reducible refine Ext.trans ?_ (by assumption)))))).mono ?_; rintro e w1 ⟨rfl, hx⟩; have hc := hx.cells; have hf := hx.frozens; have hy := hx.size; (try simp at hy); have hz : w.heap.size < w1.heap.size := (by omega)) | (go_at_call 143; refine (spec_validContacts _ _ _ g.cons _ (by exact hk.ext (by repeat (first | (with_reducible exact Ext.refl _) | (with_reducible assumption) | (with_reducible refine Ext.alloc ?_ _) | (with_reducible refine Ext.drewN ?_ _) | (with_reducible refine Ext.drew ?_) | (with_reducible refine Ext.setCell ?_ ?_ _; rotate_left; (simp only []; omega)) | (with_reducible refine Ext.trans ?_ (by assumption)))))).mono ?_; rintro e w1 ⟨rfl, hx⟩; have hc := hx.cells; have hf := hx.frozens; have hy := hx.size; (try simp at hy); have hz : w.heap.size < w1.heap.size := (by omega)) | (go_at_call 144; refine (spec_inRange _ _ _ _).mono ?_; rintro e w' ⟨rfl, rfl⟩))
    go_ret
    exact ⟨ret_bool (by simp [validGate, timer, *]), (by repeat (first | (with_reducible exact Ext.refl _) | (with_reducible assumption) | (with_reducible refine Ext.alloc ?_ _) | (with_reducible refine Ext.drewN ?_ _) | (with_reducible refine Ext.drew ?_) | (with_reducible refine Ext.setCell ?_ ?_ _; rotate_left; (simp only []; omega)) | (with_reducible refine Ext.trans ?_ (by assumption))))⟩
  | true =>
    obtain ⟨n0, n1⟩ := inR_iff.1 h8
    have hfin := Lib.hid (show validGate g = (g.table.all (okGateMap g) && g.cons.all (okGateCon g)) by
      unfold validGate timer
      simp [h1, h2, h3, h4, h5, h6, h7, h8])
    have hx2 := Lib.hid (fun k (hk : k < tn) => (validTable_iff.1 h4).1 (nth g.table k) (nth_mem (by rw [ht.len]; exact hk)))
    have HI := Lib.hid ht.maps
    have HJ := Lib.hid hk.cons
    have lT := Lib.hid ht.len
    have lK := Lib.hid hk.len
    have HTT := ht
    have hd1 := Lib.hid h1
    go_enter Try.func89, Try.ntmps89
    go_wp2_with (first | (go_at_call 140; refine (spec_validNet' g.net _).mono ?_; rintro e w1 ⟨rfl, hx⟩; have hc := hx.cells; have hf := hx.frozens; have hy := hx.size; (try simp at hy); have hz : w.heap.size < w1.heap.size := (by omega)) | (go_at_call 141; refine (spec_validAddr _ _).mono ?_; rintro e w' ⟨rfl, rfl⟩) | (go_at_call 91; refine (spec_inNet' g.net _ _ hd1.out).mono ?_; rintro e w1 ⟨rfl, hx⟩; have hc := hx.cells; have hf := hx.frozens; have hy := hx.size; (try simp at hy); have hz : w.heap.size < w1.heap.size := (by omega)) | (go_at_call 142; refine (spec_validTable _ _ _ g.table _ (by exact HTT.ext (by repeat (first | (with_reducible exact Ext.refl _) | (with_reducible assumption) | (with_reducible refine Ext.alloc ?_ _) | (with_reducible refine Ext.drewN ?_ _) | (with_reducible refine Ext.drew ?_) | (with_reducible refine Ext.setCell ?_ ?_ _; rotate_left; (simp only []; omega)) | (with_reducible refine Ext.trans ?_ (by assumption)))))).mono ?_; rintro e w1 ⟨rfl, hx⟩; have hc := hx.cells; have hf := hx.frozens; have hy := hx.size; (try simp at hy); have hz : w.heap.size < w1.heap.size := (by omega)))
    refine (spec_validContacts ka kn kc g.cons _ (by exact hk.ext (by repeat (first | (with_reducible exact Ext.refl _) | (with_reducible assumption) | (with_reducible refine Ext.alloc ?_ _) | (with_reducible refine Ext.drewN ?_ _) | (with_reducible refine Ext.drew ?_) | (with_reducible refine Ext.setCell ?_ ?_ _; rotate_left; (simp only []; omega)) | (with_reducible refine Ext.trans ?_ (by assumption)))))).mono ?_
    rintro e w5 ⟨rfl, hx5⟩
    have hX5 : Ext (w.alloc (.cells #[.int .i64 g.net.base, .int .i64 g.net.bits, .int .i64 g.out, .slice ta tn tc, .slice ka kn kc, .int .i64 g.filter, .int .i64 g.hold, .int .i64 g.now] 28)) w5 := (by repeat (first | (with_reducible exact Ext.refl _) | (with_reducible assumption) | (with_reducible refine Ext.alloc ?_ _) | (with_reducible refine Ext.drewN ?_ _) | (with_reducible refine Ext.drew ?_) | (with_reducible refine Ext.setCell ?_ ?_ _; rotate_left; (simp only []; omega)) | (with_reducible refine Ext.trans ?_ (by assumption))))
    have hB5 : Blk w5 w.heap.size 28 #[.int .i64 g.net.base, .int .i64 g.net.bits, .int .i64 g.out, .slice ta tn tc, .slice ka kn kc, .int .i64 g.filter, .int .i64 g.hold, .int .i64 g.now] := (Blk.new w _ _).ext hX5
    replace hX5 : Ext w w5 := Ext.trans ((Ext.refl w).alloc _) hX5
    have hcB := hB5.cells
    have hzB := hB5.lt
    clear hc hx hy hz hf hx5
    go_wp2_with (go_at_call 144; refine (spec_inRange _ _ _ _).mono ?_; rintro e w' ⟨rfl, rfl⟩)
    clear hcB hzB h2 h3 h4 h5 h6 h7 h8
    go_loopw [3] (fun i wr => ∃ k : Nat, k ≤ tn ∧ i = .int .i64 k ∧ (∀ j, j < k → okGateMap g (nth g.table j) = true) ∧ Blk wr w.heap.size 28 #[.int .i64 g.net.base, .int .i64 g.net.bits, .int .i64 g.out, .slice ta tn tc, .slice ka kn kc, .int .i64 g.filter, .int .i64 g.hold, .int .i64 g.now] ∧ Ext w wr) (fun i _ => tn - (intOf i).toNat)
    case atStart => exact ⟨0, Nat.zero_le _, rfl, by omega, hB5, hX5⟩
    case round =>
      obtain ⟨k, hkt, rfl, hall, hB, hX⟩ := hrel
      have HA := Lib.hid hall
      have hcB := hB.cells
      have hzB := hB.lt
      clear hall hB5 hX5
      by_cases hlt : k < tn
      · obtain ⟨_, b, off, rfl, hb, hc⟩ := (HI.out).resolve_left (by omega)
        obtain ⟨d0, d1, d2, d3⟩ := hc k hlt
        rw [← hX.cells _ _ hb] at d0 d1 d2 d3
        have hbr : b < wr.heap.size := by have := hX.size; omega
        have hkk := hx2.out k hlt
        simp only [okMap, Bool.and_eq_true, inR_iff] at hkk
        obtain ⟨_, l0, l1⟩ := hkk
        obtain ⟨B1, hB1⟩ : ∃ B1, decide (g.now < (nth g.table k).last) = B1 := ⟨_, rfl⟩
        have hok := Lib.hid (show okGateMap g (nth g.table k) = (has g.net (nth g.table k).ins.addr && !B1 && !expired (nth g.table k) g.now g.hold) by
          unfold okGateMap
          rw [← hB1]
          congr 2
          rw [Bool.eq_iff_iff]
          simp)
        clear hc
        go_wp2_with fail
        refine wp_region_ext (by kernel_rfl) (by kernel_rfl) ?_
        repeat' (first
          | (refine ChL.skip (by rfl) ?_
             (try simp only [Act.put, List.setIfInBounds_toArray, List.set_cons_zero, List.set_cons_succ]))
          | (refine' ChL.val (v := _) (by rfl) ?_ ?_
             rotate_left
             · (intro wS hS
                have hcS := Ext.cells hS
                go_simp
                with_reducible rfl)
             (try simp only [Act.put, List.setIfInBounds_toArray, List.set_cons_zero, List.set_cons_succ]))
          | (refine' ChL.call (v := _) (f := _) (args := _) (by rfl) ?_ ?_ ?_
             rotate_left 3
             · (intro wS
                go_simp
                (constructor <;> rfl))
             · (intro wS hS
                first | (go_at_call 91; refine (spec_inNet' g.net _ _ hd1.out).mono ?_; rintro e w1 ⟨rfl, hx⟩; refine ⟨?_, Ext.trans hS hx⟩; rfl) | (go_at_call 145; refine (spec_expired (nth g.table k) _ _ _ l0 l1 n0 n1).mono ?_; rintro e w1 ⟨rfl, hx⟩; refine ⟨?_, Ext.trans hS hx⟩; rfl))
             (try simp only [Act.put, List.setIfInBounds_toArray, List.set_cons_zero, List.set_cons_succ]))
          | (refine ChL.nil ?_)
          | (refine' ChL.guard (x := _) ?_ ?_ ?_
             rotate_left
             · (go_simp
                rfl)
             all_goals
               intro hg
               simp only [hg])
          | (refine' ChL.guardN (x := _) ?_ ?_ ?_
             rotate_left
             · (go_simp
                rfl)
             all_goals
               intro hg
               simp only [hg]))
        all_goals
          intro w' hw'
          have HX : Ext w w' := hX.trans hw'
          have HB := hB.ext hw'
          clear hX hw' hB hcB hzB d0 d1 d2 d3
          go_wp2
        all_goals first
          | (go_ret
             exact ⟨ret_bool (by
               have hno : okGateMap g (nth g.table k) = false := by rw [hok.out]; simp [*]
               rw [hfin.out]
               have : g.table.all (okGateMap g) = false := by
                 rw [List.all_eq_false]
                 exact ⟨_, nth_mem (by rw [lT.out]; exact hlt), by simp [hno]⟩
               rw [this]; rfl), HX⟩)
          | (go_roundw
             case rel =>
               exact ⟨k + 1, hlt, by go_num, fun j hj => by
                 rcases Nat.lt_or_ge j k with h | h
                 · exact HA.out j h
                 · have e : j = k := by omega
                   rw [e, hok.out]; simp [*], HB, HX⟩
             case measure => simp [intOf]; omega)
      · have e : k = tn := by omega
        have hall1 := Lib.hid (show g.table.all (okGateMap g) = true by
          rw [List.all_eq_true]
          intro x hx
          obtain ⟨j, hj, rfl⟩ := List.mem_iff_getElem.1 hx
          have h1 := HA.out j (by rw [e, ← lT.out]; exact hj)
          rwa [nth_of (List.getElem?_eq_getElem hj)] at h1)
        have HX0 := Lib.hid hX
        clear hX
        subst e
        go_wp2
        clear hcB hzB
        go_loopw [4] (fun i wr => ∃ k2 : Nat, k2 ≤ kn ∧ i = .int .i64 k2 ∧ (∀ j, j < k2 → okGateCon g (nth g.cons j) = true) ∧ Blk wr w.heap.size 28 #[.int .i64 g.net.base, .int .i64 g.net.bits, .int .i64 g.out, .slice ta k tc, .slice ka kn kc, .int .i64 g.filter, .int .i64 g.hold, .int .i64 g.now] ∧ Ext w wr) (fun i _ => kn - (intOf i).toNat)
        case atStart => exact ⟨0, Nat.zero_le _, rfl, by omega, hB, HX0.out⟩
        case round =>
          obtain ⟨j, hjk, rfl, hall2, hB2, hX2⟩ := hrel
          have HA2 := Lib.hid hall2
          have hcB := hB2.cells
          have hzB := hB2.lt
          clear hall2 hB HA
          by_cases hlt2 : j < kn
          · obtain ⟨_, b, off, rfl, hb, hc⟩ := (HJ.out).resolve_left (by omega)
            obtain ⟨d0, d1, d2⟩ := hc j hlt2
            rw [← hX2.cells _ _ hb] at d0 d1 d2
            have hbr : b < wr.heap.size := by have := hX2.size; omega
            obtain ⟨B1, hB1⟩ : ∃ B1, decide (byPort g.table (nth g.cons j).port < 0) = B1 := ⟨_, rfl⟩
            have hok := Lib.hid (show okGateCon g (nth g.cons j) = !B1 by
              unfold okGateCon
              rw [← hB1, Bool.eq_iff_iff]
              simp)
            have hST := HTT.ext hX2
            clear hc
            go_wp2_with fail
            refine wp_region_ext (by kernel_rfl) (by kernel_rfl) ?_
            repeat' (first
              | (refine ChL.skip (by rfl) ?_
                 (try simp only [Act.put, List.setIfInBounds_toArray, List.set_cons_zero, List.set_cons_succ]))
              | (refine' ChL.val (v := _) (by rfl) ?_ ?_
                 rotate_left
                 · (intro wS hS
                    have hcS := Ext.cells hS
                    go_simp
                    with_reducible rfl)
                 (try simp only [Act.put, List.setIfInBounds_toArray, List.set_cons_zero, List.set_cons_succ]))
              | (refine' ChL.call (v := _) (f := _) (args := _) (by rfl) ?_ ?_ ?_
                 rotate_left 3
                 · (intro wS
                    go_simp
                    (constructor <;> rfl))
                 · (intro wS hS
                    first | (go_at_call 92; refine (spec_byPort _ ta _ tc g.table _ (by exact hST.ext hS)).mono ?_; rintro e w1 ⟨rfl, hx⟩; subst hx; refine ⟨?_, hS⟩; rfl))
                 (try simp only [Act.put, List.setIfInBounds_toArray, List.set_cons_zero, List.set_cons_succ]))
              | (refine ChL.nil ?_)
              | (refine' ChL.guard (x := _) ?_ ?_ ?_
                 rotate_left
                 · (go_simp
                    rfl)
                 all_goals
                   intro hg
                   simp only [hg])
              | (refine' ChL.guardN (x := _) ?_ ?_ ?_
                 rotate_left
                 · (go_simp
                    rfl)
                 all_goals
                   intro hg
                   simp only [hg]))
            all_goals
              intro w' hw'
              have HX : Ext w w' := hX2.trans hw'
              have HB := hB2.ext hw'
              clear hX2 hw' hB2 hcB hzB d0 d1 d2 hST
              go_wp2
            all_goals first
              | (go_ret
                 exact ⟨ret_bool (by
                   have hno : okGateCon g (nth g.cons j) = false := by rw [hok.out]; simp [*]
                   rw [hfin.out]
                   have : g.cons.all (okGateCon g) = false := by
                     rw [List.all_eq_false]
                     exact ⟨_, nth_mem (by rw [lK.out]; exact hlt2), by simp [hno]⟩
                   rw [this, Bool.and_false]), HX⟩)
              | (go_roundw
                 case rel =>
                   exact ⟨j + 1, hlt2, by go_num, fun i hi => by
                     rcases Nat.lt_or_ge i j with h | h
                     · exact HA2.out i h
                     · have e : i = j := by omega
                       rw [e, hok.out]; simp [*], HB, HX⟩
                 case measure => simp [intOf]; omega)
          · have e : j = kn := by omega
            have hall3 := Lib.hid (show g.cons.all (okGateCon g) = true by
              rw [List.all_eq_true]
              intro x hx
              obtain ⟨i, hi, rfl⟩ := List.mem_iff_getElem.1 hx
              have h1 := HA2.out i (by rw [e, ← lK.out]; exact hi)
              rwa [nth_of (List.getElem?_eq_getElem hi)] at h1)
            have HX2 := Lib.hid hX2
            clear hX2
            subst e
            go_wp2
            go_ret
            exact ⟨ret_bool (by rw [hfin.out, hall1.out, hall3.out]; rfl), HX2.out⟩
end Go.Proofs.Ytppdcglnopoocaa
/- Plain laws of the gate, one for each statement on sending, receiving, passing, forwarding, reports. No program in sight. No condition. -/
namespace Go.Proofs.Ytppdcglnopoocaa
set_option linter.unusedVariables false
set_option linter.unusedSimpArgs false

theorem sendOut_some {g : GateD} {p : PktD} {r : PktD × GateD} (h : sendOut g p = some r) :
    VGate g ∧ validPkt p = true ∧ has g.net p.fr.addr = true ∧ has g.net p.to_.addr = false ∧ p.to_.addr ≠ g.out ∧ send g p = some r := by
  unfold sendOut at h
  split at h
  case isTrue hc =>
    simp only [goesOut, fromIn, Bool.and_eq_true, Bool.not_eq_true', decide_eq_false_iff_not, validGate_iff] at hc
    obtain ⟨⟨⟨⟨a, b⟩, c⟩, d⟩, e⟩ := hc
    exact ⟨a, b, c, d, e, h⟩
  case isFalse => cases h
theorem sendOut_of {g : GateD} {p : PktD} (a : VGate g) (b : validPkt p = true) (c : has g.net p.fr.addr = true) (d : has g.net p.to_.addr = false) (e : p.to_.addr ≠ g.out) : sendOut g p = send g p := by
  unfold sendOut
  rw [if_pos]
  simp only [goesOut, fromIn, Bool.and_eq_true, Bool.not_eq_true', decide_eq_false_iff_not, validGate_iff]
  exact ⟨⟨⟨⟨a, b⟩, c⟩, d⟩, e⟩
theorem receiveIn_some {g : GateD} {p : PktD} {r : PktD × GateD} (h : receiveIn g p = some r) :
    VGate g ∧ validPkt p = true ∧ p.to_.addr = g.out ∧ has g.net p.fr.addr = false ∧ receive g p = some r := by
  unfold receiveIn at h
  split at h
  case isTrue hc =>
    simp only [comesIn, Bool.and_eq_true, Bool.not_eq_true', decide_eq_true_eq, validGate_iff] at hc
    obtain ⟨⟨⟨a, b⟩, c⟩, d⟩ := hc
    exact ⟨a, b, c, d, h⟩
  case isFalse => cases h
theorem receiveIn_of {g : GateD} {p : PktD} (a : VGate g) (b : validPkt p = true) (c : p.to_.addr = g.out) (d : has g.net p.fr.addr = false) : receiveIn g p = receive g p := by
  unfold receiveIn
  rw [if_pos]
  simp only [comesIn, Bool.and_eq_true, Bool.not_eq_true', decide_eq_true_eq, validGate_iff]
  exact ⟨⟨⟨a, b⟩, c⟩, d⟩
theorem receive_some {g h : GateD} {p q : PktD} (e : receive g p = some (q, h)) :
    ∃ m, m ∈ g.table ∧ m.port = p.to_.port ∧ lets g.filter g.cons p.to_.port p.fr = true ∧ q = { p with to_ := m.ins } ∧ h = g := by
  unfold receive at e
  split at e
  case isTrue hc =>
    rw [Bool.and_eq_true, decide_eq_true_eq] at hc
    obtain ⟨k, m, _, b2, b3, b4⟩ := byPort_some hc.1
    rw [b4] at e
    simp only [Option.some.injEq, Prod.mk.injEq] at e
    exact ⟨m, List.mem_of_getElem? b2, b3, hc.2, e.1.symm, e.2.symm⟩
  case isFalse => cases e
theorem receive_of {g : GateD} {p : PktD} (hg : validTable g.table = true) {m : MapD} (hm : m ∈ g.table) (hp : m.port = p.to_.port) (hl : lets g.filter g.cons p.to_.port p.fr = true) :
    receive g p = some ({ p with to_ := m.ins }, g) := by
  unfold receive
  have h0 := byPort_mem hm
  rw [hp] at h0
  rw [hl, if_pos (by simpa using h0)]
  obtain ⟨k, m', _, b2, b3, b4⟩ := byPort_some h0
  rw [b4]
  rw [table_one' hg (List.mem_of_getElem? b2) hm (b3.trans hp.symm)]
theorem passBetween_some {g : GateD} {p : PktD} {r : PktD × GateD} (h : passBetween g p = some r) :
    VGate g ∧ validPkt p = true ∧ has g.net p.fr.addr = true ∧ p.to_.addr = g.out ∧ ∃ q1 h1, send g p = some (q1, h1) ∧ receive h1 q1 = some r := by
  unfold passBetween at h
  split at h
  case isTrue hc =>
    simp only [between, fromIn, Bool.and_eq_true, decide_eq_true_eq, validGate_iff] at hc
    obtain ⟨⟨⟨a, b⟩, c⟩, d⟩ := hc
    cases hs : send g p with
    | none => rw [hs] at h; cases h
    | some x =>
      obtain ⟨q1, h1⟩ := x
      rw [hs] at h
      exact ⟨a, b, c, d, q1, h1, rfl, h⟩
  case isFalse => cases h
theorem passBetween_of {g : GateD} {p : PktD} {q1 : PktD} {h1 : GateD} (a : VGate g) (b : validPkt p = true) (c : has g.net p.fr.addr = true) (d : p.to_.addr = g.out) (e : send g p = some (q1, h1)) : passBetween g p = receive h1 q1 := by
  unfold passBetween
  rw [if_pos, e]
  simp only [between, fromIn, Bool.and_eq_true, decide_eq_true_eq, validGate_iff]
  exact ⟨⟨⟨a, b⟩, c⟩, d⟩
theorem reverse_of {p : PktD} (h : validPkt p = true) : reverse p = some { p with fr := p.to_, to_ := p.fr } := by unfold reverse; rw [if_pos h]
theorem validPkt_rev {p : PktD} (h : validPkt p = true) : validPkt { p with fr := p.to_, to_ := p.fr } = true := by
  obtain ⟨a, b, c, d, e⟩ := validPkt_iff.1 h
  exact validPkt_iff.2 ⟨a, c, b, d, e⟩
theorem validPkt_to {p : PktD} (h : validPkt p = true) {e : EndD} (he : validEnd e = true) : validPkt { p with to_ := e } = true := by
  obtain ⟨a, b, c, d, f⟩ := validPkt_iff.1 h
  exact validPkt_iff.2 ⟨a, b, he, d, f⟩
theorem validPkt_cut {p : PktD} (h : validPkt p = true) : validPkt { p with data := p.data.take 4 } = true := by
  obtain ⟨a, b, c, d, e⟩ := validPkt_iff.1 h
  refine validPkt_iff.2 ⟨a, b, c, by simp only [List.length_take]; omega, ?_⟩
  rw [List.all_eq_true] at e ⊢
  exact fun x hx => e x (List.mem_of_mem_take hx)
theorem table_end {l : List MapD} (hl : validTable l = true) {m : MapD} (hm : m ∈ l) : validEnd m.ins = true := by
  have := (validTable_iff.1 hl).1 m hm
  simp only [okMap, Bool.and_eq_true] at this
  exact this.1.1
theorem lets_mem {k : Int} {l : List ConD} {c : ConD} (h : c ∈ l) : lets k l c.port c.to_ = true := by
  unfold lets
  rw [Bool.or_eq_true, List.any_eq_true]
  exact .inr ⟨c, h, by simp⟩
/-- An end that is mapped sends by its port. -/
theorem send_known {g : GateD} {p : PktD} (hg : VGate g) {m : MapD} (hm : m ∈ g.table) (he : m.ins = p.fr) :
    ∃ t, send g p = some ({ p with fr := ⟨g.out, m.port⟩ }, { g with table := t, cons := note g.cons ⟨m.port, p.to_⟩ }) := by
  obtain ⟨i, hi⟩ := List.getElem?_of_mem hm
  have h1 := byEnd_of hg.tab hi
  rw [he] at h1
  unfold send mapEnd
  rw [if_pos (by omega), h1, Int.toNat_natCast, nth_of hi]
  exact ⟨_, rfl⟩

/-- FnSendOut -/
theorem law_send {g h : GateD} {p q : PktD} (e : sendOut g p = some (q, h)) :
    q.fr.addr = g.out ∧ outsidePort h.table p.fr = q.fr.port ∧ q.to_ = p.to_ ∧ q.kind = p.kind ∧ q.data = p.data ∧ validGate h = true := by
  obtain ⟨a, b, c, _, _, s⟩ := sendOut_some e
  have S := send_ok a b c s
  refine ⟨?_, S.mapped.out, ?_, ?_, ?_, validGate_iff.2 S.valid⟩ <;> rw [S.pkt]
/-- FnSendOutTwice -/
theorem law_sendTwice {g h : GateD} {p q : PktD} (e : sendOut g p = some (q, h)) : sendOut h p = some (q, h) := by
  obtain ⟨a, b, c, d, f, s⟩ := sendOut_some e
  have S := send_ok a b c s
  have hn : h.net = g.net := by rw [S.same]
  have ho : h.out = g.out := by rw [S.same]
  rw [sendOut_of S.valid b (by rw [hn]; exact c) (by rw [hn]; exact d) (by rw [ho]; exact f)]
  exact S.again
/-- FnSendOutEnds -/
theorem law_sendEnds {g h h' : GateD} {p q o : PktD} {x : EndD} (e : sendOut g p = some (q, h)) (hx : x ≠ p.fr) (e' : sendOut h { p with fr := x } = some (o, h')) : o.fr.port ≠ q.fr.port ∧ o.fr.addr = q.fr.addr := by
  obtain ⟨a, b, c, _, _, s⟩ := sendOut_some e
  have S := send_ok a b c s
  obtain ⟨a', b', c', _, _, s'⟩ := sendOut_some e'
  have S' := send_ok a' b' c' s'
  have ho : h.out = g.out := by rw [S.same]
  refine ⟨fun ep => ?_, ?_⟩
  · obtain ⟨k, hk⟩ := S.mapped.at_
    obtain ⟨m, hm, m1, m2⟩ := S'.mapped.all _ (List.mem_of_getElem? hk)
    obtain ⟨k', hk'⟩ := S'.mapped.at_
    have := table_one' S'.mapped.valid hm (List.mem_of_getElem? hk') (by rw [m1]; exact ep.symm)
    rw [this] at m2
    exact hx m2
  · rw [S'.pkt, S.pkt, ho]
/-- FnSendOutAnswer -/
theorem law_sendAnswer {g h : GateD} {p q : PktD} (e : sendOut g p = some (q, h)) :
    ∃ b i, reverse q = some b ∧ receiveIn h b = some (i, h) ∧ reverse i = some p := by
  obtain ⟨a, b, c, d, f, s⟩ := sendOut_some e
  have S := send_ok a b c s
  have hn : h.net = g.net := by rw [S.same]
  have ho : h.out = g.out := by rw [S.same]
  have hqf : q.fr = ⟨g.out, q.fr.port⟩ := congrArg PktD.fr S.pkt
  have hqt : q.to_ = p.to_ := by rw [S.pkt]
  obtain ⟨k, hk⟩ := S.mapped.at_
  have hv := validPkt_rev S.validq
  refine ⟨_, _, reverse_of S.validq, (receiveIn_of S.valid hv ?_ ?_).trans (receive_of S.valid.tab (List.mem_of_getElem? hk) rfl ?_), ?_⟩
  · show q.fr.addr = h.out
    rw [hqf, ho]
  · show has h.net q.to_.addr = false
    rw [hn, hqt]; exact d
  · show lets h.filter h.cons q.fr.port q.to_ = true
    refine lets_mem (c := ⟨q.fr.port, q.to_⟩) ?_
    rw [S.cons, hqt]
    exact note_mem _ _
  · rw [reverse_of (validPkt_to hv (validPkt_iff.1 b).2.1)]
    simp only [Option.some.injEq]
    rw [S.pkt]
/-- FnSendOutContact -/
theorem law_sendContact {g h : GateD} {p q : PktD} (e : sendOut g p = some (q, h)) : 0 < h.cons.length ∧ nth h.cons (h.cons.length - 1) = ⟨q.fr.port, p.to_⟩ ∧ h.cons.length ≤ 10 := by
  obtain ⟨a, b, c, _, _, s⟩ := sendOut_some e
  have S := send_ok a b c s
  rw [S.cons]
  exact ⟨(note_len _ _).1, note_last _ _, (note_len _ _).2⟩
/-- FnSendOutFull -/
theorem law_sendFull {g : GateD} {p : PktD} (hw : wayOf g p = 1) : (sendOut g p).isSome = (decide (0 ≤ outsidePort g.table p.fr) || decide (g.table.length < 8)) := by
  unfold wayOf at hw
  split at hw
  case isFalse => cases hw
  case isTrue hv =>
    rw [Bool.and_eq_true, validGate_iff] at hv
    obtain ⟨a, b⟩ := hv
    unfold way at hw
    split at hw
    · cases hw
    case isFalse h1 =>
      split at hw
      case isFalse => split at hw <;> cases hw
      case isTrue h2 =>
        simp only [Bool.and_eq_true, Bool.not_eq_true', decide_eq_true_eq, not_and] at h1 h2
        rw [sendOut_of a b h2.1 h2.2 (h1 h2.1)]
        have hn := send_none (p := p) a
        have hout : 0 ≤ outsidePort g.table p.fr ↔ 0 ≤ byEnd g.table p.fr := by
          constructor
          · intro h
            unfold outsidePort at h
            split at h
            case isTrue hc => rw [Bool.and_eq_true, decide_eq_true_eq] at hc; exact hc.2
            case isFalse => omega
          · intro h
            obtain ⟨k, m, _, b2, b3, _⟩ := byEnd_some h
            have hm : m ∈ g.table := List.mem_of_getElem? b2
            rw [← b3, outsidePort_mem a.tab hm]
            have := (validTable_iff.1 a.tab).1 m hm
            simp only [okMap, Bool.and_eq_true, inR_iff] at this
            omega
        cases hs : send g p with
        | none =>
          have := hn.1 hs
          simp [hout, this.1, this.2]
        | some r =>
          rw [hs] at hn
          have : 0 ≤ byEnd g.table p.fr ∨ g.table.length < 8 := by
            apply Classical.byContradiction
            intro hc
            rw [not_or] at hc
            exact absurd (hn.2 hc) (by simp)
          rcases this with h | h
          · simp [hout, h]
          · simp [h]
/-- FnSendOutTick -/
theorem law_sendTick {g h : GateD} {p q : PktD} (e : sendOut g p = some (q, h)) (hh : g.now + g.hold ≤ 10000) :
    tickGate h (g.now + g.hold - 1) = some (tick h (g.now + g.hold - 1)) ∧ tickGate h (g.now + g.hold) = some (tick h (g.now + g.hold)) ∧
      outsidePort (tick h (g.now + g.hold - 1)).table p.fr = q.fr.port ∧ outsidePort (tick h (g.now + g.hold)).table p.fr = -1 := by
  obtain ⟨a, b, c, _, _, s⟩ := sendOut_some e
  have S := send_ok a b c s
  have hn : h.now = g.now := by rw [S.same]
  have hd : h.hold = g.hold := by rw [S.same]
  have := a.hold0
  have := a.hold1
  have hv := validGate_iff.2 S.valid
  obtain ⟨k, hk⟩ := S.mapped.at_
  have hm := List.mem_of_getElem? hk
  refine ⟨?_, ?_, ?_, ?_⟩
  · unfold tickGate; rw [hv, inR_t (by omega) (by omega)]; rfl
  · unfold tickGate; rw [hv, inR_t (by omega) (by omega)]; rfl
  · have h1 : (⟨p.fr, q.fr.port, g.now⟩ : MapD) ∈ (tick h (g.now + g.hold - 1)).table := by
      simp only [tick]
      exact mem_expire.2 ⟨hm, by simp only [hd]; omega⟩
    exact outsidePort_mem (tick_valid S.valid (by omega) (by omega)).tab h1
  · refine outsidePort_none fun m hm' he => ?_
    simp only [tick] at hm'
    obtain ⟨m1, m2⟩ := mem_expire.1 hm'
    have := table_one S.mapped.valid m1 hm he
    rw [this] at m2
    simp only [hd] at m2
    omega
/-- FnReceiveIn -/
theorem law_receive {g h : GateD} {p q : PktD} (e : receiveIn g p = some (q, h)) :
    insideEnd g.table p.to_.port = some q.to_ ∧ q.fr = p.fr ∧ q.kind = p.kind ∧ q.data = p.data ∧ h = g ∧ validNet g.net = true ∧ word q.to_.addr = true ∧ has g.net q.to_.addr = true := by
  obtain ⟨a, b, c, d, r⟩ := receiveIn_some e
  obtain ⟨m, m1, m2, m3, rfl, rfl⟩ := receive_some r
  have h1 := table_end a.tab m1
  simp only [validEnd, Bool.and_eq_true] at h1
  exact ⟨by rw [← m2]; exact insideEnd_mem a.tab m1, rfl, rfl, rfl, rfl, a.net, h1.1, (a.maps m m1).1⟩
/-- FnReceiveInAnswer -/
theorem law_receiveAnswer {g h : GateD} {p q : PktD} (e : receiveIn g p = some (q, h)) (hne : p.fr.addr ≠ g.out) :
    ∃ b o k, reverse q = some b ∧ sendOut h b = some (o, k) ∧ o.fr = p.to_ ∧ o.to_ = p.fr := by
  obtain ⟨a, b, c, d, r⟩ := receiveIn_some e
  obtain ⟨m, m1, m2, m3, rfl, rfl⟩ := receive_some r
  have hv := validPkt_to b (table_end a.tab m1)
  obtain ⟨t, ht⟩ := send_known (p := { p with fr := m.ins, to_ := p.fr }) a m1 rfl
  refine ⟨_, _, _, reverse_of hv, (sendOut_of a (validPkt_rev hv) (a.maps m m1).1 d hne).trans ht, ?_, rfl⟩
  show (⟨h.out, m.port⟩ : EndD) = p.to_
  rw [m2, ← c]
/-- FnReceiveInFilter -/
theorem law_receiveFilter {g h : GateD} {p q : PktD} (e : receiveIn g p = some (q, h)) :
    receiveIn { g with filter := 0 } p = some (q, { g with filter := 0 }) ∧ letsIn g.filter g.cons p.to_.port p.fr = true := by
  obtain ⟨a, b, c, d, r⟩ := receiveIn_some e
  obtain ⟨m, m1, m2, m3, rfl, rfl⟩ := receive_some r
  have a' : VGate { h with filter := 0 } := ⟨a.net, a.out, a.nin, a.tab, a.con, rfl, a.now0, a.now1, a.hold0, a.hold1, a.maps, a.cons⟩
  refine ⟨(receiveIn_of a' b c d).trans (receive_of a'.tab m1 m2 (by simp [lets])), ?_⟩
  unfold letsIn
  rw [a.fil, a.con, m3]; rfl
/-- FnReceiveInNone -/
theorem law_receiveNone {g : GateD} {p : PktD} (hw : wayOf g p = 2) :
    (receiveIn g p).isSome = ((insideEnd g.table p.to_.port).isSome && letsIn g.filter g.cons p.to_.port p.fr) := by
  unfold wayOf at hw
  split at hw
  case isFalse => cases hw
  case isTrue hv =>
    rw [Bool.and_eq_true, validGate_iff] at hv
    obtain ⟨a, b⟩ := hv
    unfold way at hw
    split at hw
    · cases hw
    · split at hw
      · cases hw
      · split at hw
        case isFalse => cases hw
        case isTrue h3 =>
          simp only [Bool.and_eq_true, Bool.not_eq_true', decide_eq_true_eq] at h3
          rw [receiveIn_of a b h3.2 h3.1]
          unfold receive insideEnd letsIn
          rw [a.tab, a.fil, a.con]
          by_cases h4 : 0 ≤ byPort g.table p.to_.port
          · cases h5 : lets g.filter g.cons p.to_.port p.fr <;> simp [h4]
          · simp [h4]
/-- FnPassBetween, FnPassBetweenSend -/
theorem law_pass {g h : GateD} {p q : PktD} (e : passBetween g p = some (q, h)) :
    insideEnd h.table p.to_.port = some q.to_ ∧ q.fr = ⟨g.out, outsidePort h.table p.fr⟩ ∧ q.data = p.data ∧ q.kind = p.kind ∧ validGate h = true ∧ validPkt q = true ∧ h.table.length ≤ g.table.length + 1 ∧ wayOf g p = 3 := by
  obtain ⟨a, b, c, d, q1, h1, s, r⟩ := passBetween_some e
  have S := send_ok a b c s
  obtain ⟨m, m1, m2, m3, rfl, rfl⟩ := receive_some r
  have e1 : q1.to_ = p.to_ := by rw [S.pkt]
  have e2 : q1.fr = ⟨g.out, q1.fr.port⟩ := congrArg PktD.fr S.pkt
  refine ⟨?_, ?_, ?_, ?_, validGate_iff.2 S.valid, validPkt_to S.validq (table_end S.valid.tab m1), S.mapped.len1, ?_⟩
  · rw [← e1, ← m2]; exact insideEnd_mem S.valid.tab m1
  · rw [S.mapped.out]; exact e2
  · show q1.data = p.data
    rw [S.pkt]
  · show q1.kind = p.kind
    rw [S.pkt]
  · unfold wayOf way
    rw [validGate_iff.2 a, b, c]
    simp [d]
/-- FnPassBetweenBack -/
theorem law_passBack {g h : GateD} {p q : PktD} (e : passBetween g p = some (q, h)) :
    ∃ b o k, reverse q = some b ∧ passBetween { h with filter := 0 } b = some (o, k) ∧ o.fr = p.to_ ∧ o.to_ = p.fr := by
  obtain ⟨a, b, c, d, q1, h1, s, r⟩ := passBetween_some e
  have S := send_ok a b c s
  obtain ⟨m, m1, m2, m3, rfl, rfl⟩ := receive_some r
  have e1 : q1.to_ = p.to_ := by rw [S.pkt]
  have e2 : q1.fr = ⟨g.out, q1.fr.port⟩ := congrArg PktD.fr S.pkt
  have ho : h.out = g.out := by rw [S.same]
  have hn : h.net = g.net := by rw [S.same]
  have a' : VGate { h with filter := 0 } := ⟨S.valid.net, S.valid.out, S.valid.nin, S.valid.tab, S.valid.con, rfl, S.valid.now0, S.valid.now1, S.valid.hold0, S.valid.hold1, S.valid.maps, S.valid.cons⟩
  have hv := validPkt_to S.validq (table_end S.valid.tab m1)
  obtain ⟨t, ht⟩ := send_known (g := { h with filter := 0 }) (p := { q1 with fr := m.ins, to_ := q1.fr }) a' m1 rfl
  have S' := send_ok a' (validPkt_rev hv) (S.valid.maps m m1).1 ht
  obtain ⟨k, hk⟩ := S.mapped.at_
  obtain ⟨m', n1, n2, n3⟩ := S'.mapped.all _ (List.mem_of_getElem? hk)
  refine ⟨_, _, _, reverse_of hv, (passBetween_of a' (validPkt_rev hv) (S.valid.maps m m1).1 (by show q1.fr.addr = h.out; rw [e2, ho]) ht).trans (receive_of S'.valid.tab n1 n2 ?_), ?_, n3⟩
  · simp [lets]
  · show (⟨h.out, m.port⟩ : EndD) = p.to_
    rw [m2, e1, ho, ← d]
/-- FnForwardTwice -/
theorem law_forwardTwice {g h : GateD} {p q : PktD} (e : forward g p = some (q, h)) : forward h p = some (q, h) := by
  unfold forward at e
  have way_same : ∀ {h : GateD}, VGate h → VGate g → h.net = g.net → h.out = g.out → wayOf h p = wayOf g p := by
    intro h a b c d
    unfold wayOf way
    rw [validGate_iff.2 a, validGate_iff.2 b, c, d]
  split at e
  case isTrue h1 =>
    have hv : (validGate g && validPkt p) = true := by
      unfold wayOf at h1
      split at h1
      · assumption
      · cases h1
    rw [Bool.and_eq_true, validGate_iff] at hv
    have hin : has g.net p.fr.addr = true := by
      unfold wayOf way at h1
      rw [validGate_iff.2 hv.1, hv.2] at h1
      cases hc : has g.net p.fr.addr with
      | true => rfl
      | false => rw [hc] at h1; simp at h1; split at h1 <;> cases h1
    have S := send_ok hv.1 hv.2 hin e
    unfold forward
    rw [way_same S.valid hv.1 (by rw [S.same]) (by rw [S.same]), if_pos h1]
    exact S.again
  case isFalse h1 =>
    split at e
    case isTrue h2 =>
      obtain ⟨m, m1, m2, m3, rfl, rfl⟩ := receive_some e
      unfold forward
      rw [if_neg h1, if_pos h2]
      exact e
    case isFalse h2 =>
      split at e
      case isTrue h3 =>
        obtain ⟨a, b, c, d, q1, h1', s, r⟩ := passBetween_some e
        have S := send_ok a b c s
        obtain ⟨m, m1, m2, m3, rfl, rfl⟩ := receive_some r
        unfold forward
        have hw := way_same S.valid a (by rw [S.same]) (by rw [S.same])
        rw [hw, if_neg h1, if_neg h2, if_pos h3]
        rw [passBetween_of S.valid b (by rw [show h.net = g.net by rw [S.same]]; exact c) (by rw [show h.out = g.out by rw [S.same]]; exact d) S.again]
        exact r
      case isFalse => cases e
/-- The three ways of a packet. -/
theorem wayOf_one {g : GateD} {p : PktD} (h : wayOf g p = 1) : VGate g ∧ validPkt p = true ∧ has g.net p.fr.addr = true ∧ has g.net p.to_.addr = false ∧ p.to_.addr ≠ g.out := by
  unfold wayOf at h
  split at h
  case isFalse => cases h
  case isTrue hv =>
    rw [Bool.and_eq_true, validGate_iff] at hv
    unfold way at h
    split at h
    · cases h
    case isFalse h1 =>
      split at h
      case isFalse => split at h <;> cases h
      case isTrue h2 =>
        simp only [Bool.and_eq_true, Bool.not_eq_true', decide_eq_true_eq, not_and] at h1 h2
        exact ⟨hv.1, hv.2, h2.1, h2.2, h1 h2.1⟩
theorem wayOf_two {g : GateD} {p : PktD} (h : wayOf g p = 2) : VGate g ∧ validPkt p = true ∧ p.to_.addr = g.out ∧ has g.net p.fr.addr = false := by
  unfold wayOf at h
  split at h
  case isFalse => cases h
  case isTrue hv =>
    rw [Bool.and_eq_true, validGate_iff] at hv
    unfold way at h
    split at h
    · cases h
    · split at h
      · cases h
      · split at h
        case isFalse => cases h
        case isTrue h3 =>
          simp only [Bool.and_eq_true, Bool.not_eq_true', decide_eq_true_eq] at h3
          exact ⟨hv.1, hv.2, h3.2, h3.1⟩
/-- Forward is what its way's function does (FnForward). -/
theorem forward_one {g : GateD} {p : PktD} (h : wayOf g p = 1) : forward g p = sendOut g p := by
  obtain ⟨a, b, c, d, e⟩ := wayOf_one h
  unfold forward
  rw [if_pos h, sendOut_of a b c d e]
theorem forward_two {g : GateD} {p : PktD} (h : wayOf g p = 2) : forward g p = receiveIn g p := by
  obtain ⟨a, b, c, d⟩ := wayOf_two h
  unfold forward
  rw [if_neg (by omega), if_pos h, receiveIn_of a b c d]
theorem forward_three {g : GateD} {p : PktD} (h : wayOf g p = 3) : forward g p = passBetween g p := by
  unfold forward
  rw [if_neg (by omega), if_neg (by omega), if_pos h]
theorem forward_way {g : GateD} {p : PktD} {r : PktD × GateD} (h : forward g p = some r) : wayOf g p = 1 ∨ wayOf g p = 2 ∨ wayOf g p = 3 := by
  unfold forward at h
  split at h
  · exact .inl (by assumption)
  · split at h
    · exact .inr (.inl (by assumption))
    · split at h
      · exact .inr (.inr (by assumption))
      · cases h
/-- FnForwardValid -/
theorem law_forwardValid {g h : GateD} {p q : PktD} (e : forward g p = some (q, h)) :
    validGate h = true ∧ validPkt q = true ∧ q.data = p.data ∧ q.kind = p.kind ∧ has g.net q.fr.addr = false := by
  rcases forward_way e with hw | hw | hw
  · rw [forward_one hw] at e
    obtain ⟨a, b, c, d, f, s⟩ := sendOut_some e
    have S := send_ok a b c s
    have e2 : q.fr = ⟨g.out, q.fr.port⟩ := congrArg PktD.fr S.pkt
    refine ⟨validGate_iff.2 S.valid, S.validq, ?_, ?_, ?_⟩
    · rw [S.pkt]
    · rw [S.pkt]
    · rw [e2]; exact a.nin
  · rw [forward_two hw] at e
    obtain ⟨a, b, c, d, r⟩ := receiveIn_some e
    obtain ⟨m, m1, m2, m3, rfl, rfl⟩ := receive_some r
    exact ⟨validGate_iff.2 a, validPkt_to b (table_end a.tab m1), rfl, rfl, d⟩
  · rw [forward_three hw] at e
    have hp := law_pass e
    obtain ⟨a, _⟩ := passBetween_some e
    refine ⟨hp.2.2.2.2.1, hp.2.2.2.2.2.1, hp.2.2.1, hp.2.2.2.1, ?_⟩
    rw [hp.2.1]; exact a.nin
/-- FnReportIn, FnReportInNone -/
theorem reportIn_some {g : GateD} {e o : RepD} (h : reportIn g e = some o) :
    VGate g ∧ validRep e = true ∧ e.to_ = g.out ∧ e.about.fr.addr = g.out ∧ has g.net e.sender = false ∧ ∃ m, m ∈ g.table ∧ m.port = e.about.fr.port ∧ o = { e with to_ := m.ins.addr, about := { e.about with fr := m.ins } } := by
  unfold reportIn at h
  split at h
  case isFalse => cases h
  case isTrue hc =>
    simp only [Bool.and_eq_true, Bool.not_eq_true', decide_eq_true_eq, validGate_iff] at hc
    obtain ⟨⟨⟨⟨⟨a, b⟩, c⟩, d⟩, f⟩, k⟩ := hc
    obtain ⟨i, m, _, b2, b3, b4⟩ := byPort_some k
    rw [b4] at h
    exact ⟨a, b, c, d, f, m, List.mem_of_getElem? b2, b3, (Option.some.inj h).symm⟩
theorem reportIn_of {g : GateD} {e : RepD} {m : MapD} (a : VGate g) (b : validRep e = true) (c : e.to_ = g.out) (d : e.about.fr.addr = g.out) (f : has g.net e.sender = false) (hm : m ∈ g.table) (hp : m.port = e.about.fr.port) :
    reportIn g e = some { e with to_ := m.ins.addr, about := { e.about with fr := m.ins } } := by
  have h0 := byPort_mem hm
  rw [hp] at h0
  obtain ⟨k, m', _, b2, b3, b4⟩ := byPort_some h0
  have := table_one' a.tab (List.mem_of_getElem? b2) hm (b3.trans hp.symm)
  subst this
  unfold reportIn
  rw [if_pos, b4]
  simp only [Bool.and_eq_true, Bool.not_eq_true', decide_eq_true_eq, validGate_iff]
  exact ⟨⟨⟨⟨⟨a, b⟩, c⟩, d⟩, f⟩, h0⟩
theorem reportOut_some {g : GateD} {e o : RepD} (h : reportOut g e = some o) :
    VGate g ∧ validRep e = true ∧ has g.net e.sender = true ∧ has g.net e.to_ = false ∧ e.to_ ≠ g.out ∧ ∃ m, m ∈ g.table ∧ m.ins = e.about.to_ ∧ o = { e with sender := g.out, about := { e.about with to_ := ⟨g.out, m.port⟩ } } := by
  unfold reportOut at h
  split at h
  case isFalse => cases h
  case isTrue hc =>
    simp only [Bool.and_eq_true, Bool.not_eq_true', decide_eq_true_eq, decide_eq_false_iff_not, validGate_iff] at hc
    obtain ⟨⟨⟨⟨⟨a, b⟩, c⟩, d⟩, f⟩, k⟩ := hc
    obtain ⟨i, m, _, b2, b3, b4⟩ := byEnd_some k
    rw [b4] at h
    exact ⟨a, b, c, d, f, m, List.mem_of_getElem? b2, b3, (Option.some.inj h).symm⟩
theorem reportOut_of {g : GateD} {e : RepD} {m : MapD} (a : VGate g) (b : validRep e = true) (c : has g.net e.sender = true) (d : has g.net e.to_ = false) (f : e.to_ ≠ g.out) (hm : m ∈ g.table) (hp : m.ins = e.about.to_) :
    reportOut g e = some { e with sender := g.out, about := { e.about with to_ := ⟨g.out, m.port⟩ } } := by
  have h0 := byEnd_mem hm
  rw [hp] at h0
  obtain ⟨k, m', _, b2, b3, b4⟩ := byEnd_some h0
  have := table_one a.tab (List.mem_of_getElem? b2) hm (b3.trans hp.symm)
  subst this
  unfold reportOut
  rw [if_pos, b4]
  simp only [Bool.and_eq_true, Bool.not_eq_true', decide_eq_true_eq, decide_eq_false_iff_not, validGate_iff]
  exact ⟨⟨⟨⟨⟨a, b⟩, c⟩, d⟩, f⟩, h0⟩
theorem validRep_iff {e : RepD} : validRep e = true ↔ inR e.code 0 15 = true ∧ word e.sender = true ∧ word e.to_ = true ∧ validPkt e.about = true := by
  simp only [validRep, Bool.and_eq_true]
  constructor
  · rintro ⟨⟨⟨a, b⟩, c⟩, d⟩; exact ⟨a, b, c, d⟩
  · rintro ⟨a, b, c, d⟩; exact ⟨⟨⟨a, b⟩, c⟩, d⟩
theorem law_reportIn {g : GateD} {e o : RepD} (h : reportIn g e = some o) :
    insideEnd g.table e.about.fr.port = some o.about.fr ∧ o.to_ = o.about.fr.addr ∧ o.code = e.code ∧ o.sender = e.sender ∧ o.about.to_ = e.about.to_ ∧ o.about.data = e.about.data ∧
      validNet g.net = true ∧ word o.to_ = true ∧ has g.net o.to_ = true ∧ validRep o = true := by
  obtain ⟨a, b, c, d, f, m, m1, m2, rfl⟩ := reportIn_some h
  have he := table_end a.tab m1
  have he' := he
  simp only [validEnd, Bool.and_eq_true] at he'
  obtain ⟨r1, r2, r3, r4⟩ := validRep_iff.1 b
  obtain ⟨p1, p2, p3, p4, p5⟩ := validPkt_iff.1 r4
  exact ⟨by rw [← m2]; exact insideEnd_mem a.tab m1, rfl, rfl, rfl, rfl, rfl, a.net, he'.1, (a.maps m m1).1, validRep_iff.2 ⟨r1, r2, he'.1, validPkt_iff.2 ⟨p1, he, p3, p4, p5⟩⟩⟩
/-- FnReportOut, FnReportOutNone -/
theorem law_reportOut {g : GateD} {e o : RepD} (h : reportOut g e = some o) :
    o.sender = g.out ∧ o.about.to_ = ⟨g.out, outsidePort g.table e.about.to_⟩ ∧ o.to_ = e.to_ ∧ o.about.fr = e.about.fr ∧ o.about.data = e.about.data ∧ has g.net o.sender = false ∧ has g.net o.about.to_.addr = false ∧ validRep o = true := by
  obtain ⟨a, b, c, d, f, m, m1, m2, rfl⟩ := reportOut_some h
  obtain ⟨r1, r2, r3, r4⟩ := validRep_iff.1 b
  obtain ⟨p1, p2, p3, p4, p5⟩ := validPkt_iff.1 r4
  have hok := (validTable_iff.1 a.tab).1 m m1
  simp only [okMap, Bool.and_eq_true, inR_iff] at hok
  refine ⟨rfl, by rw [← m2, outsidePort_mem a.tab m1], rfl, rfl, rfl, a.nin, a.nin, validRep_iff.2 ⟨r1, a.out, r3, validPkt_iff.2 ⟨p1, p2, ?_, p4, p5⟩⟩⟩
  simp only [validEnd, Bool.and_eq_true]
  exact ⟨a.out, word_port hok.1.2.1 hok.1.2.2⟩
/-- FnReportInSend -/
theorem law_reportInSend {g h : GateD} {p q : PktD} (e : sendOut g p = some (q, h)) :
    ∃ f d, reportOf 3 p.to_.addr q = some f ∧ reportIn h f = some d ∧ reportOf 3 p.to_.addr p = some d := by
  obtain ⟨a, b, c, d, f, s⟩ := sendOut_some e
  have S := send_ok a b c s
  have hn : h.net = g.net := by rw [S.same]
  have ho : h.out = g.out := by rw [S.same]
  have e2 : q.fr = ⟨g.out, q.fr.port⟩ := congrArg PktD.fr S.pkt
  obtain ⟨p1, p2, p3, p4, p5⟩ := validPkt_iff.1 b
  have w1 : word p.to_.addr = true := by simp only [validEnd, Bool.and_eq_true] at p3; exact p3.1
  obtain ⟨k, hk⟩ := S.mapped.at_
  have hv : validRep ⟨3, p.to_.addr, q.fr.addr, { q with data := q.data.take 4 }⟩ = true :=
    validRep_iff.2 ⟨rfl, w1, by rw [e2]; exact a.out, validPkt_cut S.validq⟩
  refine ⟨⟨3, p.to_.addr, q.fr.addr, { q with data := q.data.take 4 }⟩, _, ?_, reportIn_of (m := ⟨p.fr, q.fr.port, g.now⟩) S.valid hv ?_ ?_ ?_ (List.mem_of_getElem? hk) rfl, ?_⟩
  · unfold reportOf; rw [w1, S.validq]; rfl
  · show q.fr.addr = h.out
    rw [e2, ho]
  · show q.fr.addr = h.out
    rw [e2, ho]
  · show has h.net p.to_.addr = false
    rw [hn]; exact d
  · unfold reportOf
    rw [w1, b]
    simp only [Bool.and_true]
    rw [if_pos (show inR 3 0 15 = true from rfl), S.pkt]
/-- FnReportOutReceive -/
theorem law_reportOutReceive {g h : GateD} {p q : PktD} (e : receiveIn g p = some (q, h)) (hne : p.fr.addr ≠ g.out) :
    ∃ f d, reportOf 3 q.to_.addr q = some f ∧ reportOut h f = some d ∧ reportOf 3 g.out p = some d := by
  obtain ⟨a, b, c, d, r⟩ := receiveIn_some e
  obtain ⟨m, m1, m2, m3, rfl, rfl⟩ := receive_some r
  have he := table_end a.tab m1
  have hv := validPkt_to b he
  have he' := he
  simp only [validEnd, Bool.and_eq_true] at he'
  obtain ⟨p1, p2, p3, p4, p5⟩ := validPkt_iff.1 b
  have w2 : word p.fr.addr = true := by simp only [validEnd, Bool.and_eq_true] at p2; exact p2.1
  have hr : validRep ⟨3, m.ins.addr, p.fr.addr, { p with to_ := m.ins, data := p.data.take 4 }⟩ = true := validRep_iff.2 ⟨rfl, he'.1, w2, validPkt_cut hv⟩
  refine ⟨⟨3, m.ins.addr, p.fr.addr, { p with to_ := m.ins, data := p.data.take 4 }⟩, _, ?_, reportOut_of (m := m) a hr (a.maps m m1).1 d hne m1 rfl, ?_⟩
  · unfold reportOf; rw [he'.1, hv]; rfl
  · unfold reportOf
    rw [a.out, b]
    simp only [Bool.and_true]
    rw [if_pos (show inR 3 0 15 = true from rfl), m2, ← c]
end Go.Proofs.Ytppdcglnopoocaa
/- Contracts: ways of packets through gates, of both packages. -/
namespace Go.Proofs.Ytppdcglnopoocaa
set_option linter.unusedVariables false
set_option linter.unusedSimpArgs false
open Go.RowKit Go.Shelf

theorem impl_ValidPacket' (p : PktD) (a : Option Addr) (n c : Nat) (w : World) (hs : Sl encI 1 w a n c p.data) :
    Calls Try.prog 57 #[.agg #[.int .i64 p.kind, .int .i64 p.fr.addr, .int .i64 p.fr.port, .int .i64 p.to_.addr, .int .i64 p.to_.port, .slice a n c]] w fun e w' => e = .returned (.bool (validPkt p)) ∧ Ext w w' := impl_ValidPacket p.kind p.fr.addr p.fr.port p.to_.addr p.to_.port a n c p.data w hs
theorem spec_validPacket' (p : PktD) (a : Option Addr) (n c : Nat) (w : World) (hs : Sl encI 1 w a n c p.data) :
    Calls Try.prog 125 #[.agg #[.int .i64 p.kind, .int .i64 p.fr.addr, .int .i64 p.fr.port, .int .i64 p.to_.addr, .int .i64 p.to_.port, .slice a n c]] w fun e w' => e = .returned (.bool (validPkt p)) ∧ Ext w w' := spec_validPacket p.kind p.fr.addr p.fr.port p.to_.addr p.to_.port a n c p.data w hs
theorem bne_dec (a b : Int) : (a != b) = !decide (a = b) := rfl
theorem wayOf_spec (g : GateD) (p : PktD) : wayOf g p = if validGate g && validPkt p then (if goesOut g p then 1 else if comesIn g p then 2 else if has g.net p.fr.addr && decide (p.to_.addr = g.out) then 3 else 0) else -1 := by
  unfold wayOf way goesOut comesIn fromIn
  cases validGate g <;> cases validPkt p <;> cases has g.net p.fr.addr <;> cases has g.net p.to_.addr <;> cases decide (p.to_.addr = g.out) <;> rfl
set_option maxHeartbeats 1000000 in
theorem impl_way (g : GateD) (p : PktD) (ta : Option Addr) (tn tc : Nat) (ka : Option Addr) (kn kc : Nat) (a : Option Addr) (n c : Nat) (w : World) (hv : validNet g.net = true) :
    Calls Try.prog 103 #[.agg #[.int .i64 g.net.base, .int .i64 g.net.bits, .int .i64 g.out, .slice ta tn tc, .slice ka kn kc, .int .i64 g.filter, .int .i64 g.hold, .int .i64 g.now], .agg #[.int .i64 p.kind, .int .i64 p.fr.addr, .int .i64 p.fr.port, .int .i64 p.to_.addr, .int .i64 p.to_.port, .slice a n c]] w fun r w' => r = .returned (.int .i64 (way g p)) ∧ Ext w w' := by
  go_enter Try.func103, Try.ntmps103
  go_wp2_with fail
  refine wp_region_ext (by kernel_rfl) (by kernel_rfl) ?_
  repeat' (first
    | (refine ChL.skip (by rfl) ?_
       (try simp only [Act.put, List.setIfInBounds_toArray, List.set_cons_zero, List.set_cons_succ]))
    | (refine' ChL.val (v := _) (by rfl) ?_ ?_
       rotate_left
       · (intro wS hS
          have hcS := Ext.cells hS
          go_simp
          with_reducible rfl)
       (try simp only [Act.put, List.setIfInBounds_toArray, List.set_cons_zero, List.set_cons_succ]))
    | (refine' ChL.call (v := _) (f := _) (args := _) (by rfl) ?_ ?_ ?_
       rotate_left 3
       · (intro wS
          go_simp
          (constructor <;> rfl))
       · (intro wS hS
          first | (go_at_call 58; refine (impl_has' g.net _ _ hv).mono ?_; rintro e w1 ⟨rfl, hx⟩; refine ⟨?_, Ext.trans hS hx⟩; rfl))
       (try simp only [Act.put, List.setIfInBounds_toArray, List.set_cons_zero, List.set_cons_succ]))
    | (refine ChL.nil ?_)
    | (refine' ChL.guard (x := _) ?_ ?_ ?_
       rotate_left
       · (go_simp
          rfl)
       all_goals
         intro hg
         simp only [hg])
    | (refine' ChL.guardN (x := _) ?_ ?_ ?_
       rotate_left
       · (go_simp
          rfl)
       all_goals
         intro hg
         simp only [hg]))
  intro w1 hx
  have hc := hx.cells
  have hf := hx.frozens
  have hy := hx.size
  simp at hy
  have hz : w.heap.size < w1.heap.size ∧ w.heap.size + 1 < w1.heap.size := by omega
  go_wp2_with (go_at_call 58; refine (impl_has' g.net _ _ hv).mono ?_; rintro e w1 ⟨rfl, hx⟩; have hc := hx.cells; have hf := hx.frozens; have hy := hx.size; (try simp at hy); have hz : w.heap.size < w1.heap.size ∧ w.heap.size + 1 < w1.heap.size := (by omega))
  all_goals (go_ret; exact ⟨ret_int (by (first | (simp [way, *]; done) | (simp only [Bool.not_eq_true', Bool.not_eq_false', Bool.not_eq_true, beq_iff_eq, beq_eq_false_iff_ne, bne_iff_ne, ne_eq] at *; (simp [way, bne_dec, *]; done)))), (by repeat (first | (with_reducible exact Ext.refl _) | (with_reducible assumption) | (with_reducible refine Ext.alloc ?_ _) | (with_reducible refine Ext.drewN ?_ _) | (with_reducible refine Ext.drew ?_) | (with_reducible refine Ext.setCell ?_ ?_ _; rotate_left; (simp only []; omega)) | (with_reducible refine Ext.trans ?_ (by assumption))))⟩)
set_option maxHeartbeats 1000000 in
theorem impl_WayOf (g : GateD) (p : PktD) (ta : Option Addr) (tn tc : Nat) (ka : Option Addr) (kn kc : Nat) (a : Option Addr) (n c : Nat) (w : World) (ht : Sl encM 4 w ta tn tc g.table) (hk : Sl encC 3 w ka kn kc g.cons) (hs : Sl encI 1 w a n c p.data) :
    Calls Try.prog 42 #[.agg #[.int .i64 g.net.base, .int .i64 g.net.bits, .int .i64 g.out, .slice ta tn tc, .slice ka kn kc, .int .i64 g.filter, .int .i64 g.hold, .int .i64 g.now], .agg #[.int .i64 p.kind, .int .i64 p.fr.addr, .int .i64 p.fr.port, .int .i64 p.to_.addr, .int .i64 p.to_.port, .slice a n c]] w fun r w' => r = .returned (.int .i64 (wayOf g p)) ∧ Ext w w' := by
  go_enter Try.func42, Try.ntmps42
  go_wp2_with (first | (go_at_call 30; refine (impl_ValidGate g ta tn tc ka kn kc _ (by exact ht.ext (by repeat (first | (with_reducible exact Ext.refl _) | (with_reducible assumption) | (with_reducible refine Ext.alloc ?_ _) | (with_reducible refine Ext.drewN ?_ _) | (with_reducible refine Ext.drew ?_) | (with_reducible refine Ext.setCell ?_ ?_ _; rotate_left; (simp only []; omega)) | (with_reducible refine Ext.trans ?_ (by assumption))))) (by exact hk.ext (by repeat (first | (with_reducible exact Ext.refl _) | (with_reducible assumption) | (with_reducible refine Ext.alloc ?_ _) | (with_reducible refine Ext.drewN ?_ _) | (with_reducible refine Ext.drew ?_) | (with_reducible refine Ext.setCell ?_ ?_ _; rotate_left; (simp only []; omega)) | (with_reducible refine Ext.trans ?_ (by assumption)))))).mono ?_; rintro e w1 ⟨rfl, hx⟩; have hc := hx.cells; have hf := hx.frozens; have hy := hx.size; (try simp at hy); have hz : w.heap.size < w1.heap.size ∧ w.heap.size + 1 < w1.heap.size := (by omega)) | (go_at_call 57; refine (impl_ValidPacket' p a n c _ (by exact hs.ext (by repeat (first | (with_reducible exact Ext.refl _) | (with_reducible assumption) | (with_reducible refine Ext.alloc ?_ _) | (with_reducible refine Ext.drewN ?_ _) | (with_reducible refine Ext.drew ?_) | (with_reducible refine Ext.setCell ?_ ?_ _; rotate_left; (simp only []; omega)) | (with_reducible refine Ext.trans ?_ (by assumption)))))).mono ?_; rintro e w1 ⟨rfl, hx⟩; have hc := hx.cells; have hf := hx.frozens; have hy := hx.size; (try simp at hy); have hz : w.heap.size < w1.heap.size ∧ w.heap.size + 1 < w1.heap.size := (by omega)) | (go_at_call 103; refine (impl_way g p ta tn tc ka kn kc a n c _ (validGate_iff.1 (by assumption)).net).mono ?_; rintro e w1 ⟨rfl, hx⟩; have hc := hx.cells; have hf := hx.frozens; have hy := hx.size; (try simp at hy); have hz : w.heap.size < w1.heap.size := (by omega)))
  all_goals (go_ret; exact ⟨ret_int (by (first | (simp [wayOf, *]; done) | (simp only [Bool.not_eq_true', Bool.not_eq_false', Bool.not_eq_true, beq_iff_eq, beq_eq_false_iff_ne, bne_iff_ne, ne_eq] at *; (simp [wayOf, bne_dec, *]; done)))), (by repeat (first | (with_reducible exact Ext.refl _) | (with_reducible assumption) | (with_reducible refine Ext.alloc ?_ _) | (with_reducible refine Ext.drewN ?_ _) | (with_reducible refine Ext.drew ?_) | (with_reducible refine Ext.setCell ?_ ?_ _; rotate_left; (simp only []; omega)) | (with_reducible refine Ext.trans ?_ (by assumption))))⟩)
set_option maxHeartbeats 1000000 in
theorem spec_goesOut (g : GateD) (p : PktD) (ta : Option Addr) (tn tc : Nat) (ka : Option Addr) (kn kc : Nat) (a : Option Addr) (n c : Nat) (w : World) (ht : Sl encM 4 w ta tn tc g.table) (hk : Sl encC 3 w ka kn kc g.cons) (hs : Sl encI 1 w a n c p.data) :
    Calls Try.prog 79 #[.agg #[.int .i64 g.net.base, .int .i64 g.net.bits, .int .i64 g.out, .slice ta tn tc, .slice ka kn kc, .int .i64 g.filter, .int .i64 g.hold, .int .i64 g.now], .agg #[.int .i64 p.kind, .int .i64 p.fr.addr, .int .i64 p.fr.port, .int .i64 p.to_.addr, .int .i64 p.to_.port, .slice a n c]] w fun r w' => r = .returned (.bool (goesOut g p)) ∧ Ext w w' := by
  go_enter Try.func79, Try.ntmps79
  go_wp2_with (first | (go_at_call 89; refine (spec_validGate g ta tn tc ka kn kc _ (by exact ht.ext (by repeat (first | (with_reducible exact Ext.refl _) | (with_reducible assumption) | (with_reducible refine Ext.alloc ?_ _) | (with_reducible refine Ext.drewN ?_ _) | (with_reducible refine Ext.drew ?_) | (with_reducible refine Ext.setCell ?_ ?_ _; rotate_left; (simp only []; omega)) | (with_reducible refine Ext.trans ?_ (by assumption))))) (by exact hk.ext (by repeat (first | (with_reducible exact Ext.refl _) | (with_reducible assumption) | (with_reducible refine Ext.alloc ?_ _) | (with_reducible refine Ext.drewN ?_ _) | (with_reducible refine Ext.drew ?_) | (with_reducible refine Ext.setCell ?_ ?_ _; rotate_left; (simp only []; omega)) | (with_reducible refine Ext.trans ?_ (by assumption)))))).mono ?_; rintro e w1 ⟨rfl, hx⟩; have hc := hx.cells; have hf := hx.frozens; have hy := hx.size; (try simp at hy); have hz : w.heap.size < w1.heap.size ∧ w.heap.size + 1 < w1.heap.size := (by omega)) | (go_at_call 125; refine (spec_validPacket' p a n c _ (by exact hs.ext (by repeat (first | (with_reducible exact Ext.refl _) | (with_reducible assumption) | (with_reducible refine Ext.alloc ?_ _) | (with_reducible refine Ext.drewN ?_ _) | (with_reducible refine Ext.drew ?_) | (with_reducible refine Ext.setCell ?_ ?_ _; rotate_left; (simp only []; omega)) | (with_reducible refine Ext.trans ?_ (by assumption)))))).mono ?_; rintro e w1 ⟨rfl, hx⟩; have hc := hx.cells; have hf := hx.frozens; have hy := hx.size; (try simp at hy); have hz : w.heap.size < w1.heap.size ∧ w.heap.size + 1 < w1.heap.size := (by omega)) | (go_at_call 91; refine (spec_inNet' g.net _ _ (validGate_iff.1 (by assumption)).net).mono ?_; rintro e w1 ⟨rfl, hx⟩; have hc := hx.cells; have hf := hx.frozens; have hy := hx.size; (try simp at hy); have hz : w.heap.size < w1.heap.size ∧ w.heap.size + 1 < w1.heap.size := (by omega)))
  all_goals (go_ret; exact ⟨ret_bool (by (first | (simp [goesOut, fromIn, *]; done) | (simp only [Bool.not_eq_true', Bool.not_eq_false', Bool.not_eq_true, beq_iff_eq, beq_eq_false_iff_ne, bne_iff_ne, ne_eq] at *; (simp [goesOut, fromIn, bne_dec, *]; done)))), (by repeat (first | (with_reducible exact Ext.refl _) | (with_reducible assumption) | (with_reducible refine Ext.alloc ?_ _) | (with_reducible refine Ext.drewN ?_ _) | (with_reducible refine Ext.drew ?_) | (with_reducible refine Ext.setCell ?_ ?_ _; rotate_left; (simp only []; omega)) | (with_reducible refine Ext.trans ?_ (by assumption))))⟩)
set_option maxHeartbeats 1000000 in
theorem spec_comesIn (g : GateD) (p : PktD) (ta : Option Addr) (tn tc : Nat) (ka : Option Addr) (kn kc : Nat) (a : Option Addr) (n c : Nat) (w : World) (ht : Sl encM 4 w ta tn tc g.table) (hk : Sl encC 3 w ka kn kc g.cons) (hs : Sl encI 1 w a n c p.data) :
    Calls Try.prog 62 #[.agg #[.int .i64 g.net.base, .int .i64 g.net.bits, .int .i64 g.out, .slice ta tn tc, .slice ka kn kc, .int .i64 g.filter, .int .i64 g.hold, .int .i64 g.now], .agg #[.int .i64 p.kind, .int .i64 p.fr.addr, .int .i64 p.fr.port, .int .i64 p.to_.addr, .int .i64 p.to_.port, .slice a n c]] w fun r w' => r = .returned (.bool (comesIn g p)) ∧ Ext w w' := by
  go_enter Try.func62, Try.ntmps62
  go_wp2_with (first | (go_at_call 89; refine (spec_validGate g ta tn tc ka kn kc _ (by exact ht.ext (by repeat (first | (with_reducible exact Ext.refl _) | (with_reducible assumption) | (with_reducible refine Ext.alloc ?_ _) | (with_reducible refine Ext.drewN ?_ _) | (with_reducible refine Ext.drew ?_) | (with_reducible refine Ext.setCell ?_ ?_ _; rotate_left; (simp only []; omega)) | (with_reducible refine Ext.trans ?_ (by assumption))))) (by exact hk.ext (by repeat (first | (with_reducible exact Ext.refl _) | (with_reducible assumption) | (with_reducible refine Ext.alloc ?_ _) | (with_reducible refine Ext.drewN ?_ _) | (with_reducible refine Ext.drew ?_) | (with_reducible refine Ext.setCell ?_ ?_ _; rotate_left; (simp only []; omega)) | (with_reducible refine Ext.trans ?_ (by assumption)))))).mono ?_; rintro e w1 ⟨rfl, hx⟩; have hc := hx.cells; have hf := hx.frozens; have hy := hx.size; (try simp at hy); have hz : w.heap.size < w1.heap.size ∧ w.heap.size + 1 < w1.heap.size := (by omega)) | (go_at_call 125; refine (spec_validPacket' p a n c _ (by exact hs.ext (by repeat (first | (with_reducible exact Ext.refl _) | (with_reducible assumption) | (with_reducible refine Ext.alloc ?_ _) | (with_reducible refine Ext.drewN ?_ _) | (with_reducible refine Ext.drew ?_) | (with_reducible refine Ext.setCell ?_ ?_ _; rotate_left; (simp only []; omega)) | (with_reducible refine Ext.trans ?_ (by assumption)))))).mono ?_; rintro e w1 ⟨rfl, hx⟩; have hc := hx.cells; have hf := hx.frozens; have hy := hx.size; (try simp at hy); have hz : w.heap.size < w1.heap.size ∧ w.heap.size + 1 < w1.heap.size := (by omega)) | (go_at_call 91; refine (spec_inNet' g.net _ _ (validGate_iff.1 (by assumption)).net).mono ?_; rintro e w1 ⟨rfl, hx⟩; have hc := hx.cells; have hf := hx.frozens; have hy := hx.size; (try simp at hy); have hz : w.heap.size < w1.heap.size ∧ w.heap.size + 1 < w1.heap.size := (by omega)))
  all_goals (go_ret; exact ⟨ret_bool (by (first | (simp [comesIn, *]; done) | (simp only [Bool.not_eq_true', Bool.not_eq_false', Bool.not_eq_true, beq_iff_eq, beq_eq_false_iff_ne, bne_iff_ne, ne_eq] at *; (simp [comesIn, bne_dec, *]; done)))), (by repeat (first | (with_reducible exact Ext.refl _) | (with_reducible assumption) | (with_reducible refine Ext.alloc ?_ _) | (with_reducible refine Ext.drewN ?_ _) | (with_reducible refine Ext.drew ?_) | (with_reducible refine Ext.setCell ?_ ?_ _; rotate_left; (simp only []; omega)) | (with_reducible refine Ext.trans ?_ (by assumption))))⟩)
end Go.Proofs.Ytppdcglnopoocaa
