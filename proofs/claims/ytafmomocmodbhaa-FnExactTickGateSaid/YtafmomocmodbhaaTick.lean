/- Plain laws of the gate: ticking; looking up ends and ports. No program in sight. No condition. -/
import Derived.Test.YtafmomocmodbhaaGate
namespace Go.Proofs.Ytafmomocmodbhaa

theorem foldl_without : ∀ (ps : List Int) (l : List ConD), ps.foldl without l = l.filter fun c => !decide (c.port ∈ ps)
  | [], l => by simp only [List.foldl_nil, List.not_mem_nil, decide_false, Bool.not_false]; exact (List.filter_eq_self.2 fun _ _ => rfl).symm
  | p :: ps, l => by
    rw [List.foldl_cons, foldl_without ps]
    unfold without
    rw [List.filter_filter]
    congr 1
    funext c
    rw [Bool.eq_iff_iff]
    simp
    exact ⟨fun ⟨a, b⟩ => ⟨b, a⟩, fun ⟨a, b⟩ => ⟨b, a⟩⟩
theorem mem_expPorts {l : List MapD} {now hold p : Int} : p ∈ expPorts l now hold ↔ ∃ m ∈ l, hold ≤ now - m.last ∧ m.port = p := by
  unfold expPorts expired
  simp only [List.mem_map, List.mem_filter, decide_eq_true_eq]
  exact ⟨fun ⟨m, ⟨a, b⟩, c⟩ => ⟨m, a, b, c⟩, fun ⟨m, a, b, c⟩ => ⟨m, ⟨a, b⟩, c⟩⟩
theorem mem_expire {l : List MapD} {now hold : Int} {m : MapD} : m ∈ expire l now hold ↔ m ∈ l ∧ now - m.last < hold := by
  unfold expire expired
  simp only [List.mem_filter, Bool.not_eq_true', decide_eq_false_iff_not]
  exact ⟨fun ⟨a, b⟩ => ⟨a, by omega⟩, fun ⟨a, b⟩ => ⟨a, by omega⟩⟩
theorem validTable_sub {l l' : List MapD} (h : validTable l = true) (hs : l'.Sublist l) : validTable l' = true := by
  obtain ⟨a, b, c⟩ := validTable_iff.1 h
  exact validTable_iff.2 ⟨fun m hm => a m (hs.subset hm), b.sublist hs, Nat.le_trans hs.length_le c⟩
theorem validContacts_sub {l l' : List ConD} (h : validContacts l = true) (hs : l'.Sublist l) : validContacts l' = true := by
  obtain ⟨a, b, c⟩ := validContacts_iff.1 h
  exact validContacts_iff.2 ⟨fun m hm => a m (hs.subset hm), b.sublist hs, Nat.le_trans hs.length_le c⟩
theorem tick_valid {g : GateD} {now : Int} (hg : VGate g) (h0 : g.now ≤ now) (h1 : now ≤ 10000) : VGate (tick g now) := by
  have := hg.now0
  refine ⟨hg.net, hg.out, hg.nin, validTable_sub hg.tab List.filter_sublist, ?_, hg.fil, by simp only [tick]; omega, h1, hg.hold0, hg.hold1, fun m hm => ?_, fun c hc => ?_⟩
  · simp only [tick, foldl_without]
    exact validContacts_sub hg.con List.filter_sublist
  · simp only [tick] at hm ⊢
    obtain ⟨m1, m2⟩ := mem_expire.1 hm
    have := hg.maps m m1
    exact ⟨this.1, by omega, m2⟩
  · simp only [tick, foldl_without, List.mem_filter, Bool.not_eq_true', decide_eq_false_iff_not] at hc ⊢
    obtain ⟨k, m, b1, b2, b3, _⟩ := byPort_some (hg.cons c hc.1)
    have hm : m ∈ g.table := List.mem_of_getElem? b2
    have hne : ¬ g.hold ≤ now - m.last := fun e => hc.2 (mem_expPorts.2 ⟨m, hm, e, b3⟩)
    have := byPort_mem (mem_expire.2 ⟨hm, show now - m.last < g.hold by omega⟩)
    rw [b3] at this
    exact this
theorem tick_step {g : GateD} {mid now : Int} (h : mid ≤ now) : tick (tick g mid) now = tick g now := by
  have ht : expire (expire g.table mid g.hold) now g.hold = expire g.table now g.hold := by
    unfold expire expired
    rw [List.filter_filter]
    congr 1
    funext m
    rw [Bool.eq_iff_iff]
    simp
    omega
  have hc : ∀ p, (p ∈ expPorts g.table mid g.hold ∨ p ∈ expPorts (expire g.table mid g.hold) now g.hold) ↔ p ∈ expPorts g.table now g.hold := by
    intro p
    simp only [mem_expPorts, mem_expire]
    constructor
    · rintro (⟨m, a, b, c⟩ | ⟨m, ⟨a, _⟩, b, c⟩)
      · exact ⟨m, a, by omega, c⟩
      · exact ⟨m, a, b, c⟩
    · rintro ⟨m, a, b, c⟩
      by_cases h1 : g.hold ≤ mid - m.last
      · exact .inl ⟨m, a, h1, c⟩
      · exact .inr ⟨m, ⟨a, by omega⟩, b, c⟩
  unfold tick
  simp only [ht, foldl_without, List.filter_filter]
  congr 1
  congr 1
  funext c
  have := hc c.port
  rw [Bool.eq_iff_iff]
  simp only [Bool.and_eq_true, Bool.not_eq_true', decide_eq_false_iff_not]
  rw [← this]
  constructor
  · rintro ⟨a, b⟩ (c | c)
    · exact b c
    · exact a c
  · intro a
    exact ⟨fun b => a (.inr b), fun b => a (.inl b)⟩
theorem table_one {l : List MapD} (hl : validTable l = true) {a b : MapD} (ha : a ∈ l) (hb : b ∈ l) (h : a.ins = b.ins) : a = b := by
  obtain ⟨i, hi⟩ := List.getElem?_of_mem ha
  obtain ⟨j, hj⟩ := List.getElem?_of_mem hb
  have h1 := byEnd_of hl hi
  have h2 := byEnd_of hl hj
  rw [h] at h1
  have : i = j := by omega
  subst this
  rw [hi] at hj
  exact Option.some.inj hj
theorem table_one' {l : List MapD} (hl : validTable l = true) {a b : MapD} (ha : a ∈ l) (hb : b ∈ l) (h : a.port = b.port) : a = b := by
  obtain ⟨i, hi⟩ := List.getElem?_of_mem ha
  obtain ⟨j, hj⟩ := List.getElem?_of_mem hb
  have h1 := byPort_of hl hi
  have h2 := byPort_of hl hj
  rw [h] at h1
  have : i = j := by omega
  subst this
  rw [hi] at hj
  exact Option.some.inj hj
theorem outsidePort_mem {l : List MapD} (hl : validTable l = true) {m : MapD} (hm : m ∈ l) : outsidePort l m.ins = m.port := by
  obtain ⟨i, hi⟩ := List.getElem?_of_mem hm
  have h1 := byEnd_of hl hi
  unfold outsidePort
  rw [hl, h1, Int.toNat_natCast, nth_of hi]
  simp
theorem insideEnd_mem {l : List MapD} (hl : validTable l = true) {m : MapD} (hm : m ∈ l) : insideEnd l m.port = some m.ins := by
  obtain ⟨i, hi⟩ := List.getElem?_of_mem hm
  have h1 := byPort_of hl hi
  unfold insideEnd
  rw [hl, h1, Int.toNat_natCast, nth_of hi]
  simp
theorem outsidePort_none {l : List MapD} {e : EndD} (h : ∀ m ∈ l, m.ins ≠ e) : outsidePort l e = -1 := by
  unfold outsidePort
  rw [if_neg]
  rw [Bool.and_eq_true, decide_eq_true_eq]
  rintro ⟨_, h0⟩
  obtain ⟨k, m, _, b2, b3, _⟩ := byEnd_some h0
  exact h m (List.mem_of_getElem? b2) b3
end Go.Proofs.Ytafmomocmodbhaa
