/- Plain laws of the gate, one for each statement on sending, receiving, passing, forwarding, reports. No program in sight. No condition. -/
import Derived.Test.YtafmomocmodbhaaTick
namespace Go.Proofs.Ytafmomocmodbhaa

theorem sendOut_some {g : GateD} {p : PktD} {r : PktD × GateD} (h : sendOut g p = some r) :
    VGate g ∧ validPkt p = true ∧ has g.net p.fr.addr = true ∧ has g.net p.to_.addr = false ∧ p.to_.addr ≠ g.out ∧ send g p = some r := by
  unfold sendOut at h
  split at h
  case isTrue hc =>
    simp only [goesOut, fromIn, Bool.and_eq_true, Bool.not_eq_true', decide_eq_false_iff_not, validGate_iff] at hc
    obtain ⟨⟨⟨⟨a, b⟩, c⟩, d⟩, e⟩ := hc
    exact ⟨a, b, c, d, e, h⟩
  case isFalse => cases h
theorem sendOut_of {g : GateD} {p : PktD} (a : VGate g) (b : validPkt p = true) (c : has g.net p.fr.addr = true) (d : has g.net p.to_.addr = false) (e : p.to_.addr ≠ g.out) : sendOut g p = send g p := by
  unfold sendOut
  rw [if_pos]
  simp only [goesOut, fromIn, Bool.and_eq_true, Bool.not_eq_true', decide_eq_false_iff_not, validGate_iff]
  exact ⟨⟨⟨⟨a, b⟩, c⟩, d⟩, e⟩
theorem receiveIn_some {g : GateD} {p : PktD} {r : PktD × GateD} (h : receiveIn g p = some r) :
    VGate g ∧ validPkt p = true ∧ p.to_.addr = g.out ∧ has g.net p.fr.addr = false ∧ receive g p = some r := by
  unfold receiveIn at h
  split at h
  case isTrue hc =>
    simp only [comesIn, Bool.and_eq_true, Bool.not_eq_true', decide_eq_true_eq, validGate_iff] at hc
    obtain ⟨⟨⟨a, b⟩, c⟩, d⟩ := hc
    exact ⟨a, b, c, d, h⟩
  case isFalse => cases h
theorem receiveIn_of {g : GateD} {p : PktD} (a : VGate g) (b : validPkt p = true) (c : p.to_.addr = g.out) (d : has g.net p.fr.addr = false) : receiveIn g p = receive g p := by
  unfold receiveIn
  rw [if_pos]
  simp only [comesIn, Bool.and_eq_true, Bool.not_eq_true', decide_eq_true_eq, validGate_iff]
  exact ⟨⟨⟨a, b⟩, c⟩, d⟩
theorem receive_some {g h : GateD} {p q : PktD} (e : receive g p = some (q, h)) :
    ∃ m, m ∈ g.table ∧ m.port = p.to_.port ∧ lets g.filter g.cons p.to_.port p.fr = true ∧ q = { p with to_ := m.ins } ∧ h = g := by
  unfold receive at e
  split at e
  case isTrue hc =>
    rw [Bool.and_eq_true, decide_eq_true_eq] at hc
    obtain ⟨k, m, _, b2, b3, b4⟩ := byPort_some hc.1
    rw [b4] at e
    simp only [Option.some.injEq, Prod.mk.injEq] at e
    exact ⟨m, List.mem_of_getElem? b2, b3, hc.2, e.1.symm, e.2.symm⟩
  case isFalse => cases e
theorem receive_of {g : GateD} {p : PktD} (hg : validTable g.table = true) {m : MapD} (hm : m ∈ g.table) (hp : m.port = p.to_.port) (hl : lets g.filter g.cons p.to_.port p.fr = true) :
    receive g p = some ({ p with to_ := m.ins }, g) := by
  unfold receive
  have h0 := byPort_mem hm
  rw [hp] at h0
  rw [hl, if_pos (by simpa using h0)]
  obtain ⟨k, m', _, b2, b3, b4⟩ := byPort_some h0
  rw [b4]
  rw [table_one' hg (List.mem_of_getElem? b2) hm (b3.trans hp.symm)]
theorem passBetween_some {g : GateD} {p : PktD} {r : PktD × GateD} (h : passBetween g p = some r) :
    VGate g ∧ validPkt p = true ∧ has g.net p.fr.addr = true ∧ p.to_.addr = g.out ∧ ∃ q1 h1, send g p = some (q1, h1) ∧ receive h1 q1 = some r := by
  unfold passBetween at h
  split at h
  case isTrue hc =>
    simp only [between, fromIn, Bool.and_eq_true, decide_eq_true_eq, validGate_iff] at hc
    obtain ⟨⟨⟨a, b⟩, c⟩, d⟩ := hc
    cases hs : send g p with
    | none => rw [hs] at h; cases h
    | some x =>
      obtain ⟨q1, h1⟩ := x
      rw [hs] at h
      exact ⟨a, b, c, d, q1, h1, rfl, h⟩
  case isFalse => cases h
theorem passBetween_of {g : GateD} {p : PktD} {q1 : PktD} {h1 : GateD} (a : VGate g) (b : validPkt p = true) (c : has g.net p.fr.addr = true) (d : p.to_.addr = g.out) (e : send g p = some (q1, h1)) : passBetween g p = receive h1 q1 := by
  unfold passBetween
  rw [if_pos, e]
  simp only [between, fromIn, Bool.and_eq_true, decide_eq_true_eq, validGate_iff]
  exact ⟨⟨⟨a, b⟩, c⟩, d⟩
theorem reverse_of {p : PktD} (h : validPkt p = true) : reverse p = some { p with fr := p.to_, to_ := p.fr } := by unfold reverse; rw [if_pos h]
theorem validPkt_rev {p : PktD} (h : validPkt p = true) : validPkt { p with fr := p.to_, to_ := p.fr } = true := by
  obtain ⟨a, b, c, d, e⟩ := validPkt_iff.1 h
  exact validPkt_iff.2 ⟨a, c, b, d, e⟩
theorem validPkt_to {p : PktD} (h : validPkt p = true) {e : EndD} (he : validEnd e = true) : validPkt { p with to_ := e } = true := by
  obtain ⟨a, b, c, d, f⟩ := validPkt_iff.1 h
  exact validPkt_iff.2 ⟨a, b, he, d, f⟩
theorem validPkt_cut {p : PktD} (h : validPkt p = true) : validPkt { p with data := p.data.take 4 } = true := by
  obtain ⟨a, b, c, d, e⟩ := validPkt_iff.1 h
  refine validPkt_iff.2 ⟨a, b, c, by simp only [List.length_take]; omega, ?_⟩
  rw [List.all_eq_true] at e ⊢
  exact fun x hx => e x (List.mem_of_mem_take hx)
theorem table_end {l : List MapD} (hl : validTable l = true) {m : MapD} (hm : m ∈ l) : validEnd m.ins = true := by
  have := (validTable_iff.1 hl).1 m hm
  simp only [okMap, Bool.and_eq_true] at this
  exact this.1.1
theorem lets_mem {k : Int} {l : List ConD} {c : ConD} (h : c ∈ l) : lets k l c.port c.to_ = true := by
  unfold lets
  rw [Bool.or_eq_true, List.any_eq_true]
  exact .inr ⟨c, h, by simp⟩
/-- An end that is mapped sends by its port. -/
theorem send_known {g : GateD} {p : PktD} (hg : VGate g) {m : MapD} (hm : m ∈ g.table) (he : m.ins = p.fr) :
    ∃ t, send g p = some ({ p with fr := ⟨g.out, m.port⟩ }, { g with table := t, cons := note g.cons ⟨m.port, p.to_⟩ }) := by
  obtain ⟨i, hi⟩ := List.getElem?_of_mem hm
  have h1 := byEnd_of hg.tab hi
  rw [he] at h1
  unfold send mapEnd
  rw [if_pos (by omega), h1, Int.toNat_natCast, nth_of hi]
  exact ⟨_, rfl⟩

/-- FnSendOut -/
theorem law_send {g h : GateD} {p q : PktD} (e : sendOut g p = some (q, h)) :
    q.fr.addr = g.out ∧ outsidePort h.table p.fr = q.fr.port ∧ q.to_ = p.to_ ∧ q.kind = p.kind ∧ q.data = p.data ∧ validGate h = true := by
  obtain ⟨a, b, c, _, _, s⟩ := sendOut_some e
  have S := send_ok a b c s
  refine ⟨?_, S.mapped.out, ?_, ?_, ?_, validGate_iff.2 S.valid⟩ <;> rw [S.pkt]
/-- FnSendOutTwice -/
theorem law_sendTwice {g h : GateD} {p q : PktD} (e : sendOut g p = some (q, h)) : sendOut h p = some (q, h) := by
  obtain ⟨a, b, c, d, f, s⟩ := sendOut_some e
  have S := send_ok a b c s
  have hn : h.net = g.net := by rw [S.same]
  have ho : h.out = g.out := by rw [S.same]
  rw [sendOut_of S.valid b (by rw [hn]; exact c) (by rw [hn]; exact d) (by rw [ho]; exact f)]
  exact S.again
/-- FnSendOutEnds -/
theorem law_sendEnds {g h h' : GateD} {p q o : PktD} {x : EndD} (e : sendOut g p = some (q, h)) (hx : x ≠ p.fr) (e' : sendOut h { p with fr := x } = some (o, h')) : o.fr.port ≠ q.fr.port ∧ o.fr.addr = q.fr.addr := by
  obtain ⟨a, b, c, _, _, s⟩ := sendOut_some e
  have S := send_ok a b c s
  obtain ⟨a', b', c', _, _, s'⟩ := sendOut_some e'
  have S' := send_ok a' b' c' s'
  have ho : h.out = g.out := by rw [S.same]
  refine ⟨fun ep => ?_, ?_⟩
  · obtain ⟨k, hk⟩ := S.mapped.at_
    obtain ⟨m, hm, m1, m2⟩ := S'.mapped.all _ (List.mem_of_getElem? hk)
    obtain ⟨k', hk'⟩ := S'.mapped.at_
    have := table_one' S'.mapped.valid hm (List.mem_of_getElem? hk') (by rw [m1]; exact ep.symm)
    rw [this] at m2
    exact hx m2
  · rw [S'.pkt, S.pkt, ho]
/-- FnSendOutAnswer -/
theorem law_sendAnswer {g h : GateD} {p q : PktD} (e : sendOut g p = some (q, h)) :
    ∃ b i, reverse q = some b ∧ receiveIn h b = some (i, h) ∧ reverse i = some p := by
  obtain ⟨a, b, c, d, f, s⟩ := sendOut_some e
  have S := send_ok a b c s
  have hn : h.net = g.net := by rw [S.same]
  have ho : h.out = g.out := by rw [S.same]
  have hqf : q.fr = ⟨g.out, q.fr.port⟩ := congrArg PktD.fr S.pkt
  have hqt : q.to_ = p.to_ := by rw [S.pkt]
  obtain ⟨k, hk⟩ := S.mapped.at_
  have hv := validPkt_rev S.validq
  refine ⟨_, _, reverse_of S.validq, (receiveIn_of S.valid hv ?_ ?_).trans (receive_of S.valid.tab (List.mem_of_getElem? hk) rfl ?_), ?_⟩
  · show q.fr.addr = h.out
    rw [hqf, ho]
  · show has h.net q.to_.addr = false
    rw [hn, hqt]; exact d
  · show lets h.filter h.cons q.fr.port q.to_ = true
    refine lets_mem (c := ⟨q.fr.port, q.to_⟩) ?_
    rw [S.cons, hqt]
    exact note_mem _ _
  · rw [reverse_of (validPkt_to hv (validPkt_iff.1 b).2.1)]
    simp only [Option.some.injEq]
    rw [S.pkt]
/-- FnSendOutContact -/
theorem law_sendContact {g h : GateD} {p q : PktD} (e : sendOut g p = some (q, h)) : 0 < h.cons.length ∧ nth h.cons (h.cons.length - 1) = ⟨q.fr.port, p.to_⟩ ∧ h.cons.length ≤ 10 := by
  obtain ⟨a, b, c, _, _, s⟩ := sendOut_some e
  have S := send_ok a b c s
  rw [S.cons]
  exact ⟨(note_len _ _).1, note_last _ _, (note_len _ _).2⟩
/-- FnSendOutFull -/
theorem law_sendFull {g : GateD} {p : PktD} (hw : wayOf g p = 1) : (sendOut g p).isSome = (decide (0 ≤ outsidePort g.table p.fr) || decide (g.table.length < 8)) := by
  unfold wayOf at hw
  split at hw
  case isFalse => cases hw
  case isTrue hv =>
    rw [Bool.and_eq_true, validGate_iff] at hv
    obtain ⟨a, b⟩ := hv
    unfold way at hw
    split at hw
    · cases hw
    case isFalse h1 =>
      split at hw
      case isFalse => split at hw <;> cases hw
      case isTrue h2 =>
        simp only [Bool.and_eq_true, Bool.not_eq_true', decide_eq_true_eq, not_and] at h1 h2
        rw [sendOut_of a b h2.1 h2.2 (h1 h2.1)]
        have hn := send_none (p := p) a
        have hout : 0 ≤ outsidePort g.table p.fr ↔ 0 ≤ byEnd g.table p.fr := by
          constructor
          · intro h
            unfold outsidePort at h
            split at h
            case isTrue hc => rw [Bool.and_eq_true, decide_eq_true_eq] at hc; exact hc.2
            case isFalse => omega
          · intro h
            obtain ⟨k, m, _, b2, b3, _⟩ := byEnd_some h
            have hm : m ∈ g.table := List.mem_of_getElem? b2
            rw [← b3, outsidePort_mem a.tab hm]
            have := (validTable_iff.1 a.tab).1 m hm
            simp only [okMap, Bool.and_eq_true, inR_iff] at this
            omega
        cases hs : send g p with
        | none =>
          have := hn.1 hs
          simp [hout, this.1, this.2]
        | some r =>
          rw [hs] at hn
          have : 0 ≤ byEnd g.table p.fr ∨ g.table.length < 8 := by
            apply Classical.byContradiction
            intro hc
            rw [not_or] at hc
            exact absurd (hn.2 hc) (by simp)
          rcases this with h | h
          · simp [hout, h]
          · simp [h]
/-- FnSendOutTick -/
theorem law_sendTick {g h : GateD} {p q : PktD} (e : sendOut g p = some (q, h)) (hh : g.now + g.hold ≤ 10000) :
    tickGate h (g.now + g.hold - 1) = some (tick h (g.now + g.hold - 1)) ∧ tickGate h (g.now + g.hold) = some (tick h (g.now + g.hold)) ∧
      outsidePort (tick h (g.now + g.hold - 1)).table p.fr = q.fr.port ∧ outsidePort (tick h (g.now + g.hold)).table p.fr = -1 := by
  obtain ⟨a, b, c, _, _, s⟩ := sendOut_some e
  have S := send_ok a b c s
  have hn : h.now = g.now := by rw [S.same]
  have hd : h.hold = g.hold := by rw [S.same]
  have := a.hold0
  have := a.hold1
  have hv := validGate_iff.2 S.valid
  obtain ⟨k, hk⟩ := S.mapped.at_
  have hm := List.mem_of_getElem? hk
  refine ⟨?_, ?_, ?_, ?_⟩
  · unfold tickGate; rw [hv, inR_t (by omega) (by omega)]; rfl
  · unfold tickGate; rw [hv, inR_t (by omega) (by omega)]; rfl
  · have h1 : (⟨p.fr, q.fr.port, g.now⟩ : MapD) ∈ (tick h (g.now + g.hold - 1)).table := by
      simp only [tick]
      exact mem_expire.2 ⟨hm, by simp only [hd]; omega⟩
    exact outsidePort_mem (tick_valid S.valid (by omega) (by omega)).tab h1
  · refine outsidePort_none fun m hm' he => ?_
    simp only [tick] at hm'
    obtain ⟨m1, m2⟩ := mem_expire.1 hm'
    have := table_one S.mapped.valid m1 hm he
    rw [this] at m2
    simp only [hd] at m2
    omega
/-- FnReceiveIn -/
theorem law_receive {g h : GateD} {p q : PktD} (e : receiveIn g p = some (q, h)) :
    insideEnd g.table p.to_.port = some q.to_ ∧ q.fr = p.fr ∧ q.kind = p.kind ∧ q.data = p.data ∧ h = g ∧ validNet g.net = true ∧ word q.to_.addr = true ∧ has g.net q.to_.addr = true := by
  obtain ⟨a, b, c, d, r⟩ := receiveIn_some e
  obtain ⟨m, m1, m2, m3, rfl, rfl⟩ := receive_some r
  have h1 := table_end a.tab m1
  simp only [validEnd, Bool.and_eq_true] at h1
  exact ⟨by rw [← m2]; exact insideEnd_mem a.tab m1, rfl, rfl, rfl, rfl, a.net, h1.1, (a.maps m m1).1⟩
/-- FnReceiveInAnswer -/
theorem law_receiveAnswer {g h : GateD} {p q : PktD} (e : receiveIn g p = some (q, h)) (hne : p.fr.addr ≠ g.out) :
    ∃ b o k, reverse q = some b ∧ sendOut h b = some (o, k) ∧ o.fr = p.to_ ∧ o.to_ = p.fr := by
  obtain ⟨a, b, c, d, r⟩ := receiveIn_some e
  obtain ⟨m, m1, m2, m3, rfl, rfl⟩ := receive_some r
  have hv := validPkt_to b (table_end a.tab m1)
  obtain ⟨t, ht⟩ := send_known (p := { p with fr := m.ins, to_ := p.fr }) a m1 rfl
  refine ⟨_, _, _, reverse_of hv, (sendOut_of a (validPkt_rev hv) (a.maps m m1).1 d hne).trans ht, ?_, rfl⟩
  show (⟨h.out, m.port⟩ : EndD) = p.to_
  rw [m2, ← c]
/-- FnReceiveInFilter -/
theorem law_receiveFilter {g h : GateD} {p q : PktD} (e : receiveIn g p = some (q, h)) :
    receiveIn { g with filter := 0 } p = some (q, { g with filter := 0 }) ∧ letsIn g.filter g.cons p.to_.port p.fr = true := by
  obtain ⟨a, b, c, d, r⟩ := receiveIn_some e
  obtain ⟨m, m1, m2, m3, rfl, rfl⟩ := receive_some r
  have a' : VGate { h with filter := 0 } := ⟨a.net, a.out, a.nin, a.tab, a.con, rfl, a.now0, a.now1, a.hold0, a.hold1, a.maps, a.cons⟩
  refine ⟨(receiveIn_of a' b c d).trans (receive_of a'.tab m1 m2 (by simp [lets])), ?_⟩
  unfold letsIn
  rw [a.fil, a.con, m3]; rfl
/-- FnReceiveInNone -/
theorem law_receiveNone {g : GateD} {p : PktD} (hw : wayOf g p = 2) :
    (receiveIn g p).isSome = ((insideEnd g.table p.to_.port).isSome && letsIn g.filter g.cons p.to_.port p.fr) := by
  unfold wayOf at hw
  split at hw
  case isFalse => cases hw
  case isTrue hv =>
    rw [Bool.and_eq_true, validGate_iff] at hv
    obtain ⟨a, b⟩ := hv
    unfold way at hw
    split at hw
    · cases hw
    · split at hw
      · cases hw
      · split at hw
        case isFalse => cases hw
        case isTrue h3 =>
          simp only [Bool.and_eq_true, Bool.not_eq_true', decide_eq_true_eq] at h3
          rw [receiveIn_of a b h3.2 h3.1]
          unfold receive insideEnd letsIn
          rw [a.tab, a.fil, a.con]
          by_cases h4 : 0 ≤ byPort g.table p.to_.port
          · cases h5 : lets g.filter g.cons p.to_.port p.fr <;> simp [h4]
          · simp [h4]
/-- FnPassBetween, FnPassBetweenSend -/
theorem law_pass {g h : GateD} {p q : PktD} (e : passBetween g p = some (q, h)) :
    insideEnd h.table p.to_.port = some q.to_ ∧ q.fr = ⟨g.out, outsidePort h.table p.fr⟩ ∧ q.data = p.data ∧ q.kind = p.kind ∧ validGate h = true ∧ validPkt q = true ∧ h.table.length ≤ g.table.length + 1 ∧ wayOf g p = 3 := by
  obtain ⟨a, b, c, d, q1, h1, s, r⟩ := passBetween_some e
  have S := send_ok a b c s
  obtain ⟨m, m1, m2, m3, rfl, rfl⟩ := receive_some r
  have e1 : q1.to_ = p.to_ := by rw [S.pkt]
  have e2 : q1.fr = ⟨g.out, q1.fr.port⟩ := congrArg PktD.fr S.pkt
  refine ⟨?_, ?_, ?_, ?_, validGate_iff.2 S.valid, validPkt_to S.validq (table_end S.valid.tab m1), S.mapped.len1, ?_⟩
  · rw [← e1, ← m2]; exact insideEnd_mem S.valid.tab m1
  · rw [S.mapped.out]; exact e2
  · show q1.data = p.data
    rw [S.pkt]
  · show q1.kind = p.kind
    rw [S.pkt]
  · unfold wayOf way
    rw [validGate_iff.2 a, b, c]
    simp [d]
/-- FnPassBetweenBack -/
theorem law_passBack {g h : GateD} {p q : PktD} (e : passBetween g p = some (q, h)) :
    ∃ b o k, reverse q = some b ∧ passBetween { h with filter := 0 } b = some (o, k) ∧ o.fr = p.to_ ∧ o.to_ = p.fr := by
  obtain ⟨a, b, c, d, q1, h1, s, r⟩ := passBetween_some e
  have S := send_ok a b c s
  obtain ⟨m, m1, m2, m3, rfl, rfl⟩ := receive_some r
  have e1 : q1.to_ = p.to_ := by rw [S.pkt]
  have e2 : q1.fr = ⟨g.out, q1.fr.port⟩ := congrArg PktD.fr S.pkt
  have ho : h.out = g.out := by rw [S.same]
  have hn : h.net = g.net := by rw [S.same]
  have a' : VGate { h with filter := 0 } := ⟨S.valid.net, S.valid.out, S.valid.nin, S.valid.tab, S.valid.con, rfl, S.valid.now0, S.valid.now1, S.valid.hold0, S.valid.hold1, S.valid.maps, S.valid.cons⟩
  have hv := validPkt_to S.validq (table_end S.valid.tab m1)
  obtain ⟨t, ht⟩ := send_known (g := { h with filter := 0 }) (p := { q1 with fr := m.ins, to_ := q1.fr }) a' m1 rfl
  have S' := send_ok a' (validPkt_rev hv) (S.valid.maps m m1).1 ht
  obtain ⟨k, hk⟩ := S.mapped.at_
  obtain ⟨m', n1, n2, n3⟩ := S'.mapped.all _ (List.mem_of_getElem? hk)
  refine ⟨_, _, _, reverse_of hv, (passBetween_of a' (validPkt_rev hv) (S.valid.maps m m1).1 (by show q1.fr.addr = h.out; rw [e2, ho]) ht).trans (receive_of S'.valid.tab n1 n2 ?_), ?_, n3⟩
  · simp [lets]
  · show (⟨h.out, m.port⟩ : EndD) = p.to_
    rw [m2, e1, ho, ← d]
/-- FnForwardTwice -/
theorem law_forwardTwice {g h : GateD} {p q : PktD} (e : forward g p = some (q, h)) : forward h p = some (q, h) := by
  unfold forward at e
  have way_same : ∀ {h : GateD}, VGate h → VGate g → h.net = g.net → h.out = g.out → wayOf h p = wayOf g p := by
    intro h a b c d
    unfold wayOf way
    rw [validGate_iff.2 a, validGate_iff.2 b, c, d]
  split at e
  case isTrue h1 =>
    have hv : (validGate g && validPkt p) = true := by
      unfold wayOf at h1
      split at h1
      · assumption
      · cases h1
    rw [Bool.and_eq_true, validGate_iff] at hv
    have hin : has g.net p.fr.addr = true := by
      unfold wayOf way at h1
      rw [validGate_iff.2 hv.1, hv.2] at h1
      cases hc : has g.net p.fr.addr with
      | true => rfl
      | false => rw [hc] at h1; simp at h1; split at h1 <;> cases h1
    have S := send_ok hv.1 hv.2 hin e
    unfold forward
    rw [way_same S.valid hv.1 (by rw [S.same]) (by rw [S.same]), if_pos h1]
    exact S.again
  case isFalse h1 =>
    split at e
    case isTrue h2 =>
      obtain ⟨m, m1, m2, m3, rfl, rfl⟩ := receive_some e
      unfold forward
      rw [if_neg h1, if_pos h2]
      exact e
    case isFalse h2 =>
      split at e
      case isTrue h3 =>
        obtain ⟨a, b, c, d, q1, h1', s, r⟩ := passBetween_some e
        have S := send_ok a b c s
        obtain ⟨m, m1, m2, m3, rfl, rfl⟩ := receive_some r
        unfold forward
        have hw := way_same S.valid a (by rw [S.same]) (by rw [S.same])
        rw [hw, if_neg h1, if_neg h2, if_pos h3]
        rw [passBetween_of S.valid b (by rw [show h.net = g.net by rw [S.same]]; exact c) (by rw [show h.out = g.out by rw [S.same]]; exact d) S.again]
        exact r
      case isFalse => cases e
/-- The three ways of a packet. -/
theorem wayOf_one {g : GateD} {p : PktD} (h : wayOf g p = 1) : VGate g ∧ validPkt p = true ∧ has g.net p.fr.addr = true ∧ has g.net p.to_.addr = false ∧ p.to_.addr ≠ g.out := by
  unfold wayOf at h
  split at h
  case isFalse => cases h
  case isTrue hv =>
    rw [Bool.and_eq_true, validGate_iff] at hv
    unfold way at h
    split at h
    · cases h
    case isFalse h1 =>
      split at h
      case isFalse => split at h <;> cases h
      case isTrue h2 =>
        simp only [Bool.and_eq_true, Bool.not_eq_true', decide_eq_true_eq, not_and] at h1 h2
        exact ⟨hv.1, hv.2, h2.1, h2.2, h1 h2.1⟩
theorem wayOf_two {g : GateD} {p : PktD} (h : wayOf g p = 2) : VGate g ∧ validPkt p = true ∧ p.to_.addr = g.out ∧ has g.net p.fr.addr = false := by
  unfold wayOf at h
  split at h
  case isFalse => cases h
  case isTrue hv =>
    rw [Bool.and_eq_true, validGate_iff] at hv
    unfold way at h
    split at h
    · cases h
    · split at h
      · cases h
      · split at h
        case isFalse => cases h
        case isTrue h3 =>
          simp only [Bool.and_eq_true, Bool.not_eq_true', decide_eq_true_eq] at h3
          exact ⟨hv.1, hv.2, h3.2, h3.1⟩
/-- Forward is what its way's function does (FnForward). -/
theorem forward_one {g : GateD} {p : PktD} (h : wayOf g p = 1) : forward g p = sendOut g p := by
  obtain ⟨a, b, c, d, e⟩ := wayOf_one h
  unfold forward
  rw [if_pos h, sendOut_of a b c d e]
theorem forward_two {g : GateD} {p : PktD} (h : wayOf g p = 2) : forward g p = receiveIn g p := by
  obtain ⟨a, b, c, d⟩ := wayOf_two h
  unfold forward
  rw [if_neg (by omega), if_pos h, receiveIn_of a b c d]
theorem forward_three {g : GateD} {p : PktD} (h : wayOf g p = 3) : forward g p = passBetween g p := by
  unfold forward
  rw [if_neg (by omega), if_neg (by omega), if_pos h]
theorem forward_way {g : GateD} {p : PktD} {r : PktD × GateD} (h : forward g p = some r) : wayOf g p = 1 ∨ wayOf g p = 2 ∨ wayOf g p = 3 := by
  unfold forward at h
  split at h
  · exact .inl (by assumption)
  · split at h
    · exact .inr (.inl (by assumption))
    · split at h
      · exact .inr (.inr (by assumption))
      · cases h
/-- FnForwardValid -/
theorem law_forwardValid {g h : GateD} {p q : PktD} (e : forward g p = some (q, h)) :
    validGate h = true ∧ validPkt q = true ∧ q.data = p.data ∧ q.kind = p.kind ∧ has g.net q.fr.addr = false := by
  rcases forward_way e with hw | hw | hw
  · rw [forward_one hw] at e
    obtain ⟨a, b, c, d, f, s⟩ := sendOut_some e
    have S := send_ok a b c s
    have e2 : q.fr = ⟨g.out, q.fr.port⟩ := congrArg PktD.fr S.pkt
    refine ⟨validGate_iff.2 S.valid, S.validq, ?_, ?_, ?_⟩
    · rw [S.pkt]
    · rw [S.pkt]
    · rw [e2]; exact a.nin
  · rw [forward_two hw] at e
    obtain ⟨a, b, c, d, r⟩ := receiveIn_some e
    obtain ⟨m, m1, m2, m3, rfl, rfl⟩ := receive_some r
    exact ⟨validGate_iff.2 a, validPkt_to b (table_end a.tab m1), rfl, rfl, d⟩
  · rw [forward_three hw] at e
    have hp := law_pass e
    obtain ⟨a, _⟩ := passBetween_some e
    refine ⟨hp.2.2.2.2.1, hp.2.2.2.2.2.1, hp.2.2.1, hp.2.2.2.1, ?_⟩
    rw [hp.2.1]; exact a.nin
/-- FnReportIn, FnReportInNone -/
theorem reportIn_some {g : GateD} {e o : RepD} (h : reportIn g e = some o) :
    VGate g ∧ validRep e = true ∧ e.to_ = g.out ∧ e.about.fr.addr = g.out ∧ has g.net e.sender = false ∧ ∃ m, m ∈ g.table ∧ m.port = e.about.fr.port ∧ o = { e with to_ := m.ins.addr, about := { e.about with fr := m.ins } } := by
  unfold reportIn at h
  split at h
  case isFalse => cases h
  case isTrue hc =>
    simp only [Bool.and_eq_true, Bool.not_eq_true', decide_eq_true_eq, validGate_iff] at hc
    obtain ⟨⟨⟨⟨⟨a, b⟩, c⟩, d⟩, f⟩, k⟩ := hc
    obtain ⟨i, m, _, b2, b3, b4⟩ := byPort_some k
    rw [b4] at h
    exact ⟨a, b, c, d, f, m, List.mem_of_getElem? b2, b3, (Option.some.inj h).symm⟩
theorem reportIn_of {g : GateD} {e : RepD} {m : MapD} (a : VGate g) (b : validRep e = true) (c : e.to_ = g.out) (d : e.about.fr.addr = g.out) (f : has g.net e.sender = false) (hm : m ∈ g.table) (hp : m.port = e.about.fr.port) :
    reportIn g e = some { e with to_ := m.ins.addr, about := { e.about with fr := m.ins } } := by
  have h0 := byPort_mem hm
  rw [hp] at h0
  obtain ⟨k, m', _, b2, b3, b4⟩ := byPort_some h0
  have := table_one' a.tab (List.mem_of_getElem? b2) hm (b3.trans hp.symm)
  subst this
  unfold reportIn
  rw [if_pos, b4]
  simp only [Bool.and_eq_true, Bool.not_eq_true', decide_eq_true_eq, validGate_iff]
  exact ⟨⟨⟨⟨⟨a, b⟩, c⟩, d⟩, f⟩, h0⟩
theorem reportOut_some {g : GateD} {e o : RepD} (h : reportOut g e = some o) :
    VGate g ∧ validRep e = true ∧ has g.net e.sender = true ∧ has g.net e.to_ = false ∧ e.to_ ≠ g.out ∧ ∃ m, m ∈ g.table ∧ m.ins = e.about.to_ ∧ o = { e with sender := g.out, about := { e.about with to_ := ⟨g.out, m.port⟩ } } := by
  unfold reportOut at h
  split at h
  case isFalse => cases h
  case isTrue hc =>
    simp only [Bool.and_eq_true, Bool.not_eq_true', decide_eq_true_eq, decide_eq_false_iff_not, validGate_iff] at hc
    obtain ⟨⟨⟨⟨⟨a, b⟩, c⟩, d⟩, f⟩, k⟩ := hc
    obtain ⟨i, m, _, b2, b3, b4⟩ := byEnd_some k
    rw [b4] at h
    exact ⟨a, b, c, d, f, m, List.mem_of_getElem? b2, b3, (Option.some.inj h).symm⟩
theorem reportOut_of {g : GateD} {e : RepD} {m : MapD} (a : VGate g) (b : validRep e = true) (c : has g.net e.sender = true) (d : has g.net e.to_ = false) (f : e.to_ ≠ g.out) (hm : m ∈ g.table) (hp : m.ins = e.about.to_) :
    reportOut g e = some { e with sender := g.out, about := { e.about with to_ := ⟨g.out, m.port⟩ } } := by
  have h0 := byEnd_mem hm
  rw [hp] at h0
  obtain ⟨k, m', _, b2, b3, b4⟩ := byEnd_some h0
  have := table_one a.tab (List.mem_of_getElem? b2) hm (b3.trans hp.symm)
  subst this
  unfold reportOut
  rw [if_pos, b4]
  simp only [Bool.and_eq_true, Bool.not_eq_true', decide_eq_true_eq, decide_eq_false_iff_not, validGate_iff]
  exact ⟨⟨⟨⟨⟨a, b⟩, c⟩, d⟩, f⟩, h0⟩
theorem validRep_iff {e : RepD} : validRep e = true ↔ inR e.code 0 15 = true ∧ word e.sender = true ∧ word e.to_ = true ∧ validPkt e.about = true := by
  simp only [validRep, Bool.and_eq_true]
  constructor
  · rintro ⟨⟨⟨a, b⟩, c⟩, d⟩; exact ⟨a, b, c, d⟩
  · rintro ⟨a, b, c, d⟩; exact ⟨⟨⟨a, b⟩, c⟩, d⟩
theorem law_reportIn {g : GateD} {e o : RepD} (h : reportIn g e = some o) :
    insideEnd g.table e.about.fr.port = some o.about.fr ∧ o.to_ = o.about.fr.addr ∧ o.code = e.code ∧ o.sender = e.sender ∧ o.about.to_ = e.about.to_ ∧ o.about.data = e.about.data ∧
      validNet g.net = true ∧ word o.to_ = true ∧ has g.net o.to_ = true ∧ validRep o = true := by
  obtain ⟨a, b, c, d, f, m, m1, m2, rfl⟩ := reportIn_some h
  have he := table_end a.tab m1
  have he' := he
  simp only [validEnd, Bool.and_eq_true] at he'
  obtain ⟨r1, r2, r3, r4⟩ := validRep_iff.1 b
  obtain ⟨p1, p2, p3, p4, p5⟩ := validPkt_iff.1 r4
  exact ⟨by rw [← m2]; exact insideEnd_mem a.tab m1, rfl, rfl, rfl, rfl, rfl, a.net, he'.1, (a.maps m m1).1, validRep_iff.2 ⟨r1, r2, he'.1, validPkt_iff.2 ⟨p1, he, p3, p4, p5⟩⟩⟩
/-- FnReportOut, FnReportOutNone -/
theorem law_reportOut {g : GateD} {e o : RepD} (h : reportOut g e = some o) :
    o.sender = g.out ∧ o.about.to_ = ⟨g.out, outsidePort g.table e.about.to_⟩ ∧ o.to_ = e.to_ ∧ o.about.fr = e.about.fr ∧ o.about.data = e.about.data ∧ has g.net o.sender = false ∧ has g.net o.about.to_.addr = false ∧ validRep o = true := by
  obtain ⟨a, b, c, d, f, m, m1, m2, rfl⟩ := reportOut_some h
  obtain ⟨r1, r2, r3, r4⟩ := validRep_iff.1 b
  obtain ⟨p1, p2, p3, p4, p5⟩ := validPkt_iff.1 r4
  have hok := (validTable_iff.1 a.tab).1 m m1
  simp only [okMap, Bool.and_eq_true, inR_iff] at hok
  refine ⟨rfl, by rw [← m2, outsidePort_mem a.tab m1], rfl, rfl, rfl, a.nin, a.nin, validRep_iff.2 ⟨r1, a.out, r3, validPkt_iff.2 ⟨p1, p2, ?_, p4, p5⟩⟩⟩
  simp only [validEnd, Bool.and_eq_true]
  exact ⟨a.out, word_port hok.1.2.1 hok.1.2.2⟩
/-- FnReportInSend -/
theorem law_reportInSend {g h : GateD} {p q : PktD} (e : sendOut g p = some (q, h)) :
    ∃ f d, reportOf 3 p.to_.addr q = some f ∧ reportIn h f = some d ∧ reportOf 3 p.to_.addr p = some d := by
  obtain ⟨a, b, c, d, f, s⟩ := sendOut_some e
  have S := send_ok a b c s
  have hn : h.net = g.net := by rw [S.same]
  have ho : h.out = g.out := by rw [S.same]
  have e2 : q.fr = ⟨g.out, q.fr.port⟩ := congrArg PktD.fr S.pkt
  obtain ⟨p1, p2, p3, p4, p5⟩ := validPkt_iff.1 b
  have w1 : word p.to_.addr = true := by simp only [validEnd, Bool.and_eq_true] at p3; exact p3.1
  obtain ⟨k, hk⟩ := S.mapped.at_
  have hv : validRep ⟨3, p.to_.addr, q.fr.addr, { q with data := q.data.take 4 }⟩ = true :=
    validRep_iff.2 ⟨rfl, w1, by rw [e2]; exact a.out, validPkt_cut S.validq⟩
  refine ⟨⟨3, p.to_.addr, q.fr.addr, { q with data := q.data.take 4 }⟩, _, ?_, reportIn_of (m := ⟨p.fr, q.fr.port, g.now⟩) S.valid hv ?_ ?_ ?_ (List.mem_of_getElem? hk) rfl, ?_⟩
  · unfold reportOf; rw [w1, S.validq]; rfl
  · show q.fr.addr = h.out
    rw [e2, ho]
  · show q.fr.addr = h.out
    rw [e2, ho]
  · show has h.net p.to_.addr = false
    rw [hn]; exact d
  · unfold reportOf
    rw [w1, b]
    simp only [Bool.and_true]
    rw [if_pos (show inR 3 0 15 = true from rfl), S.pkt]
/-- FnReportOutReceive -/
theorem law_reportOutReceive {g h : GateD} {p q : PktD} (e : receiveIn g p = some (q, h)) (hne : p.fr.addr ≠ g.out) :
    ∃ f d, reportOf 3 q.to_.addr q = some f ∧ reportOut h f = some d ∧ reportOf 3 g.out p = some d := by
  obtain ⟨a, b, c, d, r⟩ := receiveIn_some e
  obtain ⟨m, m1, m2, m3, rfl, rfl⟩ := receive_some r
  have he := table_end a.tab m1
  have hv := validPkt_to b he
  have he' := he
  simp only [validEnd, Bool.and_eq_true] at he'
  obtain ⟨p1, p2, p3, p4, p5⟩ := validPkt_iff.1 b
  have w2 : word p.fr.addr = true := by simp only [validEnd, Bool.and_eq_true] at p2; exact p2.1
  have hr : validRep ⟨3, m.ins.addr, p.fr.addr, { p with to_ := m.ins, data := p.data.take 4 }⟩ = true := validRep_iff.2 ⟨rfl, he'.1, w2, validPkt_cut hv⟩
  refine ⟨⟨3, m.ins.addr, p.fr.addr, { p with to_ := m.ins, data := p.data.take 4 }⟩, _, ?_, reportOut_of (m := m) a hr (a.maps m m1).1 d hne m1 rfl, ?_⟩
  · unfold reportOf; rw [he'.1, hv]; rfl
  · unfold reportOf
    rw [a.out, b]
    simp only [Bool.and_true]
    rw [if_pos (show inR 3 0 15 = true from rfl), m2, ← c]
end Go.Proofs.Ytafmomocmodbhaa
