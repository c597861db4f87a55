/- The plain functions of the gate, on lists and integers: what the program's functions compute. No program in sight. No condition. -/
import Derived.Below
namespace Go.Proofs.Ytafmomocmodbhaa

structure EndD where
  addr : Int
  port : Int
  deriving DecidableEq, Inhabited
structure NetD where
  base : Int
  bits : Int
  deriving DecidableEq, Inhabited
structure MapD where
  ins : EndD
  port : Int
  last : Int
  deriving DecidableEq, Inhabited
structure ConD where
  port : Int
  to_ : EndD
  deriving DecidableEq, Inhabited
structure PktD where
  kind : Int
  fr : EndD
  to_ : EndD
  data : List Int
  deriving DecidableEq, Inhabited
structure GateD where
  net : NetD
  out : Int
  table : List MapD
  cons : List ConD
  filter : Int
  hold : Int
  now : Int
  deriving DecidableEq, Inhabited
structure RepD where
  code : Int
  sender : Int
  to_ : Int
  about : PktD
  deriving DecidableEq, Inhabited
structure PlanD where
  net : NetD
  first : Int
  size : Int
  deriving DecidableEq, Inhabited

def inR (n lo hi : Int) : Bool := decide (lo ≤ n) && decide (n ≤ hi)
theorem inR_iff {n lo hi : Int} : inR n lo hi = true ↔ lo ≤ n ∧ n ≤ hi := by simp [inR]
theorem inR_t {n lo hi : Int} (h1 : lo ≤ n) (h2 : n ≤ hi) : inR n lo hi = true := inR_iff.2 ⟨h1, h2⟩
theorem inR_f {n lo hi : Int} (h : n < lo ∨ hi < n) : inR n lo hi = false := by
  rw [Bool.eq_false_iff]; intro h'; rw [inR_iff] at h'; omega
def word (n : Int) : Bool := inR n 0 65535
theorem word_iff {n : Int} : word n = true ↔ 0 ≤ n ∧ n ≤ 65535 := inR_iff
def netSize (bits : Int) : Int := ((2 ^ (16 - bits).toNat : Nat) : Int)
theorem netSize_pos (bits : Int) : 1 ≤ netSize bits := by
  unfold netSize
  have : 0 < 2 ^ (16 - bits).toNat := Nat.pow_pos (by omega)
  omega
theorem netSize_le {bits : Int} (h : 0 ≤ bits) : netSize bits ≤ 65536 := by
  unfold netSize
  have : 2 ^ (16 - bits).toNat ≤ 2 ^ 16 := Nat.pow_le_pow_right (by omega) (by omega)
  omega
def validNet (n : NetD) : Bool := inR n.bits 0 16 && word n.base && decide (n.base % netSize n.bits = 0)
theorem validNet_bd {n : NetD} (h : validNet n = true) : 0 ≤ n.bits ∧ n.bits ≤ 16 ∧ 0 ≤ n.base ∧ n.base ≤ 65535 := by
  simp only [validNet, Bool.and_eq_true, inR_iff, word_iff] at h
  omega
def has (n : NetD) (a : Int) : Bool := inR a n.base (n.base + netSize n.bits - 1)
def validEnd (e : EndD) : Bool := word e.addr && word e.port
def validPkt (p : PktD) : Bool := inR p.kind 0 2 && validEnd p.fr && validEnd p.to_ && decide (p.data.length ≤ 12) && p.data.all word

/-- The place of the first element with p, or -1. -/
def ixFrom {α : Type} (p : α → Bool) : Nat → List α → Int
  | _, [] => -1
  | i, x :: l => if p x then (i : Int) else ixFrom p (i + 1) l
def ix {α : Type} (p : α → Bool) (l : List α) : Int := ixFrom p 0 l
theorem ixFrom_none {α : Type} {p : α → Bool} : ∀ (l : List α) (i : Nat), (∀ x ∈ l, p x = false) → ixFrom p i l = -1
  | [], _, _ => rfl
  | x :: l, i, h => by rw [ixFrom, h x (by simp), if_neg (by simp)]; exact ixFrom_none l _ fun y hy => h y (by simp [hy])
theorem ix_none {α : Type} {p : α → Bool} {l : List α} (h : ∀ x ∈ l, p x = false) : ix p l = -1 := ixFrom_none l 0 h
theorem ixFrom_some {α : Type} {p : α → Bool} : ∀ (l : List α) (i k : Nat) (x : α), (∀ y ∈ l.take k, p y = false) → l[k]? = some x → p x = true → ixFrom p i l = ((i + k : Nat) : Int)
  | [], _, _, _, _, h, _ => by simp at h
  | y :: l, i, 0, x, _, h, hp => by
    simp only [List.getElem?_cons_zero, Option.some.injEq] at h
    subst h
    rw [ixFrom, if_pos hp]; rfl
  | y :: l, i, k + 1, x, h0, h, hp => by
    rw [ixFrom, h0 y (by simp), if_neg (by simp), ixFrom_some l (i + 1) k x (fun z hz => h0 z (by simp [hz])) (by simpa using h) hp]
    congr 1; omega
theorem ix_some {α : Type} {p : α → Bool} {l : List α} {k : Nat} {x : α} (h0 : ∀ y ∈ l.take k, p y = false) (h : l[k]? = some x) (hp : p x = true) : ix p l = (k : Int) := by
  have := ixFrom_some l 0 k x h0 h hp
  simpa [ix] using this
/-- What ix says: -1 and none has p, or a place whose element has p, and none before it has. -/
theorem ix_cases {α : Type} (p : α → Bool) (l : List α) : (ix p l = -1 ∧ ∀ x ∈ l, p x = false) ∨
    ∃ k x, ix p l = ((k : Nat) : Int) ∧ l[k]? = some x ∧ p x = true ∧ ∀ y ∈ l.take k, p y = false := by
  induction l with
  | nil => exact .inl ⟨rfl, by simp⟩
  | cons y l ih =>
    cases hy : p y with
    | true => exact .inr ⟨0, y, ix_some (k := 0) (by simp) (by simp) hy, by simp, hy, by simp⟩
    | false =>
      rcases ih with ⟨_, h2⟩ | ⟨k, x, _, h2, h3, h4⟩
      · have h : ∀ x ∈ y :: l, p x = false := by
          intro x hx
          rcases List.mem_cons.1 hx with rfl | hx
          · exact hy
          · exact h2 x hx
        exact .inl ⟨ix_none h, h⟩
      · have h : ∀ z ∈ (y :: l).take (k + 1), p z = false := by
          intro z hz
          rw [List.take_succ_cons] at hz
          rcases List.mem_cons.1 hz with rfl | hz
          · exact hy
          · exact h4 z hz
        exact .inr ⟨k + 1, x, ix_some (k := k + 1) h (by simpa using h2) h3, by simpa using h2, h3, h⟩
theorem ix_ge {α : Type} (p : α → Bool) (l : List α) : -1 ≤ ix p l := by
  rcases ix_cases p l with ⟨h, _⟩ | ⟨k, x, h, _⟩ <;> omega
theorem ix_lt {α : Type} (p : α → Bool) (l : List α) : ix p l < l.length := by
  rcases ix_cases p l with ⟨h, _⟩ | ⟨k, x, h, h2, _⟩
  · omega
  · have := (List.getElem?_eq_some_iff.1 h2).1
    omega

/-- All of 0 .. n-1. -/
def upTo (f : Nat → Bool) : Nat → Bool
  | 0 => true
  | n + 1 => upTo f n && f n
theorem upTo_iff {f : Nat → Bool} : ∀ {n : Nat}, upTo f n = true ↔ ∀ i, i < n → f i = true
  | 0 => by simp [upTo]
  | n + 1 => by
    rw [upTo, Bool.and_eq_true, upTo_iff]
    constructor
    · rintro ⟨h1, h2⟩ i hi
      rcases Nat.lt_or_ge i n with h | h
      · exact h1 i h
      · have : i = n := by omega
        rw [this]; exact h2
    · intro h
      exact ⟨fun i hi => h i (by omega), h n (by omega)⟩
theorem upTo_f {f : Nat → Bool} {n k : Nat} (hk : k < n) (h : f k = false) : upTo f n = false := by
  rw [Bool.eq_false_iff]; intro h'; rw [upTo_iff.1 h' k hk] at h; cases h
/-- Element i. -/
def nth {α : Type} [Inhabited α] (l : List α) (i : Nat) : α := l.getD i default
theorem nth_some {α : Type} [Inhabited α] {l : List α} {i : Nat} (h : i < l.length) : l[i]? = some (nth l i) := by
  rw [nth, List.getD_eq_getElem?_getD, List.getElem?_eq_getElem h]; rfl
theorem nth_mem {α : Type} [Inhabited α] {l : List α} {i : Nat} (h : i < l.length) : nth l i ∈ l := List.mem_of_getElem? (nth_some h)
theorem nth_of {α : Type} [Inhabited α] {l : List α} {i : Nat} {x : α} (h : l[i]? = some x) : nth l i = x := by
  rw [nth, List.getD_eq_getElem?_getD, h]; rfl
theorem take_succ {α : Type} [Inhabited α] {l : List α} {i : Nat} (h : i < l.length) : l.take (i + 1) = l.take i ++ [nth l i] := by
  rw [List.take_add_one, nth_some h]; rfl
theorem nth_take {α : Type} [Inhabited α] {l : List α} {i k : Nat} (h : i < k) : nth (l.take k) i = nth l i := by
  simp [nth, List.getD_eq_getElem?_getD, h]
/-- All of a list, by places. -/
theorem all_upTo {α : Type} [Inhabited α] (p : α → Bool) (l : List α) : l.all p = upTo (fun i => p (nth l i)) l.length := by
  rw [Bool.eq_iff_iff, upTo_iff, List.all_eq_true]
  constructor
  · intro h i hi
    exact h _ (nth_mem hi)
  · intro h x hx
    obtain ⟨i, hi, rfl⟩ := List.mem_iff_getElem.1 hx
    have := h i hi
    rwa [nth_of (List.getElem?_eq_getElem hi)] at this

def byEnd (l : List MapD) (e : EndD) : Int := ix (fun m => decide (m.ins = e)) l
def byPort (l : List MapD) (port : Int) : Int := ix (fun m => decide (m.port = port)) l
def okMap (m : MapD) : Bool := validEnd m.ins && inR m.port 1000 1007 && inR m.last 0 10000
def okMapAt (l : List MapD) (i : Nat) : Bool :=
  okMap (nth l i) && (l.take i).all fun q => !decide (q.ins = (nth l i).ins) && !decide (q.port = (nth l i).port)
def validTable (l : List MapD) : Bool := upTo (okMapAt l) l.length && decide (l.length ≤ 8)
def okCon (c : ConD) : Bool := inR c.port 1000 1007 && validEnd c.to_
def okConAt (l : List ConD) (i : Nat) : Bool := okCon (nth l i) && (l.take i).all fun q => !decide (q = nth l i)
def validContacts (l : List ConD) : Bool := upTo (okConAt l) l.length && decide (l.length ≤ 10)
def lets (kind : Int) (l : List ConD) (port : Int) (fr : EndD) : Bool :=
  decide (kind = 0) || l.any fun c => decide (c.port = port) && decide (c.to_.addr = fr.addr) && (decide (kind = 1) || decide (c.to_.port = fr.port))
def letsIn (kind : Int) (l : List ConD) (port : Int) (fr : EndD) : Bool := inR kind 0 2 && validContacts l && lets kind l port fr
def noteAll (l : List ConD) (c : ConD) : List ConD := (l.filter fun d => !decide (d = c)) ++ [c]
def note (l : List ConD) (c : ConD) : List ConD := (noteAll l c).drop ((noteAll l c).length - 10)
def without (l : List ConD) (port : Int) : List ConD := l.filter fun c => !decide (c.port = port)
def freeAt (l : List MapD) (port : Int) : Bool := decide (byPort l port < 0)
/-- The first of lo .. lo + n - 1 with f, or -1. -/
def firstOf (f : Int → Bool) (lo : Int) : Nat → Int
  | 0 => -1
  | n + 1 => if f lo then lo else firstOf f (lo + 1) n
theorem firstOf_none {f : Int → Bool} : ∀ (n : Nat) (lo : Int), (∀ j, lo ≤ j → j < lo + n → f j = false) → firstOf f lo n = -1
  | 0, _, _ => rfl
  | n + 1, lo, h => by
    rw [firstOf, h lo (by omega) (by omega), if_neg (by simp)]
    exact firstOf_none n _ fun j h1 h2 => h j (by omega) (by omega)
theorem firstOf_some {f : Int → Bool} : ∀ (n : Nat) (lo k : Int), lo ≤ k → k < lo + n → (∀ j, lo ≤ j → j < k → f j = false) → f k = true → firstOf f lo n = k
  | 0, lo, k, h1, h2, _, _ => by omega
  | n + 1, lo, k, h1, h2, h3, h4 => by
    rw [firstOf]
    by_cases e : k = lo
    · subst e; rw [if_pos h4]
    · rw [h3 lo (by omega) (by omega), if_neg (by simp)]
      exact firstOf_some n (lo + 1) k (by omega) (by omega) (fun j a b => h3 j (by omega) b) h4
theorem firstOf_cases (f : Int → Bool) : ∀ (n : Nat) (lo : Int), (firstOf f lo n = -1 ∧ ∀ j, lo ≤ j → j < lo + n → f j = false) ∨
    (lo ≤ firstOf f lo n ∧ firstOf f lo n < lo + n ∧ f (firstOf f lo n) = true)
  | 0, lo => .inl ⟨rfl, fun j h1 h2 => by omega⟩
  | n + 1, lo => by
    rw [firstOf]
    cases h : f lo with
    | true => rw [if_pos rfl]; exact .inr ⟨by omega, by omega, h⟩
    | false =>
      rw [if_neg (by simp)]
      rcases firstOf_cases f n (lo + 1) with ⟨h1, h2⟩ | ⟨h1, h2, h3⟩
      · refine .inl ⟨h1, fun j a b => ?_⟩
        by_cases e : j = lo
        · rw [e]; exact h
        · exact h2 j (by omega) (by omega)
      · exact .inr ⟨by omega, by omega, h3⟩
def freePort (l : List MapD) (want : Int) : Int :=
  if inR want 1000 1007 && freeAt l want then want
  else if firstOf (fun n => decide (n % 2 = want % 2) && freeAt l n) 1000 8 < 0 then firstOf (freeAt l) 1000 8
  else firstOf (fun n => decide (n % 2 = want % 2) && freeAt l n) 1000 8
def mapEnd (l : List MapD) (e : EndD) (now : Int) : Option (List MapD × Int) :=
  if 0 ≤ byEnd l e then
    some (l.set (byEnd l e).toNat { nth l (byEnd l e).toNat with last := max (nth l (byEnd l e).toNat).last now }, (nth l (byEnd l e).toNat).port)
  else if freePort l e.port < 0 then none else some (l ++ [⟨e, freePort l e.port, now⟩], freePort l e.port)
def expired (m : MapD) (now hold : Int) : Bool := decide (hold ≤ now - m.last)
def expire (l : List MapD) (now hold : Int) : List MapD := l.filter fun m => !expired m now hold
def expPorts (l : List MapD) (now hold : Int) : List Int := (l.filter fun m => expired m now hold).map (·.port)
def timer (now hold : Int) : Bool := inR now 0 10000 && inR hold 1 500
def okGateMap (g : GateD) (m : MapD) : Bool := has g.net m.ins.addr && decide (m.last ≤ g.now) && !expired m g.now g.hold
def okGateCon (g : GateD) (c : ConD) : Bool := decide (0 ≤ byPort g.table c.port)
def validGate (g : GateD) : Bool :=
  validNet g.net && word g.out && !has g.net g.out && validTable g.table && validContacts g.cons && inR g.filter 0 2 && timer g.now g.hold &&
    g.table.all (okGateMap g) && g.cons.all (okGateCon g)
def tick (g : GateD) (now : Int) : GateD :=
  { g with table := expire g.table now g.hold, cons := (expPorts g.table now g.hold).foldl without g.cons, now := now }
def tickGate (g : GateD) (now : Int) : Option GateD := if validGate g && inR now g.now 10000 then some (tick g now) else none
def send (g : GateD) (p : PktD) : Option (PktD × GateD) :=
  match mapEnd g.table p.fr g.now with
  | none => none
  | some (t, port) => some ({ p with fr := ⟨g.out, port⟩ }, { g with table := t, cons := note g.cons ⟨port, p.to_⟩ })
def fromIn (g : GateD) (p : PktD) : Bool := validGate g && validPkt p && has g.net p.fr.addr
def goesOut (g : GateD) (p : PktD) : Bool := fromIn g p && !has g.net p.to_.addr && !decide (p.to_.addr = g.out)
def sendOut (g : GateD) (p : PktD) : Option (PktD × GateD) := if goesOut g p then send g p else none
def receive (g : GateD) (p : PktD) : Option (PktD × GateD) :=
  if decide (0 ≤ byPort g.table p.to_.port) && lets g.filter g.cons p.to_.port p.fr then
    some ({ p with to_ := (nth g.table (byPort g.table p.to_.port).toNat).ins }, g) else none
def comesIn (g : GateD) (p : PktD) : Bool := validGate g && validPkt p && decide (p.to_.addr = g.out) && !has g.net p.fr.addr
def receiveIn (g : GateD) (p : PktD) : Option (PktD × GateD) := if comesIn g p then receive g p else none
def between (g : GateD) (p : PktD) : Bool := fromIn g p && decide (p.to_.addr = g.out)
def passBetween (g : GateD) (p : PktD) : Option (PktD × GateD) :=
  if between g p then match send g p with
    | none => none
    | some (q, h) => receive h q
  else none
def way (g : GateD) (p : PktD) : Int :=
  if has g.net p.fr.addr && decide (p.to_.addr = g.out) then 3
  else if has g.net p.fr.addr && !has g.net p.to_.addr then 1
  else if !has g.net p.fr.addr && decide (p.to_.addr = g.out) then 2
  else 0
def wayOf (g : GateD) (p : PktD) : Int := if validGate g && validPkt p then way g p else -1
def forward (g : GateD) (p : PktD) : Option (PktD × GateD) :=
  if wayOf g p = 1 then send g p else if wayOf g p = 2 then receive g p else if wayOf g p = 3 then passBetween g p else none
def validRep (e : RepD) : Bool := inR e.code 0 15 && word e.sender && word e.to_ && validPkt e.about
def reportOf (code sender : Int) (p : PktD) : Option RepD :=
  if inR code 0 15 && word sender && validPkt p then some ⟨code, sender, p.fr.addr, { p with data := p.data.take 4 }⟩ else none
def reportIn (g : GateD) (e : RepD) : Option RepD :=
  if validGate g && validRep e && decide (e.to_ = g.out) && decide (e.about.fr.addr = g.out) && !has g.net e.sender && decide (0 ≤ byPort g.table e.about.fr.port) then
    some { e with to_ := (nth g.table (byPort g.table e.about.fr.port).toNat).ins.addr, about := { e.about with fr := (nth g.table (byPort g.table e.about.fr.port).toNat).ins } }
  else none
def reportOut (g : GateD) (e : RepD) : Option RepD :=
  if validGate g && validRep e && has g.net e.sender && !has g.net e.to_ && !decide (e.to_ = g.out) && decide (0 ≤ byEnd g.table e.about.to_) then
    some { e with sender := g.out, about := { e.about with to_ := ⟨g.out, (nth g.table (byEnd g.table e.about.to_).toNat).port⟩ } }
  else none
def outsidePort (l : List MapD) (e : EndD) : Int := if validTable l && decide (0 ≤ byEnd l e) then (nth l (byEnd l e).toNat).port else -1
def insideEnd (l : List MapD) (port : Int) : Option EndD := if validTable l && decide (0 ≤ byPort l port) then some (nth l (byPort l port).toNat).ins else none
def reverse (p : PktD) : Option PktD := if validPkt p then some { p with fr := p.to_, to_ := p.fr } else none
def validPlan (b : PlanD) : Bool :=
  validNet b.net && decide (8 ≤ b.net.bits) && inR b.first 1 65535 && inR b.size 1 16 && decide (b.first + b.size * netSize b.net.bits - 1 ≤ 65535)

def encI (x : Int) : List Value := [.int .i64 x]
def encM (m : MapD) : List Value := [.int .i64 m.ins.addr, .int .i64 m.ins.port, .int .i64 m.port, .int .i64 m.last]
def encC (c : ConD) : List Value := [.int .i64 c.port, .int .i64 c.to_.addr, .int .i64 c.to_.port]
def encU (x : Int) : List Value := [.int .u8 x]
theorem encI_len (x : Int) : (encI x).length = 1 := rfl
theorem encM_len (x : MapD) : (encM x).length = 4 := rfl
theorem encC_len (x : ConD) : (encC x).length = 3 := rfl
theorem encU_len (x : Int) : (encU x).length = 1 := rfl
end Go.Proofs.Ytafmomocmodbhaa
