/- The words, laws and contracts that the claims of this seat share: group d. No condition. -/
import Derived.Lib.SliceRun
import Derived.Test.YtppdcglnopoocaaKs
import Derived.Test.YtppdcglnopoocaaKa
import Derived.Test.YtppdcglnopoocaaKb
import Derived.Test.YtppdcglnopoocaaKc
/- The eager law where the region makes boxes at any moment (unordered 'alloc's), and writes at its end. No condition. -/
namespace Go.Proofs.Ytppdcglnopoocaa
set_option linter.unusedVariables false
set_option linter.unusedSimpArgs false
open Go.RowKit

/-- The type of a box that is made without a guard. -/
def allocOf (o : Oper) : Option TypeId :=
  match o.guard, o.op with
  | none, .alloc e => some e
  | _, _ => none
theorem lookup_mem {e : TypeId} {cs : Array Value} : ∀ {Ts : List (TypeId × Array Value)}, Ts.lookup e = some cs → (e, cs) ∈ Ts
  | [], h => by cases h
  | x :: r, h => by
    rw [List.lookup_cons] at h
    split at h
    · rename_i he
      injection h with h
      subst h
      have : e = x.1 := by simpa using he
      subst this
      simp
    · simp [lookup_mem h]
def zeroOf (Ts : List (TypeId × Array Value)) (e : TypeId) : Array Value := (Ts.lookup e).getD #[]
def pureOp : Op → Bool
  | .move _ | .assign _ | .extract _ _ | .build _ _ | .field _ _ _ => true
  | _ => false
def storeOp : Op → Bool
  | .store _ _ _ => true
  | _ => false
theorem pure_quiet {o : Op} (h : pureOp o = true) : quietOp o = true := by cases o <;> first | rfl | cases h
theorem store_loud {o : Op} (h : storeOp o = true) : quietOp o = false := by cases o <;> first | rfl | cases h
theorem store_solid {o : Oper} (h : storeOp o.op = true) : allocOf o = none := by
  unfold allocOf
  split
  · rename_i h1 h2; rw [h2] at h; cases h
  · rfl
section
variable {P : Program} {ops : Array Oper} {Q : Exit → Act → World → Prop} {R : World → World → Prop} {base : Nat} {Ts : List (TypeId × Array Value)}
/-- An operation that only computes: one value in every world, or not wanted. -/
def Pt (P : Program) (ops : Array Oper) (o : Oper) (v : Value) (a : Act) : Prop :=
  (Region.wanted o (yielded ops a.tmps) = true ∧ ∀ w', (execOp a.eval o).run P w' = .ok (.value v) w') ∨ (Region.wanted o (yielded ops a.tmps) = false ∧ v = undef)
theorem Pt.same {o : Oper} {v : Value} {a a' : Act} (h : Pt P ops o v a) (he : execOp a'.eval o = execOp a.eval o)
    (hw : Region.wanted o (yielded ops a'.tmps) = Region.wanted o (yielded ops a.tmps)) : Pt P ops o v a' := by
  unfold Pt at *
  rw [he, hw]
  exact h
theorem Pt.qt {o : Oper} {v : Value} {a : Act} (h : Pt P ops o v a) (w : World) : Qt P ops R o v a w := by
  rcases h with ⟨h1, h2⟩ | h
  · exact .inl ⟨h1, fun w' _ => h2 w'⟩
  · exact .inr h
/-- The walk in a given order; a box is made somewhere at or behind 'base', in some later world. -/
def ChF (P : Program) (ops : Array Oper) (Q : Exit → Act → World → Prop) (R : World → World → Prop) (base : Nat) (Ts : List (TypeId × Array Value)) : List Nat → Act → World → Prop
  | [], a, w => Q .normal a w
  | i :: r, a, w => ∃ o, ops[i]? = some o ∧
      ((pureOp o.op = true ∧ ∃ v, Pt P ops o v a ∧ ChF P ops Q R base Ts r (a.put o.dst v) w) ∨
       (pureOp o.op = false ∧ quietOp o.op = true ∧ ∃ v, Qt P ops R o v a w ∧ ChF P ops Q R base Ts r (a.put o.dst v) w) ∨
       (quietOp o.op = false ∧ ∃ e, allocOf o = some e ∧ ∀ w1 b, Ext w w1 → base ≤ b → Blk w1 b e (zeroOf Ts e) → ChF P ops Q R base Ts r (a.put o.dst (.pointer (some ⟨b, 0, none⟩))) w1) ∨
       (storeOp o.op = true ∧ ((Region.wanted o (yielded ops a.tmps) = false ∧ ChF P ops Q R base Ts r (a.put o.dst undef) w) ∨
          (Region.wanted o (yielded ops a.tmps) = true ∧ OpStep P o a.eval w fun v w' => w.heap.size ≤ w'.heap.size ∧ ChF P ops Q R base Ts r (a.put o.dst v) w'))) ∨
       (quietOp o.op = false ∧ allocOf o = none ∧ storeOp o.op = false ∧ ((Region.wanted o (yielded ops a.tmps) = false ∧ ChF P ops Q R base Ts r (a.put o.dst undef) w) ∨
          (Region.wanted o (yielded ops a.tmps) = true ∧ ∀ w1, Ext w w1 → OpStep P o a.eval w1 fun v w' => R w1 w' ∧ ChF P ops Q R base Ts r (a.put o.dst v) w'))))

def allocAt (ops : Array Oper) (i : Nat) : Bool := ((ops[i]?).map fun o => (allocOf o).isSome).getD false
def pureAt (ops : Array Oper) (i : Nat) : Bool := ((ops[i]?).map fun o => pureOp o.op).getD false
def storeAt (ops : Array Oper) (i : Nat) : Bool := ((ops[i]?).map fun o => storeOp o.op).getD false
def knownAt (ops : Array Oper) (Ts : List (TypeId × Array Value)) (i : Nat) : Bool := ((ops[i]?).map fun o => match allocOf o with | none => true | some e => (Ts.lookup e).isSome).getD false
def pairF (ops : Array Oper) (i j : Nat) : Bool := i != j && !edgeTo ops i j &&
  (edgeTo ops j i || reachN ops ops.size j i || (apartAt ops i j && ((storeAt ops j && pureAt ops i) || (!storeAt ops j && allocAt ops j && !storeAt ops i) || (!storeAt ops j && !allocAt ops j && quietAt ops i))))
def pairsB (f : Nat → Nat → Bool) : List Nat → Bool
  | [] => true
  | i :: r => r.all (f i) && pairsB f r
theorem pairsB_iff {f : Nat → Nat → Bool} {ord : List Nat} : pairsB f ord = true → ord.Pairwise fun i j => f i j = true := by
  induction ord with
  | nil => intro _; exact List.Pairwise.nil
  | cons i r ih =>
    intro h
    rw [pairsB, Bool.and_eq_true, List.all_eq_true] at h
    exact List.pairwise_cons.2 ⟨h.1, ih h.2⟩
def floatOk (ops : Array Oper) (Ts : List (TypeId × Array Value)) (ord : List Nat) : Bool :=
  Region.noSelect ops && permOk ops.size ord && pairsB (pairF ops) ord && (ord.all (knownAt ops Ts)) &&
    ord.all fun i => ((ops[i]?).map fun y => y.after.all fun e => !Region.binds .any e || (e.on != i && decide (e.on < ops.size))).getD false

theorem ChF.takeQ (hsel : ∀ (j : Nat) (o : Oper) cs b, ops[j]? = some o → o.op ≠ .select cs b) {j : Nat} {oj : Oper} (hj : ops[j]? = some oj) (hqj : quietOp oj.op = true) {l2 : List Nat} :
    ∀ (l1 : List Nat) (a : Act) (w : World), (∀ i ∈ l1, ∀ x, ops[i]? = some x → quietOp x.op = true ∧ x.apart ops oj = true) → ChF P ops Q R base Ts (l1 ++ j :: l2) a w →
      ∃ v, Qt P ops R oj v a w ∧ ChF P ops Q R base Ts (l1 ++ l2) (a.put oj.dst v) w
  | [], a, w, _, h => by
    obtain ⟨o, ho, h⟩ := h
    rw [hj] at ho
    injection ho with ho
    subst ho
    rcases h with ⟨_, v, h1, h2⟩ | ⟨_, _, v, h1, h2⟩ | ⟨h0, _⟩ | ⟨h0, _⟩ | ⟨h0, _⟩
    · exact ⟨v, h1.qt w, h2⟩
    · exact ⟨v, h1, h2⟩
    · rw [hqj] at h0; cases h0
    · rw [store_loud h0] at hqj; cases hqj
    · rw [hqj] at h0; cases h0
  | i :: l1, a, w, hap, h => by
    obtain ⟨o, ho, h⟩ := h
    obtain ⟨q0, q1⟩ := hap i (by simp) o ho
    obtain ⟨h1, h2, h3⟩ := Oper.apart_spec q1
    rcases h with ⟨p0, v, hs, hc⟩ | ⟨p0, _, v, hs, hc⟩ | ⟨h0, _⟩ | ⟨h0, _⟩ | ⟨h0, _⟩
    · obtain ⟨u, hu, hd⟩ := ChF.takeQ hsel hj hqj l1 (a.put o.dst v) w (fun x hx => hap x (by simp [hx])) hc
      refine ⟨u, hu.same (execOp_put oj (fun cs b => hsel j oj cs b hj) a o.dst v h1).symm (wanted_put oj a o.dst v h1).symm, o, ho, .inl ⟨p0, v,
        hs.same (execOp_put o (fun cs b => hsel i o cs b ho) a oj.dst u h3) (wanted_put o a oj.dst u h3), ?_⟩⟩
      rw [← Act.put_comm a v u h2]
      exact hd
    · obtain ⟨u, hu, hd⟩ := ChF.takeQ hsel hj hqj l1 (a.put o.dst v) w (fun x hx => hap x (by simp [hx])) hc
      refine ⟨u, hu.same (execOp_put oj (fun cs b => hsel j oj cs b hj) a o.dst v h1).symm (wanted_put oj a o.dst v h1).symm, o, ho, .inr (.inl ⟨p0, q0, v,
        hs.same (execOp_put o (fun cs b => hsel i o cs b ho) a oj.dst u h3) (wanted_put o a oj.dst u h3), ?_⟩)⟩
      rw [← Act.put_comm a v u h2]
      exact hd
    · rw [q0] at h0; cases h0
    · rw [store_loud h0] at q0; cases q0
    · rw [q0] at h0; cases h0

theorem ChF.takeN (ht : ∀ x y z, R x y → R y z → R x z) (hre : ∀ x y, Ext x y → R x y) (hsel : ∀ (j : Nat) (o : Oper) cs b, ops[j]? = some o → o.op ≠ .select cs b) {j : Nat} {oj : Oper} (hj : ops[j]? = some oj) (hqj : quietOp oj.op = false) (haj : allocOf oj = none) (hsj : storeOp oj.op = false) {l2 : List Nat} :
    ∀ (l1 : List Nat) (a : Act) (w : World), (∀ i ∈ l1, ∀ x, ops[i]? = some x → quietOp x.op = true ∧ x.apart ops oj = true) → ChF P ops Q R base Ts (l1 ++ j :: l2) a w →
      (Region.wanted oj (yielded ops a.tmps) = false ∧ ChF P ops Q R base Ts (l1 ++ l2) (a.put oj.dst undef) w) ∨
      (Region.wanted oj (yielded ops a.tmps) = true ∧ ∀ w1, Ext w w1 → OpStep P oj a.eval w1 fun v w' => R w1 w' ∧ ChF P ops Q R base Ts (l1 ++ l2) (a.put oj.dst v) w')
  | [], a, w, _, h => by
    obtain ⟨o, ho, h⟩ := h
    rw [hj] at ho
    injection ho with ho
    subst ho
    rcases h with ⟨h0, _⟩ | ⟨_, h0, _⟩ | ⟨_, e, h0, _⟩ | ⟨h0, _⟩ | ⟨_, _, _, h⟩
    · rw [pure_quiet h0] at hqj; cases hqj
    · rw [hqj] at h0; cases h0
    · rw [haj] at h0; cases h0
    · rw [hsj] at h0; cases h0
    · exact h
  | i :: l1, a, w, hap, h => by
    obtain ⟨o, ho, h⟩ := h
    obtain ⟨q0, q1⟩ := hap i (by simp) o ho
    obtain ⟨h1, h2, h3⟩ := Oper.apart_spec q1
    rcases h with ⟨p0, v, hs, hc⟩ | ⟨p0, _, v, hs, hc⟩ | ⟨h0, _⟩ | ⟨h0, _⟩ | ⟨h0, _⟩
    · have hw := wanted_put (ops := ops) oj a o.dst v h1
      have he := execOp_put (ops := ops) oj (fun cs b => hsel j oj cs b hj) a o.dst v h1
      rcases ChF.takeN ht hre hsel hj hqj haj hsj l1 (a.put o.dst v) w (fun x hx => hap x (by simp [hx])) hc with ⟨g1, g2⟩ | ⟨g1, g2⟩
      · refine .inl ⟨hw ▸ g1, o, ho, .inl ⟨p0, v, hs.same (execOp_put o (fun cs b => hsel i o cs b ho) a oj.dst undef h3) (wanted_put o a oj.dst undef h3), ?_⟩⟩
        rw [← Act.put_comm a v undef h2]
        exact g2
      · refine .inr ⟨hw ▸ g1, fun w1 hx => ?_⟩
        replace g2 := g2 w1 hx
        unfold OpStep at g2 ⊢
        rw [he] at g2
        refine OpStep.mono (o := oj) (ρ := a.eval) g2 fun u w' ⟨r1, r2⟩ => ⟨r1, o, ho, .inl ⟨p0, v, hs.same (execOp_put o (fun cs b => hsel i o cs b ho) a oj.dst u h3) (wanted_put o a oj.dst u h3), ?_⟩⟩
        rw [← Act.put_comm a v u h2]
        exact r2
    · have hw := wanted_put (ops := ops) oj a o.dst v h1
      have he := execOp_put (ops := ops) oj (fun cs b => hsel j oj cs b hj) a o.dst v h1
      rcases ChF.takeN ht hre hsel hj hqj haj hsj l1 (a.put o.dst v) w (fun x hx => hap x (by simp [hx])) hc with ⟨g1, g2⟩ | ⟨g1, g2⟩
      · refine .inl ⟨hw ▸ g1, o, ho, .inr (.inl ⟨p0, q0, v, hs.same (execOp_put o (fun cs b => hsel i o cs b ho) a oj.dst undef h3) (wanted_put o a oj.dst undef h3), ?_⟩)⟩
        rw [← Act.put_comm a v undef h2]
        exact g2
      · refine .inr ⟨hw ▸ g1, fun w1 hx => ?_⟩
        replace g2 := g2 w1 hx
        unfold OpStep at g2 ⊢
        rw [he] at g2
        refine OpStep.mono (o := oj) (ρ := a.eval) g2 fun u w' ⟨r1, r2⟩ => ⟨r1, o, ho, .inr (.inl ⟨p0, q0, v, (hs.later ht (ht _ _ _ (hre _ _ hx) r1)).same (execOp_put o (fun cs b => hsel i o cs b ho) a oj.dst u h3) (wanted_put o a oj.dst u h3), ?_⟩)⟩
        rw [← Act.put_comm a v u h2]
        exact r2
    · rw [q0] at h0; cases h0
    · rw [store_loud h0] at q0; cases q0
    · rw [q0] at h0; cases h0

theorem ChF.takeS (hsel : ∀ (j : Nat) (o : Oper) cs b, ops[j]? = some o → o.op ≠ .select cs b) {j : Nat} {oj : Oper} (hj : ops[j]? = some oj) (hsj : storeOp oj.op = true) {l2 : List Nat} :
    ∀ (l1 : List Nat) (a : Act) (w : World), (∀ i ∈ l1, ∀ x, ops[i]? = some x → pureOp x.op = true ∧ x.apart ops oj = true) → ChF P ops Q R base Ts (l1 ++ j :: l2) a w →
      (Region.wanted oj (yielded ops a.tmps) = false ∧ ChF P ops Q R base Ts (l1 ++ l2) (a.put oj.dst undef) w) ∨
      (Region.wanted oj (yielded ops a.tmps) = true ∧ OpStep P oj a.eval w fun v w' => w.heap.size ≤ w'.heap.size ∧ ChF P ops Q R base Ts (l1 ++ l2) (a.put oj.dst v) w')
  | [], a, w, _, h => by
    obtain ⟨o, ho, h⟩ := h
    rw [hj] at ho
    injection ho with ho
    subst ho
    rcases h with ⟨h0, _⟩ | ⟨_, h0, _⟩ | ⟨_, e, h0, _⟩ | ⟨_, h⟩ | ⟨_, _, h0, _⟩
    · have h1 := pure_quiet h0; rw [store_loud hsj] at h1; cases h1
    · rw [store_loud hsj] at h0; cases h0
    · rw [store_solid hsj] at h0; cases h0
    · exact h
    · rw [hsj] at h0; cases h0
  | i :: l1, a, w, hap, h => by
    obtain ⟨o, ho, h⟩ := h
    obtain ⟨p0, q1⟩ := hap i (by simp) o ho
    have q0 := pure_quiet p0
    obtain ⟨h1, h2, h3⟩ := Oper.apart_spec q1
    rcases h with ⟨_, v, hs, hc⟩ | ⟨h0, _⟩ | ⟨h0, _⟩ | ⟨h0, _⟩ | ⟨h0, _⟩
    · have hw := wanted_put (ops := ops) oj a o.dst v h1
      have he := execOp_put (ops := ops) oj (fun cs b => hsel j oj cs b hj) a o.dst v h1
      rcases ChF.takeS hsel hj hsj l1 (a.put o.dst v) w (fun x hx => hap x (by simp [hx])) hc with ⟨g1, g2⟩ | ⟨g1, g2⟩
      · refine .inl ⟨hw ▸ g1, o, ho, .inl ⟨p0, v, hs.same (execOp_put o (fun cs b => hsel i o cs b ho) a oj.dst undef h3) (wanted_put o a oj.dst undef h3), ?_⟩⟩
        rw [← Act.put_comm a v undef h2]
        exact g2
      · refine .inr ⟨hw ▸ g1, ?_⟩
        unfold OpStep at g2 ⊢
        rw [he] at g2
        refine OpStep.mono (o := oj) (ρ := a.eval) g2 fun u w' ⟨r1, r2⟩ => ⟨r1, o, ho, .inl ⟨p0, v, hs.same (execOp_put o (fun cs b => hsel i o cs b ho) a oj.dst u h3) (wanted_put o a oj.dst u h3), ?_⟩⟩
        rw [← Act.put_comm a v u h2]
        exact r2
    · rw [p0] at h0; cases h0
    · rw [q0] at h0; cases h0
    · rw [store_loud h0] at q0; cases q0
    · rw [q0] at h0; cases h0

theorem ChF.takeF (ht : ∀ x y z, R x y → R y z → R x z) (hre : ∀ x y, Ext x y → R x y) (hst : ∀ (w w' : World) b e cs, base ≤ b → Blk w b e cs → R w w' → Blk w' b e cs)
    (hsel : ∀ (j : Nat) (o : Oper) cs b, ops[j]? = some o → o.op ≠ .select cs b) {j : Nat} {oj : Oper} (hj : ops[j]? = some oj) (hqj : quietOp oj.op = false) {e : TypeId} (haj : allocOf oj = some e) {l2 : List Nat} :
    ∀ (l1 : List Nat) (a : Act) (w : World), (∀ i ∈ l1, ∀ x, ops[i]? = some x → storeOp x.op = false ∧ x.apart ops oj = true) → ChF P ops Q R base Ts (l1 ++ j :: l2) a w →
      ∀ w1 b, Ext w w1 → base ≤ b → Blk w1 b e (zeroOf Ts e) → ChF P ops Q R base Ts (l1 ++ l2) (a.put oj.dst (.pointer (some ⟨b, 0, none⟩))) w1
  | [], a, w, _, h => by
    intro w1 b hx hb hB
    obtain ⟨o, ho, h⟩ := h
    rw [hj] at ho
    injection ho with ho
    subst ho
    rcases h with ⟨h0, _⟩ | ⟨_, h0, _⟩ | ⟨_, e', h0, h⟩ | ⟨h0, _⟩ | ⟨_, h0, _⟩
    · rw [pure_quiet h0] at hqj; cases hqj
    · rw [hqj] at h0; cases h0
    · rw [haj] at h0
      injection h0 with h0
      subst h0
      exact h w1 b hx hb hB
    · rw [store_solid h0] at haj; cases haj
    · rw [haj] at h0; cases h0
  | i :: l1, a, w, hap, h => by
    intro w1 b hx hb hB
    obtain ⟨o, ho, h⟩ := h
    obtain ⟨s0, q1⟩ := hap i (by simp) o ho
    obtain ⟨h1, h2, h3⟩ := Oper.apart_spec q1
    have rcu := fun (a' : Act) (w' : World) (h' : ChF P ops Q R base Ts (l1 ++ j :: l2) a' w') => ChF.takeF ht hre hst hsel hj hqj haj (l2 := l2) l1 a' w' (fun x hx => hap x (by simp [hx])) h'
    have hw := wanted_put (ops := ops) o a oj.dst (.pointer (some ⟨b, 0, none⟩)) h3
    have he := execOp_put (ops := ops) o (fun cs b => hsel i o cs b ho) a oj.dst (.pointer (some ⟨b, 0, none⟩)) h3
    rcases h with ⟨p0, v, hs, hc⟩ | ⟨p0, q0, v, hs, hc⟩ | ⟨q0, e', h0, hc⟩ | ⟨h0, _⟩ | ⟨q0, h0, _, hc⟩
    · refine ⟨o, ho, .inl ⟨p0, v, hs.same he hw, ?_⟩⟩
      rw [← Act.put_comm a v _ h2]
      exact rcu _ _ hc w1 b hx hb hB
    · refine ⟨o, ho, .inr (.inl ⟨p0, q0, v, (hs.later ht (hre _ _ hx)).same he hw, ?_⟩)⟩
      rw [← Act.put_comm a v _ h2]
      exact rcu _ _ hc w1 b hx hb hB
    · refine ⟨o, ho, .inr (.inr (.inl ⟨q0, e', h0, fun w2 b' hR hb' hB' => ?_⟩))⟩
      rw [← Act.put_comm a _ _ h2]
      exact rcu _ _ (hc w2 b' (hx.trans hR) hb' hB') w2 b (Ext.refl _) hb (hB.ext hR)
    · rw [s0] at h0; cases h0
    · refine ⟨o, ho, .inr (.inr (.inr (.inr ⟨q0, h0, s0, ?_⟩)))⟩
      rcases hc with ⟨g1, g2⟩ | ⟨g1, g2⟩
      · refine .inl ⟨hw.trans g1, ?_⟩
        rw [← Act.put_comm a _ _ h2]
        exact rcu _ _ g2 w1 b hx hb hB
      · refine .inr ⟨hw.trans g1, fun w2 hx2 => ?_⟩
        have g3 := g2 w2 (hx.trans hx2)
        unfold OpStep at g3 ⊢
        rw [he]
        refine OpStep.mono (o := o) (ρ := a.eval) g3 fun u w' ⟨r1, r2⟩ => ⟨r1, ?_⟩
        rw [← Act.put_comm a _ _ h2]
        exact rcu _ _ r2 w' b (Ext.refl _) hb (hst _ _ _ _ _ hb (hst _ _ _ _ _ hb hB (hre _ _ hx2)) r1)

theorem ChF.any (hr : ∀ x, R x x) (ht : ∀ x y z, R x y → R y z → R x z) (hre : ∀ x y, Ext x y → R x y) (hsize : ∀ x y : World, R x y → x.heap.size ≤ y.heap.size)
    (hst : ∀ (w w' : World) b e cs, base ≤ b → Blk w b e cs → R w w' → Blk w' b e cs)
    (hTs : ∀ x ∈ Ts, ∀ w, (Instr.alloc x.1 true (.tuple #[])).run P w = .ok (.pointer (some ⟨w.heap.size, 0, none⟩)) (w.alloc (.cells x.2 x.1)))
    {front : List Nat} (hok : floatOk ops Ts front = true) : ∀ (fuel : Nat) (listed : Array Bool) (a : Act) (l : List Nat), l.length ≤ fuel → l.Sublist front →
    (∀ i, i ∈ l ↔ (i < ops.size ∧ listed.getD i true = false)) → (∀ i, i < ops.size → listed.getD i true = listed.getD i false) → (∀ j, listed.getD j false = true → Fed ops listed j) →
    ∀ w, base ≤ w.heap.size → ChF P ops Q R base Ts l a w → wpAny P .any ops Q fuel listed a w := by
  simp only [floatOk, Bool.and_eq_true, List.all_eq_true] at hok
  obtain ⟨⟨⟨⟨hns, hperm⟩, hpairs⟩, hknown⟩, hback⟩ := hok
  have hP := pairsB_iff hpairs
  have hmem : ∀ (listed : Array Bool) (l : List Nat), (∀ i, i ∈ l ↔ (i < ops.size ∧ listed.getD i true = false)) → ∀ j, j ∈ Region.ready .any ops listed → j ∈ l := by
    intro listed l hl j hj
    obtain ⟨h0, o, ho, _⟩ := mem_ready.1 hj
    exact (hl j).2 ⟨(Array.getElem?_eq_some_iff.1 ho).1, h0⟩
  intro fuel
  induction fuel with
  | zero =>
    intro listed a l hlen hsub hl hsz hcl w hw hc
    have hnil : l = [] := List.eq_nil_of_length_eq_zero (by omega)
    subst hnil
    refine ⟨?_, hc⟩
    cases hr : Region.ready .any ops listed with
    | nil => rfl
    | cons x xs => exact absurd (hmem listed [] hl x (by rw [hr]; simp)) (by simp)
  | succ fuel ih =>
    intro listed a l hlen hsub hl hsz hcl w hwb hc
    have hlP := hP.sublist hsub
    cases l with
    | nil => exact ⟨fun _ => hc, fun j hj => absurd (hmem listed [] hl j hj) (by simp)⟩
    | cons i0 r0 =>
    generalize hL : i0 :: r0 = l at *
    refine ⟨fun hrd => ?_, fun j hj => ?_⟩
    · exfalso
      subst hL
      obtain ⟨hi, hun⟩ := (hl i0).1 (by simp)
      have hfirst := (List.pairwise_cons.1 hlP).1
      have : i0 ∈ Region.ready .any ops listed := by
        rw [mem_ready]
        refine ⟨hun, ops[i0], Array.getElem?_eq_getElem hi, fun e he hb => ?_⟩
        have hif : i0 ∈ front := hsub.subset (by simp)
        have hb1 := hback i0 hif
        rw [Array.getElem?_eq_getElem hi] at hb1
        simp only [Option.map_some, Option.getD_some] at hb1
        have hb2 := Array.all_eq_true_iff_forall_mem.1 hb1 e he
        simp only [hb, Bool.not_true, Bool.false_or, Bool.and_eq_true, bne_iff_ne, decide_eq_true_eq] at hb2
        apply Classical.byContradiction
        intro hnl
        have hm : e.on ∈ i0 :: r0 := (hl e.on).2 ⟨hb2.2, by rw [hsz _ hb2.2]; simpa using hnl⟩
        have hedge : edgeTo ops i0 e.on = true := by
          unfold edgeTo
          rw [Array.getElem?_eq_getElem hi]
          simp only [Option.map_some, Option.getD_some]
          exact Array.any_eq_true'.2 ⟨e, he, by simp [hb]⟩
        rcases List.mem_cons.1 hm with hm | hm
        · exact hb2.1 hm
        · have hp := hfirst _ hm
          simp [pairF, hedge] at hp
      rw [hrd] at this
      cases this
    · have hjl := hmem listed _ hl j hj
      obtain ⟨hjun, oj, hoj, hall⟩ := mem_ready.1 hj
      have hjlt : j < ops.size := (Array.getElem?_eq_some_iff.1 hoj).1
      have hfed : Fed ops listed j := fun y hy e he hb => by
        rw [hoj] at hy; injection hy with hy; subst hy; exact hall e he hb
      have unl : ∀ i, i ∈ l → listed.getD i false = false := fun i hi => by
        have hiun := (hl i).1 (by simp [hi])
        rw [← hsz i hiun.1]; exact hiun.2
      have hjf : j ∈ front := hsub.subset hjl
      clear hL
      obtain ⟨l1, l2, rfl⟩ := List.append_of_mem hjl
      have hap : ∀ i ∈ l1, ∀ x, ops[i]? = some x → (storeOp oj.op = true → pureOp x.op = true) ∧ (storeOp oj.op = false → allocOf oj = none → quietOp x.op = true) ∧ ((allocOf oj).isSome = true → storeOp x.op = false) ∧ x.apart ops oj = true := by
        intro i hi x hx
        have hp : pairF ops i j = true := (List.pairwise_append.1 hlP).2.2 i hi j (by simp)
        have hif := unl i (by simp [hi])
        have hne : edgeTo ops j i = false := by
          cases h : edgeTo ops j i with
          | false => rfl
          | true =>
            obtain ⟨e, he, hb, rfl⟩ := edgeTo_iff hoj h
            rw [hfed oj hoj e he hb] at hif
            cases hif
        have hnr : reachN ops ops.size j i = false := by
          cases h : reachN ops ops.size j i with
          | false => rfl
          | true => rw [reach_listed hcl _ _ _ hfed h] at hif; cases hif
        simp only [pairF, hne, hnr, Bool.or_false, Bool.false_or, Bool.and_eq_true] at hp
        obtain ⟨_, h2, h3⟩ := hp
        simp only [storeAt, pureAt, allocAt, quietAt, hx, hoj, Option.map_some, Option.getD_some] at h3
        refine ⟨fun hs => ?_, fun hs ha => ?_, fun ha => ?_, ?_⟩
        · simpa [hs] using h3
        · simpa [hs, ha] using h3
        · cases hs : storeOp oj.op with
          | true => rw [store_solid hs] at ha; cases ha
          | false => simpa [hs, ha] using h3
        · simpa [apartAt, hx, hoj] using h2
      have hnd : j ∉ l1 ++ l2 := by
        intro hm
        have hpa := List.pairwise_append.1 hlP
        rcases List.mem_append.1 hm with hm | hm
        · have := hpa.2.2 j hm j (by simp)
          simp [pairF] at this
        · have := (List.pairwise_cons.1 hpa.2.1).1 j hm
          simp [pairF] at this
      have hmono : ∀ x, listed.getD x false = true → (listed.setIfInBounds j true).getD x false = true := by
        intro x hx
        by_cases hij : j = x
        · subst hij
          rw [Array.getD_eq_getD_getElem?, Array.getElem?_setIfInBounds]
          rw [Array.getD_eq_getD_getElem?] at hx
          cases hz : listed[j]? with
          | none => rw [hz] at hx; simp at hx
          | some b => simp [(Array.getElem?_eq_some_iff.1 hz).1]
        · rw [getD_set_ne false hij]; exact hx
      have next : ∀ (a' : Act) (w' : World), base ≤ w'.heap.size → ChF P ops Q R base Ts (l1 ++ l2) a' w' → wpAny P .any ops Q fuel (listed.setIfInBounds j true) a' w' := by
        intro a' w' hb' hrest
        refine ih (listed.setIfInBounds j true) _ (l1 ++ l2) ?_ ?_ ?_ ?_ ?_ w' hb' hrest
        · simp only [List.length_append, List.length_cons] at hlen ⊢; omega
        · exact ((List.Sublist.refl l1).append (List.sublist_cons_self j l2)).trans hsub
        · intro i
          by_cases hij : j = i
          · subst hij
            constructor
            · intro h; exact absurd h hnd
            · rintro ⟨hlt, h⟩
              rw [Array.getD_eq_getD_getElem?, Array.getElem?_setIfInBounds] at h
              rcases Nat.lt_or_ge j listed.size with hz | hz
              · simp [hz] at h
              · simp [Array.getElem?_eq_none hz] at hjun
          · rw [getD_set_ne true hij, ← hl i]
            simp only [List.mem_append, List.mem_cons]
            constructor
            · rintro (h | h)
              · exact .inl h
              · exact .inr (.inr h)
            · rintro (h | h | h)
              · exact .inl h
              · exact absurd h.symm hij
              · exact .inr h
        · intro i hi
          by_cases hij : j = i
          · subst hij
            rw [Array.getD_eq_getD_getElem?, Array.getD_eq_getD_getElem?, Array.getElem?_setIfInBounds]
            rcases Nat.lt_or_ge j listed.size with hz | hz
            · simp [hz]
            · simp [Array.getElem?_eq_none hz] at hjun
          · rw [getD_set_ne true hij, getD_set_ne false hij]
            exact hsz i hi
        · intro k hk y hy e he hb
          by_cases hij : j = k
          · subst hij
            exact hmono _ (hfed y hy e he hb)
          · rw [getD_set_ne false hij] at hk
            exact hmono _ (hcl k hk y hy e he hb)
      have hsel := Region.noSelect_spec hns
      cases hs : storeOp oj.op with
      | true =>
        have hap' : ∀ i ∈ l1, ∀ x, ops[i]? = some x → pureOp x.op = true ∧ x.apart ops oj = true := fun i hi x hx => ⟨(hap i hi x hx).1 hs, (hap i hi x hx).2.2.2⟩
        rcases ChF.takeS hsel hoj hs l1 a w hap' hc with ⟨hw, hrest⟩ | ⟨hw, hrest⟩
        · unfold Go.wpOp
          simp only [hoj, hw, Bool.false_eq_true, if_false]
          exact next _ _ hwb hrest
        · exact OpStep.wp hoj hw (hrest.mono fun v w' h => next _ _ (Nat.le_trans hwb h.1) h.2)
      | false =>
      cases ha : allocOf oj with
      | none =>
        have hap' : ∀ i ∈ l1, ∀ x, ops[i]? = some x → quietOp x.op = true ∧ x.apart ops oj = true := fun i hi x hx => ⟨(hap i hi x hx).2.1 hs ha, (hap i hi x hx).2.2.2⟩
        cases hq : quietOp oj.op with
        | true =>
          obtain ⟨v, hv, hrest⟩ := ChF.takeQ hsel hoj hq l1 a w hap' hc
          rcases hv with ⟨hw, hv⟩ | ⟨hw, rfl⟩
          · exact OpStep.wp hoj hw (OpStep.val (hv w (hr w)) (next _ _ hwb hrest))
          · unfold Go.wpOp
            simp only [hoj, hw, Bool.false_eq_true, if_false]
            exact next _ _ hwb hrest
        | false =>
          rcases ChF.takeN ht hre hsel hoj hq ha hs l1 a w hap' hc with ⟨hw, hrest⟩ | ⟨hw, hrest⟩
          · unfold Go.wpOp
            simp only [hoj, hw, Bool.false_eq_true, if_false]
            exact next _ _ hwb hrest
          · exact OpStep.wp hoj hw ((hrest w (Ext.refl w)).mono fun v w' h => next _ _ (Nat.le_trans hwb (hsize _ _ h.1)) h.2)
      | some e =>
        have hg : oj.guard = none ∧ oj.op = .alloc e := by
          unfold allocOf at ha
          split at ha
          · rename_i h1 h2; injection ha with ha; subst ha; exact ⟨h1, h2⟩
          · cases ha
        have hq : quietOp oj.op = false := by rw [hg.2]; rfl
        have hrest := ChF.takeF ht hre hst hsel hoj hq ha l1 a w (fun i hi x hx => ⟨(hap i hi x hx).2.2.1 (by rw [ha]; rfl), (hap i hi x hx).2.2.2⟩) hc
        have hk := hknown j hjf
        simp only [knownAt, hoj, Option.map_some, Option.getD_some, ha] at hk
        obtain ⟨cs, hcs⟩ := Option.isSome_iff_exists.1 hk
        have hm : (e, cs) ∈ Ts := lookup_mem hcs
        have hrun := hTs _ hm w
        have hz : zeroOf Ts e = cs := by unfold zeroOf; rw [hcs]; rfl
        have hx : Ext w (w.alloc (.cells cs e)) := (Ext.refl w).alloc _
        refine OpStep.wp hoj (by simp [Region.wanted, hg.1]) (OpStep.val (w' := w.alloc (.cells cs e)) (v := .pointer (some ⟨w.heap.size, 0, none⟩)) ?_ (next _ _ (Nat.le_trans hwb hx.size) ?_))
        · unfold execOp
          simp only [hg.2, Sem.run_bind, hrun, Result.andThen_ok, Sem.run_pure]
        · exact hrest _ _ hx hwb (by rw [hz]; exact Blk.new w e cs)
end
section
variable {P : Program} {Q : Exit → Act → World → Prop} {R : World → World → Prop} {base : Nat} {Ts : List (TypeId × Array Value)} {l : List Oper}
/-- THE LAW. -/
theorem wp_region_float {id : Nat} {a : Act} {w : World} (ord : List Nat) (hm : P.follows .mixedOrders = true) (hok : floatOk l.toArray Ts ord = true) (hr : ∀ x, R x x) (ht : ∀ x y z, R x y → R y z → R x z)
    (hre : ∀ x y, Ext x y → R x y) (hsize : ∀ x y : World, R x y → x.heap.size ≤ y.heap.size)
    (hst : ∀ (w w' : World) b e cs, base ≤ b → Blk w b e cs → R w w' → Blk w' b e cs)
    (hTs : ∀ x ∈ Ts, ∀ w, (Instr.alloc x.1 true (.tuple #[])).run P w = .ok (.pointer (some ⟨w.heap.size, 0, none⟩)) (w.alloc (.cells x.2 x.1))) (hb : base ≤ w.heap.size)
    (h : ChF P l.toArray Q R base Ts ord a w.drew) : (Code.region id l.toArray true).wp P Q a w := by
  have hok' := hok
  simp only [floatOk, Bool.and_eq_true, permOk, List.all_eq_true, List.contains_iff_mem, List.mem_range] at hok'
  obtain ⟨⟨⟨⟨hns, hperm⟩, hpairs⟩, _⟩, hback⟩ := hok'
  have hord : ∀ x ∈ ord, x < l.toArray.size := by
    intro x hx
    have := hback x hx
    cases hy : (l.toArray)[x]? with
    | none => rw [hy] at this; simp at this
    | some y => exact (Array.getElem?_eq_some_iff.1 hy).1
  have hnd : ord.Pairwise (· ≠ ·) := (pairsB_iff hpairs).imp fun {i j} hp e => by
    subst e; simp [pairF] at hp
  refine wp_region_any hm (ChF.any (ops := l.toArray) hr ht hre hsize hst hTs hok _ _ a ord ?_ (List.Sublist.refl _) ?_ ?_ ?_ _ hb h)
  · have h1 := pigeonN _ l.toArray.size hnd hord
    simpa using h1
  · intro i
    simp only [Array.getD_eq_getD_getElem?, Array.getElem?_replicate]
    constructor
    · intro h
      have h' := hord i h
      exact ⟨h', by simp at h'; simp [h']⟩
    · intro h
      exact hperm i h.1
  · intro i hi
    have h' : i < l.length := by simpa using hi
    simp [h']
  · intro j hj
    exfalso
    rw [Array.getD_eq_getD_getElem?, Array.getElem?_replicate] at hj
    split at hj <;> simp at hj
theorem ChF.nil {a : Act} {w : World} (h : Q .normal a w) : ChF P l.toArray Q R base Ts [] a w := h
theorem ChF.skip {i : Nat} {r : List Nat} {o : Oper} {a : Act} {w : World} (ho : l[i]? = some o) (hg : allocOf o = none) (hw : Region.wanted o (yielded l.toArray a.tmps) = false) (h : ChF P l.toArray Q R base Ts r (a.put o.dst undef) w) : ChF P l.toArray Q R base Ts (i :: r) a w := by
  refine ⟨o, arr_at ho, ?_⟩
  cases hp : pureOp o.op with
  | true => exact .inl ⟨rfl, undef, .inr ⟨hw, rfl⟩, h⟩
  | false =>
    cases hq : quietOp o.op with
    | true => exact .inr (.inl ⟨rfl, rfl, undef, .inr ⟨hw, rfl⟩, h⟩)
    | false =>
      cases hs : storeOp o.op with
      | true => exact .inr (.inr (.inr (.inl ⟨rfl, .inl ⟨hw, h⟩⟩)))
      | false => exact .inr (.inr (.inr (.inr ⟨rfl, hg, rfl, .inl ⟨hw, h⟩⟩)))
/-- An operation that only computes. -/
theorem ChF.pure {i : Nat} {r : List Nat} {o : Oper} {a : Act} {w : World} {v : Value} (ho : l[i]? = some o) (hq : pureOp o.op = true) (hw : Region.wanted o (yielded l.toArray a.tmps) = true)
    (hv : ∀ w', (execOp a.eval o).run P w' = .ok (.value v) w') (h : ChF P l.toArray Q R base Ts r (a.put o.dst v) w) : ChF P l.toArray Q R base Ts (i :: r) a w :=
  ⟨o, arr_at ho, .inl ⟨hq, v, .inl ⟨hw, hv⟩, h⟩⟩
/-- An operation that only reads. -/
theorem ChF.quiet {i : Nat} {r : List Nat} {o : Oper} {a : Act} {w : World} {v : Value} (ho : l[i]? = some o) (hp : pureOp o.op = false) (hq : quietOp o.op = true) (hw : Region.wanted o (yielded l.toArray a.tmps) = true)
    (hv : ∀ w', R w w' → (execOp a.eval o).run P w' = .ok (.value v) w') (h : ChF P l.toArray Q R base Ts r (a.put o.dst v) w) : ChF P l.toArray Q R base Ts (i :: r) a w :=
  ⟨o, arr_at ho, .inr (.inl ⟨hp, hq, v, .inl ⟨hw, hv⟩, h⟩)⟩
/-- A box. -/
theorem ChF.box {i : Nat} {r : List Nat} {o : Oper} {a : Act} {w : World} {e : TypeId} (ho : l[i]? = some o) (hq : quietOp o.op = false) (he : allocOf o = some e)
    (h : ∀ w1 b, Ext w w1 → base ≤ b → Blk w1 b e (zeroOf Ts e) → ChF P l.toArray Q R base Ts r (a.put o.dst (.pointer (some ⟨b, 0, none⟩))) w1) : ChF P l.toArray Q R base Ts (i :: r) a w :=
  ⟨o, arr_at ho, .inr (.inr (.inl ⟨hq, e, he, h⟩))⟩
/-- A write, when all else is done. -/
theorem ChF.store {i : Nat} {r : List Nat} {o : Oper} {a : Act} {w w' : World} (ho : l[i]? = some o) (hs : storeOp o.op = true) (hw : Region.wanted o (yielded l.toArray a.tmps) = true)
    (he : (execOp a.eval o).run P w = .ok .skip w') (hz : w.heap.size ≤ w'.heap.size) (h : ChF P l.toArray Q R base Ts r (a.put o.dst undef) w') : ChF P l.toArray Q R base Ts (i :: r) a w :=
  ⟨o, arr_at ho, .inr (.inr (.inr (.inl ⟨hs, .inr ⟨hw, .skip he ⟨hz, h⟩⟩⟩)))⟩
theorem ChF.storeP {i : Nat} {r : List Nat} {o : Oper} {a : Act} {w : World} (Good : World → Prop) (ho : l[i]? = some o) (hs : storeOp o.op = true) (hw : Region.wanted o (yielded l.toArray a.tmps) = true)
    (he : ∃ w', (execOp a.eval o).run P w = .ok .skip w' ∧ w.heap.size ≤ w'.heap.size ∧ Good w') (h : ∀ w', w.heap.size ≤ w'.heap.size → Good w' → ChF P l.toArray Q R base Ts r (a.put o.dst undef) w') : ChF P l.toArray Q R base Ts (i :: r) a w := by
  obtain ⟨w', h1, h2, h3⟩ := he
  exact ChF.store ho hs hw h1 h2 (h w' h2 h3)
/-- A call, in a world that may be later. -/
theorem ChF.call {i : Nat} {r : List Nat} {o : Oper} {a : Act} {w : World} {f : FuncId} {args : Array Value} (ho : l[i]? = some o) (hq : quietOp o.op = false) (hg : allocOf o = none) (hs : storeOp o.op = false) (hw : Region.wanted o (yielded l.toArray a.tmps) = true)
    (he : ∀ w1, (execOp a.eval o).run P w1 = .ok (.enter f args) w1) (hc : ∀ w1, Ext w w1 → Calls P f args w1 fun e w'' => ∃ v, e = .returned v ∧ R w1 w'' ∧ ChF P l.toArray Q R base Ts r (a.put o.dst v) w'') : ChF P l.toArray Q R base Ts (i :: r) a w :=
  ⟨o, arr_at ho, .inr (.inr (.inr (.inr ⟨hq, hg, hs, .inr ⟨hw, fun w1 hx => .call (he w1) (hc w1 hx)⟩⟩)))⟩
end
/-- w' is w with new blocks behind it; of what was there, only blocks with p may have turned. -/
structure RX (p : Nat → Prop) (w w' : World) : Prop where
  os : w'.os = w.os
  tape : w'.tape = w.tape
  output : w'.output = w.output
  size : w.heap.size ≤ w'.heap.size
  block : ∀ i, i < w.heap.size → ¬ p i → w'.heap[i]? = w.heap[i]?
theorem RX.refl (p : Nat → Prop) (w : World) : RX p w w := ⟨rfl, rfl, rfl, Nat.le_refl _, fun _ _ _ => rfl⟩
theorem RX.trans {p : Nat → Prop} {a b c : World} (h : RX p a b) (k : RX p b c) : RX p a c :=
  ⟨k.os.trans h.os, k.tape.trans h.tape, k.output.trans h.output, Nat.le_trans h.size k.size, fun i hi hp => (k.block i (Nat.lt_of_lt_of_le hi h.size) hp).trans (h.block i hi hp)⟩
theorem RX.of_ext {p : Nat → Prop} {a b : World} (h : Ext a b) : RX p a b := ⟨World.grownBy.os h, World.grownBy.tape h, World.grownBy.output h, h.size, fun i hi _ => h.block i hi⟩
theorem RX.of_rext {p : Nat → Prop} {B : Nat} {a b : World} (h : RExt B a b) (hB : p B) : RX p a b :=
  ⟨World.grownBy.os h, World.grownBy.tape h, World.grownBy.output h, h.size, fun i hi hp => h.block i hi (fun e => hp (e ▸ hB))⟩
theorem RX.new {p : Nat → Prop} {a b c : World} (h : Ext a b) (k : RX p b c) (hp : ∀ i, p i → a.heap.size ≤ i) : Ext a c :=
  ⟨k.os.trans (World.grownBy.os h), k.tape.trans (World.grownBy.tape h), k.output.trans (World.grownBy.output h), Nat.le_trans h.size k.size,
    fun i hi _ => (k.block i (Nat.lt_of_lt_of_le hi h.size) (fun h' => by have := hp i h'; omega)).trans (h.block i hi)⟩
theorem Blk.rx {p : Nat → Prop} {w w' : World} {b : Nat} {T : TypeId} {cs : Array Value} (h : Blk w b T cs) (hx : RX p w w') (hb : ¬ p b) : Blk w' b T cs := (hx.block b h.lt hb).trans h
theorem Sl.rx {α : Type} {enc : α → List Value} {k : Nat} {p : Nat → Prop} {w w' : World} {a : Option Addr} {n c : Nat} {L : List α} (h : Sl enc k w a n c L) (hx : RX p w w') (hne : 0 < n → ∀ x, a = some x → ¬ p x.block) : Sl enc k w' a n c L :=
  h.keep hx.size fun b _ hn e hb => hx.block b hb (hne hn _ e)
theorem ChX.storeP {P : Program} {Q : Exit → Act → World → Prop} {R : World → World → Prop} {l : List Oper} {i : Nat} {r : List Nat} {o : Oper} {a : Act} {w : World} (Good : World → Prop) (ho : l[i]? = some o) (hq : quietOp o.op = false) (hw : Region.wanted o (yielded l.toArray a.tmps) = true)
    (he : ∃ w', (execOp a.eval o).run P w = .ok .skip w' ∧ R w w' ∧ Good w') (h : ∀ w', R w w' → Good w' → ChX P l.toArray Q R r (a.put o.dst undef) w') : ChX P l.toArray Q R (i :: r) a w := by
  obtain ⟨w', h1, h2, h3⟩ := he
  exact ChX.effs ho hq hw h1 h2 (h w' h2 h3)
/-- The world, as far as it matters. -/
theorem wp_gen {P : Program} {c : Go.Code} {Q : Exit → Act → World → Prop} {a : Act} {w : World} (Good : World → Prop) (hg : Good w) (h : ∀ W, Good W → Code.wp P c Q a W) : Code.wp P c Q a w := h w hg
theorem Blk.put3 {w : World} {b : Nat} {T : TypeId} {a0 a1 a2 : Value} (h : Blk w b T #[a0, a1, a2]) (u0 u1 u2 : Value) :
    Blk (((w.setCell ⟨b, 0, none⟩ u0).setCell ⟨b, 1, none⟩ u1).setCell ⟨b, 2, none⟩ u2) b T #[u0, u1, u2] := by
  simpa using ((h.set 0 u0).set 1 u1).set 2 u2
theorem Blk.put6 {w : World} {b : Nat} {T : TypeId} {a0 a1 a2 a3 a4 a5 : Value} (h : Blk w b T #[a0, a1, a2, a3, a4, a5]) (u0 u1 u2 u3 u4 u5 : Value) :
    Blk ((((((w.setCell ⟨b, 0, none⟩ u0).setCell ⟨b, 1, none⟩ u1).setCell ⟨b, 2, none⟩ u2).setCell ⟨b, 3, none⟩ u3).setCell ⟨b, 4, none⟩ u4).setCell ⟨b, 5, none⟩ u5) b T #[u0, u1, u2, u3, u4, u5] := by
  simpa using (((((h.set 0 u0).set 1 u1).set 2 u2).set 3 u3).set 4 u4).set 5 u5
theorem Blk.put8 {w : World} {b : Nat} {T : TypeId} {a0 a1 a2 a3 a4 a5 a6 a7 : Value} (h : Blk w b T #[a0, a1, a2, a3, a4, a5, a6, a7]) (u0 u1 u2 u3 u4 u5 u6 u7 : Value) :
    Blk ((((((((w.setCell ⟨b, 0, none⟩ u0).setCell ⟨b, 1, none⟩ u1).setCell ⟨b, 2, none⟩ u2).setCell ⟨b, 3, none⟩ u3).setCell ⟨b, 4, none⟩ u4).setCell ⟨b, 5, none⟩ u5).setCell ⟨b, 6, none⟩ u6).setCell ⟨b, 7, none⟩ u7) b T #[u0, u1, u2, u3, u4, u5, u6, u7] := by
  simpa using (((((((h.set 0 u0).set 1 u1).set 2 u2).set 3 u3).set 4 u4).set 5 u5).set 6 u6).set 7 u7
theorem Blk.put9 {w : World} {b : Nat} {T : TypeId} {a0 a1 a2 a3 a4 a5 a6 a7 a8 : Value} (h : Blk w b T #[a0, a1, a2, a3, a4, a5, a6, a7, a8]) (u0 u1 u2 u3 u4 u5 u6 u7 u8 : Value) :
    Blk (((((((((w.setCell ⟨b, 0, none⟩ u0).setCell ⟨b, 1, none⟩ u1).setCell ⟨b, 2, none⟩ u2).setCell ⟨b, 3, none⟩ u3).setCell ⟨b, 4, none⟩ u4).setCell ⟨b, 5, none⟩ u5).setCell ⟨b, 6, none⟩ u6).setCell ⟨b, 7, none⟩ u7).setCell ⟨b, 8, none⟩ u8) b T #[u0, u1, u2, u3, u4, u5, u6, u7, u8] := by
  simpa using ((((((((h.set 0 u0).set 1 u1).set 2 u2).set 3 u3).set 4 u4).set 5 u5).set 6 u6).set 7 u7).set 8 u8
theorem RExt.putc {B : Nat} {a b : World} (h : RExt B a b) (o : Nat) (u : Value) : RExt B a (b.setCell ⟨B, o, none⟩ u) := h.setCell (.inl rfl) u
theorem Blk.apart {w : World} {b b' : Nat} {T T' : TypeId} {cs cs' : Array Value} (h : Blk w b T cs) (h' : Blk w b' T' cs') (hne : T ≠ T') : b ≠ b' := by
  intro e
  subst e
  unfold Blk at h h'
  rw [h] at h'
  injection h' with h'
  injection h' with _ ht
  exact hne ht
theorem Ow.apartB {α : Type} {E : TypeId} {enc : α → List Value} {k base : Nat} {w : World} {a : Option Addr} {n c : Nat} {L : List α} {b : Nat} {T : TypeId} {cs : Array Value}
    (h : Ow E enc k base w a n c L) (h' : Blk w b T cs) (hne : E ≠ T) : ∀ x, a = some x → x.block ≠ b := by
  intro x hx he
  obtain ⟨_, ⟨rfl, _⟩ | ⟨g, cur, rfl, _, hg, _⟩⟩ := h
  · cases hx
  injection hx with hx
  subst hx
  simp only at he
  subst he
  unfold Blk at h'
  rw [hg] at h'
  injection h' with h'
  injection h' with _ ht
  exact hne ht
theorem Blk.putTo {w : World} {b : Nat} {T : TypeId} {a0 a1 a2 a3 a4 a5 : Value} (h : Blk w b T #[a0, a1, a2, a3, a4, a5]) (u0 u1 u2 u3 u4 u5 v3 v4 : Value) :
    Blk ((((((((w.setCell ⟨b, 0, none⟩ u0).setCell ⟨b, 1, none⟩ u1).setCell ⟨b, 2, none⟩ u2).setCell ⟨b, 3, none⟩ u3).setCell ⟨b, 4, none⟩ u4).setCell ⟨b, 5, none⟩ u5).setCell ⟨b, 3, none⟩ v3).setCell ⟨b, 4, none⟩ v4) b T #[u0, u1, u2, v3, v4, u5] := by
  simpa using ((h.put6 u0 u1 u2 u3 u4 u5).set 3 v3).set 4 v4
end Go.Proofs.Ytppdcglnopoocaa
/- Contracts: the first package's filters; packets from inside. -/
namespace Go.Proofs.Ytppdcglnopoocaa
set_option linter.unusedVariables false
set_option linter.unusedSimpArgs false
open Go.RowKit Go.Shelf

set_option maxHeartbeats 1000000 in
theorem impl_from (g : GateD) (p : PktD) (ta : Option Addr) (tn tc : Nat) (ka : Option Addr) (kn kc : Nat) (a : Option Addr) (n c : Nat) (w : World) (ht : Sl encM 4 w ta tn tc g.table) (hk : Sl encC 3 w ka kn kc g.cons) (hs : Sl encI 1 w a n c p.data) :
    Calls Try.prog 77 #[.agg #[.int .i64 g.net.base, .int .i64 g.net.bits, .int .i64 g.out, .slice ta tn tc, .slice ka kn kc, .int .i64 g.filter, .int .i64 g.hold, .int .i64 g.now], .agg #[.int .i64 p.kind, .int .i64 p.fr.addr, .int .i64 p.fr.port, .int .i64 p.to_.addr, .int .i64 p.to_.port, .slice a n c]] w fun r w' => r = .returned (.bool (fromIn g p)) ∧ Ext w w' := by
  go_enter Try.func77, Try.ntmps77
  go_wp2_with (first | (go_at_call 30; refine (impl_ValidGate g ta tn tc ka kn kc _ (by exact ht.ext (by repeat (first | (with_reducible exact Ext.refl _) | (with_reducible assumption) | (with_reducible refine Ext.alloc ?_ _) | (with_reducible refine Ext.drewN ?_ _) | (with_reducible refine Ext.drew ?_) | (with_reducible refine Ext.setCell ?_ ?_ _; rotate_left; (simp only []; omega)) | (with_reducible refine Ext.trans ?_ (by assumption))))) (by exact hk.ext (by repeat (first | (with_reducible exact Ext.refl _) | (with_reducible assumption) | (with_reducible refine Ext.alloc ?_ _) | (with_reducible refine Ext.drewN ?_ _) | (with_reducible refine Ext.drew ?_) | (with_reducible refine Ext.setCell ?_ ?_ _; rotate_left; (simp only []; omega)) | (with_reducible refine Ext.trans ?_ (by assumption)))))).mono ?_; rintro e w1 ⟨rfl, hx⟩; have hc := hx.cells; have hf := hx.frozens; have hy := hx.size; (try simp at hy); have hz : w.heap.size < w1.heap.size ∧ w.heap.size + 1 < w1.heap.size := (by omega)) | (go_at_call 57; refine (impl_ValidPacket' p a n c _ (by exact hs.ext (by repeat (first | (with_reducible exact Ext.refl _) | (with_reducible assumption) | (with_reducible refine Ext.alloc ?_ _) | (with_reducible refine Ext.drewN ?_ _) | (with_reducible refine Ext.drew ?_) | (with_reducible refine Ext.setCell ?_ ?_ _; rotate_left; (simp only []; omega)) | (with_reducible refine Ext.trans ?_ (by assumption)))))).mono ?_; rintro e w1 ⟨rfl, hx⟩; have hc := hx.cells; have hf := hx.frozens; have hy := hx.size; (try simp at hy); have hz : w.heap.size < w1.heap.size ∧ w.heap.size + 1 < w1.heap.size := (by omega)) | (go_at_call 58; refine (impl_has' g.net _ _ (validGate_iff.1 (by assumption)).net).mono ?_; rintro e w1 ⟨rfl, hx⟩; have hc := hx.cells; have hf := hx.frozens; have hy := hx.size; (try simp at hy); have hz : w.heap.size < w1.heap.size ∧ w.heap.size + 1 < w1.heap.size := (by omega)))
  all_goals (go_ret; exact ⟨ret_bool (by (first | (simp [fromIn, *]; done) | (simp only [Bool.not_eq_true', Bool.not_eq_false', Bool.not_eq_true, beq_iff_eq, beq_eq_false_iff_ne, bne_iff_ne, ne_eq] at *; (simp [fromIn, bne_dec, *]; done)))), (by repeat (first | (with_reducible exact Ext.refl _) | (with_reducible assumption) | (with_reducible refine Ext.alloc ?_ _) | (with_reducible refine Ext.drewN ?_ _) | (with_reducible refine Ext.drew ?_) | (with_reducible refine Ext.setCell ?_ ?_ _; rotate_left; (simp only []; omega)) | (with_reducible refine Ext.trans ?_ (by assumption))))⟩)
theorem clo_lets (kind port : Int) (fr : EndD) (d : ConD) (G H K : Nat) (W : World) (hB : Blk W G 3 #[.int .i64 port]) (hC : Blk W H 30 #[.int .i64 fr.addr, .int .i64 fr.port]) (hD : Blk W K 3 #[.int .i64 kind]) :
    Calls Try.prog 69 (#[.agg #[.int .i64 d.port, .int .i64 d.to_.addr, .int .i64 d.to_.port]] ++ #[.pointer (some ⟨G, 0, none⟩), .pointer (some ⟨H, 0, none⟩), .pointer (some ⟨K, 0, none⟩)]) W fun r w' => r = .returned (.bool (decide (d.port = port) && (decide (d.to_ = fr) || decide (kind = 1) && decide (d.to_.addr = fr.addr)))) ∧ Ext W w' := by
  show Calls Try.prog 69 #[.agg #[.int .i64 d.port, .int .i64 d.to_.addr, .int .i64 d.to_.port], .pointer (some ⟨G, 0, none⟩), .pointer (some ⟨H, 0, none⟩), .pointer (some ⟨K, 0, none⟩)] W _
  have c1 := hB.cells
  have z1 := hB.lt
  have c2 := hC.cells
  have z2 := hC.lt
  have c3 := hD.cells
  have z3 := hD.lt
  have heq := fun V => run_eql_E d.to_ fr V
  generalize decide (d.to_ = fr) = q at *
  clear hB hC hD
  go_enter Try.func69, Try.ntmps69
  go_wp2
  all_goals (go_ret; exact ⟨ret_bool (by first | (simp_all; done) | (simp_all; rfl)), (by repeat (first | (with_reducible exact Ext.refl _) | (with_reducible assumption) | (with_reducible refine Ext.alloc ?_ _) | (with_reducible refine Ext.drewN ?_ _) | (with_reducible refine Ext.drew ?_) | (with_reducible refine Ext.setCell ?_ ?_ _; rotate_left; (simp only []; omega)) | (with_reducible refine Ext.trans ?_ (by assumption))))⟩)
set_option maxHeartbeats 1000000 in
theorem impl_LetsIn (kind : Int) (a : Option Addr) (n c : Nat) (L : List ConD) (port : Int) (fr : EndD) (w : World) (hs : Sl encC 3 w a n c L) :
    Calls Try.prog 22 #[.int .i64 kind, .slice a n c, .int .i64 port, .agg #[.int .i64 fr.addr, .int .i64 fr.port]] w fun r w' => r = .returned (.bool (letsIn kind L port fr)) ∧ Ext w w' := by
  have e1 : ∀ args w, (callFunc 69 args).run Try.prog w = .ok (.enter 69 args) w := enters_of Try.func69 (by kernel_rfl) rfl
  have c1 := fun W => impl_in kind 0 2 W
  have c2 := fun W h => impl_ValidContacts a n c L W h
  have e1 := Lib.hid e1
  unfold letsIn
  obtain ⟨b1, hb1⟩ : ∃ b, inR kind 0 2 = b := ⟨_, rfl⟩
  obtain ⟨b2, hb2⟩ : ∃ b, validContacts L = b := ⟨_, rfl⟩
  rw [hb1] at c1 ⊢
  rw [hb2] at c2 ⊢
  replace c1 := Lib.hid c1
  replace c2 := Lib.hid c2
  clear hb1 hb2
  have hl := Lib.hid (show lets kind L port fr = (decide (kind = 0) || L.any fun d => decide (d.port = port) && (decide (d.to_ = fr) || decide (kind = 1) && decide (d.to_.addr = fr.addr))) by
    unfold lets
    congr 1
    apply congrArg (List.any L)
    funext d
    rw [EndD.eq_iff]
    cases decide (d.port = port) <;> cases decide (d.to_.addr = fr.addr) <;> cases decide (kind = 1) <;> cases decide (d.to_.port = fr.port) <;> rfl)
  generalize lets kind L port fr = R at *
  have XU := Ext.refl w
  cases b1 with
  | false =>
    go_enter Try.func22, Try.ntmps22
    go_wp2_with (first | (go_at_call 66; refine (c1.out _).mono ?_; rintro e w' ⟨rfl, rfl⟩) | (go_at_call 67; refine (c2.out _ (by exact hs.ext (by repeat (first | (with_reducible exact Ext.refl _) | (with_reducible assumption) | (with_reducible refine Ext.alloc ?_ _) | (with_reducible refine Ext.drewN ?_ _) | (with_reducible refine Ext.drew ?_) | (with_reducible refine Ext.setCell ?_ ?_ _; rotate_left; (simp only []; omega)) | (with_reducible refine Ext.trans ?_ (by assumption)))))).mono ?_; rintro e w1 ⟨rfl, hx⟩; have hc := hx.cells; have hf := hx.frozens; have hy := hx.size; (try simp at hy); have hz : w.heap.size < w1.heap.size ∧ w.heap.size + 1 < w1.heap.size ∧ w.heap.size + 2 < w1.heap.size := (by omega)))
    go_ret
    exact ⟨ret_bool (by simp), (by repeat (first | (with_reducible exact Ext.refl _) | (with_reducible assumption) | (with_reducible refine Ext.alloc ?_ _) | (with_reducible refine Ext.drewN ?_ _) | (with_reducible refine Ext.drew ?_) | (with_reducible refine Ext.setCell ?_ ?_ _; rotate_left; (simp only []; omega)) | (with_reducible refine Ext.trans ?_ (by assumption))))⟩
  | true =>
    cases b2 with
    | false =>
      go_enter Try.func22, Try.ntmps22
      go_wp2_with (first | (go_at_call 66; refine (c1.out _).mono ?_; rintro e w' ⟨rfl, rfl⟩) | (go_at_call 67; refine (c2.out _ (by exact hs.ext (by repeat (first | (with_reducible exact Ext.refl _) | (with_reducible assumption) | (with_reducible refine Ext.alloc ?_ _) | (with_reducible refine Ext.drewN ?_ _) | (with_reducible refine Ext.drew ?_) | (with_reducible refine Ext.setCell ?_ ?_ _; rotate_left; (simp only []; omega)) | (with_reducible refine Ext.trans ?_ (by assumption)))))).mono ?_; rintro e w1 ⟨rfl, hx⟩; have hc := hx.cells; have hf := hx.frozens; have hy := hx.size; (try simp at hy); have hz : w.heap.size < w1.heap.size ∧ w.heap.size + 1 < w1.heap.size ∧ w.heap.size + 2 < w1.heap.size := (by omega)))
      go_ret
      exact ⟨ret_bool (by simp), (by repeat (first | (with_reducible exact Ext.refl _) | (with_reducible assumption) | (with_reducible refine Ext.alloc ?_ _) | (with_reducible refine Ext.drewN ?_ _) | (with_reducible refine Ext.drew ?_) | (with_reducible refine Ext.setCell ?_ ?_ _; rotate_left; (simp only []; omega)) | (with_reducible refine Ext.trans ?_ (by assumption))))⟩
    | true =>
      go_enter Try.func22, Try.ntmps22
      go_wp2_with (go_at_call 66; refine (c1.out _).mono ?_; rintro e w' ⟨rfl, rfl⟩)
      refine (c2.out _ (by exact hs.ext (by repeat (first | (with_reducible exact Ext.refl _) | (with_reducible assumption) | (with_reducible refine Ext.alloc ?_ _) | (with_reducible refine Ext.drewN ?_ _) | (with_reducible refine Ext.drew ?_) | (with_reducible refine Ext.setCell ?_ ?_ _; rotate_left; (simp only []; omega)) | (with_reducible refine Ext.trans ?_ (by assumption)))))).mono ?_
      rintro e w1 ⟨rfl, hx1⟩
      have BK : Blk w1 w.heap.size 3 #[.int .i64 kind] := by refine Blk.ext ?_ hx1; exact (by repeat (first | (with_reducible assumption) | (with_reducible exact Blk.new _ _ _) | exact Blk.newAt _ _ _ (by simp) | (with_reducible refine Blk.alloc ?_ _) | (with_reducible refine Blk.drew ?_) | (with_reducible refine Blk.drewN ?_ _) | refine Blk.far ?_ (by simp only []; omega) _ | refine Blk.rext ?_ (by assumption) (by omega) | refine Blk.ext ?_ (by assumption)))
      have BG : Blk w1 (w.heap.size + 1) 3 #[.int .i64 port] := by refine Blk.ext ?_ hx1; exact (by repeat (first | (with_reducible assumption) | (with_reducible exact Blk.new _ _ _) | exact Blk.newAt _ _ _ (by simp) | (with_reducible refine Blk.alloc ?_ _) | (with_reducible refine Blk.drew ?_) | (with_reducible refine Blk.drewN ?_ _) | refine Blk.far ?_ (by simp only []; omega) _ | refine Blk.rext ?_ (by assumption) (by omega) | refine Blk.ext ?_ (by assumption)))
      have BE : Blk w1 (w.heap.size + 1 + 1) 30 #[.int .i64 fr.addr, .int .i64 fr.port] := by refine Blk.ext ?_ hx1; exact (by repeat (first | (with_reducible assumption) | (with_reducible exact Blk.new _ _ _) | exact Blk.newAt _ _ _ (by simp) | (with_reducible refine Blk.alloc ?_ _) | (with_reducible refine Blk.drew ?_) | (with_reducible refine Blk.drewN ?_ _) | refine Blk.far ?_ (by simp only []; omega) _ | refine Blk.rext ?_ (by assumption) (by omega) | refine Blk.ext ?_ (by assumption)))
      have X1 : Ext w w1 := (by repeat (first | (with_reducible exact Ext.refl _) | (with_reducible assumption) | (with_reducible refine Ext.alloc ?_ _) | (with_reducible refine Ext.drewN ?_ _) | (with_reducible refine Ext.drew ?_) | (with_reducible refine Ext.setCell ?_ ?_ _; rotate_left; (simp only []; omega)) | (with_reducible refine Ext.trans ?_ (by assumption))))
      clear hx1
      have cK := BK.cells
      have zK := BK.lt
      have zG := BG.lt
      have zE := BE.lt
      have hC := Lib.hid (fun W (hW : Ext w1 W) => ContainsFunc_C 69 #[.pointer (some ⟨w.heap.size + 1, 0, none⟩), .pointer (some ⟨w.heap.size + 1 + 1, 0, none⟩), .pointer (some ⟨w.heap.size, 0, none⟩)] e1.out (fun d => decide (d.port = port) && (decide (d.to_ = fr) || decide (kind = 1) && decide (d.to_.addr = fr.addr))) a n c L W (hs.ext (X1.trans hW)) (fun d _ W' hW' => clo_lets kind port fr d (w.heap.size + 1) (w.heap.size + 1 + 1) w.heap.size W' (BG.ext (hW.trans hW')) (BE.ext (hW.trans hW')) (BK.ext (hW.trans hW'))))
      clear BK BG BE
      generalize (L.any fun d => decide (d.port = port) && (decide (d.to_ = fr) || decide (kind = 1) && decide (d.to_.addr = fr.addr))) = q at *
      by_cases h0 : kind = 0
      · go_wp2_with fail
        go_ret
        exact ⟨ret_bool (by rw [hl.out]; simp [h0]), (by repeat (first | (with_reducible exact Ext.refl _) | (with_reducible assumption) | (with_reducible refine Ext.alloc ?_ _) | (with_reducible refine Ext.drewN ?_ _) | (with_reducible refine Ext.drew ?_) | (with_reducible refine Ext.setCell ?_ ?_ _; rotate_left; (simp only []; omega)) | (with_reducible refine Ext.trans ?_ (by assumption))))⟩
      · go_wp2_with fail
        refine (hC.out _ (by exact (by repeat (first | (with_reducible exact Ext.refl _) | (with_reducible assumption) | (with_reducible refine Ext.alloc ?_ _) | (with_reducible refine Ext.drewN ?_ _) | (with_reducible refine Ext.drew ?_) | (with_reducible refine Ext.setCell ?_ ?_ _; rotate_left; (simp only []; omega)) | (with_reducible refine Ext.trans ?_ (by assumption)))))).mono ?_
        rintro e w2 ⟨rfl, hx2⟩
        have X2 : Ext w w2 := X1.trans (by repeat (first | (with_reducible exact Ext.refl _) | (with_reducible assumption) | (with_reducible refine Ext.alloc ?_ _) | (with_reducible refine Ext.drewN ?_ _) | (with_reducible refine Ext.drew ?_) | (with_reducible refine Ext.setCell ?_ ?_ _; rotate_left; (simp only []; omega)) | (with_reducible refine Ext.trans ?_ (by assumption))))
        clear hx2
        go_wp2
        go_ret
        exact ⟨ret_bool (by rw [hl.out]; simp [h0]), X2⟩
end Go.Proofs.Ytppdcglnopoocaa
/- Contracts: slices.DeleteFunc on own rows of mappings and contacts, whatever predicate. -/
namespace Go.Proofs.Ytppdcglnopoocaa
set_option linter.unusedVariables false
set_option linter.unusedSimpArgs false
open Go.RowKit Go.Shelf

theorem filt_le {α : Type} (p : α → Bool) (L : List α) (k : Nat) : ((L.take k).filter p).length ≤ k :=
  Nat.le_trans (List.length_filter_le _ _) (by simp; omega)
/-- Cells written into a row from a place on. -/
theorem Blk.sets {T : TypeId} {g : Nat} : ∀ (vs : List Value) (o : Nat) (w : World) (cur : Array Value), Blk w g T cur → ∃ cur', Blk (w.setCells g o vs) g T cur' ∧ cur'.size = cur.size ∧ (∀ j, j < o → cur'[j]? = cur[j]?) ∧ RExt g w (w.setCells g o vs)
  | [], _, w, cur, h => ⟨cur, h, rfl, fun _ _ => rfl, RExt.refl g w⟩
  | v :: r, o, w, cur, h => by
    obtain ⟨cur', h1, h2, h3, h4⟩ := Blk.sets r (o + 1) _ _ (h.set o v)
    refine ⟨cur', h1, by simpa using h2, fun j hj => (h3 j (by omega)).trans ?_, ?_⟩
    · rw [Array.getElem?_setIfInBounds_ne (by omega)]
    · exact (RExt.setCell (RExt.refl g w) (.inl rfl) v).trans h4
theorem run_clear_blk {P : Program} {t E : TypeId} {k bytes : Nat} {T : TypeId} (hE : EI P t E k bytes) (h1 : ∀ z i, P.info? E = some i → i.zero = some z → ∀ u ∈ z.cells.toList, u.oneCell' = true) (w : World) (g o n c : Nat) (cur : Array Value) (hB : Blk w g T cur) (hfit : o + n * k ≤ cur.size) (hn : 0 < n) :
    ∃ W' cur', (∀ ty, (Builtin.clear_ #[t] ty #[.slice (some ⟨g, o, none⟩) n c]).run P w = .ok (.tuple #[]) W') ∧ Blk W' g T cur' ∧ cur'.size = cur.size ∧ (∀ j, j < o → cur'[j]? = cur[j]?) ∧ RExt g w W' := by
  obtain ⟨ht, i, z, hi, hz, hsz, hbs, hzs, hk0⟩ := hE
  obtain ⟨cur', h2, h3, h4, h5⟩ := Blk.sets (Builtin.zeroCells z.cells n).toList o w cur hB
  refine ⟨_, cur', fun ty => ?_, h2, h3, h4, h5⟩
  have hlen : (Builtin.zeroCells z.cells n).toList.length = n * k := by simp [Builtin.zeroCells, hzs]
  have hst := run_storeCells_cells (P := P) g o (Builtin.zeroCells z.cells n).toList 0 w
    (fun j hj => by
      rw [hlen] at hj
      rw [Nat.add_zero, hB.cells, Array.getElem?_eq_getElem (by omega)]; rfl)
    (fun j _ => hB.frozens _)
    (fun v hv => by
      simp only [Builtin.zeroCells, Array.toList_map, List.mem_map] at hv
      obtain ⟨q, hq, rfl⟩ := hv
      have hlt : q % z.cells.size < z.cells.size := Nat.mod_lt _ (by omega)
      rw [getElem!_pos z.cells _ hlt]
      exact h1 z i hi hz _ (by simp))
  simp only [Nat.add_zero] at hst
  obtain ⟨m, rfl⟩ : ∃ m, n = m + 1 := ⟨n - 1, by omega⟩
  simp [Builtin.clear_, run_underlying ht, zeroValue, typeInfo, hi, hz, hst]
theorem zero1 {P : Program} {E : TypeId} {zz : Value} (he : (P.info? E).map (fun i => i.zero) = some (some zz)) (h : ∀ u ∈ zz.cells.toList, u.oneCell' = true) : ∀ z i, P.info? E = some i → i.zero = some z → ∀ u ∈ z.cells.toList, u.oneCell' = true := by
  intro z i hi hz
  rw [hi] at he
  simp only [Option.map_some, Option.some.injEq] at he
  rw [hz] at he
  injection he with he
  subst he
  exact h
theorem zero1_C : ∀ z i, Try.prog.info? 47 = some i → i.zero = some z → ∀ u ∈ z.cells.toList, u.oneCell' = true :=
  zero1 (zz := .agg #[.int .i64 0, .int .i64 0, .int .i64 0]) (by kernel_rfl) (by intro u hu; simp [Value.cells] at hu; subst hu; rfl)
theorem zero1_M : ∀ z i, Try.prog.info? 89 = some i → i.zero = some z → ∀ u ∈ z.cells.toList, u.oneCell' = true :=
  zero1 (zz := .agg #[.int .i64 0, .int .i64 0, .int .i64 0, .int .i64 0]) (by kernel_rfl) (by intro u hu; simp [Value.cells] at hu; subst hu; rfl)
theorem run_drop_C (g n c m : Nat) (h : m < n) (hc : n ≤ c) (W : World) : (Instr.slice 26 (.slice (some ⟨g, 0, none⟩) n c) (some (.int .i64 m)) none none).run Try.prog W = .ok (.slice (some ⟨g, m * 3, none⟩) (n - m) (c - m)) W := by
  rw [run_slice_l (P := Try.prog) W 26 (some ⟨g, 0, none⟩) n c (by kernel_rfl) .i64 (m : Int) (by omega) (by omega)]
  have hcm : ¬ c = m := by omega
  go_simp
theorem run_drop_M (g n c m : Nat) (h : m < n) (hc : n ≤ c) (W : World) : (Instr.slice 25 (.slice (some ⟨g, 0, none⟩) n c) (some (.int .i64 m)) none none).run Try.prog W = .ok (.slice (some ⟨g, m * 4, none⟩) (n - m) (c - m)) W := by
  rw [run_slice_l (P := Try.prog) W 25 (some ⟨g, 0, none⟩) n c (by kernel_rfl) .i64 (m : Int) (by omega) (by omega)]
  have hcm : ¬ c = m := by omega
  go_simp
theorem put_three {cur : Array Value} {i : Nat} {K : List ConD} {x : ConD} (hlt : i * 3 + 2 < cur.size) (h2 : cur.toList.take (i * 3) = K.flatMap encC) :
    (((cur.setIfInBounds (i * 3) (.int .i64 x.port)).setIfInBounds (i * 3 + 1) (.int .i64 x.to_.addr)).setIfInBounds (i * 3 + 2) (.int .i64 x.to_.port)).toList.take ((i + 1) * 3) = (K ++ [x]).flatMap encC := by
  rw [show (i + 1) * 3 = i * 3 + 2 + 1 by omega]
  simp only [Array.toList_setIfInBounds]
  rw [set_take (by simp; omega), set_take (by simp; omega), set_take (by simp; omega), h2]
  simp [encC]
set_option maxHeartbeats 2000000 in
theorem DeleteFunc_C (g0 : FuncId) (lb : Array Value) (eg : ∀ args w, (callFunc g0 args).run Try.prog w = .ok (.enter g0 args) w) (p : ConD → Bool) (a : Option Addr) (n c base : Nat) (L : List ConD) (w : World) (ho : Ow 47 encC 3 base w a n c L) (hn : n ≤ 1000)
    (hcall : ∀ x, x ∈ L → ∀ W, w.grownBy W (a.map (·.block)) → Calls Try.prog g0 (#[.agg #[.int .i64 x.port, .int .i64 x.to_.addr, .int .i64 x.to_.port]] ++ lb) W fun e w' => e = .returned (.bool (p x)) ∧ Ext W w') :
    Calls Try.prog 164 #[.slice a n c, .func (.func g0) #[] lb] w fun e w' => ∃ m, e = .returned (.slice a m c) ∧ Ow 47 encC 3 base w' a m c (L.filter fun x => !p x) ∧ m ≤ n ∧ w.grownBy w' (a.map (·.block)) := by
  have hs := ho.sl encC_len
  have hIF := Lib.hid (IndexFunc_C g0 lb eg p a n c L w hs (fun x hx W hW => hcall x hx W (by
    obtain ⟨h1, h2, h3, h4, h5⟩ := hW
    exact ⟨h1, h2, h3, h4, fun i hi _ => h5 i hi (by simp)⟩)))
  rcases ix_cases p L with ⟨e1, hall⟩ | ⟨k0, x0, e1, hx0, ht0, hall⟩
  · rw [e1] at hIF
    have hf : L.filter (fun x => !p x) = L := List.filter_eq_self.2 fun x hx => by simp [hall x hx]
    rw [hf]
    have HO := Lib.hid ho
    clear ho hs hcall hall
    go_enter Try.func164, Try.ntmps164
    go_wp2_with fail
    refine (hIF.out).mono ?_
    rintro e w1 ⟨rfl, hx⟩
    go_wp2
    go_ret
    exact ⟨n, rfl, HO.out.ext hx, Nat.le_refl _, ⟨World.grownBy.os hx, World.grownBy.tape hx, World.grownBy.output hx, hx.size, fun i hi _ => hx.block i hi⟩⟩
  · obtain ⟨hl, ⟨rfl, h0, rfl⟩ | ⟨g, cur, rfl, hb, hg, hnc, hcm, hcs, ht⟩⟩ := ho
    · have := (List.getElem?_eq_some_iff.1 hx0).1
      omega
    have hk0 : k0 < n := by have := (List.getElem?_eq_some_iff.1 hx0).1; omega
    rw [e1] at hIF
    have hK0 : (L.take k0).filter (fun x => !p x) = L.take k0 := List.filter_eq_self.2 fun x hx => by simp [hall x hx]
    have hK1 : (L.take (k0 + 1)).filter (fun x => !p x) = L.take k0 := by rw [filt_drop (by omega) (by rw [nth_of hx0]; simp [ht0]), hK0]
    have hcs0 : ∀ j, j < n → cur[j * 3]? = some (.int .i64 (nth L j).port) ∧ cur[j * 3 + 1]? = some (.int .i64 (nth L j).to_.addr) ∧ cur[j * 3 + 2]? = some (.int .i64 (nth L j).to_.port) := by
      intro j hj
      have key : ∀ q u, (encC (nth L j))[q]? = some u → cur[j * 3 + q]? = some u := by
        intro q u hu
        have hq : q < 3 := by have := (List.getElem?_eq_some_iff.1 hu).1; simpa [encC] using this
        have h1 := flat_at encC_len L j _ (nth_some (by omega)) q u hu
        rw [← ht, List.getElem?_take, if_pos (by omega)] at h1
        simpa using h1
      exact ⟨key 0 _ rfl, key 1 _ rfl, key 2 _ rfl⟩
    have hfin0 : cur.toList.take (k0 * 3) = (L.take k0).flatMap encC := by
      have e : (L.take k0).flatMap encC = (L.flatMap encC).take (k0 * 3) := by
        have h1 : L.flatMap encC = (L.take k0).flatMap encC ++ (L.drop k0).flatMap encC := by rw [← List.flatMap_append, List.take_append_drop]
        rw [h1, List.take_left' (by rw [flat_len encC_len, List.length_take]; congr 1; omega)]
      rw [e, ← ht, List.take_take]
      congr 1
      omega
    have HC := Lib.hid hcall
    have HS := Lib.hid hcs0
    have HK := Lib.hid (show (L.take k0).length = k0 by rw [List.length_take]; omega)
    have HF := Lib.hid (And.intro hK1 hfin0)
    have HM := Lib.hid (show ∀ j, j < n → nth L j ∈ L from fun j hj => nth_mem (by omega))
    have HL := Lib.hid hl
    have HB := Lib.hid (show Blk w g 47 cur from hg)
    have hle := hs.le
    clear hs hcall hcs0 hx0 ht0 hall hK0 hK1 hfin0 hl ht hg e1
    go_enter Try.func164, Try.ntmps164
    go_wp2_with fail
    refine (hIF.out).mono ?_
    rintro e w1 ⟨rfl, hx1⟩
    have hne1 : ((k0 : Int) == -1) = false := beq_eq_false_iff_ne.2 (by omega)
    have X1 := RExt.of_ext hx1 g
    have B1 := (HB.out).ext hx1
    clear hx1
    go_wp2
    go_loopw [5, 6, 7] (fun v5 v6 _ wr => ∃ (i j : Nat) (ck : Array Value) (K : List ConD), v5 = .int .i64 i ∧ v6 = .int .i64 j ∧ i < j ∧ j ≤ n ∧ K.length = i ∧ K = (L.take j).filter (fun x => !p x) ∧ Blk wr g 47 ck ∧ ck.size = cur.size ∧ ck.toList.take (i * 3) = K.flatMap encC ∧ (∀ q, j * 3 ≤ q → ck[q]? = cur[q]?) ∧ RExt g w wr) (fun _ v6 _ _ => n - (intOf v6).toNat)
    case atStart => exact ⟨k0, k0 + 1, cur, L.take k0, rfl, by go_num, by omega, by omega, HK.out, HF.out.1.symm, B1, rfl, HF.out.2, fun _ _ => rfl, X1⟩
    case round =>
      clear X1 B1
      obtain ⟨i, j, ck, K, rfl, rfl, hij, hj, hKl, hK, B, hcz, hct, hcr, X⟩ := hrel
      by_cases hlt : j < n
      · obtain ⟨s0, s1, s2⟩ := HS.out j hlt
        have d0 : wr.cell? ⟨g, j * 3, none⟩ = some (.int .i64 (nth L j).port) := by rw [B.cells, hcr _ (Nat.le_refl _)]; exact s0
        have d1 : wr.cell? ⟨g, j * 3 + 1, none⟩ = some (.int .i64 (nth L j).to_.addr) := by rw [B.cells, hcr _ (by omega)]; exact s1
        have d2 : wr.cell? ⟨g, j * 3 + 2, none⟩ = some (.int .i64 (nth L j).to_.port) := by rw [B.cells, hcr _ (by omega)]; exact s2
        have zg := B.lt
        have hcl := fun W (hW : RExt g w W) => HC.out (nth L j) (HM.out j hlt) W hW
        have HCR := Lib.hid hcr
        have HCT := Lib.hid hct
        have HKK := Lib.hid hK
        have HCZ := Lib.hid hcz
        clear s0 s1 s2 hcr hct hK hcz
        cases hp : p (nth L j) with
        | true =>
          rw [hp] at hcl
          replace hcl := Lib.hid hcl
          replace hp := Lib.hid hp
          go_wp2_with fail
          refine (hcl.out _ (by repeat (first | (with_reducible exact RExt.refl _ _) | (with_reducible assumption) | (with_reducible refine RExt.alloc ?_ _) | (with_reducible refine RExt.drewN ?_ _) | (with_reducible refine RExt.drew ?_) | (with_reducible refine RExt.setCell ?_ (.inr ?_) _; rotate_left; (simp only []; omega)) | (with_reducible refine RExt.trans ?_ (by assumption)) | (with_reducible refine RExt.ext ?_ (by assumption))))).mono ?_
          rintro e w2 ⟨rfl, hx2⟩
          have X2 : RExt g w w2 := (by repeat (first | (with_reducible exact RExt.refl _ _) | (with_reducible assumption) | (with_reducible refine RExt.alloc ?_ _) | (with_reducible refine RExt.drewN ?_ _) | (with_reducible refine RExt.drew ?_) | (with_reducible refine RExt.setCell ?_ (.inr ?_) _; rotate_left; (simp only []; omega)) | (with_reducible refine RExt.trans ?_ (by assumption)) | (with_reducible refine RExt.ext ?_ (by assumption))))
          have B2 := Blk.ext (by exact (by repeat (first | (with_reducible assumption) | (with_reducible exact Blk.new _ _ _) | exact Blk.newAt _ _ _ (by simp) | (with_reducible refine Blk.alloc ?_ _) | (with_reducible refine Blk.drew ?_) | (with_reducible refine Blk.drewN ?_ _) | refine Blk.far ?_ (by simp only []; omega) _ | refine Blk.rext ?_ (by assumption) (by omega) | refine Blk.ext ?_ (by assumption)))) hx2 (T := 47) (b := g) (cs := ck)
          clear hx2
          go_wp2
          go_roundw
          case rel => exact ⟨i, j + 1, ck, K, rfl, by go_num, by omega, by omega, hKl, by rw [HKK.out, filt_drop (by rw [HL.out]; exact hlt) (by simp [hp.out])], B2, HCZ.out, HCT.out, fun q hq => HCR.out q (by omega), X2⟩
          case measure => simp [intOf]; omega
        | false =>
          rw [hp] at hcl
          replace hcl := Lib.hid hcl
          replace hp := Lib.hid hp
          go_wp2_with fail
          refine (hcl.out _ (by repeat (first | (with_reducible exact RExt.refl _ _) | (with_reducible assumption) | (with_reducible refine RExt.alloc ?_ _) | (with_reducible refine RExt.drewN ?_ _) | (with_reducible refine RExt.drew ?_) | (with_reducible refine RExt.setCell ?_ (.inr ?_) _; rotate_left; (simp only []; omega)) | (with_reducible refine RExt.trans ?_ (by assumption)) | (with_reducible refine RExt.ext ?_ (by assumption))))).mono ?_
          rintro e w2 ⟨rfl, hx2⟩
          have X2 : RExt g w w2 := (by repeat (first | (with_reducible exact RExt.refl _ _) | (with_reducible assumption) | (with_reducible refine RExt.alloc ?_ _) | (with_reducible refine RExt.drewN ?_ _) | (with_reducible refine RExt.drew ?_) | (with_reducible refine RExt.setCell ?_ (.inr ?_) _; rotate_left; (simp only []; omega)) | (with_reducible refine RExt.trans ?_ (by assumption)) | (with_reducible refine RExt.ext ?_ (by assumption))))
          have B2 := Blk.ext (by exact (by repeat (first | (with_reducible assumption) | (with_reducible exact Blk.new _ _ _) | exact Blk.newAt _ _ _ (by simp) | (with_reducible refine Blk.alloc ?_ _) | (with_reducible refine Blk.drew ?_) | (with_reducible refine Blk.drewN ?_ _) | refine Blk.far ?_ (by simp only []; omega) _ | refine Blk.rext ?_ (by assumption) (by omega) | refine Blk.ext ?_ (by assumption)))) hx2 (T := 47) (b := g) (cs := ck)
          have BT : Blk w2 wr.heap.size 47 #[.int .i64 (nth L j).port, .int .i64 (nth L j).to_.addr, .int .i64 (nth L j).to_.port] := by refine Blk.ext ?_ hx2; exact (by repeat (first | (with_reducible assumption) | (with_reducible exact Blk.new _ _ _) | exact Blk.newAt _ _ _ (by simp) | (with_reducible refine Blk.alloc ?_ _) | (with_reducible refine Blk.drew ?_) | (with_reducible refine Blk.drewN ?_ _) | refine Blk.far ?_ (by simp only []; omega) _ | refine Blk.rext ?_ (by assumption) (by omega) | refine Blk.ext ?_ (by assumption)))
          clear hx2
          have cT := BT.cells
          have fT := BT.frozens
          have zT := BT.lt
          obtain ⟨v0, c0⟩ : ∃ v, w2.cell? ⟨g, i * 3, none⟩ = some v := ⟨_, by rw [B2.cells]; exact Array.getElem?_eq_getElem (by rw [HCZ.out]; omega)⟩
          obtain ⟨v1, c1⟩ : ∃ v, w2.cell? ⟨g, i * 3 + 1, none⟩ = some v := ⟨_, by rw [B2.cells]; exact Array.getElem?_eq_getElem (by rw [HCZ.out]; omega)⟩
          obtain ⟨v2, c2⟩ : ∃ v, w2.cell? ⟨g, i * 3 + 2, none⟩ = some v := ⟨_, by rw [B2.cells]; exact Array.getElem?_eq_getElem (by rw [HCZ.out]; omega)⟩
          have fB := B2.frozens
          have zB := B2.lt
          go_wp2
          go_roundw
          case rel =>
            refine ⟨i + 1, j + 1, _, K ++ [nth L j], by go_num, by go_num, by omega, by omega, by simp [hKl], by rw [HKK.out, filt_keep (by rw [HL.out]; exact hlt) (by simp [hp.out])], ((B2.set _ _).set _ _).set _ _, by simpa using HCZ.out, put_three (by rw [HCZ.out]; omega) HCT.out, fun q hq => ?_, ?_⟩
            · rw [Array.getElem?_setIfInBounds_ne (by omega), Array.getElem?_setIfInBounds_ne (by omega), Array.getElem?_setIfInBounds_ne (by omega)]
              exact HCR.out q (by omega)
            · exact ((X2.setCell (.inl rfl) _).setCell (.inl rfl) _).setCell (.inl rfl) _
          case measure => simp [intOf]; omega
      · have e : j = n := by omega
        subst e
        obtain ⟨W', cur', hclr, B', hz', hlow, X'⟩ := run_clear_blk eiC zero1_C wr g (i * 3) (j - i) (c - i) ck B (by omega) (by omega)
        have hdr := run_drop_C g j c i hij hnc
        have htk := run_take_C (some ⟨g, 0, none⟩) j c i (by omega)
        have HR := Lib.hid (X.trans X')
        have HOW := Lib.hid (show Ow 47 encC 3 base W' (some ⟨g, 0, none⟩) i c K by
          refine ⟨hKl, .inr ⟨g, cur', rfl, hb, B', by omega, hcm, by omega, ?_⟩⟩
          rw [← hct]
          apply List.ext_getElem?
          intro q
          rw [List.getElem?_take, List.getElem?_take]
          split
          · have := hlow q (by omega)
            simpa using this
          · rfl)
        rw [List.take_of_length_le (by rw [HL.out]; omega)] at hK
        clear B' hz' hlow X' hcr hct X B hcz
        go_wp2
        go_ret
        exact ⟨i, rfl, hK ▸ HOW.out, by omega, HR.out⟩
end Go.Proofs.Ytppdcglnopoocaa
/- The first package's time steps. -/
namespace Go.Proofs.Ytppdcglnopoocaa
set_option linter.unusedVariables false
set_option linter.unusedSimpArgs false
open Go.RowKit Go.Shelf

theorem RExt.toExt {a b c : World} {row : Option Nat} (h : Ext a b) (k : b.grownBy c row) (hr : ∀ g, row = some g → a.heap.size ≤ g) : Ext a c := h.grown k hr
end Go.Proofs.Ytppdcglnopoocaa
/- The first package's TickGate. -/
namespace Go.Proofs.Ytppdcglnopoocaa
set_option linter.unusedVariables false
set_option linter.unusedSimpArgs false
open Go.RowKit Go.Shelf

set_option maxHeartbeats 2000000 in
theorem impl_copyOf (g : GateD) (ta : Option Addr) (tn tc : Nat) (ka : Option Addr) (kn kc : Nat) (w : World) (ht : Sl encM 4 w ta tn tc g.table) (hk : Sl encC 3 w ka kn kc g.cons) (h1 : tn ≤ 1000) (h2 : kn ≤ 1000) :
    Calls Try.prog 61 #[.agg #[.int .i64 g.net.base, .int .i64 g.net.bits, .int .i64 g.out, .slice ta tn tc, .slice ka kn kc, .int .i64 g.filter, .int .i64 g.hold, .int .i64 g.now]] w fun e w' => ∃ sa qa, e = .returned (.agg #[.int .i64 g.net.base, .int .i64 g.net.bits, .int .i64 g.out, .slice sa tn tn, .slice qa kn kn, .int .i64 g.filter, .int .i64 g.hold, .int .i64 g.now]) ∧ Ow 89 encM 4 w.heap.size w' sa tn tn g.table ∧
      Ow 47 encC 3 w.heap.size w' qa kn kn g.cons ∧ Ext w w' := by
  go_enter Try.func61, Try.ntmps61
  go_wp2_with fail
  go_region_with (first
    | (go_at_call 123; refine (impl_clone_M ta tn tc g.table _ (by exact ht.ext (by repeat (first | (with_reducible exact Ext.refl _) | (with_reducible assumption) | (with_reducible refine Ext.alloc ?_ _) | (with_reducible refine Ext.drewN ?_ _) | (with_reducible refine Ext.drew ?_) | (with_reducible refine Ext.setCell ?_ ?_ _; rotate_left; (simp only []; omega)) | (with_reducible refine Ext.trans ?_ (by assumption))))) (by omega)).mono ?_; rintro e wM ⟨sa, rfl, hOM, hxM⟩; have hcM := hxM.cells; have hfM := hxM.frozens; have hyM := hxM.size; (try simp at hyM); have hzM : w.heap.size < wM.heap.size ∧ w.heap.size + 1 < wM.heap.size := (by omega))
    | (go_at_call 124; refine (impl_clone_C ka kn kc g.cons _ (by exact hk.ext (by repeat (first | (with_reducible exact Ext.refl _) | (with_reducible assumption) | (with_reducible refine Ext.alloc ?_ _) | (with_reducible refine Ext.drewN ?_ _) | (with_reducible refine Ext.drew ?_) | (with_reducible refine Ext.setCell ?_ ?_ _; rotate_left; (simp only []; omega)) | (with_reducible refine Ext.trans ?_ (by assumption))))) (by omega)).mono ?_; rintro e wC ⟨qa, rfl, hOC, hxC⟩; have hcC := hxC.cells; have hfC := hxC.frozens; have hyC := hxC.size; (try simp at hyC); have hzC : w.heap.size < wC.heap.size ∧ w.heap.size + 1 < wC.heap.size := (by omega)))
  all_goals
    have lM := hOM.lt
    have lC := hOC.lt
    have hOM2 := hOM.ext hxC
    have BX : Blk wC w.heap.size 28 (#[.int .i64 g.net.base, .int .i64 g.net.bits, .int .i64 g.out, .slice ta tn tc, .slice ka kn kc, .int .i64 g.filter, .int .i64 g.hold, .int .i64 g.now]) := by refine Blk.ext ?_ hxC; refine Blk.ext ?_ hxM; exact (by repeat (first | (with_reducible assumption) | (with_reducible exact Blk.new _ _ _) | exact Blk.newAt _ _ _ (by simp) | (with_reducible refine Blk.alloc ?_ _) | (with_reducible refine Blk.drew ?_) | (with_reducible refine Blk.drewN ?_ _) | refine Blk.far ?_ (by simp only []; omega) _ | refine Blk.rext ?_ (by assumption) (by omega) | refine Blk.ext ?_ (by assumption)))
    have BR : Blk wC (w.heap.size + 1) 28 #[.int .i64 0, .int .i64 0, .int .i64 0, .slice none 0 0, .slice none 0 0, .int .i64 0, .int .i64 0, .int .i64 0] := by refine Blk.ext ?_ hxC; refine Blk.ext ?_ hxM; exact (by repeat (first | (with_reducible assumption) | (with_reducible exact Blk.new _ _ _) | exact Blk.newAt _ _ _ (by simp) | (with_reducible refine Blk.alloc ?_ _) | (with_reducible refine Blk.drew ?_) | (with_reducible refine Blk.drewN ?_ _) | refine Blk.far ?_ (by simp only []; omega) _ | refine Blk.rext ?_ (by assumption) (by omega) | refine Blk.ext ?_ (by assumption)))
    have XC : Ext w wC := by refine Ext.trans ?_ hxC; exact (by repeat (first | (with_reducible exact Ext.refl _) | (with_reducible assumption) | (with_reducible refine Ext.alloc ?_ _) | (with_reducible refine Ext.drewN ?_ _) | (with_reducible refine Ext.drew ?_) | (with_reducible refine Ext.setCell ?_ ?_ _; rotate_left; (simp only []; omega)) | (with_reducible refine Ext.trans ?_ (by assumption))))
    clear hcC hcM hfM hfC hxC hxM
    have cX := BX.cells
    have fX := BX.frozens
    have cR := BR.cells
    have fR := BR.frozens
    go_wp2
    refine' bodyPost_ret (v := _) ?_ rfl ?_
    rotate_left
    · (simp only [results, Try.results61]
       go_simp
       rfl)
    refine ⟨sa, qa, rfl, ?_, ?_, (by repeat (first | (with_reducible exact Ext.refl _) | (with_reducible assumption) | (with_reducible refine Ext.alloc ?_ _) | (with_reducible refine Ext.drewN ?_ _) | (with_reducible refine Ext.drew ?_) | (with_reducible refine Ext.setCell ?_ ?_ _; rotate_left; (simp only []; omega)) | (with_reducible refine Ext.trans ?_ (by assumption))))⟩
    · refine Ow.rebase (base := w.heap.size + 2) ?_ (by omega)
      repeat (refine Ow.setC ?_ (fun x e => by have := (lM x e).1; simp only []; (try simp at this); omega) _)
      exact hOM2.rebase (by simp)
    · refine Ow.rebase (base := wM.heap.size) ?_ (by omega)
      repeat (refine Ow.setC ?_ (fun x e => by have := (lC x e).1; simp only []; (try simp at this); omega) _)
      exact hOC
end Go.Proofs.Ytppdcglnopoocaa
