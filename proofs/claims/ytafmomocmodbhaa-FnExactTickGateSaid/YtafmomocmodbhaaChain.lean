/- A region that draws its order, walked once in the text's order: if every operation gives one fixed value in every world that meets a condition S, and keeps S, then every order gives the same frame and a world that meets S. No condition. -/
import Derived.Test.YtafmomocmodbhaaKit
import Derived.OrdersHeld
import Derived.RegionTactic
namespace Go.Proofs.Ytafmomocmodbhaa

/-- In every world that meets S the operation, if it is wanted, yields v and leaves a world that meets S. -/
def OpGives (P : Program) (S : World → Prop) (o : Oper) (v : Value) (ρ : Operand → Value) (w : World) : Prop :=
  match (execOp ρ o).run P w with
  | .ok (.value u) w' => u = v ∧ S w'
  | .ok .skip w' => v = undef ∧ S w'
  | .ok (.enter f args) w' => Calls P f args w' fun e w'' => e = .returned v ∧ S w''
  | _ => False
def Stab (P : Program) (ops : Array Oper) (S : World → Prop) (o : Oper) (v : Value) (a : Act) : Prop :=
  (Region.wanted o (yielded ops a.tmps) = true ∧ ∀ w, S w → OpGives P S o v a.eval w) ∨ (Region.wanted o (yielded ops a.tmps) = false ∧ v = undef)

theorem OpGives.val {P : Program} {S : World → Prop} {o : Oper} {v : Value} {ρ : Operand → Value} {w : World} (hS : S w) (h : (execOp ρ o).run P w = .ok (.value v) w) : OpGives P S o v ρ w := by
  unfold OpGives; rw [h]; exact ⟨rfl, hS⟩
theorem OpGives.enter {P : Program} {S : World → Prop} {o : Oper} {v : Value} {ρ : Operand → Value} {w : World} {f : FuncId} {args : Array Value} (h : (execOp ρ o).run P w = .ok (.enter f args) w)
    (hc : Calls P f args w fun e w'' => e = .returned v ∧ S w'') : OpGives P S o v ρ w := by
  unfold OpGives; rw [h]; exact hc

section
variable {P : Program} {ops : Array Oper} {Q : Exit → Act → World → Prop} {S : World → Prop}
theorem Stab.of_same {o : Oper} {v : Value} {a a' : Act} (h : Stab P ops S o v a) (he : execOp a'.eval o = execOp a.eval o)
    (hw : Region.wanted o (yielded ops a'.tmps) = Region.wanted o (yielded ops a.tmps)) : Stab P ops S o v a' := by
  unfold Stab OpGives at *
  rw [he, hw]
  exact h
theorem Stab.wpOp {i : Nat} {o : Oper} {v : Value} {a : Act} (hi : ops[i]? = some o) (h : Stab P ops S o v a) {K : Act → World → Prop} {w : World} (hS : S w)
    (hK : ∀ w', S w' → K (a.put o.dst v) w') : wpOp P ops Q i K a w := by
  unfold Go.wpOp
  simp only [hi]
  rcases h with ⟨hw, hg⟩ | ⟨hw, rfl⟩
  · simp only [hw, if_true]
    refine .inl ?_
    have hg := hg w hS
    unfold OpGives at hg
    unfold Oper.wp
    generalize (execOp a.eval o).run P w = r at *
    cases r with
    | ok n w' =>
      cases n <;> simp only at hg <;> simp only [Oper.upon]
      case value u => obtain ⟨rfl, hs⟩ := hg; exact hK w' hs
      case skip => obtain ⟨rfl, hs⟩ := hg; exact hK w' hs
      case enter f args =>
        refine Calls.mono hg fun e w'' he => ?_
        obtain ⟨rfl, hs⟩ := he
        exact hK w'' hs
    | halt x w' => simp only at hg
  · simp only [hw, Bool.false_eq_true, if_false]
    exact hK w hS

/-- Each operation in turn gives a fixed value; behind the last one Q holds in every world that meets S. -/
def ChI (P : Program) (ops : Array Oper) (Q : Exit → Act → World → Prop) (S : World → Prop) : List Nat → Act → Prop
  | [], a => ∀ w, S w → Q .normal a w
  | i :: r, a => ∃ o, ops[i]? = some o ∧ ∃ v, Stab P ops S o v a ∧ ChI P ops Q S r (a.put o.dst v)
def ChL (P : Program) (ops : Array Oper) (Q : Exit → Act → World → Prop) (S : World → Prop) : List Oper → Act → Prop
  | [], a => ∀ w, S w → Q .normal a w
  | o :: r, a => ∃ v, Stab P ops S o v a ∧ ChL P ops Q S r (a.put o.dst v)

def pairOk (ops : Array Oper) (i j : Nat) : Bool :=
  match ops[i]?, ops[j]? with
  | some x, some y => y.after.any (fun e => Region.binds .any e && e.on == i) || x.apart ops y
  | _, _ => true
def chainOk (ops : Array Oper) : Bool :=
  Region.noSelect ops && ((List.range ops.size).all fun j => (List.range j).all fun i => pairOk ops i j) &&
    ((List.range ops.size).all fun j => ((ops[j]?).map fun y => y.after.all fun e => !Region.binds .any e || decide (e.on < j)).getD true)

theorem ChI.take (hsel : ∀ (j : Nat) (o : Oper) cs b, ops[j]? = some o → o.op ≠ .select cs b) {j : Nat} {oj : Oper} (hj : ops[j]? = some oj) {l2 : List Nat} :
    ∀ (l1 : List Nat) (a : Act), (∀ i ∈ l1, ∀ x, ops[i]? = some x → x.apart ops oj = true) → ChI P ops Q S (l1 ++ j :: l2) a →
      ∃ v, Stab P ops S oj v a ∧ ChI P ops Q S (l1 ++ l2) (a.put oj.dst v)
  | [], a, _, h => by
    obtain ⟨o, ho, v, hs, hc⟩ := h
    rw [hj] at ho
    injection ho with ho
    subst ho
    exact ⟨v, hs, hc⟩
  | i :: l1, a, hap, h => by
    obtain ⟨o, ho, v, hs, hc⟩ := h
    obtain ⟨u, hu, hd⟩ := ChI.take hsel hj l1 (a.put o.dst v) (fun x hx => hap x (by simp [hx])) hc
    obtain ⟨h1, h2, h3⟩ := Oper.apart_spec (hap i (by simp) o ho)
    refine ⟨u, hu.of_same (execOp_put oj (fun cs b => hsel j oj cs b hj) a o.dst v h1).symm (wanted_put oj a o.dst v h1).symm, o, ho, v,
      hs.of_same (execOp_put o (fun cs b => hsel i o cs b ho) a oj.dst u h3) (wanted_put o a oj.dst u h3), ?_⟩
    rw [← Act.put_comm a v u h2]
    exact hd

theorem ChI.any (hok : chainOk ops = true) : ∀ (fuel : Nat) (listed : Array Bool) (a : Act) (l : List Nat), l.length ≤ fuel → l.Pairwise (· < ·) →
    (∀ i, i ∈ l ↔ (i < ops.size ∧ listed.getD i true = false)) → (∀ i, i < ops.size → listed.getD i true = listed.getD i false) → ChI P ops Q S l a → ∀ w, S w → wpAny P .any ops Q fuel listed a w := by
  simp only [chainOk, Bool.and_eq_true, List.all_eq_true, List.mem_range] at hok
  obtain ⟨⟨hns, hpair⟩, hback⟩ := hok
  have hmem : ∀ (listed : Array Bool) (l : List Nat), (∀ i, i ∈ l ↔ (i < ops.size ∧ listed.getD i true = false)) → ∀ j, j ∈ Region.ready .any ops listed → j ∈ l := by
    intro listed l hl j hj
    obtain ⟨h0, o, ho, _⟩ := mem_ready.1 hj
    exact (hl j).2 ⟨(Array.getElem?_eq_some_iff.1 ho).1, h0⟩
  intro fuel
  induction fuel with
  | zero =>
    intro listed a l hlen _ hl _ hc w hS
    have hnil : l = [] := List.eq_nil_of_length_eq_zero (by omega)
    subst hnil
    refine ⟨?_, hc w hS⟩
    cases hr : Region.ready .any ops listed with
    | nil => rfl
    | cons x xs => exact absurd (hmem listed [] hl x (by rw [hr]; simp)) (by simp)
  | succ fuel ih =>
    intro listed a l hlen hsort hl hsz hc w hS
    refine ⟨fun hr => ?_, fun j hj => ?_⟩
    · cases l with
      | nil => exact hc w hS
      | cons i r =>
        exfalso
        obtain ⟨hi, hun⟩ := (hl i).1 (by simp)
        have hmin := (List.pairwise_cons.1 hsort).1
        have : i ∈ Region.ready .any ops listed := by
          rw [mem_ready]
          refine ⟨hun, ops[i], Array.getElem?_eq_getElem hi, fun e he hb => ?_⟩
          have hb1 := hback i hi
          rw [Array.getElem?_eq_getElem hi] at hb1
          simp only [Option.map_some, Option.getD_some] at hb1
          have hb2 := Array.all_eq_true_iff_forall_mem.1 hb1 e he
          simp only [hb, Bool.not_true, Bool.false_or, decide_eq_true_eq] at hb2
          have hlt : e.on < ops.size := by omega
          cases hx : listed.getD e.on true with
          | true => rw [← hsz _ hlt]; exact hx
          | false =>
            have h1 : e.on ∈ i :: r := (hl e.on).2 ⟨hlt, hx⟩
            rcases List.mem_cons.1 h1 with h1 | h1
            · omega
            · have := hmin _ h1; omega
        rw [hr] at this
        cases this
    · have hjl := hmem listed l hl j hj
      obtain ⟨hjun, oj, hoj, hall⟩ := mem_ready.1 hj
      have hjlt : j < ops.size := (Array.getElem?_eq_some_iff.1 hoj).1
      obtain ⟨l1, l2, rfl⟩ := List.append_of_mem hjl
      have hs1 : ∀ i ∈ l1, i < j := fun i hi => (List.pairwise_append.1 hsort).2.2 i hi j (by simp)
      have hap : ∀ i ∈ l1, ∀ x, ops[i]? = some x → x.apart ops oj = true := by
        intro i hi x hx
        have hp := hpair j hjlt i (hs1 i hi)
        simp only [pairOk, hx, hoj, Bool.or_eq_true] at hp
        rcases hp with hp | hp
        · obtain ⟨e, he, hb⟩ := Array.any_eq_true'.1 hp
          simp only [Bool.and_eq_true, beq_iff_eq] at hb
          have h1 := hall e he hb.1
          have h2 := ((hl i).1 (by simp [hi])).2
          rw [hb.2, ← hsz i (by have := hs1 i hi; omega), h2] at h1
          cases h1
        · exact hp
      obtain ⟨v, hv, hrest⟩ := ChI.take (Region.noSelect_spec hns) hoj l1 a hap hc
      refine hv.wpOp hoj hS fun w' hS' => ih (listed.setIfInBounds j true) _ (l1 ++ l2) ?_ ?_ ?_ ?_ hrest w' hS'
      · simp only [List.length_append, List.length_cons] at hlen ⊢; omega
      · rw [List.pairwise_append] at hsort ⊢
        exact ⟨hsort.1, (List.pairwise_cons.1 hsort.2.1).2, fun x hx y hy => hsort.2.2 x hx y (by simp [hy])⟩
      · intro i
        have hnd : j ∉ l1 ++ l2 := by
          intro hm
          rcases List.mem_append.1 hm with hm | hm
          · have := hs1 j hm; omega
          · have := (List.pairwise_cons.1 (List.pairwise_append.1 hsort).2.1).1 j hm; omega
        by_cases hij : j = i
        · subst hij
          constructor
          · intro h; exact absurd h hnd
          · rintro ⟨hlt, h⟩
            rw [Array.getD_eq_getD_getElem?, Array.getElem?_setIfInBounds] at h
            rcases Nat.lt_or_ge j listed.size with hz | hz
            · simp [hz] at h
            · simp [Array.getElem?_eq_none hz] at hjun
        · rw [getD_set_ne true hij, ← hl i]
          simp only [List.mem_append, List.mem_cons]
          constructor
          · rintro (h | h)
            · exact .inl h
            · exact .inr (.inr h)
          · rintro (h | h | h)
            · exact .inl h
            · exact absurd h.symm hij
            · exact .inr h
      · intro i hi
        by_cases hij : j = i
        · subst hij
          rw [Array.getD_eq_getD_getElem?, Array.getD_eq_getD_getElem?, Array.getElem?_setIfInBounds]
          rcases Nat.lt_or_ge j listed.size with hz | hz
          · simp [hz]
          · simp [Array.getElem?_eq_none hz] at hjun
        · rw [getD_set_ne true hij, getD_set_ne false hij]
          exact hsz i hi

theorem ChI.of_list (l : List Oper) : ∀ (k : Nat) (a : Act), (∀ j, l[j]? = ops[k + j]?) → ChL P ops Q S l a → ChI P ops Q S (List.range' k l.length) a := by
  induction l with
  | nil => intro k a _ h; exact h
  | cons o l ih =>
    intro k a h hc
    obtain ⟨v, hv, hr⟩ := hc
    have h0 : ops[k]? = some o := by simpa using (h 0).symm
    exact ⟨o, h0, v, hv, ih (k + 1) _ (fun j => by have := h (j + 1); simpa [Nat.add_assoc, Nat.add_comm 1 j] using this) hr⟩

/-- THE LAW. -/
theorem wp_region_chain {id : Nat} {l : List Oper} {a : Act} {w : World} (S : World → Prop) (hm : P.follows .mixedOrders = true) (hok : chainOk l.toArray = true) (hS : S w.drew)
    (h : ChL P l.toArray Q S l a) : (Code.region id l.toArray true).wp P Q a w := by
  refine wp_region_any hm (ChI.any (ops := l.toArray) hok _ _ a (List.range l.toArray.size) (by simp) List.pairwise_lt_range ?_ ?_ ?_ _ hS)
  · intro i
    simp only [List.mem_range, Array.getD_eq_getD_getElem?, Array.getElem?_replicate]
    constructor
    · intro h
      have h' : i < l.length := by simpa using h
      exact ⟨h, by simp [h']⟩
    · exact fun h => h.1
  · intro i hi
    have h' : i < l.length := by simpa using hi
    simp [h']
  · rw [List.range_eq_range']
    have := ChI.of_list (P := P) (ops := l.toArray) (Q := Q) (S := S) l 0 a (by simp) h
    simpa using this
theorem ChL.nil {a : Act} (h : ∀ w, S w → Q .normal a w) : ChL P ops Q S [] a := h
/-- An operation whose guard says no. -/
theorem ChL.skip {o : Oper} {r : List Oper} {a : Act} (hw : Region.wanted o (yielded ops a.tmps) = false) (h : ChL P ops Q S r (a.put o.dst undef)) : ChL P ops Q S (o :: r) a :=
  ⟨undef, .inr ⟨hw, rfl⟩, h⟩
/-- An operation that yields its value and leaves the world as it is. -/
theorem ChL.val {o : Oper} {r : List Oper} {a : Act} {v : Value} (hw : Region.wanted o (yielded ops a.tmps) = true) (hv : ∀ w, S w → (execOp a.eval o).run P w = .ok (.value v) w)
    (h : ChL P ops Q S r (a.put o.dst v)) : ChL P ops Q S (o :: r) a :=
  ⟨v, .inl ⟨hw, fun w hS => .val hS (hv w hS)⟩, h⟩
/-- A call. -/
theorem ChL.call {o : Oper} {r : List Oper} {a : Act} {v : Value} {f : FuncId} {args : Array Value} (hw : Region.wanted o (yielded ops a.tmps) = true) (he : ∀ w, (execOp a.eval o).run P w = .ok (.enter f args) w)
    (hc : ∀ w, S w → Calls P f args w fun e w'' => e = .returned v ∧ S w'') (h : ChL P ops Q S r (a.put o.dst v)) : ChL P ops Q S (o :: r) a :=
  ⟨v, .inl ⟨hw, fun w hS => .enter (he w) (hc w hS)⟩, h⟩
/-- A guard that is not decided: both ways. -/
theorem ChL.guard {o : Oper} {r : List Oper} {a : Act} {x : Bool} (_hw : Region.wanted o (yielded ops a.tmps) = x) (ht : x = true → ChL P ops Q S (o :: r) a) (hf : x = false → ChL P ops Q S (o :: r) a) :
    ChL P ops Q S (o :: r) a := by
  cases x
  · exact hf rfl
  · exact ht rfl
/-- The condition: nothing that was there when the region began has turned. -/
theorem wp_region_ext {id : Nat} {l : List Oper} {a : Act} {w : World} (hm : P.follows .mixedOrders = true) (hok : chainOk l.toArray = true) (h : ChL P l.toArray Q (Ext w) l a) :
    (Code.region id l.toArray true).wp P Q a w := wp_region_chain (Ext w) hm hok ((Ext.refl w).drew) h
end
end Go.Proofs.Ytafmomocmodbhaa
