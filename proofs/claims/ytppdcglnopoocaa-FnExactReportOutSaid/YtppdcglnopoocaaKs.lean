/- The words, laws and contracts that the claims of this seat share: group s. No condition. -/
import Derived.Lib.Walk
import Derived.Shelf.Abstract
import Derived.Test.YtppdcglnopoocaaKa
/- A region that draws its order, walked once: first whatever only reads, as soon as it may run, then the one call or write that is next: if reads give one fixed value in every later world, every order ends in the same frame and in the worlds of that one walk. No condition. -/
namespace Go.Proofs.Ytppdcglnopoocaa
set_option linter.unusedVariables false
set_option linter.unusedSimpArgs false

/-- Does the operation only compute or read? -/
def quietOp : Op → Bool
  | .move _ | .assign _ | .pick _ _ _ | .load _ _ | .nilCheck _ | .binOp _ _ _ _ _ | .unOp _ _ _ | .slice _ _ _ _ _ | .fieldAddr _ _ _ | .field _ _ _ | .indexAddr _ _ _ | .index _ _ _ | .extract _ _ | .build _ _ | .insert _ _ _ _ | .convert _ _ _ => true
  | .call c => match c.callee with
    | .builtin .len | .builtin .cap | .builtin .min | .builtin .max => true
    | _ => false
  | _ => false
/-- What one operation does, if it neither panics nor halts. -/
def OpStep (P : Program) (o : Oper) (ρ : Operand → Value) (w : World) (F : Value → World → Prop) : Prop :=
  match (execOp ρ o).run P w with
  | .ok (.value u) w' => F u w'
  | .ok .skip w' => F undef w'
  | .ok (.enter f args) w' => Calls P f args w' fun e w'' => ∃ v, e = .returned v ∧ F v w''
  | _ => False
theorem OpStep.mono {P : Program} {o : Oper} {ρ : Operand → Value} {w : World} {F G : Value → World → Prop} (h : OpStep P o ρ w F) (hm : ∀ v w', F v w' → G v w') : OpStep P o ρ w G := by
  unfold OpStep at *
  generalize (execOp ρ o).run P w = r at *
  cases r with
  | ok n w' =>
    cases n <;> simp only at h <;> simp only
    · exact hm _ _ h
    · exact hm _ _ h
    · exact Calls.mono h fun e w'' ⟨v, e1, e2⟩ => ⟨v, e1, hm _ _ e2⟩
  | halt x w' => simp only at h
theorem OpStep.val {P : Program} {o : Oper} {ρ : Operand → Value} {w w' : World} {v : Value} {F : Value → World → Prop} (h : (execOp ρ o).run P w = .ok (.value v) w') (hF : F v w') : OpStep P o ρ w F := by
  unfold OpStep; rw [h]; exact hF
theorem OpStep.skip {P : Program} {o : Oper} {ρ : Operand → Value} {w w' : World} {F : Value → World → Prop} (h : (execOp ρ o).run P w = .ok .skip w') (hF : F undef w') : OpStep P o ρ w F := by
  unfold OpStep; rw [h]; exact hF
theorem OpStep.call {P : Program} {o : Oper} {ρ : Operand → Value} {w : World} {f : FuncId} {args : Array Value} {F : Value → World → Prop} (h : (execOp ρ o).run P w = .ok (.enter f args) w)
    (hF : Calls P f args w fun e w'' => ∃ v, e = .returned v ∧ F v w'') : OpStep P o ρ w F := by
  unfold OpStep; rw [h]; exact hF

theorem pigeonN : ∀ (l : List Nat) (n : Nat), l.Pairwise (· ≠ ·) → (∀ x ∈ l, x < n) → l.length ≤ n
  | l, 0, _, h => by
    cases l with
    | nil => exact Nat.le_refl _
    | cons x l => have := h x (by simp); omega
  | l, n + 1, hp, h => by
    have ih := pigeonN (l.filter fun x => !decide (x = n)) n (hp.filter _) (fun x hx => by
      simp only [List.mem_filter, Bool.not_eq_true', decide_eq_false_iff_not] at hx
      have := h x hx.1
      omega)
    by_cases hm : n ∈ l
    · obtain ⟨s, t, rfl⟩ := List.append_of_mem hm
      rw [List.pairwise_append] at hp
      have h1 : (s.filter fun x => !decide (x = n)) = s := List.filter_eq_self.2 fun x hx => by
        have := hp.2.2 x hx _ (List.mem_cons_self)
        simpa using this
      have h2 : (t.filter fun x => !decide (x = n)) = t := List.filter_eq_self.2 fun x hx => by
        have := (List.pairwise_cons.1 hp.2.1).1 x hx
        simpa using fun e => this e.symm
      rw [List.filter_append, List.filter_cons, h1, h2] at ih
      simp at ih ⊢
      omega
    · have h1 : (l.filter fun x => !decide (x = n)) = l := List.filter_eq_self.2 fun x hx => by
        have : x ≠ n := fun e => hm (e ▸ hx)
        simpa using this
      rw [h1] at ih
      omega
section
variable {P : Program} {ops : Array Oper} {Q : Exit → Act → World → Prop} {R : World → World → Prop}
/-- A reading operation: one value in every later world, or not wanted. -/
def Qt (P : Program) (ops : Array Oper) (R : World → World → Prop) (o : Oper) (v : Value) (a : Act) (w : World) : Prop :=
  (Region.wanted o (yielded ops a.tmps) = true ∧ ∀ w', R w w' → (execOp a.eval o).run P w' = .ok (.value v) w') ∨ (Region.wanted o (yielded ops a.tmps) = false ∧ v = undef)
/-- The walk, in a given order of the operations' places. -/
def ChX (P : Program) (ops : Array Oper) (Q : Exit → Act → World → Prop) (R : World → World → Prop) : List Nat → Act → World → Prop
  | [], a, w => Q .normal a w
  | i :: r, a, w => ∃ o, ops[i]? = some o ∧
      ((quietOp o.op = true ∧ ∃ v, Qt P ops R o v a w ∧ ChX P ops Q R r (a.put o.dst v) w) ∨
       (quietOp o.op = false ∧ ((Region.wanted o (yielded ops a.tmps) = false ∧ ChX P ops Q R r (a.put o.dst undef) w) ∨
          (Region.wanted o (yielded ops a.tmps) = true ∧ OpStep P o a.eval w fun v w' => R w w' ∧ ChX P ops Q R r (a.put o.dst v) w'))))

theorem Qt.same {o : Oper} {v : Value} {a a' : Act} {w : World} (h : Qt P ops R o v a w) (he : execOp a'.eval o = execOp a.eval o)
    (hw : Region.wanted o (yielded ops a'.tmps) = Region.wanted o (yielded ops a.tmps)) : Qt P ops R o v a' w := by
  unfold Qt at *
  rw [he, hw]
  exact h
theorem Qt.later {o : Oper} {v : Value} {a : Act} {w w' : World} (ht : ∀ x y z, R x y → R y z → R x z) (h : Qt P ops R o v a w) (hw : R w w') : Qt P ops R o v a w' := by
  rcases h with ⟨h1, h2⟩ | h
  · exact .inl ⟨h1, fun w'' h' => h2 w'' (ht _ _ _ hw h')⟩
  · exact .inr h

/-- Is place i one whose operation only reads? -/
def quietAt (ops : Array Oper) (i : Nat) : Bool := ((ops[i]?).map fun o => quietOp o.op).getD false
def edgeTo (ops : Array Oper) (j i : Nat) : Bool := ((ops[j]?).map fun y => y.after.any fun e => Region.binds .any e && e.on == i).getD false
def apartAt (ops : Array Oper) (i j : Nat) : Bool :=
  match ops[i]?, ops[j]? with
  | some x, some y => x.apart ops y
  | _, _ => false
def reachN (ops : Array Oper) : Nat → Nat → Nat → Bool
  | 0, j, i => edgeTo ops j i
  | f + 1, j, i => edgeTo ops j i || ((ops[j]?).map fun y => y.after.any fun e => Region.binds .any e && reachN ops f e.on i).getD false
def pairE (ops : Array Oper) (i j : Nat) : Bool := i != j && !edgeTo ops i j && (edgeTo ops j i || apartAt ops i j) && (quietAt ops i || edgeTo ops j i || reachN ops ops.size j i)
def pairsE (ops : Array Oper) : List Nat → Bool
  | [] => true
  | i :: r => r.all (pairE ops i) && pairsE ops r
def permOk (n : Nat) (ord : List Nat) : Bool := (List.range n).all fun i => ord.contains i
def eagerOk (ops : Array Oper) (ord : List Nat) : Bool :=
  Region.noSelect ops && permOk ops.size ord && pairsE ops ord && ord.all fun i => ((ops[i]?).map fun y => y.after.all fun e => !Region.binds .any e || (e.on != i && decide (e.on < ops.size))).getD false
/-- The order: whatever only reads, as soon as all that it needs is done; else the first of the others. -/
def freeE (ops : Array Oper) (rem : List Nat) (j : Nat) : Bool := rem.all fun i => i == j || decide (j < i) || (!edgeTo ops j i && apartAt ops i j && !reachN ops ops.size j i)
def eagerGo (ops : Array Oper) : Nat → List Nat → List Nat
  | 0, rem => rem
  | f + 1, rem =>
    match rem.find? fun j => quietAt ops j && freeE ops rem j with
    | some j => j :: eagerGo ops f (rem.filter (· != j))
    | none => match rem with
      | [] => []
      | j :: r => j :: eagerGo ops f r
def eagerOrd (ops : Array Oper) : List Nat := eagerGo ops ops.size (List.range ops.size)

theorem pairsE_iff {ord : List Nat} : pairsE ops ord = true → ord.Pairwise fun i j => pairE ops i j = true := by
  induction ord with
  | nil => intro _; exact List.Pairwise.nil
  | cons i r ih =>
    intro h
    rw [pairsE, Bool.and_eq_true, List.all_eq_true] at h
    exact List.pairwise_cons.2 ⟨h.1, ih h.2⟩
theorem edgeTo_iff {j i : Nat} {y : Oper} (hy : ops[j]? = some y) (h : edgeTo ops j i = true) : ∃ e ∈ y.after, Region.binds .any e = true ∧ e.on = i := by
  unfold edgeTo at h
  rw [hy] at h
  simp only [Option.map_some, Option.getD_some] at h
  obtain ⟨e, he, hb⟩ := Array.any_eq_true'.1 h
  simp only [Bool.and_eq_true, beq_iff_eq] at hb
  exact ⟨e, he, hb.1, hb.2⟩
/-- All that one operation needs is done. -/
def Fed (ops : Array Oper) (listed : Array Bool) (j : Nat) : Prop := ∀ y, ops[j]? = some y → ∀ e ∈ y.after, Region.binds .any e = true → listed.getD e.on false = true
theorem reach_listed {listed : Array Bool} (hcl : ∀ j, listed.getD j false = true → Fed ops listed j) : ∀ (f j i : Nat), Fed ops listed j → reachN ops f j i = true → listed.getD i false = true
  | 0, j, i, hf, h => by
    rw [reachN] at h
    cases hy : ops[j]? with
    | none => unfold edgeTo at h; rw [hy] at h; simp at h
    | some y =>
      obtain ⟨e, he, hb, rfl⟩ := edgeTo_iff hy h
      exact hf y hy e he hb
  | f + 1, j, i, hf, h => by
    rw [reachN, Bool.or_eq_true] at h
    cases hy : ops[j]? with
    | none =>
      unfold edgeTo at h
      rw [hy] at h
      simp at h
    | some y =>
      rcases h with h | h
      · obtain ⟨e, he, hb, rfl⟩ := edgeTo_iff hy h
        exact hf y hy e he hb
      · rw [hy] at h
        simp only [Option.map_some, Option.getD_some] at h
        obtain ⟨e, he, hb⟩ := Array.any_eq_true'.1 h
        rw [Bool.and_eq_true] at hb
        exact reach_listed hcl f e.on i (hcl e.on (hf y hy e he hb.1)) hb.2

theorem ChX.takeQ (hsel : ∀ (j : Nat) (o : Oper) cs b, ops[j]? = some o → o.op ≠ .select cs b) {j : Nat} {oj : Oper} (hj : ops[j]? = some oj) (hqj : quietOp oj.op = true) {l2 : List Nat} :
    ∀ (l1 : List Nat) (a : Act) (w : World), (∀ i ∈ l1, ∀ x, ops[i]? = some x → quietOp x.op = true ∧ x.apart ops oj = true) → ChX P ops Q R (l1 ++ j :: l2) a w →
      ∃ v, Qt P ops R oj v a w ∧ ChX P ops Q R (l1 ++ l2) (a.put oj.dst v) w
  | [], a, w, _, h => by
    obtain ⟨o, ho, h⟩ := h
    rw [hj] at ho
    injection ho with ho
    subst ho
    rcases h with ⟨_, v, h1, h2⟩ | ⟨h0, _⟩
    · exact ⟨v, h1, h2⟩
    · rw [hqj] at h0; cases h0
  | i :: l1, a, w, hap, h => by
    obtain ⟨o, ho, h⟩ := h
    obtain ⟨q0, q1⟩ := hap i (by simp) o ho
    rcases h with ⟨_, v, hs, hc⟩ | ⟨h0, _⟩
    · obtain ⟨u, hu, hd⟩ := ChX.takeQ hsel hj hqj l1 (a.put o.dst v) w (fun x hx => hap x (by simp [hx])) hc
      obtain ⟨h1, h2, h3⟩ := Oper.apart_spec q1
      refine ⟨u, hu.same (execOp_put oj (fun cs b => hsel j oj cs b hj) a o.dst v h1).symm (wanted_put oj a o.dst v h1).symm, o, ho, .inl ⟨q0, v,
        hs.same (execOp_put o (fun cs b => hsel i o cs b ho) a oj.dst u h3) (wanted_put o a oj.dst u h3), ?_⟩⟩
      rw [← Act.put_comm a v u h2]
      exact hd
    · rw [q0] at h0; cases h0

theorem ChX.takeN (ht : ∀ x y z, R x y → R y z → R x z) (hsel : ∀ (j : Nat) (o : Oper) cs b, ops[j]? = some o → o.op ≠ .select cs b) {j : Nat} {oj : Oper} (hj : ops[j]? = some oj) (hqj : quietOp oj.op = false) {l2 : List Nat} :
    ∀ (l1 : List Nat) (a : Act) (w : World), (∀ i ∈ l1, ∀ x, ops[i]? = some x → quietOp x.op = true ∧ x.apart ops oj = true) → ChX P ops Q R (l1 ++ j :: l2) a w →
      (Region.wanted oj (yielded ops a.tmps) = false ∧ ChX P ops Q R (l1 ++ l2) (a.put oj.dst undef) w) ∨
      (Region.wanted oj (yielded ops a.tmps) = true ∧ OpStep P oj a.eval w fun v w' => R w w' ∧ ChX P ops Q R (l1 ++ l2) (a.put oj.dst v) w')
  | [], a, w, _, h => by
    obtain ⟨o, ho, h⟩ := h
    rw [hj] at ho
    injection ho with ho
    subst ho
    rcases h with ⟨h0, _⟩ | ⟨_, h⟩
    · rw [hqj] at h0; cases h0
    · exact h
  | i :: l1, a, w, hap, h => by
    obtain ⟨o, ho, h⟩ := h
    obtain ⟨q0, q1⟩ := hap i (by simp) o ho
    rcases h with ⟨_, v, hs, hc⟩ | ⟨h0, _⟩
    · obtain ⟨h1, h2, h3⟩ := Oper.apart_spec q1
      have hw := wanted_put (ops := ops) oj a o.dst v h1
      have he := execOp_put (ops := ops) oj (fun cs b => hsel j oj cs b hj) a o.dst v h1
      rcases ChX.takeN ht hsel hj hqj l1 (a.put o.dst v) w (fun x hx => hap x (by simp [hx])) hc with ⟨g1, g2⟩ | ⟨g1, g2⟩
      · refine .inl ⟨hw ▸ g1, o, ho, .inl ⟨q0, v, hs.same (execOp_put o (fun cs b => hsel i o cs b ho) a oj.dst undef h3) (wanted_put o a oj.dst undef h3), ?_⟩⟩
        rw [← Act.put_comm a v undef h2]
        exact g2
      · refine .inr ⟨hw ▸ g1, ?_⟩
        unfold OpStep at g2 ⊢
        rw [he] at g2
        refine OpStep.mono (o := oj) (ρ := a.eval) g2 fun u w' ⟨r1, r2⟩ => ⟨r1, o, ho, .inl ⟨q0, v, (hs.later ht r1).same (execOp_put o (fun cs b => hsel i o cs b ho) a oj.dst u h3) (wanted_put o a oj.dst u h3), ?_⟩⟩
        rw [← Act.put_comm a v u h2]
        exact r2
    · rw [q0] at h0; cases h0

theorem OpStep.wp {o : Oper} {a : Act} {w : World} {K : Act → World → Prop} {i : Nat} (hi : ops[i]? = some o) (hw : Region.wanted o (yielded ops a.tmps) = true)
    (h : OpStep P o a.eval w fun v w' => K (a.put o.dst v) w') : wpOp P ops Q i K a w := by
  unfold Go.wpOp
  simp only [hi, hw, if_true]
  refine .inl ?_
  unfold OpStep at h
  unfold Oper.wp
  generalize (execOp a.eval o).run P w = r at *
  cases r with
  | ok n w' =>
    cases n <;> simp only at h <;> simp only [Oper.upon]
    · exact h
    · exact h
    · refine Calls.mono h fun e w'' he => ?_
      obtain ⟨v, rfl, hs⟩ := he
      exact hs
  | halt x w' => simp only at h

theorem ChX.any (hr : ∀ x, R x x) (ht : ∀ x y z, R x y → R y z → R x z) {ord : List Nat} (hok : eagerOk ops ord = true) : ∀ (fuel : Nat) (listed : Array Bool) (a : Act) (l : List Nat), l.length ≤ fuel → l.Sublist ord →
    (∀ i, i ∈ l ↔ (i < ops.size ∧ listed.getD i true = false)) → (∀ i, i < ops.size → listed.getD i true = listed.getD i false) → (∀ j, listed.getD j false = true → Fed ops listed j) →
    ∀ w, ChX P ops Q R l a w → wpAny P .any ops Q fuel listed a w := by
  simp only [eagerOk, Bool.and_eq_true, List.all_eq_true] at hok
  obtain ⟨⟨⟨hns, hperm⟩, hpairs⟩, hback⟩ := hok
  have hP := pairsE_iff hpairs
  have hmem : ∀ (listed : Array Bool) (l : List Nat), (∀ i, i ∈ l ↔ (i < ops.size ∧ listed.getD i true = false)) → ∀ j, j ∈ Region.ready .any ops listed → j ∈ l := by
    intro listed l hl j hj
    obtain ⟨h0, o, ho, _⟩ := mem_ready.1 hj
    exact (hl j).2 ⟨(Array.getElem?_eq_some_iff.1 ho).1, h0⟩
  intro fuel
  induction fuel with
  | zero =>
    intro listed a l hlen _ hl _ _ w hc
    have hnil : l = [] := List.eq_nil_of_length_eq_zero (by omega)
    subst hnil
    refine ⟨?_, hc⟩
    cases hr : Region.ready .any ops listed with
    | nil => rfl
    | cons x xs => exact absurd (hmem listed [] hl x (by rw [hr]; simp)) (by simp)
  | succ fuel ih =>
    intro listed a l hlen hsub hl hsz hcl w hc
    have hlP := hP.sublist hsub
    refine ⟨fun hrd => ?_, fun j hj => ?_⟩
    · cases l with
      | nil => exact hc
      | cons i r =>
        exfalso
        obtain ⟨hi, hun⟩ := (hl i).1 (by simp)
        have hfirst := (List.pairwise_cons.1 hlP).1
        have : i ∈ Region.ready .any ops listed := by
          rw [mem_ready]
          refine ⟨hun, ops[i], Array.getElem?_eq_getElem hi, fun e he hb => ?_⟩
          have hb1 := hback i (hsub.subset (by simp))
          rw [Array.getElem?_eq_getElem hi] at hb1
          simp only [Option.map_some, Option.getD_some] at hb1
          have hb2 := Array.all_eq_true_iff_forall_mem.1 hb1 e he
          simp only [hb, Bool.not_true, Bool.false_or, Bool.and_eq_true, bne_iff_ne, decide_eq_true_eq] at hb2
          apply Classical.byContradiction
          intro hnl
          have hm : e.on ∈ i :: r := (hl e.on).2 ⟨hb2.2, by rw [hsz _ hb2.2]; simpa using hnl⟩
          rcases List.mem_cons.1 hm with hm | hm
          · exact hb2.1 hm
          · have hp := hfirst _ hm
            have hedge : edgeTo ops i e.on = true := by
              unfold edgeTo
              rw [Array.getElem?_eq_getElem hi]
              simp only [Option.map_some, Option.getD_some]
              exact Array.any_eq_true'.2 ⟨e, he, by simp [hb]⟩
            simp [pairE, hedge] at hp
        rw [hrd] at this
        cases this
    · have hjl := hmem listed l hl j hj
      obtain ⟨hjun, oj, hoj, hall⟩ := mem_ready.1 hj
      have hjlt : j < ops.size := (Array.getElem?_eq_some_iff.1 hoj).1
      have hfed : Fed ops listed j := fun y hy e he hb => by
        rw [hoj] at hy; injection hy with hy; subst hy; exact hall e he hb
      obtain ⟨l1, l2, rfl⟩ := List.append_of_mem hjl
      have hap : ∀ i ∈ l1, ∀ x, ops[i]? = some x → quietOp x.op = true ∧ x.apart ops oj = true := by
        intro i hi x hx
        have hp : pairE ops i j = true := (List.pairwise_append.1 hlP).2.2 i hi j (by simp)
        have hiun := (hl i).1 (by simp [hi])
        have hif : listed.getD i false = false := by rw [← hsz i hiun.1]; exact hiun.2
        have hne : edgeTo ops j i = false := by
          cases h : edgeTo ops j i with
          | false => rfl
          | true =>
            obtain ⟨e, he, hb, rfl⟩ := edgeTo_iff hoj h
            rw [hfed oj hoj e he hb] at hif
            cases hif
        have hnr : reachN ops ops.size j i = false := by
          cases h : reachN ops ops.size j i with
          | false => rfl
          | true => rw [reach_listed hcl _ _ _ hfed h] at hif; cases hif
        simp only [pairE, hne, hnr, Bool.or_false, Bool.false_or, Bool.and_eq_true] at hp
        obtain ⟨⟨_, h2⟩, h3⟩ := hp
        refine ⟨?_, ?_⟩
        · simpa [quietAt, hx] using h3
        · simpa [apartAt, hx, hoj] using h2
      have hnd : j ∉ l1 ++ l2 := by
        intro hm
        have hpa := List.pairwise_append.1 hlP
        rcases List.mem_append.1 hm with hm | hm
        · have := hpa.2.2 j hm j (by simp)
          simp [pairE] at this
        · have := (List.pairwise_cons.1 hpa.2.1).1 j hm
          simp [pairE] at this
      have hmono : ∀ x, listed.getD x false = true → (listed.setIfInBounds j true).getD x false = true := by
        intro x hx
        by_cases hij : j = x
        · subst hij
          rw [Array.getD_eq_getD_getElem?, Array.getElem?_setIfInBounds]
          rw [Array.getD_eq_getD_getElem?] at hx
          cases hz : listed[j]? with
          | none => rw [hz] at hx; simp at hx
          | some b => simp [(Array.getElem?_eq_some_iff.1 hz).1]
        · rw [getD_set_ne false hij]; exact hx
      have next : ∀ (a' : Act) (w' : World), ChX P ops Q R (l1 ++ l2) a' w' → wpAny P .any ops Q fuel (listed.setIfInBounds j true) a' w' := by
        intro a' w' hrest
        refine ih (listed.setIfInBounds j true) _ (l1 ++ l2) ?_ ?_ ?_ ?_ ?_ w' hrest
        · simp only [List.length_append, List.length_cons] at hlen ⊢; omega
        · exact ((List.Sublist.refl l1).append (List.sublist_cons_self j l2)).trans hsub
        · intro i
          by_cases hij : j = i
          · subst hij
            constructor
            · intro h; exact absurd h hnd
            · rintro ⟨hlt, h⟩
              rw [Array.getD_eq_getD_getElem?, Array.getElem?_setIfInBounds] at h
              rcases Nat.lt_or_ge j listed.size with hz | hz
              · simp [hz] at h
              · simp [Array.getElem?_eq_none hz] at hjun
          · rw [getD_set_ne true hij, ← hl i]
            simp only [List.mem_append, List.mem_cons]
            constructor
            · rintro (h | h)
              · exact .inl h
              · exact .inr (.inr h)
            · rintro (h | h | h)
              · exact .inl h
              · exact absurd h.symm hij
              · exact .inr h
        · intro i hi
          by_cases hij : j = i
          · subst hij
            rw [Array.getD_eq_getD_getElem?, Array.getD_eq_getD_getElem?, Array.getElem?_setIfInBounds]
            rcases Nat.lt_or_ge j listed.size with hz | hz
            · simp [hz]
            · simp [Array.getElem?_eq_none hz] at hjun
          · rw [getD_set_ne true hij, getD_set_ne false hij]
            exact hsz i hi
        · intro k hk y hy e he hb
          by_cases hij : j = k
          · subst hij
            exact hmono _ (hfed y hy e he hb)
          · rw [getD_set_ne false hij] at hk
            exact hmono _ (hcl k hk y hy e he hb)
      cases hq : quietOp oj.op with
      | true =>
        obtain ⟨v, hv, hrest⟩ := ChX.takeQ (Region.noSelect_spec hns) hoj hq l1 a w hap hc
        rcases hv with ⟨hw, hv⟩ | ⟨hw, rfl⟩
        · exact OpStep.wp hoj hw (OpStep.val (hv w (hr w)) (next _ _ hrest))
        · unfold Go.wpOp
          simp only [hoj, hw, Bool.false_eq_true, if_false]
          exact next _ _ hrest
      | false =>
        rcases ChX.takeN ht (Region.noSelect_spec hns) hoj hq l1 a w hap hc with ⟨hw, hrest⟩ | ⟨hw, hrest⟩
        · unfold Go.wpOp
          simp only [hoj, hw, Bool.false_eq_true, if_false]
          exact next _ _ hrest
        · exact OpStep.wp hoj hw (hrest.mono fun v w' h => next _ _ h.2)

/-- THE LAW. -/
theorem wp_region_eager {id : Nat} {l : List Oper} {a : Act} {w : World} (ord : List Nat) (hm : P.follows .mixedOrders = true) (hok : eagerOk l.toArray ord = true) (hr : ∀ x, R x x) (ht : ∀ x y z, R x y → R y z → R x z)
    (h : ChX P l.toArray Q R ord a w.drew) : (Code.region id l.toArray true).wp P Q a w := by
  have hok' := hok
  simp only [eagerOk, Bool.and_eq_true, permOk, List.all_eq_true, List.contains_iff_mem, List.mem_range] at hok'
  have hord : ∀ x ∈ ord, x < l.toArray.size := by
    intro x hx
    have := hok'.2 x hx
    cases hy : (l.toArray)[x]? with
    | none => rw [hy] at this; simp at this
    | some y => exact (Array.getElem?_eq_some_iff.1 hy).1
  have hnd : ord.Pairwise (· ≠ ·) := (pairsE_iff hok'.1.2).imp fun {i j} hp e => by
    subst e
    simp [pairE] at hp
  refine wp_region_any hm (ChX.any (ops := l.toArray) hr ht hok _ _ a ord ?_ (List.Sublist.refl _) ?_ ?_ ?_ _ h)
  · have h1 := pigeonN ord l.toArray.size hnd hord
    simpa using h1
  · intro i
    simp only [Array.getD_eq_getD_getElem?, Array.getElem?_replicate]
    constructor
    · intro h
      have h' := hord i h
      exact ⟨h', by simp at h'; simp [h']⟩
    · intro h
      exact hok'.1.1.2 i h.1
  · intro i hi
    have h' : i < l.length := by simpa using hi
    simp [h']
  · intro j hj
    exfalso
    rw [Array.getD_eq_getD_getElem?, Array.getElem?_replicate] at hj
    split at hj <;> simp at hj
theorem arr_at {l : List Oper} {i : Nat} {o : Oper} (h : l[i]? = some o) : (l.toArray)[i]? = some o := by simpa using h
variable {l : List Oper}
/-- An operation whose guard says no. -/
theorem ChX.skip {i : Nat} {r : List Nat} {o : Oper} {a : Act} {w : World} (ho : l[i]? = some o) (hw : Region.wanted o (yielded l.toArray a.tmps) = false) (h : ChX P l.toArray Q R r (a.put o.dst undef) w) : ChX P l.toArray Q R (i :: r) a w := by
  refine ⟨o, arr_at ho, ?_⟩
  cases hq : quietOp o.op with
  | true => exact .inl ⟨rfl, undef, .inr ⟨hw, rfl⟩, h⟩
  | false => exact .inr ⟨rfl, .inl ⟨hw, h⟩⟩
/-- An operation that only reads. -/
theorem ChX.quiet {i : Nat} {r : List Nat} {o : Oper} {a : Act} {w : World} {v : Value} (ho : l[i]? = some o) (hq : quietOp o.op = true) (hw : Region.wanted o (yielded l.toArray a.tmps) = true)
    (hv : ∀ w', R w w' → (execOp a.eval o).run P w' = .ok (.value v) w') (h : ChX P l.toArray Q R r (a.put o.dst v) w) : ChX P l.toArray Q R (i :: r) a w :=
  ⟨o, arr_at ho, .inl ⟨hq, v, .inl ⟨hw, hv⟩, h⟩⟩
/-- A call. -/
theorem ChX.call {i : Nat} {r : List Nat} {o : Oper} {a : Act} {w : World} {f : FuncId} {args : Array Value} (ho : l[i]? = some o) (hq : quietOp o.op = false) (hw : Region.wanted o (yielded l.toArray a.tmps) = true)
    (he : (execOp a.eval o).run P w = .ok (.enter f args) w) (hc : Calls P f args w fun e w'' => ∃ v, e = .returned v ∧ R w w'' ∧ ChX P l.toArray Q R r (a.put o.dst v) w'') : ChX P l.toArray Q R (i :: r) a w :=
  ⟨o, arr_at ho, .inr ⟨hq, .inr ⟨hw, .call he hc⟩⟩⟩
/-- An operation that makes or writes memory. -/
theorem ChX.eff {i : Nat} {r : List Nat} {o : Oper} {a : Act} {w w' : World} {v : Value} (ho : l[i]? = some o) (hq : quietOp o.op = false) (hw : Region.wanted o (yielded l.toArray a.tmps) = true)
    (he : (execOp a.eval o).run P w = .ok (.value v) w') (hR : R w w') (h : ChX P l.toArray Q R r (a.put o.dst v) w') : ChX P l.toArray Q R (i :: r) a w :=
  ⟨o, arr_at ho, .inr ⟨hq, .inr ⟨hw, .val he ⟨hR, h⟩⟩⟩⟩
theorem ChX.effs {i : Nat} {r : List Nat} {o : Oper} {a : Act} {w w' : World} (ho : l[i]? = some o) (hq : quietOp o.op = false) (hw : Region.wanted o (yielded l.toArray a.tmps) = true)
    (he : (execOp a.eval o).run P w = .ok .skip w') (hR : R w w') (h : ChX P l.toArray Q R r (a.put o.dst undef) w') : ChX P l.toArray Q R (i :: r) a w :=
  ⟨o, arr_at ho, .inr ⟨hq, .inr ⟨hw, .skip he ⟨hR, h⟩⟩⟩⟩
/-- An operation whose step is given. -/
theorem ChX.step {i : Nat} {r : List Nat} {o : Oper} {a : Act} {w : World} (ho : l[i]? = some o) (hq : quietOp o.op = false) (hw : Region.wanted o (yielded l.toArray a.tmps) = true)
    (h : OpStep P o a.eval w fun v w' => R w w' ∧ ChX P l.toArray Q R r (a.put o.dst v) w') : ChX P l.toArray Q R (i :: r) a w :=
  ⟨o, arr_at ho, .inr ⟨hq, .inr ⟨hw, h⟩⟩⟩
/-- A guard that is not decided: both ways. -/
theorem ChX.guard {i : Nat} {r : List Nat} {o : Oper} {a : Act} {w : World} {x : Bool} (_ho : l[i]? = some o) (_hw : Region.wanted o (yielded l.toArray a.tmps) = x) (ht : x = true → ChX P l.toArray Q R (i :: r) a w)
    (hf : x = false → ChX P l.toArray Q R (i :: r) a w) : ChX P l.toArray Q R (i :: r) a w := by
  cases x
  · exact hf rfl
  · exact ht rfl
theorem ChX.guardN {i : Nat} {r : List Nat} {o : Oper} {a : Act} {w : World} {x : Bool} (_ho : l[i]? = some o) (_hw : Region.wanted o (yielded l.toArray a.tmps) = !x) (ht : x = true → ChX P l.toArray Q R (i :: r) a w)
    (hf : x = false → ChX P l.toArray Q R (i :: r) a w) : ChX P l.toArray Q R (i :: r) a w := by
  cases x
  · exact hf rfl
  · exact ht rfl
theorem ChL.guardN {S : World → Prop} {o : Oper} {r : List Oper} {a : Act} {x : Bool} (_hw : Region.wanted o (yielded ops a.tmps) = !x) (ht : x = true → ChL P ops Q S (o :: r) a) (hf : x = false → ChL P ops Q S (o :: r) a) :
    ChL P ops Q S (o :: r) a := by
  cases x
  · exact hf rfl
  · exact ht rfl
theorem ChX.nil {a : Act} {w : World} (h : Q .normal a w) : ChX P l.toArray Q R [] a w := h
end
end Go.Proofs.Ytppdcglnopoocaa
/- Laws on slices of mappings and of contacts: copies; what a slice of them holds. -/
namespace Go.Proofs.Ytppdcglnopoocaa
set_option linter.unusedVariables false
set_option linter.unusedSimpArgs false
open Go.RowKit

theorem eiM : EI Try.prog 25 89 4 32 := EI.mk (z := .agg #[.int .i64 0, .int .i64 0, .int .i64 0, .int .i64 0]) Try.underlying25 (by kernel_rfl) rfl (by omega)
theorem Clone_M (a : Option Addr) (n c : Nat) (L : List MapD) (w : World) (hs : Sl encM 4 w a n c L) (hn : n ≤ 1048576) :
    Calls Try.prog 157 #[.slice a n c] w fun e w' => ∃ a' c', e = .returned (.slice a' n c') ∧ w'.ownsRow w.heap.size 89 4 (.slice a' n c') n (L.flatMap encM) ∧ Ext w w' := by
  have hq := fun (W : World) => Lib.run_eql_slice_nil (P := Try.prog) W 25 89 a n c 0 0 Try.underlying25
  cases a with
  | none =>
    have hc := hs.nil rfl
    have h0 : n = 0 := by have := hs.le; omega
    subst h0; subst hc
    have hL := hs.zero
    subst hL
    go_enter Try.func157, Try.ntmps157
    go_wp2
    go_ret
    exact ⟨none, 0, rfl, World.ownsRow_nil _ _ _ _, Ext.refl _⟩
  | some ad =>
    go_enter Try.func157, Try.ntmps157
    go_wp2_with (at_builtin; refine wpList_append_sl _ rfl _ _ rfl eiM encM_len encM_one w.heap.size (.slice (some ⟨w.heap.size, 0, none⟩) 0 0) 0 [] rfl (own_empty w w.heap.size rfl (Nat.le_refl _)) (some ad) n c L rfl (by exact hs.ext (by repeat (first | (with_reducible exact Ext.refl _) | (with_reducible assumption) | (with_reducible refine Ext.alloc ?_ _) | (with_reducible refine Ext.drewN ?_ _) | (with_reducible refine Ext.drew ?_) | (with_reducible refine Ext.setCell ?_ ?_ _; rotate_left; (simp only []; omega)) | (with_reducible refine Ext.trans ?_ (by assumption))))) (by simp only [maxLen]; omega) (by omega) (by simp) ?_; intro a' c' w1 hown hg hat; simp only [Nat.zero_add, List.nil_append] at hown)
    go_ret
    exact ⟨a', c', by simp, hown, Ext.own (by repeat (first | (with_reducible exact Ext.refl _) | (with_reducible assumption) | (with_reducible refine Ext.alloc ?_ _) | (with_reducible refine Ext.drewN ?_ _) | (with_reducible refine Ext.drew ?_) | (with_reducible refine Ext.setCell ?_ ?_ _; rotate_left; (simp only []; omega)) | (with_reducible refine Ext.trans ?_ (by assumption)))) hg (Nat.le_refl _)⟩
theorem Clip_M (a : Option Addr) (n c : Nat) (L : List MapD) (base : Nat) (w : World) (hs : Ow 89 encM 4 base w a n c L) (hn : n ≤ 1048576) :
    Calls Try.prog 156 #[.slice a n c] w fun e w' => e = .returned (.slice a n n) ∧ w = w' := by
  have hle : n ≤ c := (hs.sl encM_len).le
  obtain ⟨hl, ⟨rfl, h0, rfl⟩ | ⟨g, cur, rfl, hb, hg, hnc, hcm, hcs, ht⟩⟩ := hs
  · subst h0
    go_enter Try.func156, Try.ntmps156
    go_wp2
    go_ret
    exact ⟨rfl, rfl⟩
  · clear ht hcs hl hg
    go_enter Try.func156, Try.ntmps156
    go_wp2
    all_goals (go_ret; exact ⟨by simp, rfl⟩)
theorem impl_clone_M (a : Option Addr) (n c : Nat) (L : List MapD) (w : World) (hs : Sl encM 4 w a n c L) (hn : n ≤ 1048576) :
    Calls Try.prog 123 #[.slice a n c] w fun e w' => ∃ a', e = .returned (.slice a' n n) ∧ Ow 89 encM 4 w.heap.size w' a' n n L ∧ Ext w w' := by
  go_enter Try.func123, Try.ntmps123
  go_wp2_with fail
  refine (Clone_M _ _ _ L _ hs hn).mono ?_
  rintro e w1 ⟨a', c', rfl, hown, hx⟩
  have how := Ow.of_row hown encM_len (by omega)
  go_wp2_with fail
  refine (Clip_M _ _ _ L _ _ how hn).mono ?_
  rintro e w2 ⟨rfl, rfl⟩
  go_wp2
  go_ret
  exact ⟨a', rfl, how.clip, hx⟩
theorem eiC : EI Try.prog 26 47 3 24 := EI.mk (z := .agg #[.int .i64 0, .int .i64 0, .int .i64 0]) Try.underlying26 (by kernel_rfl) rfl (by omega)
theorem Clone_C (a : Option Addr) (n c : Nat) (L : List ConD) (w : World) (hs : Sl encC 3 w a n c L) (hn : n ≤ 1048576) :
    Calls Try.prog 159 #[.slice a n c] w fun e w' => ∃ a' c', e = .returned (.slice a' n c') ∧ w'.ownsRow w.heap.size 47 3 (.slice a' n c') n (L.flatMap encC) ∧ Ext w w' := by
  have hq := fun (W : World) => Lib.run_eql_slice_nil (P := Try.prog) W 26 47 a n c 0 0 Try.underlying26
  cases a with
  | none =>
    have hc := hs.nil rfl
    have h0 : n = 0 := by have := hs.le; omega
    subst h0; subst hc
    have hL := hs.zero
    subst hL
    go_enter Try.func159, Try.ntmps159
    go_wp2
    go_ret
    exact ⟨none, 0, rfl, World.ownsRow_nil _ _ _ _, Ext.refl _⟩
  | some ad =>
    go_enter Try.func159, Try.ntmps159
    go_wp2_with (at_builtin; refine wpList_append_sl _ rfl _ _ rfl eiC encC_len encC_one w.heap.size (.slice (some ⟨w.heap.size, 0, none⟩) 0 0) 0 [] rfl (own_empty w w.heap.size rfl (Nat.le_refl _)) (some ad) n c L rfl (by exact hs.ext (by repeat (first | (with_reducible exact Ext.refl _) | (with_reducible assumption) | (with_reducible refine Ext.alloc ?_ _) | (with_reducible refine Ext.drewN ?_ _) | (with_reducible refine Ext.drew ?_) | (with_reducible refine Ext.setCell ?_ ?_ _; rotate_left; (simp only []; omega)) | (with_reducible refine Ext.trans ?_ (by assumption))))) (by simp only [maxLen]; omega) (by omega) (by simp) ?_; intro a' c' w1 hown hg hat; simp only [Nat.zero_add, List.nil_append] at hown)
    go_ret
    exact ⟨a', c', by simp, hown, Ext.own (by repeat (first | (with_reducible exact Ext.refl _) | (with_reducible assumption) | (with_reducible refine Ext.alloc ?_ _) | (with_reducible refine Ext.drewN ?_ _) | (with_reducible refine Ext.drew ?_) | (with_reducible refine Ext.setCell ?_ ?_ _; rotate_left; (simp only []; omega)) | (with_reducible refine Ext.trans ?_ (by assumption)))) hg (Nat.le_refl _)⟩
theorem Clip_C (a : Option Addr) (n c : Nat) (L : List ConD) (base : Nat) (w : World) (hs : Ow 47 encC 3 base w a n c L) (hn : n ≤ 1048576) :
    Calls Try.prog 158 #[.slice a n c] w fun e w' => e = .returned (.slice a n n) ∧ w = w' := by
  have hle : n ≤ c := (hs.sl encC_len).le
  obtain ⟨hl, ⟨rfl, h0, rfl⟩ | ⟨g, cur, rfl, hb, hg, hnc, hcm, hcs, ht⟩⟩ := hs
  · subst h0
    go_enter Try.func158, Try.ntmps158
    go_wp2
    go_ret
    exact ⟨rfl, rfl⟩
  · clear ht hcs hl hg
    go_enter Try.func158, Try.ntmps158
    go_wp2
    all_goals (go_ret; exact ⟨by simp, rfl⟩)
theorem impl_clone_C (a : Option Addr) (n c : Nat) (L : List ConD) (w : World) (hs : Sl encC 3 w a n c L) (hn : n ≤ 1048576) :
    Calls Try.prog 124 #[.slice a n c] w fun e w' => ∃ a', e = .returned (.slice a' n n) ∧ Ow 47 encC 3 w.heap.size w' a' n n L ∧ Ext w w' := by
  go_enter Try.func124, Try.ntmps124
  go_wp2_with fail
  refine (Clone_C _ _ _ L _ hs hn).mono ?_
  rintro e w1 ⟨a', c', rfl, hown, hx⟩
  have how := Ow.of_row hown encC_len (by omega)
  go_wp2_with fail
  refine (Clip_C _ _ _ L _ _ how hn).mono ?_
  rintro e w2 ⟨rfl, rfl⟩
  go_wp2
  go_ret
  exact ⟨a', rfl, how.clip, hx⟩
/-- A slice of mappings that is not empty: its address and its cells. -/
theorem Sl.maps {w : World} {a : Option Addr} {n c : Nat} {L : List MapD} (h : Sl encM 4 w a n c L) :
    (n = 0 ∧ L = []) ∨ (0 < n ∧ ∃ b off, a = some ⟨b, off, none⟩ ∧ b < w.heap.size ∧ ∀ i : Nat, i < n → w.cell? ⟨b, off + i * 4, none⟩ = some (.int .i64 (nth L i).ins.addr) ∧ w.cell? ⟨b, off + i * 4 + 1, none⟩ = some (.int .i64 (nth L i).ins.port) ∧
      w.cell? ⟨b, off + i * 4 + 2, none⟩ = some (.int .i64 (nth L i).port) ∧ w.cell? ⟨b, off + i * 4 + 3, none⟩ = some (.int .i64 (nth L i).last)) := by
  rcases h.form with h0 | ⟨h0, b, off, ha, hb, hc⟩
  · exact .inl h0
  · refine .inr ⟨h0, b, off, ha, hb, fun i hi => ?_⟩
    have hx := nth_some (l := L) (i := i) (by rw [h.len]; exact hi)
    exact ⟨by simpa using hc i _ hx 0 _ rfl, hc i _ hx 1 _ rfl, hc i _ hx 2 _ rfl, hc i _ hx 3 _ rfl⟩
theorem Sl.cons {w : World} {a : Option Addr} {n c : Nat} {L : List ConD} (h : Sl encC 3 w a n c L) :
    (n = 0 ∧ L = []) ∨ (0 < n ∧ ∃ b off, a = some ⟨b, off, none⟩ ∧ b < w.heap.size ∧ ∀ i : Nat, i < n → w.cell? ⟨b, off + i * 3, none⟩ = some (.int .i64 (nth L i).port) ∧ w.cell? ⟨b, off + i * 3 + 1, none⟩ = some (.int .i64 (nth L i).to_.addr) ∧
      w.cell? ⟨b, off + i * 3 + 2, none⟩ = some (.int .i64 (nth L i).to_.port)) := by
  rcases h.form with h0 | ⟨h0, b, off, ha, hb, hc⟩
  · exact .inl h0
  · refine .inr ⟨h0, b, off, ha, hb, fun i hi => ?_⟩
    have hx := nth_some (l := L) (i := i) (by rw [h.len]; exact hi)
    exact ⟨by simpa using hc i _ hx 0 _ rfl, hc i _ hx 1 _ rfl, hc i _ hx 2 _ rfl⟩
end Go.Proofs.Ytppdcglnopoocaa
/- Rows that grow by append, as slices that read as lists. -/
namespace Go.Proofs.Ytppdcglnopoocaa
set_option linter.unusedVariables false
set_option linter.unusedSimpArgs false
open Go.RowKit

theorem Ext.ext {a b c : World} (h : Ext a b) (k : Ext b c) : Ext a c := h.trans k
theorem row_ne {a : Option Addr} {b : Nat} (h : ∀ x, a = some x → b ≠ x.block) : some b ≠ a.map (·.block) := by
  cases a with
  | none => simp
  | some x => have := h x rfl; simpa using this
/-- A slice with all of a new row behind it: append may go on in it. -/
def OwR {α : Type} (E : TypeId) (enc : α → List Value) (k base : Nat) (w : World) (a : Option Addr) (n c : Nat) (L : List α) : Prop := w.ownsRow base E k (.slice a n c) n (L.flatMap enc)
section
variable {α : Type} {E : TypeId} {enc : α → List Value} {k base : Nat} {w w' : World} {a : Option Addr} {n c : Nat} {L : List α}
theorem OwR.ext (h : OwR E enc k base w a n c L) (hx : Ext w w') : OwR E enc k base w' a n c L := World.ownsRow.kept h hx (by cases hv : (Value.slice a n c).ownBlock <;> simp)
theorem OwR.ow (h : OwR E enc k base w a n c L) (hk : ∀ x, (enc x).length = k) (h0 : 0 < k) : Ow E enc k base w a n c L := Ow.of_row h hk h0
theorem OwR.nil (w : World) : OwR E enc k base w none 0 0 [] := World.ownsRow_nil _ _ _ _
theorem OwR.empty (w : World) (base : Nat) {b : Nat} (hb : b = w.heap.size) (h : base ≤ w.heap.size) : OwR E enc k base (w.alloc (.cells #[] E)) (some ⟨b, 0, none⟩) 0 0 [] := own_empty w base hb h
theorem OwR.lt (h : OwR E enc k base w a n c L) : ∀ x, a = some x → base ≤ x.block ∧ x.block < w.heap.size := fun x e => World.ownsRow.lt h x.block (by subst e; rfl)
theorem OwR.rebase (h : OwR E enc k base w a n c L) {b' : Nat} (hb : b' ≤ base) : OwR E enc k b' w a n c L := by
  refine ⟨h.1, ?_⟩
  rcases h.2 with h0 | ⟨g, cap, cur, e, hg, r⟩
  · exact .inl h0
  · exact .inr ⟨g, cap, cur, e, Nat.le_trans hb hg, r⟩
theorem OwR.keep (h : OwR E enc k base w a n c L) {row : Option Nat} (hg : w.grownBy w' row) (hne : ∀ x, a = some x → some x.block ≠ row) : OwR E enc k base w' a n c L := by
  refine World.ownsRow.kept h hg ?_
  cases a with
  | none => exact .inl rfl
  | some x => exact .inr (hne x rfl)
theorem OwR.setC (h : OwR E enc k base w a n c L) {p : Addr} (hp : ∀ x, a = some x → x.block ≠ p.block) (u : Value) : OwR E enc k base (w.setCell p u) a n c L :=
  h.keep (row := some p.block) ⟨rfl, rfl, rfl, by simp [World.setCell], fun i _ hne => Below.heap_setCell w p u i (fun e => hne (by rw [e]))⟩ (fun x e e2 => hp x e (by injection e2))
theorem Sl.lit1 (w : World) (T : TypeId) (x : α) (cs : Array Value) (hcs : cs.toList = enc x) {b : Nat} (hb : b = w.heap.size) : Sl enc k (w.alloc (.cells cs T)) (some ⟨b, 0, none⟩) 1 1 [x] := by
  refine ⟨rfl, Nat.le_refl _, by omega, (fun e => by cases e), fun _ => ⟨b, 0, rfl, by simp [hb], fun i y hy j u hu => ?_⟩⟩
  have hi : i = 0 := by
    have := (List.getElem?_eq_some_iff.1 hy).1
    simp at this; omega
  subst hi
  simp at hy
  subst hy
  subst hb
  have h := (Blk.new w T cs).cells (0 + (0 * k + j))
  rw [h, ← Array.getElem?_toList, hcs]
  simpa using hu
end
theorem wpList_append_ow {P : Program} {t E : TypeId} {k bytes : Nat} {α : Type} {enc : α → List Value} {ops : Array Oper} {rest : List Oper} {o : Oper} {a : Act} {Q : Exit → Act → World → Prop} (w : World) (hgd : o.guard = none) (s x : Operand) 
    (ho : o.op = .call { callee := .builtin .append, args := #[s, x], argTypes := #[t, t] }) (hE : EI P t E k bytes) (hk : ∀ x, (enc x).length = k) (h1 : ∀ x, ∀ u ∈ enc x, u.oneCell' = true) (hby : bytes ≤ 1024)
    (base : Nat) (a0 : Option Addr) (n c0 : Nat) (L0 : List α) (hs : a.eval s = .slice a0 n c0) (hown : OwR E enc k base w a0 n c0 L0)
    (A : Option Addr) (m c : Nat) (L : List α) (hx : a.eval x = .slice A m c) (hsl : Sl enc k w A m c L) (hn : n + m ≤ 2000000) (hbase : base ≤ w.heap.size)
    (h : ∀ a' c' w', OwR E enc k base w' a' (n + m) c' (L0 ++ L) → (∀ u, Ext u w → u.heap.size ≤ base → Ext u w') → w.grownBy w' (a0.map (·.block)) → wpList P ops Q rest (a.put o.dst (.slice a' (n + m) c')) w') : wpList P ops Q (o :: rest) a w := by
  refine wpList_append_sl w hgd s x ho hE hk h1 base (.slice a0 n c0) n (L0.flatMap enc) hs hown A m c L hx hsl (by simp only [maxLen]; omega) (Nat.le_trans (Nat.mul_le_mul hn hby) (by omega)) hbase ?_
  intro a' c' w' h2 h3 _
  refine h a' c' w' (by unfold OwR; rw [List.flatMap_append]; exact h2) (fun u hu hb => hu.grown h3 fun g e => ?_) (by cases a0 <;> exact h3)
  have := (World.ownsRow.lt hown g e).1
  omega
theorem filt_keep {α : Type} [Inhabited α] {p : α → Bool} {L : List α} {k : Nat} (hk : k < L.length) (h : p (nth L k) = true) : (L.take (k + 1)).filter p = (L.take k).filter p ++ [nth L k] := by
  rw [take_succ hk, List.filter_append]
  simp [h]
theorem filt_drop {α : Type} [Inhabited α] {p : α → Bool} {L : List α} {k : Nat} (hk : k < L.length) (h : p (nth L k) = false) : (L.take (k + 1)).filter p = (L.take k).filter p := by
  rw [take_succ hk, List.filter_append]
  simp [h]
end Go.Proofs.Ytppdcglnopoocaa
/- Finding in slices of mappings: IndexFunc, ContainsFunc at a closure; the closures of byEnd and byPort. -/
namespace Go.Proofs.Ytppdcglnopoocaa
set_option linter.unusedVariables false
set_option linter.unusedSimpArgs false
open Go.RowKit Go.Shelf

theorem IndexFunc_M (g : FuncId) (lb : Array Value) (eg : ∀ args w, (callFunc g args).run Try.prog w = .ok (.enter g args) w) (p : MapD → Bool) (a : Option Addr) (n c : Nat) (L : List MapD) (w : World) (hs : Sl encM 4 w a n c L)
    (hcall : ∀ x, x ∈ L → ∀ W, Ext w W → Calls Try.prog g (#[.agg #[.int .i64 x.ins.addr, .int .i64 x.ins.port, .int .i64 x.port, .int .i64 x.last]] ++ lb) W fun e w' => e = .returned (.bool (p x)) ∧ Ext W w') :
    Calls Try.prog 121 #[.slice a n c, .func (.func g) #[] lb] w fun e w' => e = .returned (.int .i64 (ix p L)) ∧ Ext w w' := by
  have hle := hs.le
  have hmax := hs.max
  have hlen := Lib.hid hs.len
  rcases hs.maps with ⟨h0, hL⟩ | ⟨h0, b, off, ha, hb, hc⟩
  · subst h0
    subst hL
    clear hs hcall hlen
    go_enter Try.func121, Try.ntmps121
    go_wp2
    go_loop [5, 8] (fun _ i => i = .int .i64 0) (fun _ _ => 0)
    case atStart => rfl
    case round =>
      subst hrel
      go_wp2
      go_ret
      exact ⟨rfl, Ext.refl _⟩
  · subst ha
    have HC := Lib.hid hcall
    have HC2 := Lib.hid hc
    clear hs hcall hc
    go_enter Try.func121, Try.ntmps121
    go_wp2
    go_loopw [5, 8] (fun _ i wr => ∃ k : Nat, k ≤ n ∧ i = .int .i64 k ∧ (∀ j, j < k → p (nth L j) = false) ∧ Ext w wr) (fun _ i _ => n - (intOf i).toNat)
    case atStart => exact ⟨0, Nat.zero_le _, rfl, by omega, Ext.refl _⟩
    case round =>
      obtain ⟨k, hk, rfl, hall, hX⟩ := hrel
      have HA := Lib.hid hall
      clear hall
      by_cases hlt : k < n
      · obtain ⟨d0, d1, d2, d3⟩ := HC2.out k hlt
        rw [← hX.cells _ _ hb] at d0 d1 d2 d3
        have hmem : nth L k ∈ L := nth_mem (by rw [hlen.out]; exact hlt)
        have hcall := HC.out (nth L k) hmem wr hX
        cases hp : p (nth L k) with
        | true =>
          rw [hp] at hcall
          replace hcall := Lib.hid hcall
          replace hp := Lib.hid hp
          go_wp2_with fail
          refine (hcall.out).mono ?_
          rintro e w1 ⟨rfl, hx⟩
          go_wp2
          go_ret
          refine ⟨ret_int (ix_some (k := k) (x := nth L k) ?_ (nth_some (by rw [hlen.out]; exact hlt)) hp.out).symm, hX.trans hx⟩
          intro y hy
          obtain ⟨j, hj, rfl⟩ := List.mem_take_iff_getElem.1 hy
          have h1 := HA.out j (by omega)
          rwa [nth_of (List.getElem?_eq_getElem (by omega))] at h1
        | false =>
          rw [hp] at hcall
          replace hcall := Lib.hid hcall
          replace hp := Lib.hid hp
          go_wp2_with fail
          refine (hcall.out).mono ?_
          rintro e w1 ⟨rfl, hx⟩
          have HX := Lib.hid (hX.trans hx)
          clear hX hx
          go_wp2
          go_roundw
          case rel => exact ⟨k + 1, hlt, by go_num, fun j hj => by
            rcases Nat.lt_or_ge j k with h | h
            · exact HA.out j h
            · have e : j = k := by omega
              rw [e]; exact hp.out, HX.out⟩
          case measure => simp [intOf]; omega
      · have e : k = n := by omega
        have HX := Lib.hid hX
        clear hX
        subst e
        go_wp2
        go_ret
        refine ⟨ret_int (ix_none fun x hx => ?_).symm, HX.out⟩
        obtain ⟨j, hj, rfl⟩ := List.mem_iff_getElem.1 hx
        have h1 := HA.out j (by rw [← hlen.out]; exact hj)
        rwa [nth_of (List.getElem?_eq_getElem hj)] at h1
theorem ix_any {α : Type} (p : α → Bool) (l : List α) : decide (0 ≤ ix p l) = l.any p := by
  rcases ix_cases p l with ⟨h, h2⟩ | ⟨k, x, h, h2, h3, _⟩
  · rw [h]
    have : l.any p = false := by rw [List.any_eq_false]; intro x hx; simp [h2 x hx]
    rw [this]; rfl
  · rw [h]
    have : l.any p = true := List.any_eq_true.2 ⟨x, List.mem_of_getElem? h2, h3⟩
    rw [this]
    simp
theorem ContainsFunc_M (g : FuncId) (lb : Array Value) (eg : ∀ args w, (callFunc g args).run Try.prog w = .ok (.enter g args) w) (p : MapD → Bool) (a : Option Addr) (n c : Nat) (L : List MapD) (w : World) (hs : Sl encM 4 w a n c L)
    (hcall : ∀ x, x ∈ L → ∀ W, Ext w W → Calls Try.prog g (#[.agg #[.int .i64 x.ins.addr, .int .i64 x.ins.port, .int .i64 x.port, .int .i64 x.last]] ++ lb) W fun e w' => e = .returned (.bool (p x)) ∧ Ext W w') :
    Calls Try.prog 83 #[.slice a n c, .func (.func g) #[] lb] w fun e w' => e = .returned (.bool (L.any p)) ∧ Ext w w' := by
  have H := Lib.hid (IndexFunc_M g lb eg p a n c L w hs hcall)
  rw [← ix_any]
  have hge := ix_ge p L
  clear hs hcall eg
  generalize ix p L = r at *
  go_enter Try.func83, Try.ntmps83
  go_wp2_with fail
  refine (H.out).mono ?_
  rintro e w1 ⟨rfl, hx⟩
  go_wp2
  go_ret
  exact ⟨rfl, hx⟩
theorem clo_byEnd (m : MapD) (e : EndD) (B : Nat) (W : World) (hB : Blk W B 30 #[.int .i64 e.addr, .int .i64 e.port]) :
    Calls Try.prog 139 (#[.agg #[.int .i64 m.ins.addr, .int .i64 m.ins.port, .int .i64 m.port, .int .i64 m.last]] ++ #[.pointer (some ⟨B, 0, none⟩)]) W fun r w' => r = .returned (.bool (decide (m.ins = e))) ∧ Ext W w' := by
  show Calls Try.prog 139 #[.agg #[.int .i64 m.ins.addr, .int .i64 m.ins.port, .int .i64 m.port, .int .i64 m.last], .pointer (some ⟨B, 0, none⟩)] W _
  have h1 := hB.cells
  have h2 := hB.lt
  have e1 : decide (m.ins = e) = (decide (m.ins.addr = e.addr) && decide (m.ins.port = e.port)) := by
    obtain ⟨⟨a, b⟩, c, d⟩ := m; obtain ⟨x, y⟩ := e
    rw [Bool.eq_iff_iff]
    simp
  rw [e1]
  clear e1 hB
  go_enter Try.func139, Try.ntmps139
  go_wp2
  all_goals (go_ret; exact ⟨ret_bool (by simp [*]), (by repeat (first | (with_reducible exact Ext.refl _) | (with_reducible assumption) | (with_reducible refine Ext.alloc ?_ _) | (with_reducible refine Ext.drewN ?_ _) | (with_reducible refine Ext.drew ?_) | (with_reducible refine Ext.setCell ?_ ?_ _; rotate_left; (simp only []; omega)) | (with_reducible refine Ext.trans ?_ (by assumption))))⟩)
theorem impl_byEnd (e : EndD) (a : Option Addr) (n c : Nat) (L : List MapD) (w : World) (hs : Sl encM 4 w a n c L) :
    Calls Try.prog 81 #[.slice a n c, .agg #[.int .i64 e.addr, .int .i64 e.port]] w fun r w' => r = .returned (.int .i64 (byEnd L e)) ∧ Ext w w' := by
  have eg : ∀ args w, (callFunc 139 args).run Try.prog w = .ok (.enter 139 args) w := enters_of Try.func139 (by kernel_rfl) rfl
  have H := Lib.hid (IndexFunc_M 139 #[.pointer (some ⟨w.heap.size, 0, none⟩)] eg (fun m => decide (m.ins = e)) a n c L (w.alloc (.cells #[.int .i64 e.addr, .int .i64 e.port] 30)) (hs.alloc _)
    (fun x _ W hW => clo_byEnd x e w.heap.size W (Blk.ext (Blk.new _ _ _) hW)))
  clear hs eg
  unfold byEnd
  generalize ix (fun m => decide (m.ins = e)) L = r at *
  go_enter Try.func81, Try.ntmps81
  go_wp2_with fail
  refine (H.out).mono ?_
  rintro e w1 ⟨rfl, hx⟩
  go_wp2
  go_ret
  exact ⟨rfl, (by repeat (first | (with_reducible exact Ext.refl _) | (with_reducible assumption) | (with_reducible refine Ext.alloc ?_ _) | (with_reducible refine Ext.drewN ?_ _) | (with_reducible refine Ext.drew ?_) | (with_reducible refine Ext.setCell ?_ ?_ _; rotate_left; (simp only []; omega)) | (with_reducible refine Ext.trans ?_ (by assumption))))⟩
theorem clo_byPort (m : MapD) (q : Int) (B : Nat) (W : World) (hB : Blk W B 3 #[.int .i64 q]) :
    Calls Try.prog 122 (#[.agg #[.int .i64 m.ins.addr, .int .i64 m.ins.port, .int .i64 m.port, .int .i64 m.last]] ++ #[.pointer (some ⟨B, 0, none⟩)]) W fun r w' => r = .returned (.bool (decide (m.port = q))) ∧ Ext W w' := by
  show Calls Try.prog 122 #[.agg #[.int .i64 m.ins.addr, .int .i64 m.ins.port, .int .i64 m.port, .int .i64 m.last], .pointer (some ⟨B, 0, none⟩)] W _
  have h1 := hB.cells
  have h2 := hB.lt
  clear hB
  go_enter Try.func122, Try.ntmps122
  go_wp2
  go_ret
  exact ⟨rfl, (by repeat (first | (with_reducible exact Ext.refl _) | (with_reducible assumption) | (with_reducible refine Ext.alloc ?_ _) | (with_reducible refine Ext.drewN ?_ _) | (with_reducible refine Ext.drew ?_) | (with_reducible refine Ext.setCell ?_ ?_ _; rotate_left; (simp only []; omega)) | (with_reducible refine Ext.trans ?_ (by assumption))))⟩
theorem impl_byPort (q : Int) (a : Option Addr) (n c : Nat) (L : List MapD) (w : World) (hs : Sl encM 4 w a n c L) :
    Calls Try.prog 59 #[.slice a n c, .int .i64 q] w fun r w' => r = .returned (.int .i64 (byPort L q)) ∧ Ext w w' := by
  have eg : ∀ args w, (callFunc 122 args).run Try.prog w = .ok (.enter 122 args) w := enters_of Try.func122 (by kernel_rfl) rfl
  have H := Lib.hid (IndexFunc_M 122 #[.pointer (some ⟨w.heap.size, 0, none⟩)] eg (fun m => decide (m.port = q)) a n c L (w.alloc (.cells #[.int .i64 q] 3)) (hs.alloc _)
    (fun x _ W hW => clo_byPort x q w.heap.size W (Blk.ext (Blk.new _ _ _) hW)))
  clear hs eg
  unfold byPort
  generalize ix (fun m => decide (m.port = q)) L = r at *
  go_enter Try.func59, Try.ntmps59
  go_wp2_with fail
  refine (H.out).mono ?_
  rintro e w1 ⟨rfl, hx⟩
  go_wp2
  go_ret
  exact ⟨rfl, (by repeat (first | (with_reducible exact Ext.refl _) | (with_reducible assumption) | (with_reducible refine Ext.alloc ?_ _) | (with_reducible refine Ext.drewN ?_ _) | (with_reducible refine Ext.drew ?_) | (with_reducible refine Ext.setCell ?_ ?_ _; rotate_left; (simp only []; omega)) | (with_reducible refine Ext.trans ?_ (by assumption))))⟩
end Go.Proofs.Ytppdcglnopoocaa
/- Contracts: valid tables of mappings, of both packages; the places of ends and ports. -/
namespace Go.Proofs.Ytppdcglnopoocaa
set_option linter.unusedVariables false
set_option linter.unusedSimpArgs false
open Go.RowKit Go.Shelf

theorem all_two {α : Type} (a b : α → Bool) (l : List α) : (l.all fun q => !a q && !b q) = (!l.any a && !l.any b) := by
  induction l with
  | nil => rfl
  | cons x l ih => rw [List.all_cons, List.any_cons, List.any_cons, ih]; cases a x <;> cases b x <;> simp
theorem okMapAt_impl (L : List MapD) (k : Nat) : okMapAt L k = (validEnd (nth L k).ins && inR (nth L k).port 1000 1007 && inR (nth L k).last 0 10000 && !decide (0 ≤ byEnd (L.take k) (nth L k).ins) && !decide (0 ≤ byPort (L.take k) (nth L k).port)) := by
  unfold okMapAt okMap byEnd byPort
  rw [all_two, ix_any, ix_any]
  simp only [Bool.and_assoc]
theorem Sl.cut {α : Type} {enc : α → List Value} {k : Nat} {w : World} {a : Option Addr} {n c : Nat} {L : List α} (h : Sl enc k w a n c L) {m : Nat} (hm : m ≤ n) : Sl enc k w a m c (L.take m) :=
  h.take hm (Nat.le_trans hm h.le) (Nat.le_refl c)
theorem run_take_M (a : Option Addr) (n c m : Nat) (h : m ≤ c) (W : World) : (Instr.slice 25 (.slice a n c) none (some (.int .i64 m)) none).run Try.prog W = .ok (.slice a m c) W := by
  have h2 : (m : Int) ≤ (c : Int) := by omega
  have e : ∀ s : Nat, a.map (·.add (0 * s)) = a := by intro s; rw [Nat.zero_mul]; exact add_zero' a
  rw [run_slice_h (P := Try.prog) W 25 a n c (by kernel_rfl) .i64 (m : Int) (by omega) h2]
  go_simp
theorem impl_isOutside (n : Int) (w : World) : Calls Try.prog 132 #[.int .i64 n] w fun e w' => e = .returned (.bool (inR n 1000 1007)) ∧ w = w' := by
  go_enter Try.func132, Try.ntmps132
  go_wp2_with (go_at_call 66; refine (impl_in _ _ _ _).mono ?_; rintro e w' ⟨rfl, rfl⟩)
  go_ret
  exact ⟨rfl, rfl⟩
theorem impl_isTime (n : Int) (w : World) : Calls Try.prog 133 #[.int .i64 n] w fun e w' => e = .returned (.bool (inR n 0 10000)) ∧ w = w' := by
  go_enter Try.func133, Try.ntmps133
  go_wp2_with (go_at_call 66; refine (impl_in _ _ _ _).mono ?_; rintro e w' ⟨rfl, rfl⟩)
  go_ret
  exact ⟨rfl, rfl⟩
theorem impl_End_valid' (e : EndD) (w : World) : Calls Try.prog 118 #[.agg #[.int .i64 e.addr, .int .i64 e.port]] w fun r w' => r = .returned (.bool (validEnd e)) ∧ Ext w w' := impl_End_valid e.addr e.port w
set_option maxHeartbeats 1000000 in
theorem impl_ValidTable (a : Option Addr) (n c : Nat) (L : List MapD) (w : World) (hs : Sl encM 4 w a n c L) :
    Calls Try.prog 70 #[.slice a n c] w fun e w' => e = .returned (.bool (validTable L)) ∧ Ext w w' := by
  have hle := hs.le
  have hmax := hs.max
  have hfin : validTable L = (upTo (okMapAt L) n && decide (n ≤ 8)) := by rw [← hs.len]; rfl
  rw [hfin]
  clear hfin
  rcases hs.maps with ⟨h0, hL⟩ | ⟨h0, b, off, ha, hb, hc⟩
  · subst h0
    subst hL
    clear hs
    go_enter Try.func70, Try.ntmps70
    go_wp2
    go_loop [3, 4, 7] (fun _ _ i => i = .int .i64 0) (fun _ _ _ => 0)
    case atStart => rfl
    case round =>
      subst hrel
      go_wp2
      go_ret
      exact ⟨rfl, Ext.refl _⟩
  · subst ha
    have HC2 := Lib.hid hc
    clear hc
    go_enter Try.func70, Try.ntmps70
    go_wp2
    go_loopw [3, 4, 7] (fun _ _ i wr => ∃ k : Nat, k ≤ n ∧ i = .int .i64 k ∧ (∀ j, j < k → okMapAt L j = true) ∧ Ext w wr) (fun _ _ i _ => n - (intOf i).toNat)
    case atStart => exact ⟨0, Nat.zero_le _, rfl, by omega, Ext.refl _⟩
    case round =>
      obtain ⟨k, hk, rfl, hall, hX⟩ := hrel
      have HA := Lib.hid hall
      clear hall
      have hsk := hs.ext hX
      by_cases hlt : k < n
      · obtain ⟨d0, d1, d2, d3⟩ := HC2.out k hlt
        rw [← hX.cells _ _ hb] at d0 d1 d2 d3
        have hbr : b < wr.heap.size := by have := hX.size; omega
        have hok := okMapAt_impl L k
        obtain ⟨B1, hB1⟩ : ∃ B1, decide (0 ≤ byEnd (L.take k) (nth L k).ins) = B1 := ⟨_, rfl⟩
        obtain ⟨B2, hB2⟩ : ∃ B2, decide (0 ≤ byPort (L.take k) (nth L k).port) = B2 := ⟨_, rfl⟩
        rw [hB1, hB2] at hok
        replace hok := Lib.hid hok
        have hcut := hsk.cut (m := k) (by omega)
        have hsl := run_take_M (some ⟨b, off, none⟩) n c k (by omega)
        go_wp2_with fail
        refine wp_region_ext (by kernel_rfl) (by kernel_rfl) ?_
        repeat' (first
          | (refine ChL.skip (by rfl) ?_
             (try simp only [Act.put, List.setIfInBounds_toArray, List.set_cons_zero, List.set_cons_succ]))
          | (refine' ChL.val (v := _) (by rfl) ?_ ?_
             rotate_left
             · (intro wS hS
                have hcS := Ext.cells hS
                go_simp
                with_reducible rfl)
             (try simp only [Act.put, List.setIfInBounds_toArray, List.set_cons_zero, List.set_cons_succ]))
          | (refine' ChL.call (v := _) (f := _) (args := _) (by rfl) ?_ ?_ ?_
             rotate_left 3
             · (intro wS
                go_simp
                (constructor <;> rfl))
             · (intro wS hS
                first | (go_at_call 118; refine (impl_End_valid' (nth L k).ins _).mono ?_; rintro e w1 ⟨rfl, hx⟩; refine ⟨?_, Ext.trans hS hx⟩; rfl) | (go_at_call 132; refine (impl_isOutside _ _).mono ?_; rintro e w1 ⟨rfl, hx⟩; subst hx; refine ⟨?_, hS⟩; rfl) | (go_at_call 133; refine (impl_isTime _ _).mono ?_; rintro e w1 ⟨rfl, hx⟩; subst hx; refine ⟨?_, hS⟩; rfl) | (go_at_call 81; refine (impl_byEnd (nth L k).ins (some ⟨b, off, none⟩) k c (L.take k) _ (by exact (hcut.ext (show Ext wr _ from (by repeat (first | (with_reducible exact Ext.refl _) | (with_reducible assumption) | (with_reducible refine Ext.alloc ?_ _) | (with_reducible refine Ext.drewN ?_ _) | (with_reducible refine Ext.drew ?_) | (with_reducible refine Ext.setCell ?_ ?_ _; rotate_left; (simp only []; omega)) | (with_reducible refine Ext.trans ?_ (by assumption)))))).ext hS)).mono ?_; rintro e w1 ⟨rfl, hx⟩; refine ⟨?_, Ext.trans hS hx⟩; rfl) | (go_at_call 59; refine (impl_byPort _ (some ⟨b, off, none⟩) k c (L.take k) _ (by exact (hcut.ext (show Ext wr _ from (by repeat (first | (with_reducible exact Ext.refl _) | (with_reducible assumption) | (with_reducible refine Ext.alloc ?_ _) | (with_reducible refine Ext.drewN ?_ _) | (with_reducible refine Ext.drew ?_) | (with_reducible refine Ext.setCell ?_ ?_ _; rotate_left; (simp only []; omega)) | (with_reducible refine Ext.trans ?_ (by assumption)))))).ext hS)).mono ?_; rintro e w1 ⟨rfl, hx⟩; refine ⟨?_, Ext.trans hS hx⟩; rfl))
             (try simp only [Act.put, List.setIfInBounds_toArray, List.set_cons_zero, List.set_cons_succ]))
          | (refine ChL.nil ?_)
          | (refine' ChL.guard (x := _) ?_ ?_ ?_
             rotate_left
             · (go_simp
                rfl)
             all_goals
               intro hg
               simp only [hg])
          | (refine' ChL.guardN (x := _) ?_ ?_ ?_
             rotate_left
             · (go_simp
                rfl)
             all_goals
               intro hg
               simp only [hg]))
        all_goals
          intro w' hw'
          have HX : Ext w w' := hX.trans (Ext.trans (show Ext wr _ from (by repeat (first | (with_reducible exact Ext.refl _) | (with_reducible assumption) | (with_reducible refine Ext.alloc ?_ _) | (with_reducible refine Ext.drewN ?_ _) | (with_reducible refine Ext.drew ?_) | (with_reducible refine Ext.setCell ?_ ?_ _; rotate_left; (simp only []; omega)) | (with_reducible refine Ext.trans ?_ (by assumption))))) hw')
          clear hX hw' hsk hcut hsl
          go_wp2
        all_goals first
          | (go_ret
             exact ⟨ret_bool (by rw [upTo_f hlt (by rw [hok.out]; simp [*])]; rfl), HX⟩)
          | (go_roundw
             case rel =>
               exact ⟨k + 1, hlt, by go_num, fun j hj => by
                 rcases Nat.lt_or_ge j k with h | h
                 · exact HA.out j h
                 · have e : j = k := by omega
                   rw [e, hok.out]; simp [*], HX⟩
             case measure => simp [intOf]; omega)
      · have e : k = n := by omega
        subst e
        clear hsk
        have HX := Lib.hid hX
        clear hX
        go_wp2
        go_ret
        exact ⟨ret_bool (by rw [upTo_iff.2 HA.out, Bool.eq_iff_iff]; simp; omega), HX.out⟩
end Go.Proofs.Ytppdcglnopoocaa
/- Comparing two ends, nets, contacts, mappings. -/
namespace Go.Proofs.Ytppdcglnopoocaa
set_option linter.unusedVariables false
set_option linter.unusedSimpArgs false
open Go.RowKit

theorem EndD.eq_iff (x q : EndD) : decide (x = q) = (decide (x.addr = q.addr) && (decide (x.port = q.port))) := by
  obtain ⟨a, b⟩ := x; obtain ⟨d, e⟩ := q
  rw [Bool.eq_iff_iff]
  simp
theorem run_eql_E (x q : EndD) (W : World) : (Go.binOp .eql 30 (.agg #[.int .i64 x.addr, .int .i64 x.port]) (.agg #[.int .i64 q.addr, .int .i64 q.port])).run Try.prog W = .ok (.bool (decide (x = q))) W := by
  rw [EndD.eq_iff]
  by_cases h0 : x.addr = q.addr
  · by_cases h1 : x.port = q.port
    · go_simp
    · go_simp
  · go_simp
theorem run_neq_E (x q : EndD) (W : World) : (Go.binOp .neq 30 (.agg #[.int .i64 x.addr, .int .i64 x.port]) (.agg #[.int .i64 q.addr, .int .i64 q.port])).run Try.prog W = .ok (.bool (!decide (x = q))) W := by
  rw [EndD.eq_iff]
  by_cases h0 : x.addr = q.addr
  · by_cases h1 : x.port = q.port
    · go_simp
    · go_simp
  · go_simp
theorem NetD.eq_iff (x q : NetD) : decide (x = q) = (decide (x.base = q.base) && (decide (x.bits = q.bits))) := by
  obtain ⟨a, b⟩ := x; obtain ⟨d, e⟩ := q
  rw [Bool.eq_iff_iff]
  simp
theorem run_eql_N (x q : NetD) (W : World) : (Go.binOp .eql 24 (.agg #[.int .i64 x.base, .int .i64 x.bits]) (.agg #[.int .i64 q.base, .int .i64 q.bits])).run Try.prog W = .ok (.bool (decide (x = q))) W := by
  rw [NetD.eq_iff]
  by_cases h0 : x.base = q.base
  · by_cases h1 : x.bits = q.bits
    · go_simp
    · go_simp
  · go_simp
theorem run_neq_N (x q : NetD) (W : World) : (Go.binOp .neq 24 (.agg #[.int .i64 x.base, .int .i64 x.bits]) (.agg #[.int .i64 q.base, .int .i64 q.bits])).run Try.prog W = .ok (.bool (!decide (x = q))) W := by
  rw [NetD.eq_iff]
  by_cases h0 : x.base = q.base
  · by_cases h1 : x.bits = q.bits
    · go_simp
    · go_simp
  · go_simp
theorem ConD.eq_iff (x q : ConD) : decide (x = q) = (decide (x.port = q.port) && (decide (x.to_.addr = q.to_.addr) && (decide (x.to_.port = q.to_.port)))) := by
  obtain ⟨a, ⟨b, c⟩⟩ := x; obtain ⟨d, ⟨e, f⟩⟩ := q
  rw [Bool.eq_iff_iff]
  simp
theorem run_eql_C (x q : ConD) (W : World) : (Go.binOp .eql 47 (.agg #[.int .i64 x.port, .int .i64 x.to_.addr, .int .i64 x.to_.port]) (.agg #[.int .i64 q.port, .int .i64 q.to_.addr, .int .i64 q.to_.port])).run Try.prog W = .ok (.bool (decide (x = q))) W := by
  rw [ConD.eq_iff]
  by_cases h0 : x.port = q.port
  · by_cases h1 : x.to_.addr = q.to_.addr
    · by_cases h2 : x.to_.port = q.to_.port
      · go_simp
      · go_simp
    · go_simp
  · go_simp
theorem run_neq_C (x q : ConD) (W : World) : (Go.binOp .neq 47 (.agg #[.int .i64 x.port, .int .i64 x.to_.addr, .int .i64 x.to_.port]) (.agg #[.int .i64 q.port, .int .i64 q.to_.addr, .int .i64 q.to_.port])).run Try.prog W = .ok (.bool (!decide (x = q))) W := by
  rw [ConD.eq_iff]
  by_cases h0 : x.port = q.port
  · by_cases h1 : x.to_.addr = q.to_.addr
    · by_cases h2 : x.to_.port = q.to_.port
      · go_simp
      · go_simp
    · go_simp
  · go_simp
theorem MapD.eq_iff (x q : MapD) : decide (x = q) = (decide (x.ins.addr = q.ins.addr) && (decide (x.ins.port = q.ins.port) && (decide (x.port = q.port) && (decide (x.last = q.last))))) := by
  obtain ⟨⟨a, b⟩, c, d⟩ := x; obtain ⟨⟨e, f⟩, g, h⟩ := q
  rw [Bool.eq_iff_iff]
  simp [and_assoc]
theorem run_eql_M (x q : MapD) (W : World) : (Go.binOp .eql 89 (.agg #[.int .i64 x.ins.addr, .int .i64 x.ins.port, .int .i64 x.port, .int .i64 x.last]) (.agg #[.int .i64 q.ins.addr, .int .i64 q.ins.port, .int .i64 q.port, .int .i64 q.last])).run Try.prog W = .ok (.bool (decide (x = q))) W := by
  rw [MapD.eq_iff]
  by_cases h0 : x.ins.addr = q.ins.addr
  · by_cases h1 : x.ins.port = q.ins.port
    · by_cases h2 : x.port = q.port
      · by_cases h3 : x.last = q.last
        · go_simp
        · go_simp
      · go_simp
    · go_simp
  · go_simp
theorem run_neq_M (x q : MapD) (W : World) : (Go.binOp .neq 89 (.agg #[.int .i64 x.ins.addr, .int .i64 x.ins.port, .int .i64 x.port, .int .i64 x.last]) (.agg #[.int .i64 q.ins.addr, .int .i64 q.ins.port, .int .i64 q.port, .int .i64 q.last])).run Try.prog W = .ok (.bool (!decide (x = q))) W := by
  rw [MapD.eq_iff]
  by_cases h0 : x.ins.addr = q.ins.addr
  · by_cases h1 : x.ins.port = q.ins.port
    · by_cases h2 : x.port = q.port
      · by_cases h3 : x.last = q.last
        · go_simp
        · go_simp
      · go_simp
    · go_simp
  · go_simp
end Go.Proofs.Ytppdcglnopoocaa
/- Contracts: finding in slices of contacts; valid contacts, of both packages. -/
namespace Go.Proofs.Ytppdcglnopoocaa
set_option linter.unusedVariables false
set_option linter.unusedSimpArgs false
open Go.RowKit Go.Shelf

theorem IndexFunc_C (g : FuncId) (lb : Array Value) (eg : ∀ args w, (callFunc g args).run Try.prog w = .ok (.enter g args) w) (p : ConD → Bool) (a : Option Addr) (n c : Nat) (L : List ConD) (w : World) (hs : Sl encC 3 w a n c L)
    (hcall : ∀ x, x ∈ L → ∀ W, Ext w W → Calls Try.prog g (#[.agg #[.int .i64 x.port, .int .i64 x.to_.addr, .int .i64 x.to_.port]] ++ lb) W fun e w' => e = .returned (.bool (p x)) ∧ Ext W w') :
    Calls Try.prog 131 #[.slice a n c, .func (.func g) #[] lb] w fun e w' => e = .returned (.int .i64 (ix p L)) ∧ Ext w w' := by
  have hle := hs.le
  have hmax := hs.max
  have hlen := Lib.hid hs.len
  rcases hs.cons with ⟨h0, hL⟩ | ⟨h0, b, off, ha, hb, hc⟩
  · subst h0
    subst hL
    clear hs hcall hlen
    go_enter Try.func131, Try.ntmps131
    go_wp2
    go_loop [5, 8] (fun _ i => i = .int .i64 0) (fun _ _ => 0)
    case atStart => rfl
    case round =>
      subst hrel
      go_wp2
      go_ret
      exact ⟨rfl, Ext.refl _⟩
  · subst ha
    have HC := Lib.hid hcall
    have HC2 := Lib.hid hc
    clear hs hcall hc
    go_enter Try.func131, Try.ntmps131
    go_wp2
    go_loopw [5, 8] (fun _ i wr => ∃ k : Nat, k ≤ n ∧ i = .int .i64 k ∧ (∀ j, j < k → p (nth L j) = false) ∧ Ext w wr) (fun _ i _ => n - (intOf i).toNat)
    case atStart => exact ⟨0, Nat.zero_le _, rfl, by omega, Ext.refl _⟩
    case round =>
      obtain ⟨k, hk, rfl, hall, hX⟩ := hrel
      have HA := Lib.hid hall
      clear hall
      by_cases hlt : k < n
      · obtain ⟨d0, d1, d2⟩ := HC2.out k hlt
        rw [← hX.cells _ _ hb] at d0 d1 d2
        have hmem : nth L k ∈ L := nth_mem (by rw [hlen.out]; exact hlt)
        have hcall := HC.out (nth L k) hmem wr hX
        cases hp : p (nth L k) with
        | true =>
          rw [hp] at hcall
          replace hcall := Lib.hid hcall
          replace hp := Lib.hid hp
          go_wp2_with fail
          refine (hcall.out).mono ?_
          rintro e w1 ⟨rfl, hx⟩
          go_wp2
          go_ret
          refine ⟨ret_int (ix_some (k := k) (x := nth L k) ?_ (nth_some (by rw [hlen.out]; exact hlt)) hp.out).symm, hX.trans hx⟩
          intro y hy
          obtain ⟨j, hj, rfl⟩ := List.mem_take_iff_getElem.1 hy
          have h1 := HA.out j (by omega)
          rwa [nth_of (List.getElem?_eq_getElem (by omega))] at h1
        | false =>
          rw [hp] at hcall
          replace hcall := Lib.hid hcall
          replace hp := Lib.hid hp
          go_wp2_with fail
          refine (hcall.out).mono ?_
          rintro e w1 ⟨rfl, hx⟩
          have HX := Lib.hid (hX.trans hx)
          clear hX hx
          go_wp2
          go_roundw
          case rel => exact ⟨k + 1, hlt, by go_num, fun j hj => by
            rcases Nat.lt_or_ge j k with h | h
            · exact HA.out j h
            · have e : j = k := by omega
              rw [e]; exact hp.out, HX.out⟩
          case measure => simp [intOf]; omega
      · have e : k = n := by omega
        have HX := Lib.hid hX
        clear hX
        subst e
        go_wp2
        go_ret
        refine ⟨ret_int (ix_none fun x hx => ?_).symm, HX.out⟩
        obtain ⟨j, hj, rfl⟩ := List.mem_iff_getElem.1 hx
        have h1 := HA.out j (by rw [← hlen.out]; exact hj)
        rwa [nth_of (List.getElem?_eq_getElem hj)] at h1
theorem ContainsFunc_C (g : FuncId) (lb : Array Value) (eg : ∀ args w, (callFunc g args).run Try.prog w = .ok (.enter g args) w) (p : ConD → Bool) (a : Option Addr) (n c : Nat) (L : List ConD) (w : World) (hs : Sl encC 3 w a n c L)
    (hcall : ∀ x, x ∈ L → ∀ W, Ext w W → Calls Try.prog g (#[.agg #[.int .i64 x.port, .int .i64 x.to_.addr, .int .i64 x.to_.port]] ++ lb) W fun e w' => e = .returned (.bool (p x)) ∧ Ext W w') :
    Calls Try.prog 68 #[.slice a n c, .func (.func g) #[] lb] w fun e w' => e = .returned (.bool (L.any p)) ∧ Ext w w' := by
  have H := Lib.hid (IndexFunc_C g lb eg p a n c L w hs hcall)
  rw [← ix_any]
  have hge := ix_ge p L
  clear hs hcall eg
  generalize ix p L = r at *
  go_enter Try.func68, Try.ntmps68
  go_wp2_with fail
  refine (H.out).mono ?_
  rintro e w1 ⟨rfl, hx⟩
  go_wp2
  go_ret
  exact ⟨rfl, hx⟩
theorem Index_C (x : ConD) (a : Option Addr) (n c : Nat) (L : List ConD) (w : World) (hs : Sl encC 3 w a n c L) :
    Calls Try.prog 162 #[.slice a n c, .agg #[.int .i64 x.port, .int .i64 x.to_.addr, .int .i64 x.to_.port]] w fun e w' => e = .returned (.int .i64 (ix (fun q => decide (q = x)) L)) ∧ Ext w w' := by
  have hle := hs.le
  have hmax := hs.max
  have hlen := Lib.hid hs.len
  rcases hs.cons with ⟨h0, hL⟩ | ⟨h0, b, off, ha, hb, hc⟩
  · subst h0
    subst hL
    clear hs hlen
    go_enter Try.func162, Try.ntmps162
    go_wp2
    go_loop [5, 8] (fun _ i => i = .int .i64 0) (fun _ _ => 0)
    case atStart => rfl
    case round =>
      subst hrel
      go_wp2
      go_ret
      exact ⟨rfl, (by repeat (first | (with_reducible exact Ext.refl _) | (with_reducible assumption) | (with_reducible refine Ext.alloc ?_ _) | (with_reducible refine Ext.drewN ?_ _) | (with_reducible refine Ext.drew ?_) | (with_reducible refine Ext.setCell ?_ ?_ _; rotate_left; (simp only []; omega)) | (with_reducible refine Ext.trans ?_ (by assumption))))⟩
  · subst ha
    have HC2 := Lib.hid hc
    clear hs hc
    go_enter Try.func162, Try.ntmps162
    go_wp2
    go_loopw [5, 8] (fun _ i wr => ∃ k : Nat, k ≤ n ∧ i = .int .i64 k ∧ (∀ j, j < k → nth L j ≠ x) ∧ Blk wr w.heap.size 47 #[.int .i64 x.port, .int .i64 x.to_.addr, .int .i64 x.to_.port] ∧ Ext w wr) (fun _ i _ => n - (intOf i).toNat)
    case atStart => exact ⟨0, Nat.zero_le _, rfl, by omega, Blk.new _ _ _, (by repeat (first | (with_reducible exact Ext.refl _) | (with_reducible assumption) | (with_reducible refine Ext.alloc ?_ _) | (with_reducible refine Ext.drewN ?_ _) | (with_reducible refine Ext.drew ?_) | (with_reducible refine Ext.setCell ?_ ?_ _; rotate_left; (simp only []; omega)) | (with_reducible refine Ext.trans ?_ (by assumption))))⟩
    case round =>
      obtain ⟨k, hk, rfl, hall, hB, hX⟩ := hrel
      have HA := Lib.hid hall
      clear hall
      by_cases hlt : k < n
      · obtain ⟨d0, d1, d2⟩ := HC2.out k hlt
        rw [← hX.cells _ _ hb] at d0 d1 d2
        have hcB := hB.cells
        have hzB := hB.lt
        have hbr : b < wr.heap.size := by have := hX.size; omega
        by_cases hq : nth L k = x
        · rw [hq] at d0 d1 d2
          have HX := Lib.hid hX
          replace hq := Lib.hid hq
          clear hX
          go_wp2_with fail
          have hdrS : ∀ W : World, W.drew.heap.size = W.heap.size := fun _ => rfl
          refine wp_region_eager (R := Ext) [0, 1, 2, 3, 4, 5] (by kernel_rfl) (by kernel_rfl) Ext.refl (fun _ _ _ => Ext.trans) ?_
          repeat' (first
            | (refine ChX.skip (by rfl) (by rfl) ?_
               (try simp only [Act.put, List.setIfInBounds_toArray, List.set_cons_zero, List.set_cons_succ]))
            | (refine' ChX.quiet (v := _) (by rfl) (by rfl) (by rfl) ?_ ?_
               rotate_left
               · (intro wS hS
                  have hcS := Ext.cells hS
                  go_simp
                  with_reducible rfl)
               (try simp only [Act.put, List.setIfInBounds_toArray, List.set_cons_zero, List.set_cons_succ]))
            | (refine ChX.nil ?_)
            | (refine' ChX.guard (x := _) (by rfl) ?_ ?_ ?_
               rotate_left
               · (go_simp
                  rfl)
               all_goals
                 intro hg
                 simp only [hg])
            | (refine' ChX.guardN (x := _) (by rfl) ?_ ?_ ?_
               rotate_left
               · (go_simp
                  rfl)
               all_goals
                 intro hg
                 simp only [hg]))
          go_wp2
          go_ret
          refine ⟨ret_int (ix_some (k := k) (x := nth L k) ?_ (nth_some (by rw [hlen.out]; exact hlt)) (by simpa using hq.out)).symm, (show Ext w wr from HX.out).trans (by repeat (first | (with_reducible exact Ext.refl _) | (with_reducible assumption) | (with_reducible refine Ext.alloc ?_ _) | (with_reducible refine Ext.drewN ?_ _) | (with_reducible refine Ext.drew ?_) | (with_reducible refine Ext.setCell ?_ ?_ _; rotate_left; (simp only []; omega)) | (with_reducible refine Ext.trans ?_ (by assumption))))⟩
          intro y hy
          obtain ⟨j, hj, rfl⟩ := List.mem_take_iff_getElem.1 hy
          have h1 := HA.out j (by omega)
          rw [nth_of (List.getElem?_eq_getElem (by omega))] at h1
          simpa using h1
        · have HX := Lib.hid hX
          have hqf : decide (x = nth L k) = false := by simpa using fun e => hq e.symm
          have heq : ∀ W : World, (Go.binOp .eql 47 (.agg #[.int .i64 x.port, .int .i64 x.to_.addr, .int .i64 x.to_.port]) (.agg #[.int .i64 (nth L k).port, .int .i64 (nth L k).to_.addr, .int .i64 (nth L k).to_.port])).run Try.prog W = .ok (.bool false) W := fun W => by rw [run_eql_C, hqf]
          replace hq := Lib.hid hq
          clear hX hqf
          go_wp2_with fail
          have hdrS : ∀ W : World, W.drew.heap.size = W.heap.size := fun _ => rfl
          refine wp_region_eager (R := Ext) [0, 1, 2, 3, 4, 5] (by kernel_rfl) (by kernel_rfl) Ext.refl (fun _ _ _ => Ext.trans) ?_
          repeat' (first
            | (refine ChX.skip (by rfl) (by rfl) ?_
               (try simp only [Act.put, List.setIfInBounds_toArray, List.set_cons_zero, List.set_cons_succ]))
            | (refine' ChX.quiet (v := _) (by rfl) (by rfl) (by rfl) ?_ ?_
               rotate_left
               · (intro wS hS
                  have hcS := Ext.cells hS
                  go_simp
                  with_reducible rfl)
               (try simp only [Act.put, List.setIfInBounds_toArray, List.set_cons_zero, List.set_cons_succ]))
            | (refine ChX.nil ?_)
            | (refine' ChX.guard (x := _) (by rfl) ?_ ?_ ?_
               rotate_left
               · (go_simp
                  rfl)
               all_goals
                 intro hg
                 simp only [hg])
            | (refine' ChX.guardN (x := _) (by rfl) ?_ ?_ ?_
               rotate_left
               · (go_simp
                  rfl)
               all_goals
                 intro hg
                 simp only [hg]))
          go_wp2
          go_roundw
          case rel => exact ⟨k + 1, hlt, by go_num, fun j hj => by
            rcases Nat.lt_or_ge j k with h | h
            · exact HA.out j h
            · have e : j = k := by omega
              rw [e]; exact hq.out, hB.ext (by repeat (first | (with_reducible exact Ext.refl _) | (with_reducible assumption) | (with_reducible refine Ext.alloc ?_ _) | (with_reducible refine Ext.drewN ?_ _) | (with_reducible refine Ext.drew ?_) | (with_reducible refine Ext.setCell ?_ ?_ _; rotate_left; (simp only []; omega)) | (with_reducible refine Ext.trans ?_ (by assumption)))), (show Ext w wr from HX.out).trans (by repeat (first | (with_reducible exact Ext.refl _) | (with_reducible assumption) | (with_reducible refine Ext.alloc ?_ _) | (with_reducible refine Ext.drewN ?_ _) | (with_reducible refine Ext.drew ?_) | (with_reducible refine Ext.setCell ?_ ?_ _; rotate_left; (simp only []; omega)) | (with_reducible refine Ext.trans ?_ (by assumption))))⟩
          case measure => simp [intOf]; omega
      · have e : k = n := by omega
        have HX := Lib.hid hX
        clear hX
        subst e
        go_wp2
        go_ret
        refine ⟨ret_int (ix_none fun y hy => ?_).symm, HX.out⟩
        obtain ⟨j, hj, rfl⟩ := List.mem_iff_getElem.1 hy
        have h1 := HA.out j (by rw [← hlen.out]; exact hj)
        rw [nth_of (List.getElem?_eq_getElem hj)] at h1
        simpa using h1
theorem Contains_C (x : ConD) (a : Option Addr) (n c : Nat) (L : List ConD) (w : World) (hs : Sl encC 3 w a n c L) :
    Calls Try.prog 130 #[.slice a n c, .agg #[.int .i64 x.port, .int .i64 x.to_.addr, .int .i64 x.to_.port]] w fun e w' => e = .returned (.bool (L.any fun q => decide (q = x))) ∧ Ext w w' := by
  have H := Lib.hid (fun W hW => Index_C x a n c L W hW)
  rw [← ix_any]
  generalize ix (fun q => decide (q = x)) L = r at *
  go_enter Try.func130, Try.ntmps130
  go_wp2_with fail
  refine (H.out _ (by exact hs.ext (by repeat (first | (with_reducible exact Ext.refl _) | (with_reducible assumption) | (with_reducible refine Ext.alloc ?_ _) | (with_reducible refine Ext.drewN ?_ _) | (with_reducible refine Ext.drew ?_) | (with_reducible refine Ext.setCell ?_ ?_ _; rotate_left; (simp only []; omega)) | (with_reducible refine Ext.trans ?_ (by assumption)))))).mono ?_
  rintro e w1 ⟨rfl, hx⟩
  go_wp2
  go_ret
  exact ⟨rfl, (by repeat (first | (with_reducible exact Ext.refl _) | (with_reducible assumption) | (with_reducible refine Ext.alloc ?_ _) | (with_reducible refine Ext.drewN ?_ _) | (with_reducible refine Ext.drew ?_) | (with_reducible refine Ext.setCell ?_ ?_ _; rotate_left; (simp only []; omega)) | (with_reducible refine Ext.trans ?_ (by assumption))))⟩
theorem impl_Contact_valid (x : ConD) (w : World) : Calls Try.prog 129 #[.agg #[.int .i64 x.port, .int .i64 x.to_.addr, .int .i64 x.to_.port]] w fun r w' => r = .returned (.bool (okCon x)) ∧ Ext w w' := by
  unfold okCon
  go_enter Try.func129, Try.ntmps129
  go_wp2_with (first | (go_at_call 132; refine (impl_isOutside _ _).mono ?_; rintro e w' ⟨rfl, rfl⟩) | (go_at_call 118; refine (impl_End_valid' x.to_ _).mono ?_; rintro e w1 ⟨rfl, hx⟩; have hc := hx.cells; have hf := hx.frozens; have hy := hx.size; (try simp at hy); have hz : w.heap.size < w1.heap.size := (by omega)))
  all_goals (go_ret; exact ⟨ret_bool (by simp [*]), (by repeat (first | (with_reducible exact Ext.refl _) | (with_reducible assumption) | (with_reducible refine Ext.alloc ?_ _) | (with_reducible refine Ext.drewN ?_ _) | (with_reducible refine Ext.drew ?_) | (with_reducible refine Ext.setCell ?_ ?_ _; rotate_left; (simp only []; omega)) | (with_reducible refine Ext.trans ?_ (by assumption))))⟩)
theorem run_take_C (a : Option Addr) (n c m : Nat) (h : m ≤ c) (W : World) : (Instr.slice 26 (.slice a n c) none (some (.int .i64 m)) none).run Try.prog W = .ok (.slice a m c) W := by
  have h2 : (m : Int) ≤ (c : Int) := by omega
  have e : ∀ s : Nat, a.map (·.add (0 * s)) = a := by intro s; rw [Nat.zero_mul]; exact add_zero' a
  rw [run_slice_h (P := Try.prog) W 26 a n c (by kernel_rfl) .i64 (m : Int) (by omega) h2]
  go_simp
theorem okConAt_impl (L : List ConD) (k : Nat) : okConAt L k = (okCon (nth L k) && !((L.take k).any fun q => decide (q = nth L k))) := by
  unfold okConAt
  congr 1
  generalize L.take k = l
  induction l with
  | nil => rfl
  | cons y l ih => rw [List.all_cons, List.any_cons, ih]; simp
set_option maxHeartbeats 1000000 in
theorem impl_ValidContacts (a : Option Addr) (n c : Nat) (L : List ConD) (w : World) (hs : Sl encC 3 w a n c L) :
    Calls Try.prog 67 #[.slice a n c] w fun e w' => e = .returned (.bool (validContacts L)) ∧ Ext w w' := by
  have hle := hs.le
  have hmax := hs.max
  have hfin : validContacts L = (upTo (okConAt L) n && decide (n ≤ 10)) := by rw [← hs.len]; rfl
  rw [hfin]
  clear hfin
  rcases hs.cons with ⟨h0, hL⟩ | ⟨h0, b, off, ha, hb, hc⟩
  · subst h0
    subst hL
    clear hs
    go_enter Try.func67, Try.ntmps67
    go_wp2
    go_loop [3, 4, 7] (fun _ _ i => i = .int .i64 0) (fun _ _ _ => 0)
    case atStart => rfl
    case round =>
      subst hrel
      go_wp2
      go_ret
      exact ⟨rfl, Ext.refl _⟩
  · subst ha
    have HC2 := Lib.hid hc
    clear hc
    go_enter Try.func67, Try.ntmps67
    go_wp2
    go_loopw [3, 4, 7] (fun _ _ i wr => ∃ k : Nat, k ≤ n ∧ i = .int .i64 k ∧ (∀ j, j < k → okConAt L j = true) ∧ Ext w wr) (fun _ _ i _ => n - (intOf i).toNat)
    case atStart => exact ⟨0, Nat.zero_le _, rfl, by omega, Ext.refl _⟩
    case round =>
      obtain ⟨k, hk, rfl, hall, hX⟩ := hrel
      have HA := Lib.hid hall
      clear hall
      have hsk := hs.ext hX
      by_cases hlt : k < n
      · obtain ⟨d0, d1, d2⟩ := HC2.out k hlt
        rw [← hX.cells _ _ hb] at d0 d1 d2
        have hbr : b < wr.heap.size := by have := hX.size; omega
        have hok := Lib.hid (okConAt_impl L k)
        have hcut := hsk.cut (m := k) (by omega)
        have hsl := run_take_C (some ⟨b, off, none⟩) n c k (by omega)
        go_wp2_with fail
        refine wp_region_ext (by kernel_rfl) (by kernel_rfl) ?_
        repeat' (first
          | (refine ChL.skip (by rfl) ?_
             (try simp only [Act.put, List.setIfInBounds_toArray, List.set_cons_zero, List.set_cons_succ]))
          | (refine' ChL.val (v := _) (by rfl) ?_ ?_
             rotate_left
             · (intro wS hS
                have hcS := Ext.cells hS
                go_simp
                with_reducible rfl)
             (try simp only [Act.put, List.setIfInBounds_toArray, List.set_cons_zero, List.set_cons_succ]))
          | (refine' ChL.call (v := _) (f := _) (args := _) (by rfl) ?_ ?_ ?_
             rotate_left 3
             · (intro wS
                go_simp
                (constructor <;> rfl))
             · (intro wS hS
                first | (go_at_call 129; refine (impl_Contact_valid (nth L k) _).mono ?_; rintro e w1 ⟨rfl, hx⟩; refine ⟨?_, Ext.trans hS hx⟩; rfl) | (go_at_call 130; refine (Contains_C (nth L k) (some ⟨b, off, none⟩) k c (L.take k) _ (by exact (hcut.ext (show Ext wr _ from (by repeat (first | (with_reducible exact Ext.refl _) | (with_reducible assumption) | (with_reducible refine Ext.alloc ?_ _) | (with_reducible refine Ext.drewN ?_ _) | (with_reducible refine Ext.drew ?_) | (with_reducible refine Ext.setCell ?_ ?_ _; rotate_left; (simp only []; omega)) | (with_reducible refine Ext.trans ?_ (by assumption)))))).ext hS)).mono ?_; rintro e w1 ⟨rfl, hx⟩; refine ⟨?_, Ext.trans hS hx⟩; rfl))
             (try simp only [Act.put, List.setIfInBounds_toArray, List.set_cons_zero, List.set_cons_succ]))
          | (refine ChL.nil ?_)
          | (refine' ChL.guard (x := _) ?_ ?_ ?_
             rotate_left
             · (go_simp
                rfl)
             all_goals
               intro hg
               simp only [hg])
          | (refine' ChL.guardN (x := _) ?_ ?_ ?_
             rotate_left
             · (go_simp
                rfl)
             all_goals
               intro hg
               simp only [hg]))
        all_goals
          intro w' hw'
          have HX : Ext w w' := hX.trans (Ext.trans (show Ext wr _ from (by repeat (first | (with_reducible exact Ext.refl _) | (with_reducible assumption) | (with_reducible refine Ext.alloc ?_ _) | (with_reducible refine Ext.drewN ?_ _) | (with_reducible refine Ext.drew ?_) | (with_reducible refine Ext.setCell ?_ ?_ _; rotate_left; (simp only []; omega)) | (with_reducible refine Ext.trans ?_ (by assumption))))) hw')
          clear hX hw' hsk hcut hsl
          go_wp2
        all_goals first
          | (go_ret
             exact ⟨ret_bool (by rw [upTo_f hlt (by rw [hok.out]; simp [*])]; rfl), HX⟩)
          | (go_roundw
             case rel =>
               exact ⟨k + 1, hlt, by go_num, fun j hj => by
                 rcases Nat.lt_or_ge j k with h | h
                 · exact HA.out j h
                 · have e : j = k := by omega
                   rw [e, hok.out]; simp [*], HX⟩
             case measure => simp [intOf]; omega)
      · have e : k = n := by omega
        subst e
        clear hsk
        have HX := Lib.hid hX
        clear hX
        go_wp2
        go_ret
        exact ⟨ret_bool (by rw [upTo_iff.2 HA.out, Bool.eq_iff_iff]; simp; omega), HX.out⟩
end Go.Proofs.Ytppdcglnopoocaa
