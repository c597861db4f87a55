/- A region that draws its order, walked once: first whatever only reads, as soon as it may run, then the one call or write that is next: if reads give one fixed value in every later world, every order ends in the same frame and in the worlds of that one walk. No condition. -/
import Derived.Test.YtafmomocmodbhaaChain
namespace Go.Proofs.Ytafmomocmodbhaa

/-- Does the operation only compute or read? -/
def quietOp : Op → Bool
  | .move _ | .assign _ | .pick _ _ _ | .load _ _ | .nilCheck _ | .binOp _ _ _ _ _ | .unOp _ _ _ | .slice _ _ _ _ _ | .fieldAddr _ _ _ | .field _ _ _ | .indexAddr _ _ _ | .index _ _ _ | .extract _ _ | .build _ _ | .insert _ _ _ _ | .convert _ _ _ => true
  | .call c => match c.callee with
    | .builtin .len | .builtin .cap | .builtin .min | .builtin .max => true
    | _ => false
  | _ => false
/-- What one operation does, if it neither panics nor halts. -/
def OpStep (P : Program) (o : Oper) (ρ : Operand → Value) (w : World) (F : Value → World → Prop) : Prop :=
  match (execOp ρ o).run P w with
  | .ok (.value u) w' => F u w'
  | .ok .skip w' => F undef w'
  | .ok (.enter f args) w' => Calls P f args w' fun e w'' => ∃ v, e = .returned v ∧ F v w''
  | _ => False
theorem OpStep.mono {P : Program} {o : Oper} {ρ : Operand → Value} {w : World} {F G : Value → World → Prop} (h : OpStep P o ρ w F) (hm : ∀ v w', F v w' → G v w') : OpStep P o ρ w G := by
  unfold OpStep at *
  generalize (execOp ρ o).run P w = r at *
  cases r with
  | ok n w' =>
    cases n <;> simp only at h <;> simp only
    · exact hm _ _ h
    · exact hm _ _ h
    · exact Calls.mono h fun e w'' ⟨v, e1, e2⟩ => ⟨v, e1, hm _ _ e2⟩
  | halt x w' => simp only at h
theorem OpStep.val {P : Program} {o : Oper} {ρ : Operand → Value} {w w' : World} {v : Value} {F : Value → World → Prop} (h : (execOp ρ o).run P w = .ok (.value v) w') (hF : F v w') : OpStep P o ρ w F := by
  unfold OpStep; rw [h]; exact hF
theorem OpStep.skip {P : Program} {o : Oper} {ρ : Operand → Value} {w w' : World} {F : Value → World → Prop} (h : (execOp ρ o).run P w = .ok .skip w') (hF : F undef w') : OpStep P o ρ w F := by
  unfold OpStep; rw [h]; exact hF
theorem OpStep.call {P : Program} {o : Oper} {ρ : Operand → Value} {w : World} {f : FuncId} {args : Array Value} {F : Value → World → Prop} (h : (execOp ρ o).run P w = .ok (.enter f args) w)
    (hF : Calls P f args w fun e w'' => ∃ v, e = .returned v ∧ F v w'') : OpStep P o ρ w F := by
  unfold OpStep; rw [h]; exact hF

theorem pigeonN : ∀ (l : List Nat) (n : Nat), l.Pairwise (· ≠ ·) → (∀ x ∈ l, x < n) → l.length ≤ n
  | l, 0, _, h => by
    cases l with
    | nil => exact Nat.le_refl _
    | cons x l => have := h x (by simp); omega
  | l, n + 1, hp, h => by
    have ih := pigeonN (l.filter fun x => !decide (x = n)) n (hp.filter _) (fun x hx => by
      simp only [List.mem_filter, Bool.not_eq_true', decide_eq_false_iff_not] at hx
      have := h x hx.1
      omega)
    by_cases hm : n ∈ l
    · obtain ⟨s, t, rfl⟩ := List.append_of_mem hm
      rw [List.pairwise_append] at hp
      have h1 : (s.filter fun x => !decide (x = n)) = s := List.filter_eq_self.2 fun x hx => by
        have := hp.2.2 x hx _ (List.mem_cons_self)
        simpa using this
      have h2 : (t.filter fun x => !decide (x = n)) = t := List.filter_eq_self.2 fun x hx => by
        have := (List.pairwise_cons.1 hp.2.1).1 x hx
        simpa using fun e => this e.symm
      rw [List.filter_append, List.filter_cons, h1, h2] at ih
      simp at ih ⊢
      omega
    · have h1 : (l.filter fun x => !decide (x = n)) = l := List.filter_eq_self.2 fun x hx => by
        have : x ≠ n := fun e => hm (e ▸ hx)
        simpa using this
      rw [h1] at ih
      omega
section
variable {P : Program} {ops : Array Oper} {Q : Exit → Act → World → Prop} {R : World → World → Prop}
/-- A reading operation: one value in every later world, or not wanted. -/
def Qt (P : Program) (ops : Array Oper) (R : World → World → Prop) (o : Oper) (v : Value) (a : Act) (w : World) : Prop :=
  (Region.wanted o (yielded ops a.tmps) = true ∧ ∀ w', R w w' → (execOp a.eval o).run P w' = .ok (.value v) w') ∨ (Region.wanted o (yielded ops a.tmps) = false ∧ v = undef)
/-- The walk, in a given order of the operations' places. -/
def ChX (P : Program) (ops : Array Oper) (Q : Exit → Act → World → Prop) (R : World → World → Prop) : List Nat → Act → World → Prop
  | [], a, w => Q .normal a w
  | i :: r, a, w => ∃ o, ops[i]? = some o ∧
      ((quietOp o.op = true ∧ ∃ v, Qt P ops R o v a w ∧ ChX P ops Q R r (a.put o.dst v) w) ∨
       (quietOp o.op = false ∧ ((Region.wanted o (yielded ops a.tmps) = false ∧ ChX P ops Q R r (a.put o.dst undef) w) ∨
          (Region.wanted o (yielded ops a.tmps) = true ∧ OpStep P o a.eval w fun v w' => R w w' ∧ ChX P ops Q R r (a.put o.dst v) w'))))

theorem Qt.same {o : Oper} {v : Value} {a a' : Act} {w : World} (h : Qt P ops R o v a w) (he : execOp a'.eval o = execOp a.eval o)
    (hw : Region.wanted o (yielded ops a'.tmps) = Region.wanted o (yielded ops a.tmps)) : Qt P ops R o v a' w := by
  unfold Qt at *
  rw [he, hw]
  exact h
theorem Qt.later {o : Oper} {v : Value} {a : Act} {w w' : World} (ht : ∀ x y z, R x y → R y z → R x z) (h : Qt P ops R o v a w) (hw : R w w') : Qt P ops R o v a w' := by
  rcases h with ⟨h1, h2⟩ | h
  · exact .inl ⟨h1, fun w'' h' => h2 w'' (ht _ _ _ hw h')⟩
  · exact .inr h

/-- Is place i one whose operation only reads? -/
def quietAt (ops : Array Oper) (i : Nat) : Bool := ((ops[i]?).map fun o => quietOp o.op).getD false
def edgeTo (ops : Array Oper) (j i : Nat) : Bool := ((ops[j]?).map fun y => y.after.any fun e => Region.binds .any e && e.on == i).getD false
def apartAt (ops : Array Oper) (i j : Nat) : Bool :=
  match ops[i]?, ops[j]? with
  | some x, some y => x.apart ops y
  | _, _ => false
def reachN (ops : Array Oper) : Nat → Nat → Nat → Bool
  | 0, j, i => edgeTo ops j i
  | f + 1, j, i => edgeTo ops j i || ((ops[j]?).map fun y => y.after.any fun e => Region.binds .any e && reachN ops f e.on i).getD false
def pairE (ops : Array Oper) (i j : Nat) : Bool := i != j && !edgeTo ops i j && (edgeTo ops j i || apartAt ops i j) && (quietAt ops i || edgeTo ops j i || reachN ops ops.size j i)
def pairsE (ops : Array Oper) : List Nat → Bool
  | [] => true
  | i :: r => r.all (pairE ops i) && pairsE ops r
def permOk (n : Nat) (ord : List Nat) : Bool := (List.range n).all fun i => ord.contains i
def eagerOk (ops : Array Oper) (ord : List Nat) : Bool :=
  Region.noSelect ops && permOk ops.size ord && pairsE ops ord && ord.all fun i => ((ops[i]?).map fun y => y.after.all fun e => !Region.binds .any e || (e.on != i && decide (e.on < ops.size))).getD false
/-- The order: whatever only reads, as soon as all that it needs is done; else the first of the others. -/
def freeE (ops : Array Oper) (rem : List Nat) (j : Nat) : Bool := rem.all fun i => i == j || decide (j < i) || (!edgeTo ops j i && apartAt ops i j && !reachN ops ops.size j i)
def eagerGo (ops : Array Oper) : Nat → List Nat → List Nat
  | 0, rem => rem
  | f + 1, rem =>
    match rem.find? fun j => quietAt ops j && freeE ops rem j with
    | some j => j :: eagerGo ops f (rem.filter (· != j))
    | none => match rem with
      | [] => []
      | j :: r => j :: eagerGo ops f r
def eagerOrd (ops : Array Oper) : List Nat := eagerGo ops ops.size (List.range ops.size)

theorem pairsE_iff {ord : List Nat} : pairsE ops ord = true → ord.Pairwise fun i j => pairE ops i j = true := by
  induction ord with
  | nil => intro _; exact List.Pairwise.nil
  | cons i r ih =>
    intro h
    rw [pairsE, Bool.and_eq_true, List.all_eq_true] at h
    exact List.pairwise_cons.2 ⟨h.1, ih h.2⟩
theorem edgeTo_iff {j i : Nat} {y : Oper} (hy : ops[j]? = some y) (h : edgeTo ops j i = true) : ∃ e ∈ y.after, Region.binds .any e = true ∧ e.on = i := by
  unfold edgeTo at h
  rw [hy] at h
  simp only [Option.map_some, Option.getD_some] at h
  obtain ⟨e, he, hb⟩ := Array.any_eq_true'.1 h
  simp only [Bool.and_eq_true, beq_iff_eq] at hb
  exact ⟨e, he, hb.1, hb.2⟩
/-- All that one operation needs is done. -/
def Fed (ops : Array Oper) (listed : Array Bool) (j : Nat) : Prop := ∀ y, ops[j]? = some y → ∀ e ∈ y.after, Region.binds .any e = true → listed.getD e.on false = true
theorem reach_listed {listed : Array Bool} (hcl : ∀ j, listed.getD j false = true → Fed ops listed j) : ∀ (f j i : Nat), Fed ops listed j → reachN ops f j i = true → listed.getD i false = true
  | 0, j, i, hf, h => by
    rw [reachN] at h
    cases hy : ops[j]? with
    | none => unfold edgeTo at h; rw [hy] at h; simp at h
    | some y =>
      obtain ⟨e, he, hb, rfl⟩ := edgeTo_iff hy h
      exact hf y hy e he hb
  | f + 1, j, i, hf, h => by
    rw [reachN, Bool.or_eq_true] at h
    cases hy : ops[j]? with
    | none =>
      unfold edgeTo at h
      rw [hy] at h
      simp at h
    | some y =>
      rcases h with h | h
      · obtain ⟨e, he, hb, rfl⟩ := edgeTo_iff hy h
        exact hf y hy e he hb
      · rw [hy] at h
        simp only [Option.map_some, Option.getD_some] at h
        obtain ⟨e, he, hb⟩ := Array.any_eq_true'.1 h
        rw [Bool.and_eq_true] at hb
        exact reach_listed hcl f e.on i (hcl e.on (hf y hy e he hb.1)) hb.2

theorem ChX.takeQ (hsel : ∀ (j : Nat) (o : Oper) cs b, ops[j]? = some o → o.op ≠ .select cs b) {j : Nat} {oj : Oper} (hj : ops[j]? = some oj) (hqj : quietOp oj.op = true) {l2 : List Nat} :
    ∀ (l1 : List Nat) (a : Act) (w : World), (∀ i ∈ l1, ∀ x, ops[i]? = some x → quietOp x.op = true ∧ x.apart ops oj = true) → ChX P ops Q R (l1 ++ j :: l2) a w →
      ∃ v, Qt P ops R oj v a w ∧ ChX P ops Q R (l1 ++ l2) (a.put oj.dst v) w
  | [], a, w, _, h => by
    obtain ⟨o, ho, h⟩ := h
    rw [hj] at ho
    injection ho with ho
    subst ho
    rcases h with ⟨_, v, h1, h2⟩ | ⟨h0, _⟩
    · exact ⟨v, h1, h2⟩
    · rw [hqj] at h0; cases h0
  | i :: l1, a, w, hap, h => by
    obtain ⟨o, ho, h⟩ := h
    obtain ⟨q0, q1⟩ := hap i (by simp) o ho
    rcases h with ⟨_, v, hs, hc⟩ | ⟨h0, _⟩
    · obtain ⟨u, hu, hd⟩ := ChX.takeQ hsel hj hqj l1 (a.put o.dst v) w (fun x hx => hap x (by simp [hx])) hc
      obtain ⟨h1, h2, h3⟩ := Oper.apart_spec q1
      refine ⟨u, hu.same (execOp_put oj (fun cs b => hsel j oj cs b hj) a o.dst v h1).symm (wanted_put oj a o.dst v h1).symm, o, ho, .inl ⟨q0, v,
        hs.same (execOp_put o (fun cs b => hsel i o cs b ho) a oj.dst u h3) (wanted_put o a oj.dst u h3), ?_⟩⟩
      rw [← Act.put_comm a v u h2]
      exact hd
    · rw [q0] at h0; cases h0

theorem ChX.takeN (ht : ∀ x y z, R x y → R y z → R x z) (hsel : ∀ (j : Nat) (o : Oper) cs b, ops[j]? = some o → o.op ≠ .select cs b) {j : Nat} {oj : Oper} (hj : ops[j]? = some oj) (hqj : quietOp oj.op = false) {l2 : List Nat} :
    ∀ (l1 : List Nat) (a : Act) (w : World), (∀ i ∈ l1, ∀ x, ops[i]? = some x → quietOp x.op = true ∧ x.apart ops oj = true) → ChX P ops Q R (l1 ++ j :: l2) a w →
      (Region.wanted oj (yielded ops a.tmps) = false ∧ ChX P ops Q R (l1 ++ l2) (a.put oj.dst undef) w) ∨
      (Region.wanted oj (yielded ops a.tmps) = true ∧ OpStep P oj a.eval w fun v w' => R w w' ∧ ChX P ops Q R (l1 ++ l2) (a.put oj.dst v) w')
  | [], a, w, _, h => by
    obtain ⟨o, ho, h⟩ := h
    rw [hj] at ho
    injection ho with ho
    subst ho
    rcases h with ⟨h0, _⟩ | ⟨_, h⟩
    · rw [hqj] at h0; cases h0
    · exact h
  | i :: l1, a, w, hap, h => by
    obtain ⟨o, ho, h⟩ := h
    obtain ⟨q0, q1⟩ := hap i (by simp) o ho
    rcases h with ⟨_, v, hs, hc⟩ | ⟨h0, _⟩
    · obtain ⟨h1, h2, h3⟩ := Oper.apart_spec q1
      have hw := wanted_put (ops := ops) oj a o.dst v h1
      have he := execOp_put (ops := ops) oj (fun cs b => hsel j oj cs b hj) a o.dst v h1
      rcases ChX.takeN ht hsel hj hqj l1 (a.put o.dst v) w (fun x hx => hap x (by simp [hx])) hc with ⟨g1, g2⟩ | ⟨g1, g2⟩
      · refine .inl ⟨hw ▸ g1, o, ho, .inl ⟨q0, v, hs.same (execOp_put o (fun cs b => hsel i o cs b ho) a oj.dst undef h3) (wanted_put o a oj.dst undef h3), ?_⟩⟩
        rw [← Act.put_comm a v undef h2]
        exact g2
      · refine .inr ⟨hw ▸ g1, ?_⟩
        unfold OpStep at g2 ⊢
        rw [he] at g2
        refine OpStep.mono (o := oj) (ρ := a.eval) g2 fun u w' ⟨r1, r2⟩ => ⟨r1, o, ho, .inl ⟨q0, v, (hs.later ht r1).same (execOp_put o (fun cs b => hsel i o cs b ho) a oj.dst u h3) (wanted_put o a oj.dst u h3), ?_⟩⟩
        rw [← Act.put_comm a v u h2]
        exact r2
    · rw [q0] at h0; cases h0

theorem OpStep.wp {o : Oper} {a : Act} {w : World} {K : Act → World → Prop} {i : Nat} (hi : ops[i]? = some o) (hw : Region.wanted o (yielded ops a.tmps) = true)
    (h : OpStep P o a.eval w fun v w' => K (a.put o.dst v) w') : wpOp P ops Q i K a w := by
  unfold Go.wpOp
  simp only [hi, hw, if_true]
  refine .inl ?_
  unfold OpStep at h
  unfold Oper.wp
  generalize (execOp a.eval o).run P w = r at *
  cases r with
  | ok n w' =>
    cases n <;> simp only at h <;> simp only [Oper.upon]
    · exact h
    · exact h
    · refine Calls.mono h fun e w'' he => ?_
      obtain ⟨v, rfl, hs⟩ := he
      exact hs
  | halt x w' => simp only at h

theorem ChX.any (hr : ∀ x, R x x) (ht : ∀ x y z, R x y → R y z → R x z) {ord : List Nat} (hok : eagerOk ops ord = true) : ∀ (fuel : Nat) (listed : Array Bool) (a : Act) (l : List Nat), l.length ≤ fuel → l.Sublist ord →
    (∀ i, i ∈ l ↔ (i < ops.size ∧ listed.getD i true = false)) → (∀ i, i < ops.size → listed.getD i true = listed.getD i false) → (∀ j, listed.getD j false = true → Fed ops listed j) →
    ∀ w, ChX P ops Q R l a w → wpAny P .any ops Q fuel listed a w := by
  simp only [eagerOk, Bool.and_eq_true, List.all_eq_true] at hok
  obtain ⟨⟨⟨hns, hperm⟩, hpairs⟩, hback⟩ := hok
  have hP := pairsE_iff hpairs
  have hmem : ∀ (listed : Array Bool) (l : List Nat), (∀ i, i ∈ l ↔ (i < ops.size ∧ listed.getD i true = false)) → ∀ j, j ∈ Region.ready .any ops listed → j ∈ l := by
    intro listed l hl j hj
    obtain ⟨h0, o, ho, _⟩ := mem_ready.1 hj
    exact (hl j).2 ⟨(Array.getElem?_eq_some_iff.1 ho).1, h0⟩
  intro fuel
  induction fuel with
  | zero =>
    intro listed a l hlen _ hl _ _ w hc
    have hnil : l = [] := List.eq_nil_of_length_eq_zero (by omega)
    subst hnil
    refine ⟨?_, hc⟩
    cases hr : Region.ready .any ops listed with
    | nil => rfl
    | cons x xs => exact absurd (hmem listed [] hl x (by rw [hr]; simp)) (by simp)
  | succ fuel ih =>
    intro listed a l hlen hsub hl hsz hcl w hc
    have hlP := hP.sublist hsub
    refine ⟨fun hrd => ?_, fun j hj => ?_⟩
    · cases l with
      | nil => exact hc
      | cons i r =>
        exfalso
        obtain ⟨hi, hun⟩ := (hl i).1 (by simp)
        have hfirst := (List.pairwise_cons.1 hlP).1
        have : i ∈ Region.ready .any ops listed := by
          rw [mem_ready]
          refine ⟨hun, ops[i], Array.getElem?_eq_getElem hi, fun e he hb => ?_⟩
          have hb1 := hback i (hsub.subset (by simp))
          rw [Array.getElem?_eq_getElem hi] at hb1
          simp only [Option.map_some, Option.getD_some] at hb1
          have hb2 := Array.all_eq_true_iff_forall_mem.1 hb1 e he
          simp only [hb, Bool.not_true, Bool.false_or, Bool.and_eq_true, bne_iff_ne, decide_eq_true_eq] at hb2
          apply Classical.byContradiction
          intro hnl
          have hm : e.on ∈ i :: r := (hl e.on).2 ⟨hb2.2, by rw [hsz _ hb2.2]; simpa using hnl⟩
          rcases List.mem_cons.1 hm with hm | hm
          · exact hb2.1 hm
          · have hp := hfirst _ hm
            have hedge : edgeTo ops i e.on = true := by
              unfold edgeTo
              rw [Array.getElem?_eq_getElem hi]
              simp only [Option.map_some, Option.getD_some]
              exact Array.any_eq_true'.2 ⟨e, he, by simp [hb]⟩
            simp [pairE, hedge] at hp
        rw [hrd] at this
        cases this
    · have hjl := hmem listed l hl j hj
      obtain ⟨hjun, oj, hoj, hall⟩ := mem_ready.1 hj
      have hjlt : j < ops.size := (Array.getElem?_eq_some_iff.1 hoj).1
      have hfed : Fed ops listed j := fun y hy e he hb => by
        rw [hoj] at hy; injection hy with hy; subst hy; exact hall e he hb
      obtain ⟨l1, l2, rfl⟩ := List.append_of_mem hjl
      have hap : ∀ i ∈ l1, ∀ x, ops[i]? = some x → quietOp x.op = true ∧ x.apart ops oj = true := by
        intro i hi x hx
        have hp : pairE ops i j = true := (List.pairwise_append.1 hlP).2.2 i hi j (by simp)
        have hiun := (hl i).1 (by simp [hi])
        have hif : listed.getD i false = false := by rw [← hsz i hiun.1]; exact hiun.2
        have hne : edgeTo ops j i = false := by
          cases h : edgeTo ops j i with
          | false => rfl
          | true =>
            obtain ⟨e, he, hb, rfl⟩ := edgeTo_iff hoj h
            rw [hfed oj hoj e he hb] at hif
            cases hif
        have hnr : reachN ops ops.size j i = false := by
          cases h : reachN ops ops.size j i with
          | false => rfl
          | true => rw [reach_listed hcl _ _ _ hfed h] at hif; cases hif
        simp only [pairE, hne, hnr, Bool.or_false, Bool.false_or, Bool.and_eq_true] at hp
        obtain ⟨⟨_, h2⟩, h3⟩ := hp
        refine ⟨?_, ?_⟩
        · simpa [quietAt, hx] using h3
        · simpa [apartAt, hx, hoj] using h2
      have hnd : j ∉ l1 ++ l2 := by
        intro hm
        have hpa := List.pairwise_append.1 hlP
        rcases List.mem_append.1 hm with hm | hm
        · have := hpa.2.2 j hm j (by simp)
          simp [pairE] at this
        · have := (List.pairwise_cons.1 hpa.2.1).1 j hm
          simp [pairE] at this
      have hmono : ∀ x, listed.getD x false = true → (listed.setIfInBounds j true).getD x false = true := by
        intro x hx
        by_cases hij : j = x
        · subst hij
          rw [Array.getD_eq_getD_getElem?, Array.getElem?_setIfInBounds]
          rw [Array.getD_eq_getD_getElem?] at hx
          cases hz : listed[j]? with
          | none => rw [hz] at hx; simp at hx
          | some b => simp [(Array.getElem?_eq_some_iff.1 hz).1]
        · rw [getD_set_ne false hij]; exact hx
      have next : ∀ (a' : Act) (w' : World), ChX P ops Q R (l1 ++ l2) a' w' → wpAny P .any ops Q fuel (listed.setIfInBounds j true) a' w' := by
        intro a' w' hrest
        refine ih (listed.setIfInBounds j true) _ (l1 ++ l2) ?_ ?_ ?_ ?_ ?_ w' hrest
        · simp only [List.length_append, List.length_cons] at hlen ⊢; omega
        · exact ((List.Sublist.refl l1).append (List.sublist_cons_self j l2)).trans hsub
        · intro i
          by_cases hij : j = i
          · subst hij
            constructor
            · intro h; exact absurd h hnd
            · rintro ⟨hlt, h⟩
              rw [Array.getD_eq_getD_getElem?, Array.getElem?_setIfInBounds] at h
              rcases Nat.lt_or_ge j listed.size with hz | hz
              · simp [hz] at h
              · simp [Array.getElem?_eq_none hz] at hjun
          · rw [getD_set_ne true hij, ← hl i]
            simp only [List.mem_append, List.mem_cons]
            constructor
            · rintro (h | h)
              · exact .inl h
              · exact .inr (.inr h)
            · rintro (h | h | h)
              · exact .inl h
              · exact absurd h.symm hij
              · exact .inr h
        · intro i hi
          by_cases hij : j = i
          · subst hij
            rw [Array.getD_eq_getD_getElem?, Array.getD_eq_getD_getElem?, Array.getElem?_setIfInBounds]
            rcases Nat.lt_or_ge j listed.size with hz | hz
            · simp [hz]
            · simp [Array.getElem?_eq_none hz] at hjun
          · rw [getD_set_ne true hij, getD_set_ne false hij]
            exact hsz i hi
        · intro k hk y hy e he hb
          by_cases hij : j = k
          · subst hij
            exact hmono _ (hfed y hy e he hb)
          · rw [getD_set_ne false hij] at hk
            exact hmono _ (hcl k hk y hy e he hb)
      cases hq : quietOp oj.op with
      | true =>
        obtain ⟨v, hv, hrest⟩ := ChX.takeQ (Region.noSelect_spec hns) hoj hq l1 a w hap hc
        rcases hv with ⟨hw, hv⟩ | ⟨hw, rfl⟩
        · exact OpStep.wp hoj hw (OpStep.val (hv w (hr w)) (next _ _ hrest))
        · unfold Go.wpOp
          simp only [hoj, hw, Bool.false_eq_true, if_false]
          exact next _ _ hrest
      | false =>
        rcases ChX.takeN ht (Region.noSelect_spec hns) hoj hq l1 a w hap hc with ⟨hw, hrest⟩ | ⟨hw, hrest⟩
        · unfold Go.wpOp
          simp only [hoj, hw, Bool.false_eq_true, if_false]
          exact next _ _ hrest
        · exact OpStep.wp hoj hw (hrest.mono fun v w' h => next _ _ h.2)

/-- THE LAW. -/
theorem wp_region_eager {id : Nat} {l : List Oper} {a : Act} {w : World} (ord : List Nat) (hm : P.follows .mixedOrders = true) (hok : eagerOk l.toArray ord = true) (hr : ∀ x, R x x) (ht : ∀ x y z, R x y → R y z → R x z)
    (h : ChX P l.toArray Q R ord a w.drew) : (Code.region id l.toArray true).wp P Q a w := by
  have hok' := hok
  simp only [eagerOk, Bool.and_eq_true, permOk, List.all_eq_true, List.contains_iff_mem, List.mem_range] at hok'
  have hord : ∀ x ∈ ord, x < l.toArray.size := by
    intro x hx
    have := hok'.2 x hx
    cases hy : (l.toArray)[x]? with
    | none => rw [hy] at this; simp at this
    | some y => exact (Array.getElem?_eq_some_iff.1 hy).1
  have hnd : ord.Pairwise (· ≠ ·) := (pairsE_iff hok'.1.2).imp fun {i j} hp e => by
    subst e
    simp [pairE] at hp
  refine wp_region_any hm (ChX.any (ops := l.toArray) hr ht hok _ _ a ord ?_ (List.Sublist.refl _) ?_ ?_ ?_ _ h)
  · have h1 := pigeonN ord l.toArray.size hnd hord
    simpa using h1
  · intro i
    simp only [Array.getD_eq_getD_getElem?, Array.getElem?_replicate]
    constructor
    · intro h
      have h' := hord i h
      exact ⟨h', by simp at h'; simp [h']⟩
    · intro h
      exact hok'.1.1.2 i h.1
  · intro i hi
    have h' : i < l.length := by simpa using hi
    simp [h']
  · intro j hj
    exfalso
    rw [Array.getD_eq_getD_getElem?, Array.getElem?_replicate] at hj
    split at hj <;> simp at hj
theorem arr_at {l : List Oper} {i : Nat} {o : Oper} (h : l[i]? = some o) : (l.toArray)[i]? = some o := by simpa using h
variable {l : List Oper}
/-- An operation whose guard says no. -/
theorem ChX.skip {i : Nat} {r : List Nat} {o : Oper} {a : Act} {w : World} (ho : l[i]? = some o) (hw : Region.wanted o (yielded l.toArray a.tmps) = false) (h : ChX P l.toArray Q R r (a.put o.dst undef) w) : ChX P l.toArray Q R (i :: r) a w := by
  refine ⟨o, arr_at ho, ?_⟩
  cases hq : quietOp o.op with
  | true => exact .inl ⟨rfl, undef, .inr ⟨hw, rfl⟩, h⟩
  | false => exact .inr ⟨rfl, .inl ⟨hw, h⟩⟩
/-- An operation that only reads. -/
theorem ChX.quiet {i : Nat} {r : List Nat} {o : Oper} {a : Act} {w : World} {v : Value} (ho : l[i]? = some o) (hq : quietOp o.op = true) (hw : Region.wanted o (yielded l.toArray a.tmps) = true)
    (hv : ∀ w', R w w' → (execOp a.eval o).run P w' = .ok (.value v) w') (h : ChX P l.toArray Q R r (a.put o.dst v) w) : ChX P l.toArray Q R (i :: r) a w :=
  ⟨o, arr_at ho, .inl ⟨hq, v, .inl ⟨hw, hv⟩, h⟩⟩
/-- A call. -/
theorem ChX.call {i : Nat} {r : List Nat} {o : Oper} {a : Act} {w : World} {f : FuncId} {args : Array Value} (ho : l[i]? = some o) (hq : quietOp o.op = false) (hw : Region.wanted o (yielded l.toArray a.tmps) = true)
    (he : (execOp a.eval o).run P w = .ok (.enter f args) w) (hc : Calls P f args w fun e w'' => ∃ v, e = .returned v ∧ R w w'' ∧ ChX P l.toArray Q R r (a.put o.dst v) w'') : ChX P l.toArray Q R (i :: r) a w :=
  ⟨o, arr_at ho, .inr ⟨hq, .inr ⟨hw, .call he hc⟩⟩⟩
/-- An operation that makes or writes memory. -/
theorem ChX.eff {i : Nat} {r : List Nat} {o : Oper} {a : Act} {w w' : World} {v : Value} (ho : l[i]? = some o) (hq : quietOp o.op = false) (hw : Region.wanted o (yielded l.toArray a.tmps) = true)
    (he : (execOp a.eval o).run P w = .ok (.value v) w') (hR : R w w') (h : ChX P l.toArray Q R r (a.put o.dst v) w') : ChX P l.toArray Q R (i :: r) a w :=
  ⟨o, arr_at ho, .inr ⟨hq, .inr ⟨hw, .val he ⟨hR, h⟩⟩⟩⟩
theorem ChX.effs {i : Nat} {r : List Nat} {o : Oper} {a : Act} {w w' : World} (ho : l[i]? = some o) (hq : quietOp o.op = false) (hw : Region.wanted o (yielded l.toArray a.tmps) = true)
    (he : (execOp a.eval o).run P w = .ok .skip w') (hR : R w w') (h : ChX P l.toArray Q R r (a.put o.dst undef) w') : ChX P l.toArray Q R (i :: r) a w :=
  ⟨o, arr_at ho, .inr ⟨hq, .inr ⟨hw, .skip he ⟨hR, h⟩⟩⟩⟩
/-- An operation whose step is given. -/
theorem ChX.step {i : Nat} {r : List Nat} {o : Oper} {a : Act} {w : World} (ho : l[i]? = some o) (hq : quietOp o.op = false) (hw : Region.wanted o (yielded l.toArray a.tmps) = true)
    (h : OpStep P o a.eval w fun v w' => R w w' ∧ ChX P l.toArray Q R r (a.put o.dst v) w') : ChX P l.toArray Q R (i :: r) a w :=
  ⟨o, arr_at ho, .inr ⟨hq, .inr ⟨hw, h⟩⟩⟩
/-- A guard that is not decided: both ways. -/
theorem ChX.guard {i : Nat} {r : List Nat} {o : Oper} {a : Act} {w : World} {x : Bool} (_ho : l[i]? = some o) (_hw : Region.wanted o (yielded l.toArray a.tmps) = x) (ht : x = true → ChX P l.toArray Q R (i :: r) a w)
    (hf : x = false → ChX P l.toArray Q R (i :: r) a w) : ChX P l.toArray Q R (i :: r) a w := by
  cases x
  · exact hf rfl
  · exact ht rfl
theorem ChX.guardN {i : Nat} {r : List Nat} {o : Oper} {a : Act} {w : World} {x : Bool} (_ho : l[i]? = some o) (_hw : Region.wanted o (yielded l.toArray a.tmps) = !x) (ht : x = true → ChX P l.toArray Q R (i :: r) a w)
    (hf : x = false → ChX P l.toArray Q R (i :: r) a w) : ChX P l.toArray Q R (i :: r) a w := by
  cases x
  · exact hf rfl
  · exact ht rfl
theorem ChL.guardN {S : World → Prop} {o : Oper} {r : List Oper} {a : Act} {x : Bool} (_hw : Region.wanted o (yielded ops a.tmps) = !x) (ht : x = true → ChL P ops Q S (o :: r) a) (hf : x = false → ChL P ops Q S (o :: r) a) :
    ChL P ops Q S (o :: r) a := by
  cases x
  · exact hf rfl
  · exact ht rfl
theorem ChX.nil {a : Act} {w : World} (h : Q .normal a w) : ChX P l.toArray Q R [] a w := h
end
end Go.Proofs.Ytafmomocmodbhaa
