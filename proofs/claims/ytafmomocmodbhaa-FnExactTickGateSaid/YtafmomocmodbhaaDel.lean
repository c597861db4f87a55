/- Contracts: slices.DeleteFunc on own rows of mappings and contacts, whatever predicate. -/
import Derived.Test.YtafmomocmodbhaaRow
import Derived.Test.YtafmomocmodbhaaCon
import Derived.Test.YtafmomocmodbhaaExact
import Derived.Lib.SliceRun
namespace Go.Proofs.Ytafmomocmodbhaa
open Go.RowKit Go.Shelf

theorem filt_le {α : Type} (p : α → Bool) (L : List α) (k : Nat) : ((L.take k).filter p).length ≤ k :=
  Nat.le_trans (List.length_filter_le _ _) (by simp; omega)
/-- Cells written into a row from a place on. -/
theorem Blk.sets {T : TypeId} {g : Nat} : ∀ (vs : List Value) (o : Nat) (w : World) (cur : Array Value), Blk w g T cur → ∃ cur', Blk (w.setCells g o vs) g T cur' ∧ cur'.size = cur.size ∧ (∀ j, j < o → cur'[j]? = cur[j]?) ∧ RExt g w (w.setCells g o vs)
  | [], _, w, cur, h => ⟨cur, h, rfl, fun _ _ => rfl, RExt.refl g w⟩
  | v :: r, o, w, cur, h => by
    obtain ⟨cur', h1, h2, h3, h4⟩ := Blk.sets r (o + 1) _ _ (h.set o v)
    refine ⟨cur', h1, by simpa using h2, fun j hj => (h3 j (by omega)).trans ?_, ?_⟩
    · rw [Array.getElem?_setIfInBounds_ne (by omega)]
    · exact (RExt.setCell (RExt.refl g w) (.inl rfl) v).trans h4
theorem run_clear_blk {P : Program} {t E : TypeId} {k bytes : Nat} {T : TypeId} (hE : EI P t E k bytes) (h1 : ∀ z i, P.info? E = some i → i.zero = some z → ∀ u ∈ z.cells.toList, u.oneCell' = true) (w : World) (g o n c : Nat) (cur : Array Value) (hB : Blk w g T cur) (hfit : o + n * k ≤ cur.size) (hn : 0 < n) :
    ∃ W' cur', (∀ ty, (Builtin.clear_ #[t] ty #[.slice (some ⟨g, o, none⟩) n c]).run P w = .ok (.tuple #[]) W') ∧ Blk W' g T cur' ∧ cur'.size = cur.size ∧ (∀ j, j < o → cur'[j]? = cur[j]?) ∧ RExt g w W' := by
  obtain ⟨ht, i, z, hi, hz, hsz, hbs, hzs, hk0⟩ := hE
  obtain ⟨cur', h2, h3, h4, h5⟩ := Blk.sets (Builtin.zeroCells z.cells n).toList o w cur hB
  refine ⟨_, cur', fun ty => ?_, h2, h3, h4, h5⟩
  have hlen : (Builtin.zeroCells z.cells n).toList.length = n * k := by simp [Builtin.zeroCells, hzs]
  have hst := run_storeCells_cells (P := P) g o (Builtin.zeroCells z.cells n).toList 0 w
    (fun j hj => by
      rw [hlen] at hj
      rw [Nat.add_zero, hB.cells, Array.getElem?_eq_getElem (by omega)]; rfl)
    (fun j _ => hB.frozens _)
    (fun v hv => by
      simp only [Builtin.zeroCells, Array.toList_map, List.mem_map] at hv
      obtain ⟨q, hq, rfl⟩ := hv
      have hlt : q % z.cells.size < z.cells.size := Nat.mod_lt _ (by omega)
      rw [getElem!_pos z.cells _ hlt]
      exact h1 z i hi hz _ (by simp))
  simp only [Nat.add_zero] at hst
  obtain ⟨m, rfl⟩ : ∃ m, n = m + 1 := ⟨n - 1, by omega⟩
  simp [Builtin.clear_, run_underlying ht, zeroValue, typeInfo, hi, hz, hst]
theorem zero1 {P : Program} {E : TypeId} {zz : Value} (he : (P.info? E).map (fun i => i.zero) = some (some zz)) (h : ∀ u ∈ zz.cells.toList, u.oneCell' = true) : ∀ z i, P.info? E = some i → i.zero = some z → ∀ u ∈ z.cells.toList, u.oneCell' = true := by
  intro z i hi hz
  rw [hi] at he
  simp only [Option.map_some, Option.some.injEq] at he
  rw [hz] at he
  injection he with he
  subst he
  exact h
theorem zero1_C : ∀ z i, Try.prog.info? 115 = some i → i.zero = some z → ∀ u ∈ z.cells.toList, u.oneCell' = true :=
  zero1 (zz := .agg #[.int .i64 0, .int .i64 0, .int .i64 0]) (by kernel_rfl) (by intro u hu; simp [Value.cells] at hu; subst hu; rfl)
theorem zero1_M : ∀ z i, Try.prog.info? 102 = some i → i.zero = some z → ∀ u ∈ z.cells.toList, u.oneCell' = true :=
  zero1 (zz := .agg #[.int .i64 0, .int .i64 0, .int .i64 0, .int .i64 0]) (by kernel_rfl) (by intro u hu; simp [Value.cells] at hu; subst hu; rfl)
theorem run_drop_C (g n c m : Nat) (h : m < n) (hc : n ≤ c) (W : World) : (Instr.slice 38 (.slice (some ⟨g, 0, none⟩) n c) (some (.int .i64 m)) none none).run Try.prog W = .ok (.slice (some ⟨g, m * 3, none⟩) (n - m) (c - m)) W := by
  rw [run_slice_l (P := Try.prog) W 38 (some ⟨g, 0, none⟩) n c (by kernel_rfl) .i64 (m : Int) (by omega) (by omega)]
  have hcm : ¬ c = m := by omega
  go_simp
theorem run_drop_M (g n c m : Nat) (h : m < n) (hc : n ≤ c) (W : World) : (Instr.slice 37 (.slice (some ⟨g, 0, none⟩) n c) (some (.int .i64 m)) none none).run Try.prog W = .ok (.slice (some ⟨g, m * 4, none⟩) (n - m) (c - m)) W := by
  rw [run_slice_l (P := Try.prog) W 37 (some ⟨g, 0, none⟩) n c (by kernel_rfl) .i64 (m : Int) (by omega) (by omega)]
  have hcm : ¬ c = m := by omega
  go_simp
theorem put_three {cur : Array Value} {i : Nat} {K : List ConD} {x : ConD} (hlt : i * 3 + 2 < cur.size) (h2 : cur.toList.take (i * 3) = K.flatMap encC) :
    (((cur.setIfInBounds (i * 3) (.int .i64 x.port)).setIfInBounds (i * 3 + 1) (.int .i64 x.to_.addr)).setIfInBounds (i * 3 + 2) (.int .i64 x.to_.port)).toList.take ((i + 1) * 3) = (K ++ [x]).flatMap encC := by
  rw [show (i + 1) * 3 = i * 3 + 2 + 1 by omega]
  simp only [Array.toList_setIfInBounds]
  rw [set_take (by simp; omega), set_take (by simp; omega), set_take (by simp; omega), h2]
  simp [encC]
set_option maxHeartbeats 2000000 in
theorem DeleteFunc_C (g0 : FuncId) (lb : Array Value) (eg : ∀ args w, (callFunc g0 args).run Try.prog w = .ok (.enter g0 args) w) (p : ConD → Bool) (a : Option Addr) (n c base : Nat) (L : List ConD) (w : World) (ho : Ow 115 encC 3 base w a n c L) (hn : n ≤ 1000)
    (hcall : ∀ x, x ∈ L → ∀ W, w.grownBy W (a.map (·.block)) → Calls Try.prog g0 (#[.agg #[.int .i64 x.port, .int .i64 x.to_.addr, .int .i64 x.to_.port]] ++ lb) W fun e w' => e = .returned (.bool (p x)) ∧ Ext W w') :
    Calls Try.prog 121 #[.slice a n c, .func (.func g0) #[] lb] w fun e w' => ∃ m, e = .returned (.slice a m c) ∧ Ow 115 encC 3 base w' a m c (L.filter fun x => !p x) ∧ m ≤ n ∧ w.grownBy w' (a.map (·.block)) := by
  have hs := ho.sl encC_len
  have hIF := Lib.hid (IndexFunc_C g0 lb eg p a n c L w hs (fun x hx W hW => hcall x hx W (by
    obtain ⟨h1, h2, h3, h4, h5⟩ := hW
    exact ⟨h1, h2, h3, h4, fun i hi _ => h5 i hi (by simp)⟩)))
  rcases ix_cases p L with ⟨e1, hall⟩ | ⟨k0, x0, e1, hx0, ht0, hall⟩
  · rw [e1] at hIF
    have hf : L.filter (fun x => !p x) = L := List.filter_eq_self.2 fun x hx => by simp [hall x hx]
    rw [hf]
    have HO := Lib.hid ho
    clear ho hs hcall hall
    go_enter Try.func121, Try.ntmps121
    go_wp2_with fail
    refine (hIF.out).mono ?_
    rintro e w1 ⟨rfl, hx⟩
    go_wp2
    go_ret
    exact ⟨n, rfl, HO.out.ext hx, Nat.le_refl _, ⟨World.grownBy.os hx, World.grownBy.tape hx, World.grownBy.output hx, hx.size, fun i hi _ => hx.block i hi⟩⟩
  · obtain ⟨hl, ⟨rfl, h0, rfl⟩ | ⟨g, cur, rfl, hb, hg, hnc, hcm, hcs, ht⟩⟩ := ho
    · have := (List.getElem?_eq_some_iff.1 hx0).1
      omega
    have hk0 : k0 < n := by have := (List.getElem?_eq_some_iff.1 hx0).1; omega
    rw [e1] at hIF
    have hK0 : (L.take k0).filter (fun x => !p x) = L.take k0 := List.filter_eq_self.2 fun x hx => by simp [hall x hx]
    have hK1 : (L.take (k0 + 1)).filter (fun x => !p x) = L.take k0 := by rw [filt_drop (by omega) (by rw [nth_of hx0]; simp [ht0]), hK0]
    have hcs0 : ∀ j, j < n → cur[j * 3]? = some (.int .i64 (nth L j).port) ∧ cur[j * 3 + 1]? = some (.int .i64 (nth L j).to_.addr) ∧ cur[j * 3 + 2]? = some (.int .i64 (nth L j).to_.port) := by
      intro j hj
      have key : ∀ q u, (encC (nth L j))[q]? = some u → cur[j * 3 + q]? = some u := by
        intro q u hu
        have hq : q < 3 := by have := (List.getElem?_eq_some_iff.1 hu).1; simpa [encC] using this
        have h1 := flat_at encC_len L j _ (nth_some (by omega)) q u hu
        rw [← ht, List.getElem?_take, if_pos (by omega)] at h1
        simpa using h1
      exact ⟨key 0 _ rfl, key 1 _ rfl, key 2 _ rfl⟩
    have hfin0 : cur.toList.take (k0 * 3) = (L.take k0).flatMap encC := by
      have e : (L.take k0).flatMap encC = (L.flatMap encC).take (k0 * 3) := by
        have h1 : L.flatMap encC = (L.take k0).flatMap encC ++ (L.drop k0).flatMap encC := by rw [← List.flatMap_append, List.take_append_drop]
        rw [h1, List.take_left' (by rw [flat_len encC_len, List.length_take]; congr 1; omega)]
      rw [e, ← ht, List.take_take]
      congr 1
      omega
    have HC := Lib.hid hcall
    have HS := Lib.hid hcs0
    have HK := Lib.hid (show (L.take k0).length = k0 by rw [List.length_take]; omega)
    have HF := Lib.hid (And.intro hK1 hfin0)
    have HM := Lib.hid (show ∀ j, j < n → nth L j ∈ L from fun j hj => nth_mem (by omega))
    have HL := Lib.hid hl
    have HB := Lib.hid (show Blk w g 115 cur from hg)
    have hle := hs.le
    clear hs hcall hcs0 hx0 ht0 hall hK0 hK1 hfin0 hl ht hg e1
    go_enter Try.func121, Try.ntmps121
    go_wp2_with fail
    refine (hIF.out).mono ?_
    rintro e w1 ⟨rfl, hx1⟩
    have hne1 : ((k0 : Int) == -1) = false := beq_eq_false_iff_ne.2 (by omega)
    have X1 := RExt.of_ext hx1 g
    have B1 := (HB.out).ext hx1
    clear hx1
    go_wp2
    go_loopw [5, 6, 7] (fun v5 v6 _ wr => ∃ (i j : Nat) (ck : Array Value) (K : List ConD), v5 = .int .i64 i ∧ v6 = .int .i64 j ∧ i < j ∧ j ≤ n ∧ K.length = i ∧ K = (L.take j).filter (fun x => !p x) ∧ Blk wr g 115 ck ∧ ck.size = cur.size ∧ ck.toList.take (i * 3) = K.flatMap encC ∧ (∀ q, j * 3 ≤ q → ck[q]? = cur[q]?) ∧ RExt g w wr) (fun _ v6 _ _ => n - (intOf v6).toNat)
    case atStart => exact ⟨k0, k0 + 1, cur, L.take k0, rfl, by go_num, by omega, by omega, HK.out, HF.out.1.symm, B1, rfl, HF.out.2, fun _ _ => rfl, X1⟩
    case round =>
      clear X1 B1
      obtain ⟨i, j, ck, K, rfl, rfl, hij, hj, hKl, hK, B, hcz, hct, hcr, X⟩ := hrel
      by_cases hlt : j < n
      · obtain ⟨s0, s1, s2⟩ := HS.out j hlt
        have d0 : wr.cell? ⟨g, j * 3, none⟩ = some (.int .i64 (nth L j).port) := by rw [B.cells, hcr _ (Nat.le_refl _)]; exact s0
        have d1 : wr.cell? ⟨g, j * 3 + 1, none⟩ = some (.int .i64 (nth L j).to_.addr) := by rw [B.cells, hcr _ (by omega)]; exact s1
        have d2 : wr.cell? ⟨g, j * 3 + 2, none⟩ = some (.int .i64 (nth L j).to_.port) := by rw [B.cells, hcr _ (by omega)]; exact s2
        have zg := B.lt
        have hcl := fun W (hW : RExt g w W) => HC.out (nth L j) (HM.out j hlt) W hW
        have HCR := Lib.hid hcr
        have HCT := Lib.hid hct
        have HKK := Lib.hid hK
        have HCZ := Lib.hid hcz
        clear s0 s1 s2 hcr hct hK hcz
        cases hp : p (nth L j) with
        | true =>
          rw [hp] at hcl
          replace hcl := Lib.hid hcl
          replace hp := Lib.hid hp
          go_wp2_with fail
          refine (hcl.out _ (by repeat (first | (with_reducible exact RExt.refl _ _) | (with_reducible assumption) | (with_reducible refine RExt.alloc ?_ _) | (with_reducible refine RExt.drewN ?_ _) | (with_reducible refine RExt.drew ?_) | (with_reducible refine RExt.setCell ?_ (.inr ?_) _; rotate_left; (simp only []; omega)) | (with_reducible refine RExt.trans ?_ (by assumption)) | (with_reducible refine RExt.ext ?_ (by assumption))))).mono ?_
          rintro e w2 ⟨rfl, hx2⟩
          have X2 : RExt g w w2 := (by repeat (first | (with_reducible exact RExt.refl _ _) | (with_reducible assumption) | (with_reducible refine RExt.alloc ?_ _) | (with_reducible refine RExt.drewN ?_ _) | (with_reducible refine RExt.drew ?_) | (with_reducible refine RExt.setCell ?_ (.inr ?_) _; rotate_left; (simp only []; omega)) | (with_reducible refine RExt.trans ?_ (by assumption)) | (with_reducible refine RExt.ext ?_ (by assumption))))
          have B2 := Blk.ext (by exact (by repeat (first | (with_reducible assumption) | (with_reducible exact Blk.new _ _ _) | exact Blk.newAt _ _ _ (by simp) | (with_reducible refine Blk.alloc ?_ _) | (with_reducible refine Blk.drew ?_) | (with_reducible refine Blk.drewN ?_ _) | refine Blk.far ?_ (by simp only []; omega) _ | refine Blk.rext ?_ (by assumption) (by omega) | refine Blk.ext ?_ (by assumption)))) hx2 (T := 115) (b := g) (cs := ck)
          clear hx2
          go_wp2
          go_roundw
          case rel => exact ⟨i, j + 1, ck, K, rfl, by go_num, by omega, by omega, hKl, by rw [HKK.out, filt_drop (by rw [HL.out]; exact hlt) (by simp [hp.out])], B2, HCZ.out, HCT.out, fun q hq => HCR.out q (by omega), X2⟩
          case measure => simp [intOf]; omega
        | false =>
          rw [hp] at hcl
          replace hcl := Lib.hid hcl
          replace hp := Lib.hid hp
          go_wp2_with fail
          refine (hcl.out _ (by repeat (first | (with_reducible exact RExt.refl _ _) | (with_reducible assumption) | (with_reducible refine RExt.alloc ?_ _) | (with_reducible refine RExt.drewN ?_ _) | (with_reducible refine RExt.drew ?_) | (with_reducible refine RExt.setCell ?_ (.inr ?_) _; rotate_left; (simp only []; omega)) | (with_reducible refine RExt.trans ?_ (by assumption)) | (with_reducible refine RExt.ext ?_ (by assumption))))).mono ?_
          rintro e w2 ⟨rfl, hx2⟩
          have X2 : RExt g w w2 := (by repeat (first | (with_reducible exact RExt.refl _ _) | (with_reducible assumption) | (with_reducible refine RExt.alloc ?_ _) | (with_reducible refine RExt.drewN ?_ _) | (with_reducible refine RExt.drew ?_) | (with_reducible refine RExt.setCell ?_ (.inr ?_) _; rotate_left; (simp only []; omega)) | (with_reducible refine RExt.trans ?_ (by assumption)) | (with_reducible refine RExt.ext ?_ (by assumption))))
          have B2 := Blk.ext (by exact (by repeat (first | (with_reducible assumption) | (with_reducible exact Blk.new _ _ _) | exact Blk.newAt _ _ _ (by simp) | (with_reducible refine Blk.alloc ?_ _) | (with_reducible refine Blk.drew ?_) | (with_reducible refine Blk.drewN ?_ _) | refine Blk.far ?_ (by simp only []; omega) _ | refine Blk.rext ?_ (by assumption) (by omega) | refine Blk.ext ?_ (by assumption)))) hx2 (T := 115) (b := g) (cs := ck)
          have BT : Blk w2 wr.heap.size 115 #[.int .i64 (nth L j).port, .int .i64 (nth L j).to_.addr, .int .i64 (nth L j).to_.port] := by refine Blk.ext ?_ hx2; exact (by repeat (first | (with_reducible assumption) | (with_reducible exact Blk.new _ _ _) | exact Blk.newAt _ _ _ (by simp) | (with_reducible refine Blk.alloc ?_ _) | (with_reducible refine Blk.drew ?_) | (with_reducible refine Blk.drewN ?_ _) | refine Blk.far ?_ (by simp only []; omega) _ | refine Blk.rext ?_ (by assumption) (by omega) | refine Blk.ext ?_ (by assumption)))
          clear hx2
          have cT := BT.cells
          have fT := BT.frozens
          have zT := BT.lt
          obtain ⟨v0, c0⟩ : ∃ v, w2.cell? ⟨g, i * 3, none⟩ = some v := ⟨_, by rw [B2.cells]; exact Array.getElem?_eq_getElem (by rw [HCZ.out]; omega)⟩
          obtain ⟨v1, c1⟩ : ∃ v, w2.cell? ⟨g, i * 3 + 1, none⟩ = some v := ⟨_, by rw [B2.cells]; exact Array.getElem?_eq_getElem (by rw [HCZ.out]; omega)⟩
          obtain ⟨v2, c2⟩ : ∃ v, w2.cell? ⟨g, i * 3 + 2, none⟩ = some v := ⟨_, by rw [B2.cells]; exact Array.getElem?_eq_getElem (by rw [HCZ.out]; omega)⟩
          have fB := B2.frozens
          have zB := B2.lt
          go_wp2
          go_roundw
          case rel =>
            refine ⟨i + 1, j + 1, _, K ++ [nth L j], by go_num, by go_num, by omega, by omega, by simp [hKl], by rw [HKK.out, filt_keep (by rw [HL.out]; exact hlt) (by simp [hp.out])], ((B2.set _ _).set _ _).set _ _, by simpa using HCZ.out, put_three (by rw [HCZ.out]; omega) HCT.out, fun q hq => ?_, ?_⟩
            · rw [Array.getElem?_setIfInBounds_ne (by omega), Array.getElem?_setIfInBounds_ne (by omega), Array.getElem?_setIfInBounds_ne (by omega)]
              exact HCR.out q (by omega)
            · exact ((X2.setCell (.inl rfl) _).setCell (.inl rfl) _).setCell (.inl rfl) _
          case measure => simp [intOf]; omega
      · have e : j = n := by omega
        subst e
        obtain ⟨W', cur', hclr, B', hz', hlow, X'⟩ := run_clear_blk eiC zero1_C wr g (i * 3) (j - i) (c - i) ck B (by omega) (by omega)
        have hdr := run_drop_C g j c i hij hnc
        have htk := run_take_C (some ⟨g, 0, none⟩) j c i (by omega)
        have HR := Lib.hid (X.trans X')
        have HOW := Lib.hid (show Ow 115 encC 3 base W' (some ⟨g, 0, none⟩) i c K by
          refine ⟨hKl, .inr ⟨g, cur', rfl, hb, B', by omega, hcm, by omega, ?_⟩⟩
          rw [← hct]
          apply List.ext_getElem?
          intro q
          rw [List.getElem?_take, List.getElem?_take]
          split
          · have := hlow q (by omega)
            simpa using this
          · rfl)
        rw [List.take_of_length_le (by rw [HL.out]; omega)] at hK
        clear B' hz' hlow X' hcr hct X B hcz
        go_wp2
        go_ret
        exact ⟨i, rfl, hK ▸ HOW.out, by omega, HR.out⟩
theorem put_four {cur : Array Value} {i : Nat} {K : List MapD} {x : MapD} (hlt : i * 4 + 3 < cur.size) (h2 : cur.toList.take (i * 4) = K.flatMap encM) :
    ((((cur.setIfInBounds (i * 4) (.int .i64 x.ins.addr)).setIfInBounds (i * 4 + 1) (.int .i64 x.ins.port)).setIfInBounds (i * 4 + 2) (.int .i64 x.port)).setIfInBounds (i * 4 + 3) (.int .i64 x.last)).toList.take ((i + 1) * 4) = (K ++ [x]).flatMap encM := by
  rw [show (i + 1) * 4 = i * 4 + 3 + 1 by omega]
  simp only [Array.toList_setIfInBounds]
  rw [set_take (by simp; omega), set_take (by simp; omega), set_take (by simp; omega), set_take (by simp; omega), h2]
  simp [encM]
set_option maxHeartbeats 2000000 in
theorem DeleteFunc_M (g0 : FuncId) (lb : Array Value) (eg : ∀ args w, (callFunc g0 args).run Try.prog w = .ok (.enter g0 args) w) (p : MapD → Bool) (a : Option Addr) (n c base : Nat) (L : List MapD) (w : World) (ho : Ow 102 encM 4 base w a n c L) (hn : n ≤ 1000)
    (hcall : ∀ x, x ∈ L → ∀ W, w.grownBy W (a.map (·.block)) → Calls Try.prog g0 (#[.agg #[.int .i64 x.ins.addr, .int .i64 x.ins.port, .int .i64 x.port, .int .i64 x.last]] ++ lb) W fun e w' => e = .returned (.bool (p x)) ∧ Ext W w') :
    Calls Try.prog 125 #[.slice a n c, .func (.func g0) #[] lb] w fun e w' => ∃ m, e = .returned (.slice a m c) ∧ Ow 102 encM 4 base w' a m c (L.filter fun x => !p x) ∧ m ≤ n ∧ w.grownBy w' (a.map (·.block)) := by
  have hs := ho.sl encM_len
  have hIF := Lib.hid (IndexFunc_M g0 lb eg p a n c L w hs (fun x hx W hW => hcall x hx W (by
    obtain ⟨h1, h2, h3, h4, h5⟩ := hW
    exact ⟨h1, h2, h3, h4, fun i hi _ => h5 i hi (by simp)⟩)))
  rcases ix_cases p L with ⟨e1, hall⟩ | ⟨k0, x0, e1, hx0, ht0, hall⟩
  · rw [e1] at hIF
    have hf : L.filter (fun x => !p x) = L := List.filter_eq_self.2 fun x hx => by simp [hall x hx]
    rw [hf]
    have HO := Lib.hid ho
    clear ho hs hcall hall
    go_enter Try.func125, Try.ntmps125
    go_wp2_with fail
    refine (hIF.out).mono ?_
    rintro e w1 ⟨rfl, hx⟩
    go_wp2
    go_ret
    exact ⟨n, rfl, HO.out.ext hx, Nat.le_refl _, ⟨World.grownBy.os hx, World.grownBy.tape hx, World.grownBy.output hx, hx.size, fun i hi _ => hx.block i hi⟩⟩
  · obtain ⟨hl, ⟨rfl, h0, rfl⟩ | ⟨g, cur, rfl, hb, hg, hnc, hcm, hcs, ht⟩⟩ := ho
    · have := (List.getElem?_eq_some_iff.1 hx0).1
      omega
    have hk0 : k0 < n := by have := (List.getElem?_eq_some_iff.1 hx0).1; omega
    rw [e1] at hIF
    have hK0 : (L.take k0).filter (fun x => !p x) = L.take k0 := List.filter_eq_self.2 fun x hx => by simp [hall x hx]
    have hK1 : (L.take (k0 + 1)).filter (fun x => !p x) = L.take k0 := by rw [filt_drop (by omega) (by rw [nth_of hx0]; simp [ht0]), hK0]
    have hcs0 : ∀ j, j < n → cur[j * 4]? = some (.int .i64 (nth L j).ins.addr) ∧ cur[j * 4 + 1]? = some (.int .i64 (nth L j).ins.port) ∧ cur[j * 4 + 2]? = some (.int .i64 (nth L j).port) ∧ cur[j * 4 + 3]? = some (.int .i64 (nth L j).last) := by
      intro j hj
      have key : ∀ q u, (encM (nth L j))[q]? = some u → cur[j * 4 + q]? = some u := by
        intro q u hu
        have hq : q < 4 := by have := (List.getElem?_eq_some_iff.1 hu).1; simpa [encM] using this
        have h1 := flat_at encM_len L j _ (nth_some (by omega)) q u hu
        rw [← ht, List.getElem?_take, if_pos (by omega)] at h1
        simpa using h1
      exact ⟨key 0 _ rfl, key 1 _ rfl, key 2 _ rfl, key 3 _ rfl⟩
    have hfin0 : cur.toList.take (k0 * 4) = (L.take k0).flatMap encM := by
      have e : (L.take k0).flatMap encM = (L.flatMap encM).take (k0 * 4) := by
        have h1 : L.flatMap encM = (L.take k0).flatMap encM ++ (L.drop k0).flatMap encM := by rw [← List.flatMap_append, List.take_append_drop]
        rw [h1, List.take_left' (by rw [flat_len encM_len, List.length_take]; congr 1; omega)]
      rw [e, ← ht, List.take_take]
      congr 1
      omega
    have HC := Lib.hid hcall
    have HS := Lib.hid hcs0
    have HK := Lib.hid (show (L.take k0).length = k0 by rw [List.length_take]; omega)
    have HF := Lib.hid (And.intro hK1 hfin0)
    have HM := Lib.hid (show ∀ j, j < n → nth L j ∈ L from fun j hj => nth_mem (by omega))
    have HL := Lib.hid hl
    have HB := Lib.hid (show Blk w g 102 cur from hg)
    have hle := hs.le
    clear hs hcall hcs0 hx0 ht0 hall hK0 hK1 hfin0 hl ht hg e1
    go_enter Try.func125, Try.ntmps125
    go_wp2_with fail
    refine (hIF.out).mono ?_
    rintro e w1 ⟨rfl, hx1⟩
    have hne1 : ((k0 : Int) == -1) = false := beq_eq_false_iff_ne.2 (by omega)
    have X1 := RExt.of_ext hx1 g
    have B1 := (HB.out).ext hx1
    clear hx1
    go_wp2
    go_loopw [5, 6, 7] (fun v5 v6 _ wr => ∃ (i j : Nat) (ck : Array Value) (K : List MapD), v5 = .int .i64 i ∧ v6 = .int .i64 j ∧ i < j ∧ j ≤ n ∧ K.length = i ∧ K = (L.take j).filter (fun x => !p x) ∧ Blk wr g 102 ck ∧ ck.size = cur.size ∧ ck.toList.take (i * 4) = K.flatMap encM ∧ (∀ q, j * 4 ≤ q → ck[q]? = cur[q]?) ∧ RExt g w wr) (fun _ v6 _ _ => n - (intOf v6).toNat)
    case atStart => exact ⟨k0, k0 + 1, cur, L.take k0, rfl, by go_num, by omega, by omega, HK.out, HF.out.1.symm, B1, rfl, HF.out.2, fun _ _ => rfl, X1⟩
    case round =>
      clear X1 B1
      obtain ⟨i, j, ck, K, rfl, rfl, hij, hj, hKl, hK, B, hcz, hct, hcr, X⟩ := hrel
      by_cases hlt : j < n
      · obtain ⟨s0, s1, s2, s3⟩ := HS.out j hlt
        have d0 : wr.cell? ⟨g, j * 4, none⟩ = some (.int .i64 (nth L j).ins.addr) := by rw [B.cells, hcr _ (Nat.le_refl _)]; exact s0
        have d1 : wr.cell? ⟨g, j * 4 + 1, none⟩ = some (.int .i64 (nth L j).ins.port) := by rw [B.cells, hcr _ (by omega)]; exact s1
        have d2 : wr.cell? ⟨g, j * 4 + 2, none⟩ = some (.int .i64 (nth L j).port) := by rw [B.cells, hcr _ (by omega)]; exact s2
        have d3 : wr.cell? ⟨g, j * 4 + 3, none⟩ = some (.int .i64 (nth L j).last) := by rw [B.cells, hcr _ (by omega)]; exact s3
        have zg := B.lt
        have hcl := fun W (hW : RExt g w W) => HC.out (nth L j) (HM.out j hlt) W hW
        have HCR := Lib.hid hcr
        have HCT := Lib.hid hct
        have HKK := Lib.hid hK
        have HCZ := Lib.hid hcz
        clear s0 s1 s2 s3 hcr hct hK hcz
        cases hp : p (nth L j) with
        | true =>
          rw [hp] at hcl
          replace hcl := Lib.hid hcl
          replace hp := Lib.hid hp
          go_wp2_with fail
          refine (hcl.out _ (by repeat (first | (with_reducible exact RExt.refl _ _) | (with_reducible assumption) | (with_reducible refine RExt.alloc ?_ _) | (with_reducible refine RExt.drewN ?_ _) | (with_reducible refine RExt.drew ?_) | (with_reducible refine RExt.setCell ?_ (.inr ?_) _; rotate_left; (simp only []; omega)) | (with_reducible refine RExt.trans ?_ (by assumption)) | (with_reducible refine RExt.ext ?_ (by assumption))))).mono ?_
          rintro e w2 ⟨rfl, hx2⟩
          have X2 : RExt g w w2 := (by repeat (first | (with_reducible exact RExt.refl _ _) | (with_reducible assumption) | (with_reducible refine RExt.alloc ?_ _) | (with_reducible refine RExt.drewN ?_ _) | (with_reducible refine RExt.drew ?_) | (with_reducible refine RExt.setCell ?_ (.inr ?_) _; rotate_left; (simp only []; omega)) | (with_reducible refine RExt.trans ?_ (by assumption)) | (with_reducible refine RExt.ext ?_ (by assumption))))
          have B2 := Blk.ext (by exact (by repeat (first | (with_reducible assumption) | (with_reducible exact Blk.new _ _ _) | exact Blk.newAt _ _ _ (by simp) | (with_reducible refine Blk.alloc ?_ _) | (with_reducible refine Blk.drew ?_) | (with_reducible refine Blk.drewN ?_ _) | refine Blk.far ?_ (by simp only []; omega) _ | refine Blk.rext ?_ (by assumption) (by omega) | refine Blk.ext ?_ (by assumption)))) hx2 (T := 102) (b := g) (cs := ck)
          clear hx2
          go_wp2
          go_roundw
          case rel => exact ⟨i, j + 1, ck, K, rfl, by go_num, by omega, by omega, hKl, by rw [HKK.out, filt_drop (by rw [HL.out]; exact hlt) (by simp [hp.out])], B2, HCZ.out, HCT.out, fun q hq => HCR.out q (by omega), X2⟩
          case measure => simp [intOf]; omega
        | false =>
          rw [hp] at hcl
          replace hcl := Lib.hid hcl
          replace hp := Lib.hid hp
          go_wp2_with fail
          refine (hcl.out _ (by repeat (first | (with_reducible exact RExt.refl _ _) | (with_reducible assumption) | (with_reducible refine RExt.alloc ?_ _) | (with_reducible refine RExt.drewN ?_ _) | (with_reducible refine RExt.drew ?_) | (with_reducible refine RExt.setCell ?_ (.inr ?_) _; rotate_left; (simp only []; omega)) | (with_reducible refine RExt.trans ?_ (by assumption)) | (with_reducible refine RExt.ext ?_ (by assumption))))).mono ?_
          rintro e w2 ⟨rfl, hx2⟩
          have X2 : RExt g w w2 := (by repeat (first | (with_reducible exact RExt.refl _ _) | (with_reducible assumption) | (with_reducible refine RExt.alloc ?_ _) | (with_reducible refine RExt.drewN ?_ _) | (with_reducible refine RExt.drew ?_) | (with_reducible refine RExt.setCell ?_ (.inr ?_) _; rotate_left; (simp only []; omega)) | (with_reducible refine RExt.trans ?_ (by assumption)) | (with_reducible refine RExt.ext ?_ (by assumption))))
          have B2 := Blk.ext (by exact (by repeat (first | (with_reducible assumption) | (with_reducible exact Blk.new _ _ _) | exact Blk.newAt _ _ _ (by simp) | (with_reducible refine Blk.alloc ?_ _) | (with_reducible refine Blk.drew ?_) | (with_reducible refine Blk.drewN ?_ _) | refine Blk.far ?_ (by simp only []; omega) _ | refine Blk.rext ?_ (by assumption) (by omega) | refine Blk.ext ?_ (by assumption)))) hx2 (T := 102) (b := g) (cs := ck)
          have BT : Blk w2 wr.heap.size 102 #[.int .i64 (nth L j).ins.addr, .int .i64 (nth L j).ins.port, .int .i64 (nth L j).port, .int .i64 (nth L j).last] := by refine Blk.ext ?_ hx2; exact (by repeat (first | (with_reducible assumption) | (with_reducible exact Blk.new _ _ _) | exact Blk.newAt _ _ _ (by simp) | (with_reducible refine Blk.alloc ?_ _) | (with_reducible refine Blk.drew ?_) | (with_reducible refine Blk.drewN ?_ _) | refine Blk.far ?_ (by simp only []; omega) _ | refine Blk.rext ?_ (by assumption) (by omega) | refine Blk.ext ?_ (by assumption)))
          clear hx2
          have cT := BT.cells
          have fT := BT.frozens
          have zT := BT.lt
          obtain ⟨v0, c0⟩ : ∃ v, w2.cell? ⟨g, i * 4, none⟩ = some v := ⟨_, by rw [B2.cells]; exact Array.getElem?_eq_getElem (by rw [HCZ.out]; omega)⟩
          obtain ⟨v1, c1⟩ : ∃ v, w2.cell? ⟨g, i * 4 + 1, none⟩ = some v := ⟨_, by rw [B2.cells]; exact Array.getElem?_eq_getElem (by rw [HCZ.out]; omega)⟩
          obtain ⟨v2, c2⟩ : ∃ v, w2.cell? ⟨g, i * 4 + 2, none⟩ = some v := ⟨_, by rw [B2.cells]; exact Array.getElem?_eq_getElem (by rw [HCZ.out]; omega)⟩
          obtain ⟨v3, c3⟩ : ∃ v, w2.cell? ⟨g, i * 4 + 3, none⟩ = some v := ⟨_, by rw [B2.cells]; exact Array.getElem?_eq_getElem (by rw [HCZ.out]; omega)⟩
          have fB := B2.frozens
          have zB := B2.lt
          go_wp2
          go_roundw
          case rel =>
            refine ⟨i + 1, j + 1, _, K ++ [nth L j], by go_num, by go_num, by omega, by omega, by simp [hKl], by rw [HKK.out, filt_keep (by rw [HL.out]; exact hlt) (by simp [hp.out])], (((B2.set _ _).set _ _).set _ _).set _ _, by simpa using HCZ.out, put_four (by rw [HCZ.out]; omega) HCT.out, fun q hq => ?_, ?_⟩
            · rw [Array.getElem?_setIfInBounds_ne (by omega), Array.getElem?_setIfInBounds_ne (by omega), Array.getElem?_setIfInBounds_ne (by omega), Array.getElem?_setIfInBounds_ne (by omega)]
              exact HCR.out q (by omega)
            · exact (((X2.setCell (.inl rfl) _).setCell (.inl rfl) _).setCell (.inl rfl) _).setCell (.inl rfl) _
          case measure => simp [intOf]; omega
      · have e : j = n := by omega
        subst e
        obtain ⟨W', cur', hclr, B', hz', hlow, X'⟩ := run_clear_blk eiM zero1_M wr g (i * 4) (j - i) (c - i) ck B (by omega) (by omega)
        have hdr := run_drop_M g j c i hij hnc
        have htk := run_take_M (some ⟨g, 0, none⟩) j c i (by omega)
        have HR := Lib.hid (X.trans X')
        have HOW := Lib.hid (show Ow 102 encM 4 base W' (some ⟨g, 0, none⟩) i c K by
          refine ⟨hKl, .inr ⟨g, cur', rfl, hb, B', by omega, hcm, by omega, ?_⟩⟩
          rw [← hct]
          apply List.ext_getElem?
          intro q
          rw [List.getElem?_take, List.getElem?_take]
          split
          · have := hlow q (by omega)
            simpa using this
          · rfl)
        rw [List.take_of_length_le (by rw [HL.out]; omega)] at hK
        clear B' hz' hlow X' hcr hct X B hcz
        go_wp2
        go_ret
        exact ⟨i, rfl, hK ▸ HOW.out, by omega, HR.out⟩
end Go.Proofs.Ytafmomocmodbhaa
