/- slices.Insert of one pair in the midst of a full row: a new row. -/
import Derived.Test.YteadkghffdiaoabKeepJ
import Derived.Shelf.Spec.SlicesInsert
set_option linter.unusedVariables false
set_option linter.unusedSimpArgs false
set_option maxRecDepth 100000
namespace Go.Proofs.Yteadkghffdiaoab
open Go.RowKit Go.Proofs.YteadkghffdiaoabW.PrintWords

theorem copy_deed {P : Program} {o : Oper} {a : Act} {w w1 : World} (d s : Operand) (t t' : TypeId) (ho : o.op = .call { callee := .builtin .copy, args := #[d, s], argTypes := #[t, t'] }) (v u : Value) (hd : a.eval d = v) (hs : a.eval s = u) {v' : Value}
    (hr : (Builtin.copy_ #[t, t'] o.type #[v, u]).run P w = .ok v' w1) : (execOp a.eval o).run P w = .ok (.value v') w1 := by
  unfold execOp
  simp only [ho, resolve, invoke, builtin, Sem.run_bind, Sem.run_pure, Result.andThen_ok, List.map_toArray, List.map_cons, List.map_nil, hd, hs, hr]

/-- What lies in the new row. -/
structure NewRow (l : List Item) (x : Item) (i : Nat) (w : World) (k : Nat) (w' : World) : Prop where
  at_ : ∃ cur, w'.heap[w.heap.size]? = some (.cells cur 25 (0, 0)) ∧ cur.size = k * 4
  below : Below w.heap.size w w'

set_option maxHeartbeats 2000000 in
theorem insertGrow_c (l : List Item) (x : Item) (i g c b : Nat) (cur : Array Value) (w : World) (hi : i < l.length) (hl : l.length ≤ 1000) (hnc : l.length ≤ c) (hroom : c < l.length + 1)
    (hg : w.heap[g]? = some (.cells cur 25 (0, 0))) (hcur : cur.toList.take (l.length * 4) = flatI l) (hx : w.heap[b]? = some (.cells (ic x) 25 (0, 0))) :
    Calls Try.prog 72 #[.slice (some ⟨g, 0, none⟩) l.length c, .int .i64 i, .slice (some ⟨b, 0, none⟩) 1 1] w fun e w' => ∃ v', e = .returned v' ∧ OwnI w' w.heap.size v' (l.take i ++ x :: l.drop i) ∧ Below w.heap.size w w' := by
  have hu := Try.underlying25
  have hc : c = l.length := by omega
  subst hc
  have hz2 : ((i : Int) == (l.length : Int)) = false := by rw [beq_eq_false_iff_ne]; omega
  have hz3 : (l.length : Int) < (l.length : Int) + 1 := by omega
  have hin : (i : Int) ≤ (l.length : Int) := by omega
  have hfc : ∀ j u, (flatI l)[j]? = some u → w.cell? ⟨g, j, none⟩ = some u := by
    intro j u hj
    rw [blk_cell hg]
    rw [← hcur, List.getElem?_take] at hj
    split at hj
    · simpa using hj
    · cases hj
  obtain ⟨i0, hi0, hii⟩ := Option.map_eq_some_iff.1 itemInfo
  simp only [Prod.mk.injEq] at hii
  obtain ⟨hz, hzs, hzb⟩ := hii
  have hold : (Builtin.firstCells i0.size i (.slice (some ⟨g, 0, none⟩) i l.length)).run Try.prog w.drew = .ok (flatI (l.take i)).toArray w.drew := by
    rw [hzs]
    refine run_firstCells_some w.drew 4 i ⟨g, 0, none⟩ i l.length (flatI (l.take i)) (by rw [flatI_len, List.length_take, Nat.min_eq_left (by omega)]) (fun j v hj => ?_)
    have e : (⟨g, 0, none⟩ : Addr).add j = ⟨g, j, none⟩ := by unfold Addr.add; split <;> simp_all
    rw [e]
    refine hfc j v ?_
    rw [← flat_take l i (by omega), List.getElem?_take] at hj
    split at hj
    · exact hj
    · cases hj
  have hkk : (l.length : Int) + 1 - (i : Int) = ((l.length + 1 - i : Nat) : Int) := by omega
  have hik : i + (l.length + 1 - i) = l.length + 1 := by omega
  have hrz : ∀ ty, (Builtin.append_ #[48, 3] ty #[.slice (some ⟨g, 0, none⟩) i l.length, .int .i64 ((l.length : Int) + 1 - (i : Int))]).run Try.prog w =
      .ok (.slice (some ⟨w.heap.size, 0, none⟩) (l.length + 1) (grownCap w (l.length + 1) l.length 25))
        (w.drew.alloc (.cells ((flatI (l.take i)).toArray ++ Builtin.zeroCells (Value.agg (ic Item.zero)).cells (l.length + 1 - i) ++ Builtin.zeroCells (Value.agg (ic Item.zero)).cells (grownCap w (l.length + 1) l.length 25 - (l.length + 1))) 25)) := fun ty => by
    have h := Lib.run_append_grow_zeros w 48 3 ty 25 i0 (.agg (ic Item.zero)) .i64 .i64 Try.underlying48 Try.underlying3 hi0 hz (some ⟨g, 0, none⟩) i l.length (flatI (l.take i)) hold (l.length + 1 - i) (by omega) (by omega) (by omega) (by omega) (by rw [hzb]; omega) (by rw [hzb, hik]; exact growslice_fits (by omega) (by omega))
    rw [hik] at h
    rw [hkk]
    exact h
  have hGn := grownCap_ge w (l.length + 1) l.length 25
  have hG63 := grownCap_le_maxLen w (l.length + 1) l.length 25 (by unfold maxLen; omega)
  generalize grownCap w (l.length + 1) l.length 25 = G at hrz hGn hG63
  obtain ⟨ROW, hROW⟩ : ∃ ROW : Array Value, ROW = (flatI (l.take i)).toArray ++ Builtin.zeroCells (Value.agg (ic Item.zero)).cells (l.length + 1 - i) ++ Builtin.zeroCells (Value.agg (ic Item.zero)).cells (G - (l.length + 1)) := ⟨_, rfl⟩
  rw [← hROW] at hrz
  have hRs : ROW.size = G * 4 := by
    rw [hROW]
    have hti : (flatI (l.take i)).length = i * 4 := by rw [flatI_len, List.length_take, Nat.min_eq_left (by omega)]
    simp [Builtin.zeroCells, Value.cells, hti]
    omega
  have hRt : ROW.toList.take (i * 4) = flatI (l.take i) := by
    have hti : (flatI (l.take i)).length = i * 4 := by rw [flatI_len, List.length_take, Nat.min_eq_left (by omega)]
    rw [hROW]
    simp only [Array.toList_append, List.toList_toArray, List.append_assoc]
    rw [← hti, List.take_left']
    rfl
  clear hold hROW hz hzb hkk
  go_enter Try.func72, Try.ntmps72
  go_upto_region 10 with (at_builtin; refine Lib.wpList_append_run _ rfl _ _ _ _ rfl _ _ rfl rfl _ _ (hrz _) ?_)
  have k1 : (w.alloc (.cells ROW 25)).drew.heap[w.heap.size]? = some (.cells ROW 25 (0, 0)) := blk_new w _
  have hb1 : Below w.heap.size w (w.alloc (.cells ROW 25)).drew := below_drewN (alloc_belowK w _) 1
  generalize World.drew (World.alloc _ _) = W1 at k1 hb1 ⊢
  have hgN : g < w.heap.size := blk_lt hg
  have hbN : b < w.heap.size := blk_lt hx
  have hGi : ¬ (G = i) := by omega
  have hGi1 : ¬ (G = i + 1) := by omega
  have hli : ¬ (l.length = i) := by omega
  have hxl : (ic x).toList.length = 4 := rfl
  have hdl : (flatI (l.drop i)).length = (l.length - i) * 4 := by rw [flatI_len, List.length_drop]
  obtain ⟨cur2, m1, m2, m3⟩ := setCells_row (ic x).toList (i * 4) W1 ROW k1 (by rw [hxl, hRs]; omega)
  have hgr1 := (setCells_shape (ic x).toList (i * 4) W1 ROW k1).2
  have hcp1 : ∀ ty, (Builtin.copy_ #[48, 48] ty #[.slice (some ⟨w.heap.size, i * 4, none⟩) (l.length + 1 - i) (G - i), .slice (some ⟨b, 0, none⟩) 1 1]).run Try.prog W1 = .ok (goInt (Nat.min 1 (l.length + 1 - i))) (W1.setCells w.heap.size (i * 4) (ic x).toList) := fun ty =>
    run_copy_size W1 _ _ ty 25 w.heap.size (i * 4) (l.length + 1 - i) (G - i) ⟨b, 0, none⟩ 1 1 4 (ic x).toList Try.underlying48 itemSize (by rw [hxl, show Nat.min 1 (l.length + 1 - i) = 1 from Nat.min_eq_left (by omega)])
      (fun j v hj => by
        have e : (⟨b, 0, none⟩ : Addr).add j = ⟨b, j, none⟩ := by unfold Addr.add; split <;> simp_all
        rw [e, blk_cell (blk_below hx hb1)]; simpa using hj)
      (fun j hj => by rw [blk_cell k1, Array.getElem?_eq_getElem (by rw [hRs]; rw [hxl] at hj; omega)]; rfl) (fun j hj => blk_frozen k1 _) (by intro q hq; simp at hq; rcases hq with rfl | rfl | rfl | rfl <;> rfl)
  go_upto_region 11 with (at_builtin; refine wpList_copy_runI _ rfl _ _ 48 48 rfl _ _ rfl rfl (hcp1 _) ?_)
  generalize hW2 : World.setCells _ _ _ _ = W2 at m1 hgr1 ⊢
  clear hW2 hcp1 hrz k1
  have hgW : W2.heap[g]? = some (.cells cur 25 (0, 0)) := blk_grown (blk_below hg hb1) hgr1 (by simp; omega)
  have hfc2 : ∀ j u, (flatI l)[j]? = some u → W2.cell? ⟨g, j, none⟩ = some u := by
    intro j u hj
    have h0 := hfc j u hj
    rw [blk_cell hg] at h0
    rw [blk_cell hgW]; exact h0
  have hb2 : Below w.heap.size w W2 := hb1.grown hgr1 hb1.size (fun k e => by have := Option.some.inj e; omega)
  have m2' : cur2.size = G * 4 := by rw [m2, hRs]
  obtain ⟨cur3, n1, n2, n3⟩ := setCells_row (flatI (l.drop i)) ((i + 1) * 4) W2.drew cur2 m1 (by rw [hdl, m2']; omega)
  have hgr2 := (setCells_shape (flatI (l.drop i)) ((i + 1) * 4) W2.drew cur2 m1).2
  have hcp2 : ∀ ty, (Builtin.copy_ #[48, 48] ty #[.slice (some ⟨w.heap.size, (i + 1) * 4, none⟩) (l.length - i) (G - (i + 1)), .slice (some ⟨g, i * 4, none⟩) (l.length - i) (l.length - i)]).run Try.prog W2.drew = .ok (goInt (Nat.min (l.length - i) (l.length - i))) (W2.drew.setCells w.heap.size ((i + 1) * 4) (flatI (l.drop i))) := fun ty =>
    run_copy_size W2.drew _ _ ty 25 w.heap.size ((i + 1) * 4) (l.length - i) (G - (i + 1)) ⟨g, i * 4, none⟩ (l.length - i) (l.length - i) 4 (flatI (l.drop i)) Try.underlying48 itemSize (by rw [hdl, show Nat.min (l.length - i) (l.length - i) = l.length - i from Nat.min_self _])
      (fun j v hj => by
        rw [Addr.add_mid]
        rw [← flat_drop l i (by omega), List.getElem?_drop] at hj
        exact hfc2 _ v hj)
      (fun j hj => by
        have : W2.drew.cell? ⟨w.heap.size, (i + 1) * 4 + j, none⟩ = cur2[(i + 1) * 4 + j]? := blk_cell (w := W2.drew) m1 _
        rw [this, Array.getElem?_eq_getElem (by rw [m2']; rw [hdl] at hj; omega)]; rfl) (fun j hj => blk_frozen (w := W2.drew) m1 _) (flat_one _)
  have htn : ((i : Int) + 1).toNat = i + 1 := by omega
  have hw1 : IntKind.i64.wrap ((i : Int) + 1) = (i : Int) + 1 := IntWalk.i64_in _ (by omega)
  have hb3 : (0 : Int) ≤ (i : Int) + 1 := by omega
  have hb4 : (i : Int) + 1 ≤ (l.length : Int) + 1 := by omega
  try simp only [List.append_eq, List.cons_append, List.nil_append]
  refine region_ord (fun _ => True) [(0, false), (1, false), (2, false), (3, false), (4, false), (5, false), (6, false), (7, false), (8, true)] (by kernel_rfl) (by kernel_rfl) rfl (by kernel_rfl) trivial ?_
  iterate 8 ((first | (refine ord_skip rfl rfl ?_; (try simp only [Act.put, List.setIfInBounds_toArray, List.set_cons_zero, List.set_cons_succ])) | ((fail); (try simp only [Act.put, List.setIfInBounds_toArray, List.set_cons_zero, List.set_cons_succ])) | (refine ord_val (v := ?_) rfl rfl (fun W1 hW1 => ?_) ?_; rotate_left; (· (go_simp; try with_reducible rfl)); (try simp only [Act.put, List.setIfInBounds_toArray, List.set_cons_zero, List.set_cons_succ]))))
  refine ord_run rfl rfl (copy_deed _ _ _ _ rfl _ _ rfl rfl (hcp2 _)) ⟨trivial, ?_⟩
  (try simp only [Act.put, List.setIfInBounds_toArray, List.set_cons_zero, List.set_cons_succ])
  refine ord_nil ?_
  have hb3 : Below w.heap.size w (W2.drew.setCells w.heap.size ((i + 1) * 4) (flatI (l.drop i))) := (below_drewN hb2 1).grown hgr2 (by have := hb2.size; exact this) (fun k e => by have := Option.some.inj e; omega)
  generalize World.setCells _ _ _ _ = W3 at n1 hb3 ⊢
  clear hcp2 hgr2 hfc hfc2
  go_wp2
  go_ret
  refine ⟨.slice (some ⟨w.heap.size, 0, none⟩) (l.length + 1) G, rfl, OwnI.of ?_, hb3⟩
  have hlen : (l.take i ++ x :: l.drop i).length = l.length + 1 := by simp; omega
  have hti : (flatI (l.take i)).length = i * 4 := by rw [flatI_len, List.length_take, Nat.min_eq_left (by omega)]
  have hsum : flatI (l.take i ++ x :: l.drop i) = flatI (l.take i) ++ ((ic x).toList ++ flatI (l.drop i)) := by rw [flatI_append]; rfl
  refine ⟨by rw [flatI_len], .inr ⟨w.heap.size, G, cur3, by rw [hlen], Nat.le_refl _, n1, by rw [hlen]; omega, hG63, by rw [n2, m2'], ?_⟩⟩
  have t2 : cur2.toList.take ((i + 1) * 4) = flatI (l.take i) ++ (ic x).toList := by
    rw [m3, hRt]
    have e : (i + 1) * 4 = (flatI (l.take i) ++ (ic x).toList).length := by rw [List.length_append, hti, hxl]; omega
    rw [e, List.take_left']
    rfl
  rw [n3, t2, hlen, hsum]
  have e : (l.length + 1) * 4 = (flatI (l.take i) ++ (ic x).toList ++ flatI (l.drop i)).length := by rw [List.length_append, List.length_append, hti, hxl, hdl]; omega
  rw [e, List.take_left' rfl, List.append_assoc]

end Go.Proofs.Yteadkghffdiaoab
