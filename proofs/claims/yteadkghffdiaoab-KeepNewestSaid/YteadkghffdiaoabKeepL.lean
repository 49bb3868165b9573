/- slices.Insert of one pair in the midst of a row of one's own that has room: in place. -/
import Derived.Test.YteadkghffdiaoabKeepK
set_option linter.unusedVariables false
set_option linter.unusedSimpArgs false
set_option maxRecDepth 100000
namespace Go.Proofs.Yteadkghffdiaoab
open Go.RowKit Go.Proofs.YteadkghffdiaoabW.PrintWords

set_option maxHeartbeats 2000000 in
theorem insertRoom_c (l : List Item) (x : Item) (i g c b base : Nat) (cur : Array Value) (w : World) (hi : i < l.length) (hl : l.length ≤ 1000) (hroom : l.length + 1 ≤ c) (hc63 : c ≤ maxLen) (hbg : base ≤ g) (hbase : base ≤ w.heap.size) (hgb : b ≠ g)
    (hg : w.heap[g]? = some (.cells cur 25 (0, 0))) (hcs : cur.size = c * 4) (hcur : cur.toList.take (l.length * 4) = flatI l) (hx : w.heap[b]? = some (.cells (ic x) 25 (0, 0))) :
    Calls Try.prog 72 #[.slice (some ⟨g, 0, none⟩) l.length c, .int .i64 i, .slice (some ⟨b, 0, none⟩) 1 1] w fun e w' => ∃ v', e = .returned v' ∧ OwnI w' base v' (l.take i ++ x :: l.drop i) ∧ Below base w w' := by
  have hu := Try.underlying25
  have hz2 : ((i : Int) == (l.length : Int)) = false := by rw [beq_eq_false_iff_ne]; omega
  have hz3 : ¬ (c : Int) < (l.length : Int) + 1 := by omega
  have hin : (i : Int) ≤ (l.length : Int) := by omega
  have hfc : ∀ j u, (flatI l)[j]? = some u → w.cell? ⟨g, j, none⟩ = some u := by
    intro j u hj
    rw [blk_cell hg]
    rw [← hcur, List.getElem?_take] at hj
    split at hj
    · simpa using hj
    · cases hj
  have hov : ∀ lb cb, (callFunc 85 #[.slice (some ⟨b, 0, none⟩) 1 1, .slice (some ⟨g, (i + 1) * 4, none⟩) lb cb]).run Try.prog w = .ok (.value (.bool false)) w := fun lb cb => by
    rw [run_callFunc_extern Try.func85 (by kernel_rfl) (by kernel_rfl) (by kernel_rfl) (e := Extern.SlicesOverlaps.overlaps #[48, 48] #[4]) (by kernel_rfl),
      Lib.run_overlaps_apart w 48 4 25 Try.underlying48 4 (fun _ => by go_simp) ⟨b, 0, none⟩ ⟨g, (i + 1) * 4, none⟩ 1 1 lb cb hgb 25 25 4 (c * 4) (by simp [World.shape?, hx]) (by simp [World.shape?, hg, hcs]) (by omega) (blk_frozen hx _) (blk_frozen hx _)]
    rfl
  have htn : ((i : Int) + 1).toNat = i + 1 := by omega
  have hw1 : IntKind.i64.wrap ((i : Int) + 1) = (i : Int) + 1 := IntWalk.i64_in _ (by omega)
  have hb3 : (0 : Int) ≤ (i : Int) + 1 := by omega
  have hb4 : (i : Int) + 1 ≤ (l.length : Int) + 1 := by omega
  have hb5 : (i : Int) ≤ (l.length : Int) + 1 := by omega
  have hb6 : (l.length : Int) + 1 ≤ (c : Int) := by omega
  have hb7 : ¬ (c = i + 1) := by omega
  have hb8 : ¬ (c = i) := by omega
  go_enter Try.func72, Try.ntmps72
  go_upto_region 15 with (simp only [hov])
  have hxl : (ic x).toList.length = 4 := rfl
  have hdl : (flatI (l.drop i)).length = (l.length - i) * 4 := by rw [flatI_len, List.length_drop]
  obtain ⟨cur2, m1, m2, m3⟩ := setCells_row (flatI (l.drop i)) ((i + 1) * 4) w.drew cur hg (by rw [hdl, hcs]; omega)
  have hgr1 := (setCells_shape (flatI (l.drop i)) ((i + 1) * 4) w.drew cur hg).2
  have hcp1 : ∀ ty, (Builtin.copy_ #[48, 48] ty #[.slice (some ⟨g, (i + 1) * 4, none⟩) (l.length - i) (c - (i + 1)), .slice (some ⟨g, i * 4, none⟩) (l.length + 1 - i) (c - i)]).run Try.prog w.drew = .ok (goInt (Nat.min (l.length + 1 - i) (l.length - i))) (w.drew.setCells g ((i + 1) * 4) (flatI (l.drop i))) := fun ty =>
    run_copy_size w.drew _ _ ty 25 g ((i + 1) * 4) (l.length - i) (c - (i + 1)) ⟨g, i * 4, none⟩ (l.length + 1 - i) (c - i) 4 (flatI (l.drop i)) Try.underlying48 itemSize (by rw [hdl, show Nat.min (l.length + 1 - i) (l.length - i) = l.length - i from Nat.min_eq_right (by omega)])
      (fun j v hj => by
        rw [Addr.add_mid]
        rw [← flat_drop l i (by omega), List.getElem?_drop] at hj
        exact hfc _ v hj)
      (fun j hj => by
        have : w.drew.cell? ⟨g, (i + 1) * 4 + j, none⟩ = cur[(i + 1) * 4 + j]? := blk_cell (w := w.drew) hg _
        rw [this, Array.getElem?_eq_getElem (by rw [hcs]; rw [hdl] at hj; omega)]; rfl) (fun j hj => blk_frozen (w := w.drew) hg _) (flat_one _)
  try simp only [List.append_eq, List.cons_append, List.nil_append]
  refine region_ord (fun _ => True) [(0, false), (1, false), (2, false), (3, false), (4, false), (5, false), (6, false), (7, false), (8, true)] (by kernel_rfl) (by kernel_rfl) rfl (by kernel_rfl) trivial ?_
  iterate 8 ((first | (refine ord_skip rfl rfl ?_; (try simp only [Act.put, List.setIfInBounds_toArray, List.set_cons_zero, List.set_cons_succ])) | ((fail); (try simp only [Act.put, List.setIfInBounds_toArray, List.set_cons_zero, List.set_cons_succ])) | (refine ord_val (v := ?_) rfl rfl (fun W1 hW1 => ?_) ?_; rotate_left; (· (go_simp; try with_reducible rfl)); (try simp only [Act.put, List.setIfInBounds_toArray, List.set_cons_zero, List.set_cons_succ]))))
  refine ord_run rfl rfl (copy_deed _ _ _ _ rfl _ _ rfl rfl (hcp1 _)) ⟨trivial, ?_⟩
  (try simp only [Act.put, List.setIfInBounds_toArray, List.set_cons_zero, List.set_cons_succ])
  refine ord_nil ?_
  have hb1 : Below base w (w.drew.setCells g ((i + 1) * 4) (flatI (l.drop i))) := (pw_below_drewN (Below.refl base w) 1).grown hgr1 hbase (fun k e => by have := Option.some.inj e; omega)
  have hx1 : (w.drew.setCells g ((i + 1) * 4) (flatI (l.drop i))).heap[b]? = some (.cells (ic x) 25 (0, 0)) := blk_grown (w := w.drew) hx hgr1 (by simpa using hgb)
  have hbs : base ≤ (w.drew.setCells g ((i + 1) * 4) (flatI (l.drop i))).heap.size := Nat.le_trans hbase hgr1.size
  clear hcp1 hov hfc
  generalize World.setCells _ _ _ _ = W1 at m1 hb1 hx1 hbs ⊢
  have m2' : cur2.size = c * 4 := by rw [m2, hcs]
  obtain ⟨cur3, n1, n2, n3⟩ := setCells_row (ic x).toList (i * 4) W1 cur2 m1 (by rw [hxl, m2']; omega)
  have hgr2 := (setCells_shape (ic x).toList (i * 4) W1 cur2 m1).2
  have hcp2 : ∀ ty, (Builtin.copy_ #[48, 48] ty #[.slice (some ⟨g, i * 4, none⟩) (l.length + 1 - i) (c - i), .slice (some ⟨b, 0, none⟩) 1 1]).run Try.prog W1 = .ok (goInt (Nat.min 1 (l.length + 1 - i))) (W1.setCells g (i * 4) (ic x).toList) := fun ty =>
    run_copy_size W1 _ _ ty 25 g (i * 4) (l.length + 1 - i) (c - i) ⟨b, 0, none⟩ 1 1 4 (ic x).toList Try.underlying48 itemSize (by rw [hxl, show Nat.min 1 (l.length + 1 - i) = 1 from Nat.min_eq_left (by omega)])
      (fun j v hj => by
        have e : (⟨b, 0, none⟩ : Addr).add j = ⟨b, j, none⟩ := by unfold Addr.add; split <;> simp_all
        rw [e, blk_cell hx1]; simpa using hj)
      (fun j hj => by rw [blk_cell m1, Array.getElem?_eq_getElem (by rw [m2']; rw [hxl] at hj; omega)]; rfl) (fun j hj => blk_frozen m1 _) (by intro q hq; simp at hq; rcases hq with rfl | rfl | rfl | rfl <;> rfl)
  go_wp2_with (at_builtin; refine wpList_copy_runI _ rfl _ _ 48 48 rfl _ _ rfl rfl (hcp2 _) ?_)
  have hb2 : Below base w (W1.setCells g (i * 4) (ic x).toList) := hb1.grown hgr2 hbs (fun k e => by have := Option.some.inj e; omega)
  generalize World.setCells _ _ _ _ = W2 at n1 hb2 ⊢
  clear hcp2 hgr2 hgr1
  go_ret
  refine ⟨.slice (some ⟨g, 0, none⟩) (l.length + 1) c, rfl, OwnI.of ?_, hb2⟩
  have hlen : (l.take i ++ x :: l.drop i).length = l.length + 1 := by simp; omega
  have hti : (flatI (l.take i)).length = i * 4 := by rw [flatI_len, List.length_take, Nat.min_eq_left (by omega)]
  have hsum : flatI (l.take i ++ x :: l.drop i) = flatI (l.take i) ++ ((ic x).toList ++ flatI (l.drop i)) := by rw [flatI_append]; rfl
  refine ⟨by rw [flatI_len], .inr ⟨g, c, cur3, by rw [hlen], hbg, n1, by rw [hlen]; omega, hc63, by rw [n2, m2'], ?_⟩⟩
  have hct : cur.toList.take (i * 4) = flatI (l.take i) := by
    have := congrArg (List.take (i * 4)) hcur
    rw [List.take_take, Nat.min_eq_left (by omega), flat_take l i (by omega)] at this
    exact this
  have hcl : cur.toList.length = c * 4 := by rw [Array.length_toList, hcs]
  have t1 : cur2.toList.take (i * 4) = flatI (l.take i) := by
    rw [m3, List.append_assoc, List.take_append_of_le_length (by rw [List.length_take, hcl]; omega), List.take_take, Nat.min_eq_left (by omega), hct]
  have t2 : (cur2.toList.drop (i * 4 + 4)).take ((l.length - i) * 4) = flatI (l.drop i) := by
    have e1 : i * 4 + 4 = (cur.toList.take ((i + 1) * 4)).length := by rw [List.length_take, hcl, Nat.min_eq_left (by omega)]; omega
    rw [m3, List.append_assoc, e1, List.drop_left' rfl, ← hdl, List.take_left' rfl]
  rw [n3, hlen, hsum, t1, hxl, List.append_assoc]
  have e : (l.length + 1) * 4 = (flatI (l.take i)).length + ((ic x).toList.length + (l.length - i) * 4) := by rw [hti, hxl]; omega
  rw [e, List.take_length_add_append, List.take_length_add_append, t2]

end Go.Proofs.Yteadkghffdiaoab
