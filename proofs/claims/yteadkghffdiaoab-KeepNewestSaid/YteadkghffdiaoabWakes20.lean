/- Law 20: wakes. -/
import Derived.Test.YteadkghffdiaoabWakes20A
set_option linter.unusedVariables false
set_option linter.unusedSimpArgs false
set_option maxRecDepth 100000
namespace Go.Proofs.Yteadkghffdiaoab
open Go.RowKit Go.Proofs.YteadkghffdiaoabW.PrintWords

structure WN (w : World) (g3 g7 g9 : Nat) (A : Option Addr) (c : Nat) (w' : World) : Prop where
  k3 : w'.heap[g3]? = some (.cells (ic wB3) 25 (0, 0))
  k7 : w'.heap[g7]? = some (.cells (ic wB3) 25 (0, 0))
  k9 : w'.heap[g9]? = some (.cells (ic wA) 25 (0, 0))
  hr : RI w' A c [wA, wB3]
  below : Below w.heap.size w w'
theorem WN.step {w w1 w2 : World} {g3 g7 g9 c : Nat} {A : Option Addr} (h : WN w g3 g7 g9 A c w1) (hb : Below w1.heap.size w1 w2) : WN w g3 g7 g9 A c w2 :=
  ⟨blk_below h.k3 hb, blk_below h.k7 hb, blk_below h.k9 hb, h.hr.below hb, below_step h.below hb⟩
theorem WN.drew {w w1 : World} {g3 g7 g9 c : Nat} {A : Option Addr} (h : WN w g3 g7 g9 A c w1) : WN w g3 g7 g9 A c w1.drew := ⟨h.k3, h.k7, h.k9, ⟨h.hr.r, h.hr.le⟩, below_drewN h.below 1⟩

section
variable {P : Program} {Q : Exit → Act → World → Prop} {S : World → Prop} {i : Nat} {o : Oper} {rest : List (Nat × Bool)} {a : Act} {w : World} {l : List Oper}
theorem ord_slice {v : Value} {w1 : World} {ty : TypeId} {ps : Array (Nat × Operand)} (n : Nat) (hi : l[i]? = some o) (ho : o.op = .buildSlice ty n ps) (hw : Region.wanted o (yielded l.toArray a.tmps) = true) (hy : (execOp a.eval o).run P w = .ok (.value v) w1) (h : S w1 ∧ wpOrd P l Q S rest (a.put o.dst v) w1) : wpOrd P l Q S ((i, true) :: rest) a w := ord_run hi hw hy h
end

set_option maxHeartbeats 4000000 in
set_option maxRecDepth 100000 in
theorem wakes_c (w : World) : Calls Try.prog 24 #[] w fun e w' => e = .returned (.bool true) ∧ Below w.heap.size w w' := by
  have hu := Try.underlying25
  have HB := Lib.hid (Below.refl w.heap.size w)
  go_enter Try.func24, Try.ntmps24
  go_upto_region 2 with (first
    | (go_at_call 52; with_reducible refine Calls.mono (of_w1 _) ?_; rintro e w1 ⟨rfl, hb⟩; have HB := Lib.hid (below_step HB.out hb); clear hb)
    | (go_at_call 52; with_reducible refine Calls.mono (of_w2 _) ?_; rintro e w1 ⟨rfl, hb⟩; have HB := Lib.hid (below_step HB.out hb); clear hb)
    | (go_at_call 52; with_reducible refine Calls.mono (of_w3 _) ?_; rintro e w1 ⟨rfl, hb⟩; have HB := Lib.hid (below_step HB.out hb); clear hb)
    | (go_at_call 52; with_reducible refine Calls.mono (of_w4 _) ?_; rintro e w4 ⟨rfl, hb⟩; have HB := Lib.hid (below_step HB.out hb); clear hb)
    | (go_at_call 26; refine (all_wk _ _ (ri_new _ [wB1, wA, wB2, wB3] (by decide))).mono ?_; rintro e w5 ⟨A, c, rfl, hR, hb⟩; have HB := Lib.hid (below_step (below_step HB.out (alloc_belowK _ _)) hb); have HR := Lib.hid hR; clear hb hR))
  go_upto_region 3 with (first
    | (go_at_call 28; with_reducible refine Calls.mono (get_wk _ A c HR.out) ?_; rintro e x3 ⟨rfl, hb⟩; have HR := Lib.hid (HR.out.below hb); have HB := Lib.hid (below_step HB.out hb); clear hb)
    | (refine gate_ (.store 25 (.tmp 3) (.tmp 27)) rfl ?_; refine wpList_store_new 25 (.tmp 3) (.tmp 27) rfl rfl rfl rfl (cs := ic wB3) rfl itemSize rfl (ic_one _) ?_; intro y3 k3 hb; have HR := Lib.hid (HR.out.below hb); have HB := Lib.hid (below_step HB.out hb); clear hb))
  go_upto_region 4 with (first
    | (go_at_call 28; with_reducible refine Calls.mono (get_wc _ A c HR.out) ?_; rintro e x4 ⟨rfl, hb⟩; have HR := Lib.hid (HR.out.below hb); have HB := Lib.hid (below_step HB.out hb); have k3 := blk_below k3 hb; clear hb)
    | (refine gate_ (.store 25 (.tmp 5) (.tmp 32)) rfl ?_; refine wpList_store_new 25 (.tmp 5) (.tmp 32) rfl rfl rfl rfl (cs := ic Item.zero) rfl itemSize rfl (ic_one _) ?_; intro y4 k5 hb; have HR := Lib.hid (HR.out.below hb); have HB := Lib.hid (below_step HB.out hb); have k3 := blk_below k3 hb; clear hb))
  clear k5
  go_upto_region 5 with (first
    | (go_at_call 34; with_reducible refine Calls.mono (next_wa _ A c HR.out) ?_; rintro e x5 ⟨rfl, hb⟩; have HR := Lib.hid (HR.out.below hb); have HB := Lib.hid (below_step HB.out hb); have k3 := blk_below k3 hb; clear hb)
    | (refine gate_ (.store 25 (.tmp 7) (.tmp 37)) rfl ?_; refine wpList_store_new 25 (.tmp 7) (.tmp 37) rfl rfl rfl rfl (cs := ic wB3) rfl itemSize rfl (ic_one _) ?_; intro y5 k7 hb; have HR := Lib.hid (HR.out.below hb); have HB := Lib.hid (below_step HB.out hb); have k3 := blk_below k3 hb; clear hb))
  go_upto_region 6 with (first
    | (go_at_call 34; with_reducible refine Calls.mono (next_wb _ A c HR.out) ?_; rintro e x6 ⟨rfl, hb⟩; have HR := Lib.hid (HR.out.below hb); have HB := Lib.hid (below_step HB.out hb); have k3 := blk_below k3 hb; have k7 := blk_below k7 hb; clear hb)
    | (refine gate_ (.store 25 (.tmp 9) (.tmp 42)) rfl ?_; refine wpList_store_new 25 (.tmp 9) (.tmp 42) rfl rfl rfl rfl (cs := ic wA) rfl itemSize rfl (ic_one _) ?_; intro y6 k9 hb; have HR := Lib.hid (HR.out.below hb); have HB := Lib.hid (below_step HB.out hb); have k3 := blk_below k3 hb; have k7 := blk_below k7 hb; clear hb))
  go_upto_region 7 with (first
    | (go_at_call 34; with_reducible refine Calls.mono (next_w0 _) ?_; rintro e x7 ⟨rfl, hb⟩; have HR := Lib.hid (HR.out.below hb); have HB := Lib.hid (below_step HB.out hb); have k3 := blk_below k3 hb; have k7 := blk_below k7 hb; have k9 := blk_below k9 hb; clear hb)
    | (refine gate_ (.store 25 (.tmp 11) (.tmp 46)) rfl ?_; refine wpList_store_new 25 (.tmp 11) (.tmp 46) rfl rfl rfl rfl (cs := ic Item.zero) rfl itemSize rfl (ic_one _) ?_; intro y7 k11 hb; have HR := Lib.hid (HR.out.below hb); have HB := Lib.hid (below_step HB.out hb); have k3 := blk_below k3 hb; have k7 := blk_below k7 hb; have k9 := blk_below k9 hb; clear hb))
  clear k11
  go_upto_region 8 with (go_at_call 53; with_reducible refine Calls.mono (put_wk _ A c HR.out) ?_; rintro e x8 ⟨vp, rfl, hb⟩; have HR := Lib.hid (HR.out.below hb); have HB := Lib.hid (below_step HB.out hb); have k3 := blk_below k3 hb; have k7 := blk_below k7 hb; have k9 := blk_below k9 hb; clear hb)
  have sf : WN w x3.heap.size x5.heap.size x6.heap.size A c x8 := ⟨k3, k7, k9, HR.out, HB.out⟩
  have sf := sf.drew
  clear k3 k7 k9 HR HB
  have b3 : ∀ W1, WN w x3.heap.size x5.heap.size x6.heap.size A c W1 → _ := fun W1 h => h.k3
  have q7 : ∀ W1, WN w x3.heap.size x5.heap.size x6.heap.size A c W1 → W1.cell? ⟨x5.heap.size, 0, none⟩ = some (.string ⟨#[98]⟩) := fun W1 h => cells_all h.k7 0
  have q9 : ∀ W1, WN w x3.heap.size x5.heap.size x6.heap.size A c W1 → W1.cell? ⟨x6.heap.size, 0, none⟩ = some (.string ⟨#[97]⟩) := fun W1 h => cells_all h.k9 0
  have qi := fun W => run_eql_item W wB3 wB3
  simp only [show itemEqB wB3 wB3 = true by decide +kernel] at qi
  try simp only [List.append_eq, List.cons_append, List.nil_append]
  refine region_ord (WN w x3.heap.size x5.heap.size x6.heap.size A c) [(0, false), (1, false), (2, false), (3, false), (4, true), (5, true), (6, true), (7, true), (8, false), (9, false), (10, false), (11, true), (12, false), (13, false), (14, false), (15, false), (16, false), (17, false), (18, false), (19, false), (20, false), (21, false), (22, false), (23, false), (24, false), (25, false), (26, false), (27, false), (28, false), (29, false), (30, false), (31, false), (32, false), (33, false), (34, false), (35, false), (36, false), (37, false), (38, false), (39, false), (40, false), (41, false), (42, false), (43, false), (44, false), (45, false), (46, false), (47, false), (48, true), (49, false), (50, false), (51, false), (52, true), (53, true), (54, false), (55, false), (56, false), (57, false), (58, true), (59, false), (60, false), (61, false), (62, false)] (by kernel_rfl) (by kernel_rfl) rfl (by kernel_rfl) sf ?_
  iterate 63 ((first | (refine ord_skip rfl rfl ?_; (try simp only [Act.put, List.setIfInBounds_toArray, List.set_cons_zero, List.set_cons_succ])) | ((first | refine ord_load_blk 25 (.tmp 3) rfl rfl rfl x3.heap.size rfl b3 hu rfl itemSize ?_ | (with_reducible refine ord_callB 52 rfl rfl rfl (of_w2 _) (fun w' hb => WN.step sf hb) ?_ ?_; (· (go_simp; done)); intro wn sf) | (with_reducible refine ord_callB 52 rfl rfl rfl (of_w4 _) (fun w' hb => WN.step sf hb) ?_ ?_; (· (go_simp; done)); intro wn sf) | (with_reducible refine ord_callB 31 rfl rfl rfl (items_wk _ A c _ sf.hr hr6) (fun w' hb => WN.step sf hb) ?_ ?_; (· (go_simp; done)); intro wn sf) | (with_reducible refine ord_callB 27 rfl rfl rfl (right_wk _ A c sf.hr) (fun w' hb => WN.step sf hb) ?_ ?_; (· (go_simp; done)); intro wn sf) | (with_reducible refine ord_callB 27 rfl rfl rfl (right_wz _ _ hr52) (fun w' hb => WN.step sf hb) ?_ ?_; (· (go_simp; done)); intro wn sf) | (refine ord_call (R := fun u w' => ∃ A8 c8, u = .slice A8 2 c8 ∧ Below _ _ w') 54 rfl rfl rfl ((own_wk _ A c sf.hr).mono (fun e w' ⟨A8, c8, he, hb⟩ => ⟨_, he, A8, c8, rfl, hb⟩)) ?_ ?_; (· (go_simp; done)); rintro v wn ⟨A8, c8, rfl, hb⟩; have sf := WN.step sf hb; refine ⟨sf, ?_⟩; clear hb) | (refine ord_slice (v := .slice (some ⟨wn.heap.size, 0, none⟩) 2 2) (w1 := wn.alloc (.cells (flatI [wA, wB3]).toArray 25)) 2 rfl rfl ?_ ?_ ?_; (· rfl); (· (go_simp; first | done | rfl)); refine ⟨sf.step (alloc_belowK _ _), ?_⟩; have hr6 := ri_new wn [wA, wB3] (by decide); have sf := sf.step (alloc_belowK wn (.cells (flatI [wA, wB3]).toArray 25))) | (refine ord_slice (v := .slice (some ⟨wn.heap.size, 0, none⟩) 1 1) (w1 := wn.alloc (.cells (flatI [Item.zero]).toArray 25)) 1 rfl rfl ?_ ?_ ?_; (· rfl); (· (go_simp; first | done | rfl)); refine ⟨sf.step (alloc_belowK _ _), ?_⟩; have hr52 := ri_new wn [Item.zero] (by decide); have sf := sf.step (alloc_belowK wn (.cells (flatI [Item.zero]).toArray 25)))); (try simp only [Act.put, List.setIfInBounds_toArray, List.set_cons_zero, List.set_cons_succ])) | (refine ord_val (v := ?_) rfl rfl (fun W1 hW1 => ?_) ?_; rotate_left; (· (go_simp; try with_reducible rfl)); (try simp only [Act.put, List.setIfInBounds_toArray, List.set_cons_zero, List.set_cons_succ]))))
  refine ord_nil ?_
  go_wp2
  go_ret
  exact ⟨rfl, sf.below⟩

end Go.Proofs.Yteadkghffdiaoab
