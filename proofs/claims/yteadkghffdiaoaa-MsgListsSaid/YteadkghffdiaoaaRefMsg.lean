/- garlandref06.bare, has and Right: what each comes to. -/
import Derived.Test.YteadkghffdiaoaaMsgR
import Derived.Test.YteadkghffdiaoaaRefList
import Derived.Test.YteadkghffdiaoaaRSame
set_option linter.unusedVariables false
set_option linter.unusedSimpArgs false
namespace Go.Proofs.Yteadkghffdiaoaa
open Go.RowKit Go.Proofs.YteadkghffdiaoaaW.PrintWords

def bareR (m : Msg) : Msg :=
  if m.kind = 4 then { m with key := 0, slow := false }
  else if m.kind = 5 then { m with item := Item.zero }
  else if m.kind = 6 then { m with item := Item.zero }
  else if m.kind = 7 then { m with pred := 0, list := [] }
  else if m.kind = 10 then { m with place := 0, done := false }
  else if m.kind = 11 then { m with code := 0 }
  else if m.kind = 12 then { m with code := 0, item := Item.zero }
  else m
def hasS (m : Msg) : Bool :=
  if m.kind = 4 then placeS m.key
  else if m.kind = 5 then pairS m.item
  else if m.kind = 6 then pairS m.item && itemEqB m.item { Item.zero with key := m.item.key }
  else if m.kind = 7 then ((m.pred == -1) || placeS m.pred) && listS m.list m.frm
  else if m.kind = 10 then placeS m.place
  else if m.kind = 11 then (m.code == 0) || (m.code == 200)
  else if m.kind = 12 then ((m.code == 0) && pairS m.item) || ((m.code == 201) && itemEqB m.item Item.zero)
  else true

def bareA (m : Msg) (A : Option Addr) : Option Addr := if m.kind = 7 then none else A
def bareC (m : Msg) (c : Nat) : Nat := if m.kind = 7 then 0 else c
def BareP (m : Msg) (A : Option Addr) (c : Nat) (w : World) (e : Ending) (w' : World) : Prop := e = .returned (.agg (mc (bareR m) (bareA m A) (bareC m c))) ∧ Below w.heap.size w w'
theorem bareR_list {m : Msg} (h : m.kind ≠ 7) : (bareR m).list = m.list := by unfold bareR; (repeat' split) <;> first | rfl | contradiction
theorem bareR_RL {m : Msg} {A : Option Addr} {c : Nat} {W : World} (h : RL W A c m.list) : RL W (bareA m A) (bareC m c) (bareR m).list := by
  unfold bareA bareC
  by_cases hk : m.kind = 7
  · rw [if_pos hk, if_pos hk]
    have : (bareR m).list = [] := by unfold bareR; rw [if_neg (by omega), if_neg (by omega), if_neg (by omega), if_pos hk]
    rw [this]; exact RL.none_nil W
  · rw [if_neg hk, if_neg hk, bareR_list hk]; exact h

set_option maxHeartbeats 4000000 in
set_option maxRecDepth 100000 in
theorem bare_c (m : Msg) (A : Option Addr) (c : Nat) (w : World) : Calls Try.prog 31 #[.agg (mc m A c)] w (BareP m A c w) := by
  have hu := Try.underlying27
  have hi := Try.underlying24
  obtain ⟨W, hW, hb, k1, k2, hs⟩ := two_new w (.cells (mc m A c) 27) (.cells zmc 27)
  have g1 := cells_all k1
  have f1 := frozen_all k1
  have HG := Lib.hid k1
  have K2 := Lib.hid k2
  have HB := Lib.hid hb
  have HS := Lib.hid hs
  clear k1 k2 hb hs
  rcases (by omega : m.kind = 4 ∨ m.kind = 5 ∨ m.kind = 6 ∨ m.kind = 7 ∨ m.kind = 10 ∨ m.kind = 11 ∨ m.kind = 12 ∨ (m.kind ≠ 4 ∧ m.kind ≠ 5 ∧ m.kind ≠ 6 ∧ m.kind ≠ 7 ∧ m.kind ≠ 10 ∧ m.kind ≠ 11 ∧ m.kind ≠ 12)) with h | h | h | h | h | h | h | ⟨h4, h5, h6, h7, h10, h11, h12⟩
  · have ho : bareR m = { m with key := 0, slow := false } := by unfold bareR; rw [if_pos h]
    have b4 : (m.kind == 4) = true := by simpa using h
    have hA : Hid (bareA m A = A) := Lib.hid (by unfold bareA; rw [if_neg (by omega)])
    have hC : Hid (bareC m c = c) := Lib.hid (by unfold bareC; rw [if_neg (by omega)])
    have HO := Lib.hid ho; clear ho h
    go_enter Try.func31, Try.ntmps31
    go_upto_region 1 with fail
    rw [← hW]
    clear hW
    go_upto_region 15 with fail
    have k3 : (((W.setCell ⟨w.heap.size, 4, none⟩ (.int .i64 0)).setCell ⟨w.heap.size, 5, none⟩ (.bool false))).heap[w.heap.size]? = some (Obj.cells (mc (bareR m) A c) 27 (0, 0)) := by rw [HO.out]; exact blk_set (blk_set (HG.out) 4 _) 5 _
    have gg : W.grownBy (((W.setCell ⟨w.heap.size, 4, none⟩ (.int .i64 0)).setCell ⟨w.heap.size, 5, none⟩ (.bool false))) (some w.heap.size) := grown_set2 (grown_set2 (World.grownBy.refl _ _) 4 _) 5 _
    have k4 := (gg.block (w.heap.size + 1) (by rw [HS.out]; omega) (by simp)).trans K2.out
    have HB2 := Lib.hid (HB.out.grown gg HB.out.size (fun k e => by have := Option.some.inj e; omega))
    go_wp2_with (first
      | (refine gate_ (.load 27 (.tmp 1)) rfl ?_; refine wpList_load_blk 27 (.tmp 1) rfl rfl w.heap.size rfl k3 hu rfl msgSize ?_)
      | (refine gate_ (.store 27 (.tmp 2) (.tmp 30)) rfl ?_; refine wpList_store_blk 27 (.tmp 2) (.tmp 30) rfl rfl rfl (w.heap.size + 1) rfl k4 (cs := mc (bareR m) A c) rfl msgSize rfl (mcv_one rfl) ?_; intro w3 k5 hg3))
    refine bodyPost_ret (results_cell_row Try.results31 _ _ (w.heap.size + 1) _ _ (0, 0) _ rfl k5 hu rfl msgSize) rfl ⟨by rw [hA.out, hC.out], ?_⟩
    exact HB2.out.grown hg3 HB2.out.size (fun k e => by have := Option.some.inj e; omega)
  · have ho : bareR m = { m with item := Item.zero } := by unfold bareR; rw [if_neg (by omega)]; rw [if_pos h]
    have b4 : (m.kind == 4) = false := by simp; omega
    have b5 : (m.kind == 5) = true := by simpa using h
    have hA : Hid (bareA m A = A) := Lib.hid (by unfold bareA; rw [if_neg (by omega)])
    have hC : Hid (bareC m c = c) := Lib.hid (by unfold bareC; rw [if_neg (by omega)])
    have HO := Lib.hid ho; clear ho h
    go_enter Try.func31, Try.ntmps31
    go_upto_region 1 with fail
    rw [← hW]
    clear hW
    go_upto_region 15 with fail
    have k3 : (((((W.setCell ⟨w.heap.size, 10, none⟩ (.string ⟨#[]⟩)).setCell ⟨w.heap.size, 11, none⟩ (.int .i64 0)).setCell ⟨w.heap.size, 12, none⟩ (.int .i64 0)).setCell ⟨w.heap.size, 13, none⟩ (.bool false))).heap[w.heap.size]? = some (Obj.cells (mc (bareR m) A c) 27 (0, 0)) := by rw [HO.out]; exact blk_set (blk_set (blk_set (blk_set (HG.out) 10 _) 11 _) 12 _) 13 _
    have gg : W.grownBy (((((W.setCell ⟨w.heap.size, 10, none⟩ (.string ⟨#[]⟩)).setCell ⟨w.heap.size, 11, none⟩ (.int .i64 0)).setCell ⟨w.heap.size, 12, none⟩ (.int .i64 0)).setCell ⟨w.heap.size, 13, none⟩ (.bool false))) (some w.heap.size) := grown_set2 (grown_set2 (grown_set2 (grown_set2 (World.grownBy.refl _ _) 10 _) 11 _) 12 _) 13 _
    have k4 := (gg.block (w.heap.size + 1) (by rw [HS.out]; omega) (by simp)).trans K2.out
    have HB2 := Lib.hid (HB.out.grown gg HB.out.size (fun k e => by have := Option.some.inj e; omega))
    go_wp2_with (first
      | (refine gate_ (.load 27 (.tmp 1)) rfl ?_; refine wpList_load_blk 27 (.tmp 1) rfl rfl w.heap.size rfl k3 hu rfl msgSize ?_)
      | (refine gate_ (.store 27 (.tmp 2) (.tmp 30)) rfl ?_; refine wpList_store_blk 27 (.tmp 2) (.tmp 30) rfl rfl rfl (w.heap.size + 1) rfl k4 (cs := mc (bareR m) A c) rfl msgSize rfl (mcv_one rfl) ?_; intro w3 k5 hg3))
    refine bodyPost_ret (results_cell_row Try.results31 _ _ (w.heap.size + 1) _ _ (0, 0) _ rfl k5 hu rfl msgSize) rfl ⟨by rw [hA.out, hC.out], ?_⟩
    exact HB2.out.grown hg3 HB2.out.size (fun k e => by have := Option.some.inj e; omega)
  · have ho : bareR m = { m with item := Item.zero } := by unfold bareR; rw [if_neg (by omega)]; rw [if_neg (by omega)]; rw [if_pos h]
    have b4 : (m.kind == 4) = false := by simp; omega
    have b5 : (m.kind == 5) = false := by simp; omega
    have b6 : (m.kind == 6) = true := by simpa using h
    have hA : Hid (bareA m A = A) := Lib.hid (by unfold bareA; rw [if_neg (by omega)])
    have hC : Hid (bareC m c = c) := Lib.hid (by unfold bareC; rw [if_neg (by omega)])
    have HO := Lib.hid ho; clear ho h
    go_enter Try.func31, Try.ntmps31
    go_upto_region 1 with fail
    rw [← hW]
    clear hW
    go_upto_region 15 with fail
    have k3 : (((((W.setCell ⟨w.heap.size, 10, none⟩ (.string ⟨#[]⟩)).setCell ⟨w.heap.size, 11, none⟩ (.int .i64 0)).setCell ⟨w.heap.size, 12, none⟩ (.int .i64 0)).setCell ⟨w.heap.size, 13, none⟩ (.bool false))).heap[w.heap.size]? = some (Obj.cells (mc (bareR m) A c) 27 (0, 0)) := by rw [HO.out]; exact blk_set (blk_set (blk_set (blk_set (HG.out) 10 _) 11 _) 12 _) 13 _
    have gg : W.grownBy (((((W.setCell ⟨w.heap.size, 10, none⟩ (.string ⟨#[]⟩)).setCell ⟨w.heap.size, 11, none⟩ (.int .i64 0)).setCell ⟨w.heap.size, 12, none⟩ (.int .i64 0)).setCell ⟨w.heap.size, 13, none⟩ (.bool false))) (some w.heap.size) := grown_set2 (grown_set2 (grown_set2 (grown_set2 (World.grownBy.refl _ _) 10 _) 11 _) 12 _) 13 _
    have k4 := (gg.block (w.heap.size + 1) (by rw [HS.out]; omega) (by simp)).trans K2.out
    have HB2 := Lib.hid (HB.out.grown gg HB.out.size (fun k e => by have := Option.some.inj e; omega))
    go_wp2_with (first
      | (refine gate_ (.load 27 (.tmp 1)) rfl ?_; refine wpList_load_blk 27 (.tmp 1) rfl rfl w.heap.size rfl k3 hu rfl msgSize ?_)
      | (refine gate_ (.store 27 (.tmp 2) (.tmp 30)) rfl ?_; refine wpList_store_blk 27 (.tmp 2) (.tmp 30) rfl rfl rfl (w.heap.size + 1) rfl k4 (cs := mc (bareR m) A c) rfl msgSize rfl (mcv_one rfl) ?_; intro w3 k5 hg3))
    refine bodyPost_ret (results_cell_row Try.results31 _ _ (w.heap.size + 1) _ _ (0, 0) _ rfl k5 hu rfl msgSize) rfl ⟨by rw [hA.out, hC.out], ?_⟩
    exact HB2.out.grown hg3 HB2.out.size (fun k e => by have := Option.some.inj e; omega)
  · have ho : bareR m = { m with pred := 0, list := [] } := by unfold bareR; rw [if_neg (by omega)]; rw [if_neg (by omega)]; rw [if_neg (by omega)]; rw [if_pos h]
    have b4 : (m.kind == 4) = false := by simp; omega
    have b5 : (m.kind == 5) = false := by simp; omega
    have b6 : (m.kind == 6) = false := by simp; omega
    have b7 : (m.kind == 7) = true := by simpa using h
    have hA : Hid (bareA m A = none) := Lib.hid (by unfold bareA; rw [if_pos h])
    have hC : Hid (bareC m c = 0) := Lib.hid (by unfold bareC; rw [if_pos h])
    have HO := Lib.hid ho; clear ho h
    go_enter Try.func31, Try.ntmps31
    go_upto_region 1 with fail
    rw [← hW]
    clear hW
    go_upto_region 15 with fail
    have k3 : (((W.setCell ⟨w.heap.size, 8, none⟩ (.int .i64 0)).setCell ⟨w.heap.size, 9, none⟩ (.slice none 0 0))).heap[w.heap.size]? = some (Obj.cells (mc (bareR m) none 0) 27 (0, 0)) := by rw [HO.out]; exact blk_set (blk_set (HG.out) 8 _) 9 _
    have gg : W.grownBy (((W.setCell ⟨w.heap.size, 8, none⟩ (.int .i64 0)).setCell ⟨w.heap.size, 9, none⟩ (.slice none 0 0))) (some w.heap.size) := grown_set2 (grown_set2 (World.grownBy.refl _ _) 8 _) 9 _
    have k4 := (gg.block (w.heap.size + 1) (by rw [HS.out]; omega) (by simp)).trans K2.out
    have HB2 := Lib.hid (HB.out.grown gg HB.out.size (fun k e => by have := Option.some.inj e; omega))
    go_wp2_with (first
      | (refine gate_ (.load 27 (.tmp 1)) rfl ?_; refine wpList_load_blk 27 (.tmp 1) rfl rfl w.heap.size rfl k3 hu rfl msgSize ?_)
      | (refine gate_ (.store 27 (.tmp 2) (.tmp 30)) rfl ?_; refine wpList_store_blk 27 (.tmp 2) (.tmp 30) rfl rfl rfl (w.heap.size + 1) rfl k4 (cs := mc (bareR m) none 0) rfl msgSize rfl (mcv_one rfl) ?_; intro w3 k5 hg3))
    refine bodyPost_ret (results_cell_row Try.results31 _ _ (w.heap.size + 1) _ _ (0, 0) _ rfl k5 hu rfl msgSize) rfl ⟨by rw [hA.out, hC.out], ?_⟩
    exact HB2.out.grown hg3 HB2.out.size (fun k e => by have := Option.some.inj e; omega)
  · have ho : bareR m = { m with place := 0, done := false } := by unfold bareR; rw [if_neg (by omega)]; rw [if_neg (by omega)]; rw [if_neg (by omega)]; rw [if_neg (by omega)]; rw [if_pos h]
    have b4 : (m.kind == 4) = false := by simp; omega
    have b5 : (m.kind == 5) = false := by simp; omega
    have b6 : (m.kind == 6) = false := by simp; omega
    have b7 : (m.kind == 7) = false := by simp; omega
    have b10 : (m.kind == 10) = true := by simpa using h
    have hA : Hid (bareA m A = A) := Lib.hid (by unfold bareA; rw [if_neg (by omega)])
    have hC : Hid (bareC m c = c) := Lib.hid (by unfold bareC; rw [if_neg (by omega)])
    have HO := Lib.hid ho; clear ho h
    go_enter Try.func31, Try.ntmps31
    go_upto_region 1 with fail
    rw [← hW]
    clear hW
    go_upto_region 15 with fail
    have k3 : (((W.setCell ⟨w.heap.size, 7, none⟩ (.int .i64 0)).setCell ⟨w.heap.size, 6, none⟩ (.bool false))).heap[w.heap.size]? = some (Obj.cells (mc (bareR m) A c) 27 (0, 0)) := by rw [HO.out]; exact blk_set (blk_set (HG.out) 7 _) 6 _
    have gg : W.grownBy (((W.setCell ⟨w.heap.size, 7, none⟩ (.int .i64 0)).setCell ⟨w.heap.size, 6, none⟩ (.bool false))) (some w.heap.size) := grown_set2 (grown_set2 (World.grownBy.refl _ _) 7 _) 6 _
    have k4 := (gg.block (w.heap.size + 1) (by rw [HS.out]; omega) (by simp)).trans K2.out
    have HB2 := Lib.hid (HB.out.grown gg HB.out.size (fun k e => by have := Option.some.inj e; omega))
    go_wp2_with (first
      | (refine gate_ (.load 27 (.tmp 1)) rfl ?_; refine wpList_load_blk 27 (.tmp 1) rfl rfl w.heap.size rfl k3 hu rfl msgSize ?_)
      | (refine gate_ (.store 27 (.tmp 2) (.tmp 30)) rfl ?_; refine wpList_store_blk 27 (.tmp 2) (.tmp 30) rfl rfl rfl (w.heap.size + 1) rfl k4 (cs := mc (bareR m) A c) rfl msgSize rfl (mcv_one rfl) ?_; intro w3 k5 hg3))
    refine bodyPost_ret (results_cell_row Try.results31 _ _ (w.heap.size + 1) _ _ (0, 0) _ rfl k5 hu rfl msgSize) rfl ⟨by rw [hA.out, hC.out], ?_⟩
    exact HB2.out.grown hg3 HB2.out.size (fun k e => by have := Option.some.inj e; omega)
  · have ho : bareR m = { m with code := 0 } := by unfold bareR; rw [if_neg (by omega)]; rw [if_neg (by omega)]; rw [if_neg (by omega)]; rw [if_neg (by omega)]; rw [if_neg (by omega)]; rw [if_pos h]
    have b4 : (m.kind == 4) = false := by simp; omega
    have b5 : (m.kind == 5) = false := by simp; omega
    have b6 : (m.kind == 6) = false := by simp; omega
    have b7 : (m.kind == 7) = false := by simp; omega
    have b10 : (m.kind == 10) = false := by simp; omega
    have b11 : (m.kind == 11) = true := by simpa using h
    have hA : Hid (bareA m A = A) := Lib.hid (by unfold bareA; rw [if_neg (by omega)])
    have hC : Hid (bareC m c = c) := Lib.hid (by unfold bareC; rw [if_neg (by omega)])
    have HO := Lib.hid ho; clear ho h
    go_enter Try.func31, Try.ntmps31
    go_upto_region 1 with fail
    rw [← hW]
    clear hW
    go_upto_region 15 with fail
    have k3 : ((W.setCell ⟨w.heap.size, 14, none⟩ (.int .i64 0))).heap[w.heap.size]? = some (Obj.cells (mc (bareR m) A c) 27 (0, 0)) := by rw [HO.out]; exact blk_set (HG.out) 14 _
    have gg : W.grownBy ((W.setCell ⟨w.heap.size, 14, none⟩ (.int .i64 0))) (some w.heap.size) := grown_set2 (World.grownBy.refl _ _) 14 _
    have k4 := (gg.block (w.heap.size + 1) (by rw [HS.out]; omega) (by simp)).trans K2.out
    have HB2 := Lib.hid (HB.out.grown gg HB.out.size (fun k e => by have := Option.some.inj e; omega))
    go_wp2_with (first
      | (refine gate_ (.load 27 (.tmp 1)) rfl ?_; refine wpList_load_blk 27 (.tmp 1) rfl rfl w.heap.size rfl k3 hu rfl msgSize ?_)
      | (refine gate_ (.store 27 (.tmp 2) (.tmp 30)) rfl ?_; refine wpList_store_blk 27 (.tmp 2) (.tmp 30) rfl rfl rfl (w.heap.size + 1) rfl k4 (cs := mc (bareR m) A c) rfl msgSize rfl (mcv_one rfl) ?_; intro w3 k5 hg3))
    refine bodyPost_ret (results_cell_row Try.results31 _ _ (w.heap.size + 1) _ _ (0, 0) _ rfl k5 hu rfl msgSize) rfl ⟨by rw [hA.out, hC.out], ?_⟩
    exact HB2.out.grown hg3 HB2.out.size (fun k e => by have := Option.some.inj e; omega)
  · have ho : bareR m = { m with code := 0, item := Item.zero } := by unfold bareR; rw [if_neg (by omega)]; rw [if_neg (by omega)]; rw [if_neg (by omega)]; rw [if_neg (by omega)]; rw [if_neg (by omega)]; rw [if_neg (by omega)]; rw [if_pos h]
    have b4 : (m.kind == 4) = false := by simp; omega
    have b5 : (m.kind == 5) = false := by simp; omega
    have b6 : (m.kind == 6) = false := by simp; omega
    have b7 : (m.kind == 7) = false := by simp; omega
    have b10 : (m.kind == 10) = false := by simp; omega
    have b11 : (m.kind == 11) = false := by simp; omega
    have b12 : (m.kind == 12) = true := by simpa using h
    have hA : Hid (bareA m A = A) := Lib.hid (by unfold bareA; rw [if_neg (by omega)])
    have hC : Hid (bareC m c = c) := Lib.hid (by unfold bareC; rw [if_neg (by omega)])
    have HO := Lib.hid ho; clear ho h
    go_enter Try.func31, Try.ntmps31
    go_upto_region 1 with fail
    rw [← hW]
    clear hW
    go_upto_region 15 with fail
    have k3 : ((((((W.setCell ⟨w.heap.size, 14, none⟩ (.int .i64 0)).setCell ⟨w.heap.size, 10, none⟩ (.string ⟨#[]⟩)).setCell ⟨w.heap.size, 11, none⟩ (.int .i64 0)).setCell ⟨w.heap.size, 12, none⟩ (.int .i64 0)).setCell ⟨w.heap.size, 13, none⟩ (.bool false))).heap[w.heap.size]? = some (Obj.cells (mc (bareR m) A c) 27 (0, 0)) := by rw [HO.out]; exact blk_set (blk_set (blk_set (blk_set (blk_set (HG.out) 14 _) 10 _) 11 _) 12 _) 13 _
    have gg : W.grownBy ((((((W.setCell ⟨w.heap.size, 14, none⟩ (.int .i64 0)).setCell ⟨w.heap.size, 10, none⟩ (.string ⟨#[]⟩)).setCell ⟨w.heap.size, 11, none⟩ (.int .i64 0)).setCell ⟨w.heap.size, 12, none⟩ (.int .i64 0)).setCell ⟨w.heap.size, 13, none⟩ (.bool false))) (some w.heap.size) := grown_set2 (grown_set2 (grown_set2 (grown_set2 (grown_set2 (World.grownBy.refl _ _) 14 _) 10 _) 11 _) 12 _) 13 _
    have k4 := (gg.block (w.heap.size + 1) (by rw [HS.out]; omega) (by simp)).trans K2.out
    have HB2 := Lib.hid (HB.out.grown gg HB.out.size (fun k e => by have := Option.some.inj e; omega))
    go_wp2_with (first
      | (refine gate_ (.load 27 (.tmp 1)) rfl ?_; refine wpList_load_blk 27 (.tmp 1) rfl rfl w.heap.size rfl k3 hu rfl msgSize ?_)
      | (refine gate_ (.store 27 (.tmp 2) (.tmp 30)) rfl ?_; refine wpList_store_blk 27 (.tmp 2) (.tmp 30) rfl rfl rfl (w.heap.size + 1) rfl k4 (cs := mc (bareR m) A c) rfl msgSize rfl (mcv_one rfl) ?_; intro w3 k5 hg3))
    refine bodyPost_ret (results_cell_row Try.results31 _ _ (w.heap.size + 1) _ _ (0, 0) _ rfl k5 hu rfl msgSize) rfl ⟨by rw [hA.out, hC.out], ?_⟩
    exact HB2.out.grown hg3 HB2.out.size (fun k e => by have := Option.some.inj e; omega)
  · have ho : bareR m = m := by unfold bareR; rw [if_neg (by omega)]; rw [if_neg (by omega)]; rw [if_neg (by omega)]; rw [if_neg (by omega)]; rw [if_neg (by omega)]; rw [if_neg (by omega)]; rw [if_neg (by omega)]
    have b4 : (m.kind == 4) = false := by simp; omega
    have b5 : (m.kind == 5) = false := by simp; omega
    have b6 : (m.kind == 6) = false := by simp; omega
    have b7 : (m.kind == 7) = false := by simp; omega
    have b10 : (m.kind == 10) = false := by simp; omega
    have b11 : (m.kind == 11) = false := by simp; omega
    have b12 : (m.kind == 12) = false := by simp; omega
    have hA : Hid (bareA m A = A) := Lib.hid (by unfold bareA; rw [if_neg (by omega)])
    have hC : Hid (bareC m c = c) := Lib.hid (by unfold bareC; rw [if_neg (by omega)])
    have HO := Lib.hid ho; clear ho h4 h5 h6 h7 h10 h11 h12
    go_enter Try.func31, Try.ntmps31
    go_upto_region 1 with fail
    rw [← hW]
    clear hW
    go_upto_region 15 with fail
    have k3 : (W).heap[w.heap.size]? = some (Obj.cells (mc (bareR m) A c) 27 (0, 0)) := by rw [HO.out]; exact HG.out
    have gg : W.grownBy (W) (some w.heap.size) := World.grownBy.refl _ _
    have k4 := (gg.block (w.heap.size + 1) (by rw [HS.out]; omega) (by simp)).trans K2.out
    have HB2 := Lib.hid (HB.out.grown gg HB.out.size (fun k e => by have := Option.some.inj e; omega))
    go_wp2_with (first
      | (refine gate_ (.load 27 (.tmp 1)) rfl ?_; refine wpList_load_blk 27 (.tmp 1) rfl rfl w.heap.size rfl k3 hu rfl msgSize ?_)
      | (refine gate_ (.store 27 (.tmp 2) (.tmp 30)) rfl ?_; refine wpList_store_blk 27 (.tmp 2) (.tmp 30) rfl rfl rfl (w.heap.size + 1) rfl k4 (cs := mc (bareR m) A c) rfl msgSize rfl (mcv_one rfl) ?_; intro w3 k5 hg3))
    refine bodyPost_ret (results_cell_row Try.results31 _ _ (w.heap.size + 1) _ _ (0, 0) _ rfl k5 hu rfl msgSize) rfl ⟨by rw [hA.out, hC.out], ?_⟩
    exact HB2.out.grown hg3 HB2.out.size (fun k e => by have := Option.some.inj e; omega)

set_option maxHeartbeats 4000000 in
set_option maxRecDepth 100000 in
theorem has_c (m : Msg) (A : Option Addr) (c : Nat) (w : World) (hr : RL w A c m.list) : Calls Try.prog 32 #[.agg (mc m A c)] w fun e w' => e = .returned (.bool (hasS m)) ∧ Below w.heap.size w w' := by
  have hu := Try.underlying27
  have hi := Try.underlying24
  have qi : ∀ W, (binOp .eql 24 (.agg (ic m.item)) (.agg #[.string ⟨#[]⟩, .int .i64 0, .int .i64 0, .bool false])).run Try.prog W = .ok (.bool (itemEqB m.item Item.zero)) W := fun W => run_eql_item W m.item Item.zero
  have qj : ∀ W, (binOp .eql 24 (.agg (ic m.item)) (.agg #[.string m.item.key, .int .i64 0, .int .i64 0, .bool false])).run Try.prog W = .ok (.bool (itemEqB m.item { Item.zero with key := m.item.key })) W := fun W => run_eql_item W m.item { Item.zero with key := m.item.key }
  have HR := Lib.hid hr; clear hr
  obtain ⟨W, hW, hk⟩ : ∃ W, W = w.alloc (.cells (mc m A c) 27) ∧ W.heap[w.heap.size]? = some (.cells (mc m A c) 27 (0, 0)) := ⟨_, rfl, blk_new w _⟩
  have HB : Hid (Below w.heap.size w W) := Lib.hid (by rw [hW]; exact (Below.refl _ _).alloc (Nat.le_refl _) _)
  have HRW := Lib.hid (HR.out.below HB.out)
  have g1 := cells_all hk
  rcases (by omega : m.kind = 4 ∨ m.kind = 5 ∨ m.kind = 6 ∨ m.kind = 7 ∨ m.kind = 10 ∨ m.kind = 11 ∨ m.kind = 12 ∨ (m.kind ≠ 4 ∧ m.kind ≠ 5 ∧ m.kind ≠ 6 ∧ m.kind ≠ 7 ∧ m.kind ≠ 10 ∧ m.kind ≠ 11 ∧ m.kind ≠ 12)) with h | h | h | h | h | h | h | ⟨h4, h5, h6, h7, h10, h11, h12⟩
  · have ho : hasS m = placeS m.key := by unfold hasS; rw [if_pos h]
    have b4 : (m.kind == 4) = true := by simpa using h
    have HO := Lib.hid ho; clear ho h
    go_enter Try.func32, Try.ntmps32
    go_upto_region 1 with fail
    rw [← hW]
    clear hW hk
    go_wp2_with (go_at_call 26; refine (rplace_c _ _).mono ?_; rintro e w' ⟨rfl, rfl⟩)
    all_goals
      go_ret
      exact ⟨ret_b (by rw [HO.out] <;> simp [*]), by first | exact HB2.out | exact HB.out⟩
  · have ho : hasS m = pairS m.item := by unfold hasS; rw [if_neg (by omega)]; rw [if_pos h]
    have b4 : (m.kind == 4) = false := by simp; omega
    have b5 : (m.kind == 5) = true := by simpa using h
    have HO := Lib.hid ho; clear ho h
    go_enter Try.func32, Try.ntmps32
    go_upto_region 1 with fail
    rw [← hW]
    clear hW hk
    go_wp2_with (go_at_call 13; refine (rpair_c m.item _).mono ?_; rintro e w' ⟨rfl, hb⟩; have HB2 := Lib.hid (below_step HB.out hb); have g2 := fun j => (hb.cell (p := ⟨w.heap.size, j, none⟩) (World.block_lt_of_cell? _ ⟨w.heap.size, 0, none⟩ ((g1 0).trans rfl))).trans (g1 j); clear hb)
    all_goals
      go_ret
      exact ⟨ret_b (by rw [HO.out] <;> simp [*]), by first | exact HB2.out | exact HB.out⟩
  · have ho : hasS m = (pairS m.item && itemEqB m.item { Item.zero with key := m.item.key }) := by unfold hasS; rw [if_neg (by omega)]; rw [if_neg (by omega)]; rw [if_pos h]
    have b4 : (m.kind == 4) = false := by simp; omega
    have b5 : (m.kind == 5) = false := by simp; omega
    have b6 : (m.kind == 6) = true := by simpa using h
    have HO := Lib.hid ho; clear ho h
    go_enter Try.func32, Try.ntmps32
    go_upto_region 1 with fail
    rw [← hW]
    clear hW hk
    go_wp2_with (go_at_call 13; refine (rpair_c m.item _).mono ?_; rintro e w' ⟨rfl, hb⟩; have HB2 := Lib.hid (below_step HB.out hb); have g2 := fun j => (hb.cell (p := ⟨w.heap.size, j, none⟩) (World.block_lt_of_cell? _ ⟨w.heap.size, 0, none⟩ ((g1 0).trans rfl))).trans (g1 j); clear hb)
    all_goals
      go_ret
      exact ⟨ret_b (by rw [HO.out] <;> simp [*]), by first | exact HB2.out | exact HB.out⟩
  · have ho : hasS m = (((m.pred == -1) || placeS m.pred) && listS m.list m.frm) := by unfold hasS; rw [if_neg (by omega)]; rw [if_neg (by omega)]; rw [if_neg (by omega)]; rw [if_pos h]
    have b4 : (m.kind == 4) = false := by simp; omega
    have b5 : (m.kind == 5) = false := by simp; omega
    have b6 : (m.kind == 6) = false := by simp; omega
    have b7 : (m.kind == 7) = true := by simpa using h
    have HO := Lib.hid ho; clear ho h
    go_enter Try.func32, Try.ntmps32
    go_upto_region 1 with fail
    rw [← hW]
    clear hW hk
    go_wp2_with (first | (go_at_call 26; refine (rplace_c _ _).mono ?_; rintro e w' ⟨rfl, rfl⟩) | (go_at_call 36; go_must (refine (rlist_c _ _ _ _ _ HRW.out).mono ?_); rintro e w' ⟨rfl, hb⟩; have HB2 := Lib.hid (below_step HB.out hb); clear hb))
    all_goals
      go_ret
      exact ⟨ret_b (by rw [HO.out] <;> simp [*]), by first | exact HB2.out | exact HB.out⟩
  · have ho : hasS m = placeS m.place := by unfold hasS; rw [if_neg (by omega)]; rw [if_neg (by omega)]; rw [if_neg (by omega)]; rw [if_neg (by omega)]; rw [if_pos h]
    have b4 : (m.kind == 4) = false := by simp; omega
    have b5 : (m.kind == 5) = false := by simp; omega
    have b6 : (m.kind == 6) = false := by simp; omega
    have b7 : (m.kind == 7) = false := by simp; omega
    have b10 : (m.kind == 10) = true := by simpa using h
    have HO := Lib.hid ho; clear ho h
    go_enter Try.func32, Try.ntmps32
    go_upto_region 1 with fail
    rw [← hW]
    clear hW hk
    go_wp2_with (go_at_call 26; refine (rplace_c _ _).mono ?_; rintro e w' ⟨rfl, rfl⟩)
    all_goals
      go_ret
      exact ⟨ret_b (by rw [HO.out] <;> simp [*]), by first | exact HB2.out | exact HB.out⟩
  · have ho : hasS m = ((m.code == 0) || (m.code == 200)) := by unfold hasS; rw [if_neg (by omega)]; rw [if_neg (by omega)]; rw [if_neg (by omega)]; rw [if_neg (by omega)]; rw [if_neg (by omega)]; rw [if_pos h]
    have b4 : (m.kind == 4) = false := by simp; omega
    have b5 : (m.kind == 5) = false := by simp; omega
    have b6 : (m.kind == 6) = false := by simp; omega
    have b7 : (m.kind == 7) = false := by simp; omega
    have b10 : (m.kind == 10) = false := by simp; omega
    have b11 : (m.kind == 11) = true := by simpa using h
    have HO := Lib.hid ho; clear ho h
    go_enter Try.func32, Try.ntmps32
    go_upto_region 1 with fail
    rw [← hW]
    clear hW hk
    go_wp2_with fail
    all_goals
      go_ret
      exact ⟨ret_b (by rw [HO.out] <;> simp [*]), by first | exact HB2.out | exact HB.out⟩
  · have ho : hasS m = (((m.code == 0) && pairS m.item) || ((m.code == 201) && itemEqB m.item Item.zero)) := by unfold hasS; rw [if_neg (by omega)]; rw [if_neg (by omega)]; rw [if_neg (by omega)]; rw [if_neg (by omega)]; rw [if_neg (by omega)]; rw [if_neg (by omega)]; rw [if_pos h]
    have b4 : (m.kind == 4) = false := by simp; omega
    have b5 : (m.kind == 5) = false := by simp; omega
    have b6 : (m.kind == 6) = false := by simp; omega
    have b7 : (m.kind == 7) = false := by simp; omega
    have b10 : (m.kind == 10) = false := by simp; omega
    have b11 : (m.kind == 11) = false := by simp; omega
    have b12 : (m.kind == 12) = true := by simpa using h
    have HO := Lib.hid ho; clear ho h
    go_enter Try.func32, Try.ntmps32
    go_upto_region 1 with fail
    rw [← hW]
    clear hW hk
    go_wp2_with (go_at_call 13; refine (rpair_c m.item _).mono ?_; rintro e w' ⟨rfl, hb⟩; have HB2 := Lib.hid (below_step HB.out hb); have g2 := fun j => (hb.cell (p := ⟨w.heap.size, j, none⟩) (World.block_lt_of_cell? _ ⟨w.heap.size, 0, none⟩ ((g1 0).trans rfl))).trans (g1 j); clear hb)
    all_goals
      go_ret
      exact ⟨ret_b (by rw [HO.out] <;> simp [*]), by first | exact HB2.out | exact HB.out⟩
  · have ho : hasS m = true := by unfold hasS; rw [if_neg (by omega)]; rw [if_neg (by omega)]; rw [if_neg (by omega)]; rw [if_neg (by omega)]; rw [if_neg (by omega)]; rw [if_neg (by omega)]; rw [if_neg (by omega)]
    have b4 : (m.kind == 4) = false := by simp; omega
    have b5 : (m.kind == 5) = false := by simp; omega
    have b6 : (m.kind == 6) = false := by simp; omega
    have b7 : (m.kind == 7) = false := by simp; omega
    have b10 : (m.kind == 10) = false := by simp; omega
    have b11 : (m.kind == 11) = false := by simp; omega
    have b12 : (m.kind == 12) = false := by simp; omega
    have HO := Lib.hid ho; clear ho h4 h5 h6 h7 h10 h11 h12
    go_enter Try.func32, Try.ntmps32
    go_upto_region 1 with fail
    rw [← hW]
    clear hW hk
    go_wp2_with fail
    all_goals
      go_ret
      exact ⟨ret_b (by rw [HO.out] <;> simp [*]), by first | exact HB2.out | exact HB.out⟩

end Go.Proofs.Yteadkghffdiaoaa
