/- msg.fine: is what a kind may have as it is to be? -/
import Derived.Test.YteadkghffdiaoaaMsgD
import Derived.Test.YteadkghffdiaoaaMsgList
set_option linter.unusedVariables false
set_option linter.unusedSimpArgs false
namespace Go.Proofs.Yteadkghffdiaoaa
open Go.RowKit Go.Proofs.YteadkghffdiaoaaW.PrintWords

def fineS (m : Msg) : Bool :=
  if m.kind = 4 then placeS m.key
  else if m.kind = 5 then pairS m.item
  else if m.kind = 6 then keyS m.item.key
  else if m.kind = 7 then ((m.pred == -1) || placeS m.pred) && listS m.list m.frm
  else if m.kind = 10 then placeS m.place
  else if m.kind = 11 then (m.code == 0) || (m.code == 200)
  else if m.kind = 12 then ((m.code == 0) && pairS m.item) || ((m.code == 201) && itemEqB m.item Item.zero)
  else true

set_option maxHeartbeats 4000000 in
set_option maxRecDepth 100000 in
theorem fine_c (m : Msg) (A : Option Addr) (c : Nat) (w : World) (hr : RL w A c m.list) : Calls Try.prog 29 #[.agg (mc m A c)] w fun e w' => e = .returned (.bool (fineS m)) ∧ Below w.heap.size w w' := by
  have hu := Try.underlying27
  have hi := Try.underlying24
  have qi : ∀ W, (binOp .eql 24 (.agg (ic m.item)) (.agg #[.string ⟨#[]⟩, .int .i64 0, .int .i64 0, .bool false])).run Try.prog W = .ok (.bool (itemEqB m.item Item.zero)) W := fun W => run_eql_item W m.item Item.zero
  have HR := Lib.hid hr; clear hr
  obtain ⟨W, hW, hk⟩ : ∃ W, W = w.alloc (.cells (mc m A c) 27) ∧ W.heap[w.heap.size]? = some (.cells (mc m A c) 27 (0, 0)) := ⟨_, rfl, blk_new w _⟩
  have HB : Hid (Below w.heap.size w W) := Lib.hid (by rw [hW]; exact (Below.refl _ _).alloc (Nat.le_refl _) _)
  have HRW := Lib.hid (HR.out.below HB.out)
  have g1 := cells_all hk
  rcases (by omega : m.kind = 4 ∨ m.kind = 5 ∨ m.kind = 6 ∨ m.kind = 7 ∨ m.kind = 10 ∨ m.kind = 11 ∨ m.kind = 12 ∨ (m.kind ≠ 4 ∧ m.kind ≠ 5 ∧ m.kind ≠ 6 ∧ m.kind ≠ 7 ∧ m.kind ≠ 10 ∧ m.kind ≠ 11 ∧ m.kind ≠ 12)) with h | h | h | h | h | h | h | ⟨h4, h5, h6, h7, h10, h11, h12⟩
  · have ho : fineS m = (placeS m.key) := by unfold fineS; rw [if_pos h]
    have b4 : (m.kind == 4) = true := by simpa using h
    have HO := Lib.hid ho; clear ho h
    go_enter Try.func29, Try.ntmps29
    go_upto_region 1 with fail
    rw [← hW]
    clear hW hk
    go_wp2_with (go_at_call 25; refine (place_c _ _).mono ?_; rintro e w' ⟨rfl, rfl⟩)
    all_goals
      go_ret
      exact ⟨ret_b (by rw [HO.out] <;> simp [*]), by first | exact HB2.out | exact HB.out⟩
  · have ho : fineS m = (pairS m.item) := by unfold fineS; rw [if_neg (by omega)]; rw [if_pos h]
    have b4 : (m.kind == 4) = false := by simp; omega
    have b5 : (m.kind == 5) = true := by simpa using h
    have HO := Lib.hid ho; clear ho h
    go_enter Try.func29, Try.ntmps29
    go_upto_region 1 with fail
    rw [← hW]
    clear hW hk
    go_wp2_with (go_at_call 12; refine (pair_c m.item _).mono ?_; rintro e w' ⟨rfl, hb⟩; have HB2 := Lib.hid (below_step HB.out hb); clear hb)
    all_goals
      go_ret
      exact ⟨ret_b (by rw [HO.out] <;> simp [*]), by first | exact HB2.out | exact HB.out⟩
  · have ho : fineS m = (keyS m.item.key) := by unfold fineS; rw [if_neg (by omega)]; rw [if_neg (by omega)]; rw [if_pos h]
    have b4 : (m.kind == 4) = false := by simp; omega
    have b5 : (m.kind == 5) = false := by simp; omega
    have b6 : (m.kind == 6) = true := by simpa using h
    have HO := Lib.hid ho; clear ho h
    go_enter Try.func29, Try.ntmps29
    go_upto_region 1 with fail
    rw [← hW]
    clear hW hk
    go_wp2_with (go_at_call 27; refine (key_c _ _).mono ?_; rintro e w' ⟨rfl, rfl⟩)
    all_goals
      go_ret
      exact ⟨ret_b (by rw [HO.out] <;> simp [*]), by first | exact HB2.out | exact HB.out⟩
  · have ho : fineS m = (((m.pred == -1) || placeS m.pred) && listS m.list m.frm) := by unfold fineS; rw [if_neg (by omega)]; rw [if_neg (by omega)]; rw [if_neg (by omega)]; rw [if_pos h]
    have b4 : (m.kind == 4) = false := by simp; omega
    have b5 : (m.kind == 5) = false := by simp; omega
    have b6 : (m.kind == 6) = false := by simp; omega
    have b7 : (m.kind == 7) = true := by simpa using h
    have HO := Lib.hid ho; clear ho h
    go_enter Try.func29, Try.ntmps29
    go_upto_region 1 with fail
    rw [← hW]
    clear hW hk
    go_wp2_with (first | (go_at_call 25; refine (place_c _ _).mono ?_; rintro e w' ⟨rfl, rfl⟩) | (go_at_call 35; go_must (refine (list_c _ _ _ _ _ HRW.out).mono ?_); rintro e w' ⟨rfl, hb⟩; have HB2 := Lib.hid (below_step HB.out hb); clear hb))
    all_goals
      go_ret
      exact ⟨ret_b (by rw [HO.out] <;> simp [*]), by first | exact HB2.out | exact HB.out⟩
  · have ho : fineS m = (placeS m.place) := by unfold fineS; rw [if_neg (by omega)]; rw [if_neg (by omega)]; rw [if_neg (by omega)]; rw [if_neg (by omega)]; rw [if_pos h]
    have b4 : (m.kind == 4) = false := by simp; omega
    have b5 : (m.kind == 5) = false := by simp; omega
    have b6 : (m.kind == 6) = false := by simp; omega
    have b7 : (m.kind == 7) = false := by simp; omega
    have b10 : (m.kind == 10) = true := by simpa using h
    have HO := Lib.hid ho; clear ho h
    go_enter Try.func29, Try.ntmps29
    go_upto_region 1 with fail
    rw [← hW]
    clear hW hk
    go_wp2_with (go_at_call 25; refine (place_c _ _).mono ?_; rintro e w' ⟨rfl, rfl⟩)
    all_goals
      go_ret
      exact ⟨ret_b (by rw [HO.out] <;> simp [*]), by first | exact HB2.out | exact HB.out⟩
  · have ho : fineS m = ((m.code == 0) || (m.code == 200)) := by unfold fineS; rw [if_neg (by omega)]; rw [if_neg (by omega)]; rw [if_neg (by omega)]; rw [if_neg (by omega)]; rw [if_neg (by omega)]; rw [if_pos h]
    have b4 : (m.kind == 4) = false := by simp; omega
    have b5 : (m.kind == 5) = false := by simp; omega
    have b6 : (m.kind == 6) = false := by simp; omega
    have b7 : (m.kind == 7) = false := by simp; omega
    have b10 : (m.kind == 10) = false := by simp; omega
    have b11 : (m.kind == 11) = true := by simpa using h
    have HO := Lib.hid ho; clear ho h
    go_enter Try.func29, Try.ntmps29
    go_upto_region 1 with fail
    rw [← hW]
    clear hW hk
    go_wp2
    all_goals
      go_ret
      exact ⟨ret_b (by rw [HO.out] <;> simp [*]), by first | exact HB2.out | exact HB.out⟩
  · have ho : fineS m = (((m.code == 0) && pairS m.item) || ((m.code == 201) && itemEqB m.item Item.zero)) := by unfold fineS; rw [if_neg (by omega)]; rw [if_neg (by omega)]; rw [if_neg (by omega)]; rw [if_neg (by omega)]; rw [if_neg (by omega)]; rw [if_neg (by omega)]; rw [if_pos h]
    have b4 : (m.kind == 4) = false := by simp; omega
    have b5 : (m.kind == 5) = false := by simp; omega
    have b6 : (m.kind == 6) = false := by simp; omega
    have b7 : (m.kind == 7) = false := by simp; omega
    have b10 : (m.kind == 10) = false := by simp; omega
    have b11 : (m.kind == 11) = false := by simp; omega
    have b12 : (m.kind == 12) = true := by simpa using h
    have HO := Lib.hid ho; clear ho h
    go_enter Try.func29, Try.ntmps29
    go_upto_region 1 with fail
    rw [← hW]
    clear hW hk
    go_wp2_with (go_at_call 12; refine (pair_c m.item _).mono ?_; rintro e w' ⟨rfl, hb⟩; have HB2 := Lib.hid (below_step HB.out hb); have g2 := fun j => (hb.cell (p := ⟨w.heap.size, j, none⟩) (World.block_lt_of_cell? _ ⟨w.heap.size, 0, none⟩ ((g1 0).trans rfl))).trans (g1 j); clear hb)
    all_goals
      go_ret
      exact ⟨ret_b (by rw [HO.out] <;> simp [*]), by first | exact HB2.out | exact HB.out⟩
  · have ho : fineS m = true := by unfold fineS; rw [if_neg (by omega)]; rw [if_neg (by omega)]; rw [if_neg (by omega)]; rw [if_neg (by omega)]; rw [if_neg (by omega)]; rw [if_neg (by omega)]; rw [if_neg (by omega)]
    have b4 : (m.kind == 4) = false := by simp; omega
    have b5 : (m.kind == 5) = false := by simp; omega
    have b6 : (m.kind == 6) = false := by simp; omega
    have b7 : (m.kind == 7) = false := by simp; omega
    have b10 : (m.kind == 10) = false := by simp; omega
    have b11 : (m.kind == 11) = false := by simp; omega
    have b12 : (m.kind == 12) = false := by simp; omega
    have HO := Lib.hid ho; clear ho h4 h5 h6 h7 h10 h11 h12
    go_enter Try.func29, Try.ntmps29
    go_upto_region 1 with fail
    rw [← hW]
    clear hW hk
    go_wp2
    all_goals
      go_ret
      exact ⟨ret_b (by rw [HO.out] <;> simp [*]), by first | exact HB2.out | exact HB.out⟩

end Go.Proofs.Yteadkghffdiaoaa
