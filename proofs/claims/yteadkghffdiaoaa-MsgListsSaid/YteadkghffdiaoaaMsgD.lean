/- msg.Own: a message in memory of its own; msg.off: a message without what its kind may have. -/
import Derived.Test.YteadkghffdiaoaaMsgC
set_option linter.unusedVariables false
set_option linter.unusedSimpArgs false
namespace Go.Proofs.Yteadkghffdiaoaa
open Go.RowKit Go.Proofs.YteadkghffdiaoaaW.PrintWords

def OwnP (m : Msg) (w : World) (e : Ending) (w' : World) : Prop := ∃ v, e = .returned (.agg (mcv m v)) ∧ OwnInts w' w.heap.size v m.list ∧ Below w.heap.size w w'

set_option maxHeartbeats 800000 in
set_option maxRecDepth 100000 in
theorem own_c (m : Msg) (A : Option Addr) (c : Nat) (w : World) (hr : RL w A c m.list) (hl : m.list.length ≤ 17592186044416) : Calls Try.prog 24 #[.agg (mc m A c)] w (OwnP m w) := by
  have hu := Try.underlying27
  have HR := Lib.hid hr; clear hr
  go_enter Try.func24, Try.ntmps24
  go_upto_region 1 with fail
  obtain ⟨W, hW, hb, k1, k2, hs⟩ := two_new w (.cells (mc m A c) 27) (.cells zmc 27)
  rw [← hW]
  clear hW
  have g1 := cells_all k1
  have HB := Lib.hid hb; clear hb
  have HS := Lib.hid hs; clear hs
  go_wp2_with (first
    | (go_at_call 34; go_must (refine (clone_c _ _ _ _ (HR.out.below HB.out) hl).mono ?_); rintro e w1 ⟨v, rfl, hv, hb1⟩; have HV := Lib.hid hv; obtain ⟨A2, c2, rfl⟩ := Kd.R_slice hv; have k1' := blk_below k1 hb1; have k2' := blk_below k2 hb1; have HB1 := Lib.hid (below_step HB.out hb1); clear hv hb1 g1 k1 k2; have g1 := cells_all k1'; have f1 := frozen_all k1')
    | (refine gate_ (.load 27 (.tmp 1)) rfl ?_; have k3 : _ = some (.cells (mcv m (.slice A2 m.list.length c2)) 27 (0, 0)) := blk_set k1' 9 (.slice A2 m.list.length c2); refine wpList_load_blk 27 (.tmp 1) rfl rfl w.heap.size rfl k3 hu rfl msgSize ?_)
    | (refine gate_ (.store 27 (.tmp 2) (.tmp 7)) rfl ?_; have k4 := blk_far k2' (p := ⟨w.heap.size, 9, none⟩) (by simp) (.slice A2 m.list.length c2); refine wpList_store_blk 27 (.tmp 2) (.tmp 7) rfl rfl rfl (w.heap.size + 1) rfl k4 (cs := mcv m (.slice A2 m.list.length c2)) rfl msgSize rfl (mcv_one rfl) ?_; intro w3 k5 hg3))
  refine bodyPost_ret (results_cell_row Try.results24 _ _ (w.heap.size + 1) _ _ (0, 0) _ rfl k5 hu rfl msgSize) rfl ⟨_, rfl, ?_, ?_⟩
  · have := HS.out
    exact R_keepFrom HV.out (by omega) (fun k h1 h2 => (hg3.block k (by simpa [World.setCell] using h2) (fun e => by have := Option.some.inj e; omega)).trans (Below.heap_setCell _ _ _ k (by simp; omega)))
  · have h1 := HB1.out.setCell (p := ⟨w.heap.size, 9, none⟩) (Nat.le_refl _) (.slice A2 m.list.length c2)
    exact h1.grown hg3 h1.size (fun k e => by have := Option.some.inj e; omega)

/-- A message without what its kind may have, as msg.off leaves it. -/
def offS (m : Msg) : Msg :=
  if m.kind = 4 then { m with key := 0, slow := false }
  else if m.kind = 5 then { m with item := Item.zero }
  else if m.kind = 6 then { m with item := { m.item with key := ⟨#[]⟩ } }
  else if m.kind = 7 then { m with pred := 0, list := [] }
  else if m.kind = 10 then { m with place := 0, done := false }
  else if m.kind = 11 then { m with code := 0 }
  else if m.kind = 12 then { m with code := 0, item := Item.zero }
  else m

def OffP (m : Msg) (A : Option Addr) (c : Nat) (g : Nat) (w : World) (e : Ending) (w' : World) : Prop := e = .returned (.tuple #[]) ∧ w.grownBy w' (some g) ∧
  ∃ A' c', w'.heap[g]? = some (.cells (mc (offS m) A' c') 27 (0, 0)) ∧ ∀ W, RL W A c m.list → RL W A' c' (offS m).list

theorem grown_set2 {w w1 : World} {g : Nat} (h : w.grownBy w1 (some g)) (j : Nat) (u : Value) : w.grownBy (w1.setCell ⟨g, j, none⟩ u) (some g) := h.trans (grownBy_set1 w1 g j u)
theorem RL.none_nil (W : World) : RL W none 0 [] := ⟨Kd.C_of_reads (d := (0 : Int)) (ReadsOf.nil _ _ _), by simp⟩

set_option maxHeartbeats 4000000 in
set_option maxRecDepth 100000 in
theorem off_c (m : Msg) (A : Option Addr) (c : Nat) (g : Nat) (w : World) (hg : w.heap[g]? = some (.cells (mc m A c) 27 (0, 0))) : Calls Try.prog 30 #[.pointer (some ⟨g, 0, none⟩)] w (OffP m A c g w) := by
  have hu := Try.underlying27
  have hi := Try.underlying24
  have g1 := cells_all hg
  have f1 := frozen_all hg
  have HG := Lib.hid hg; clear hg
  rcases (by omega : m.kind = 4 ∨ m.kind = 5 ∨ m.kind = 6 ∨ m.kind = 7 ∨ m.kind = 10 ∨ m.kind = 11 ∨ m.kind = 12 ∨ (m.kind ≠ 4 ∧ m.kind ≠ 5 ∧ m.kind ≠ 6 ∧ m.kind ≠ 7 ∧ m.kind ≠ 10 ∧ m.kind ≠ 11 ∧ m.kind ≠ 12)) with h | h | h | h | h | h | h | ⟨h4, h5, h6, h7, h10, h11, h12⟩
  · have ho : offS m = { m with key := 0, slow := false } := by unfold offS; rw [if_pos h]
    have b4 : (m.kind == 4) = true := by simpa using h
    have HO := Lib.hid ho; clear ho h
    go_enter Try.func30, Try.ntmps30
    go_wp2
    go_end0
    exact ⟨rfl, grown_set2 (grown_set2 (World.grownBy.refl w _) 4 _) 5 _, A, c, by rw [HO.out]; exact blk_set (blk_set (HG.out) 4 _) 5 _, fun W h => by rw [HO.out]; exact h⟩
  · have ho : offS m = { m with item := Item.zero } := by unfold offS; rw [if_neg (by omega)]; rw [if_pos h]
    have b4 : (m.kind == 4) = false := by simp; omega
    have b5 : (m.kind == 5) = true := by simpa using h
    have HO := Lib.hid ho; clear ho h
    go_enter Try.func30, Try.ntmps30
    go_wp2
    go_end0
    exact ⟨rfl, grown_set2 (grown_set2 (grown_set2 (grown_set2 (World.grownBy.refl w _) 10 _) 11 _) 12 _) 13 _, A, c, by rw [HO.out]; exact blk_set (blk_set (blk_set (blk_set (HG.out) 10 _) 11 _) 12 _) 13 _, fun W h => by rw [HO.out]; exact h⟩
  · have ho : offS m = { m with item := { m.item with key := ⟨#[]⟩ } } := by unfold offS; rw [if_neg (by omega)]; rw [if_neg (by omega)]; rw [if_pos h]
    have b4 : (m.kind == 4) = false := by simp; omega
    have b5 : (m.kind == 5) = false := by simp; omega
    have b6 : (m.kind == 6) = true := by simpa using h
    have HO := Lib.hid ho; clear ho h
    go_enter Try.func30, Try.ntmps30
    go_wp2
    go_end0
    exact ⟨rfl, grown_set2 (World.grownBy.refl w _) 10 _, A, c, by rw [HO.out]; exact blk_set (HG.out) 10 _, fun W h => by rw [HO.out]; exact h⟩
  · have ho : offS m = { m with pred := 0, list := [] } := by unfold offS; rw [if_neg (by omega)]; rw [if_neg (by omega)]; rw [if_neg (by omega)]; rw [if_pos h]
    have b4 : (m.kind == 4) = false := by simp; omega
    have b5 : (m.kind == 5) = false := by simp; omega
    have b6 : (m.kind == 6) = false := by simp; omega
    have b7 : (m.kind == 7) = true := by simpa using h
    have HO := Lib.hid ho; clear ho h
    go_enter Try.func30, Try.ntmps30
    go_wp2
    go_end0
    exact ⟨rfl, grown_set2 (grown_set2 (World.grownBy.refl w _) 8 _) 9 _, none, 0, by rw [HO.out]; exact blk_set (blk_set (HG.out) 8 _) 9 _, fun W h => by rw [HO.out]; exact RL.none_nil W⟩
  · have ho : offS m = { m with place := 0, done := false } := by unfold offS; rw [if_neg (by omega)]; rw [if_neg (by omega)]; rw [if_neg (by omega)]; rw [if_neg (by omega)]; rw [if_pos h]
    have b4 : (m.kind == 4) = false := by simp; omega
    have b5 : (m.kind == 5) = false := by simp; omega
    have b6 : (m.kind == 6) = false := by simp; omega
    have b7 : (m.kind == 7) = false := by simp; omega
    have b10 : (m.kind == 10) = true := by simpa using h
    have HO := Lib.hid ho; clear ho h
    go_enter Try.func30, Try.ntmps30
    go_wp2
    go_end0
    exact ⟨rfl, grown_set2 (grown_set2 (World.grownBy.refl w _) 7 _) 6 _, A, c, by rw [HO.out]; exact blk_set (blk_set (HG.out) 7 _) 6 _, fun W h => by rw [HO.out]; exact h⟩
  · have ho : offS m = { m with code := 0 } := by unfold offS; rw [if_neg (by omega)]; rw [if_neg (by omega)]; rw [if_neg (by omega)]; rw [if_neg (by omega)]; rw [if_neg (by omega)]; rw [if_pos h]
    have b4 : (m.kind == 4) = false := by simp; omega
    have b5 : (m.kind == 5) = false := by simp; omega
    have b6 : (m.kind == 6) = false := by simp; omega
    have b7 : (m.kind == 7) = false := by simp; omega
    have b10 : (m.kind == 10) = false := by simp; omega
    have b11 : (m.kind == 11) = true := by simpa using h
    have HO := Lib.hid ho; clear ho h
    go_enter Try.func30, Try.ntmps30
    go_wp2
    go_end0
    exact ⟨rfl, grown_set2 (World.grownBy.refl w _) 14 _, A, c, by rw [HO.out]; exact blk_set (HG.out) 14 _, fun W h => by rw [HO.out]; exact h⟩
  · have ho : offS m = { m with code := 0, item := Item.zero } := by unfold offS; rw [if_neg (by omega)]; rw [if_neg (by omega)]; rw [if_neg (by omega)]; rw [if_neg (by omega)]; rw [if_neg (by omega)]; rw [if_neg (by omega)]; rw [if_pos h]
    have b4 : (m.kind == 4) = false := by simp; omega
    have b5 : (m.kind == 5) = false := by simp; omega
    have b6 : (m.kind == 6) = false := by simp; omega
    have b7 : (m.kind == 7) = false := by simp; omega
    have b10 : (m.kind == 10) = false := by simp; omega
    have b11 : (m.kind == 11) = false := by simp; omega
    have b12 : (m.kind == 12) = true := by simpa using h
    have HO := Lib.hid ho; clear ho h
    go_enter Try.func30, Try.ntmps30
    go_wp2
    go_end0
    exact ⟨rfl, grown_set2 (grown_set2 (grown_set2 (grown_set2 (grown_set2 (World.grownBy.refl w _) 14 _) 10 _) 11 _) 12 _) 13 _, A, c, by rw [HO.out]; exact blk_set (blk_set (blk_set (blk_set (blk_set (HG.out) 14 _) 10 _) 11 _) 12 _) 13 _, fun W h => by rw [HO.out]; exact h⟩
  · have ho : offS m = m := by unfold offS; rw [if_neg (by omega)]; rw [if_neg (by omega)]; rw [if_neg (by omega)]; rw [if_neg (by omega)]; rw [if_neg (by omega)]; rw [if_neg (by omega)]; rw [if_neg (by omega)]
    have b4 : (m.kind == 4) = false := by simp; omega
    have b5 : (m.kind == 5) = false := by simp; omega
    have b6 : (m.kind == 6) = false := by simp; omega
    have b7 : (m.kind == 7) = false := by simp; omega
    have b10 : (m.kind == 10) = false := by simp; omega
    have b11 : (m.kind == 11) = false := by simp; omega
    have b12 : (m.kind == 12) = false := by simp; omega
    have HO := Lib.hid ho; clear ho h4 h5 h6 h7 h10 h11 h12
    go_enter Try.func30, Try.ntmps30
    go_wp2
    go_end0
    exact ⟨rfl, World.grownBy.refl w _, A, c, by rw [HO.out]; exact HG.out, fun W h => by rw [HO.out]; exact h⟩

end Go.Proofs.Yteadkghffdiaoaa
