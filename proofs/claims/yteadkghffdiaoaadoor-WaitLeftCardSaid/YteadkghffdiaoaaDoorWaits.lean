/- The functions of package wait: what each comes to, over a memory in which the table of waits reads as it was laid. -/
import Derived.Test.YteadkghffdiaoaaDoorProg
import Derived.Test.YteadkghffdiaoaaDoorRange
import Derived.KernelRfl
import Derived.Outline
import Derived.Deep.QuietTactic
import Derived.BigQuiet
import Derived.Deep.RegionHeld3
import Derived.Deep.RegionWith
import Derived.Lib.Hide
namespace Go.Proofs.YteadkghffdiaoaaDoor
open Go.RowKit Go.Shelf

theorem max2_i (k k' : IntKind) (x y : Int) : Builtin.max2 (.int k x) (.int k' y) = pure (.int k (if x < y then y else x)) := by simp only [Builtin.max2, gt_iff_lt]
theorem min2_i (k k' : IntKind) (x y : Int) : Builtin.min2 (.int k x) (.int k' y) = pure (.int k (if y < x then y else x)) := by simp only [Builtin.min2]
theorem max_2 (ats : Array TypeId) (ty : TypeId) (a b : Value) : Builtin.max_ ats ty #[a, b] = (Builtin.max2 a b >>= fun s => pure s) := by simp only [Builtin.max_, List.foldlM_cons, List.foldlM_nil]
theorem min_2 (ats : Array TypeId) (ty : TypeId) (a b : Value) : Builtin.min_ ats ty #[a, b] = (Builtin.min2 a b >>= fun s => pure s) := by simp only [Builtin.min_, List.foldlM_cons, List.foldlM_nil]
attribute [local go_sem] max2_i min2_i max_2 min_2 Oper.semAt_some

/-- The table of waits, as laid. -/
structure Laid (W : World) : Prop where
  c0 : W.cell? ⟨0, 0, none⟩ = some (.int .i64 0)
  c1 : W.cell? ⟨0, 1, none⟩ = some (.int .i64 1)
  c2 : W.cell? ⟨0, 2, none⟩ = some (.int .i64 2)
  c3 : W.cell? ⟨0, 3, none⟩ = some (.int .i64 4)
theorem cell_lt {W : World} {b o : Nat} {v : Value} (h : W.cell? ⟨b, o, none⟩ = some v) : b < W.heap.size := World.block_lt_of_cell? W ⟨b, o, none⟩ h
theorem Laid.pos {W : World} (h : Laid W) : 0 < W.heap.size := cell_lt h.c0
theorem Laid.below {W W' : World} (h : Laid W) (hb : Below W.heap.size W W') : Laid W' :=
  ⟨(hb.cell (p := ⟨0, 0, none⟩) h.pos).trans h.c0, (hb.cell (p := ⟨0, 1, none⟩) h.pos).trans h.c1, (hb.cell (p := ⟨0, 2, none⟩) h.pos).trans h.c2, (hb.cell (p := ⟨0, 3, none⟩) h.pos).trans h.c3⟩
theorem Laid.grown {W W' : World} (h : Laid W) {row : Option Nat} (hg : W.grownBy W' row) (hr : row ≠ some 0) : Laid W' := by
  have hc : ∀ o, W'.cell? ⟨0, o, none⟩ = W.cell? ⟨0, o, none⟩ := fun o => World.cell?_of_block (hg.block 0 h.pos (fun e => hr e.symm))
  exact ⟨(hc 0).trans h.c0, (hc 1).trans h.c1, (hc 2).trans h.c2, (hc 3).trans h.c3⟩

def waitS (t : Int) : Int := if t < 1 then 0 else if t = 1 then 1 else if t = 2 then 2 else 4
def dueS (s t n : Int) : Bool := if 0 < t ∧ t < 3 then decide (waitS t ≤ wrap64 (n - s)) else false
def overS (s t n : Int) : Bool := if 3 ≤ t then decide (4 ≤ wrap64 (n - s)) else false
def leftS (s t n : Int) : Int := max 0 (wrap64 (waitS t - wrap64 (n - s)))

theorem pw_below_drewN {B : Nat} {w W : World} (h : Below B w W) (n : Nat) : Below B w (W.drewN n) := ⟨h.os, h.tape, h.output, h.size, h.block⟩
theorem pw_cell_below {w w1 : World} (h : Below w.heap.size w w1) {a : Addr} {v : Value} (hc : w.cell? a = some v) : w1.cell? a = some v := (h.cell (World.block_lt_of_cell? w a hc)).trans hc
theorem below_un {w w1 : World} (h : Below w.drew.heap.size w.drew w1) : Below w.heap.size w w1 := ⟨h.os, h.tape, h.output, h.size, h.block⟩
theorem waitS_0 {t : Int} (h : t < 1) : waitS t = 0 := by simp [waitS, h]
theorem waitS_3 {t : Int} (h : 3 ≤ t) : waitS t = 4 := by unfold waitS; rw [if_neg (by omega), if_neg (by omega), if_neg (by omega)]
theorem ret_i {a b : Int} (h : a = b) : Ending.returned (.int .i64 a) = .returned (.int .i64 b) := by rw [h]
theorem ret_b {a b : Bool} (h : a = b) : Ending.returned (.bool a) = .returned (.bool b) := by rw [h]

set_option maxHeartbeats 400000 in
theorem wait_c (t : Int) (w : World) (hl : Laid w) : Calls Tryd.prog 13 #[.int .i64 t] w fun e w' => e = .returned (.int .i64 (waitS t)) ∧ w = w' := by
  obtain ⟨h0, h1, h2, h3⟩ := hl
  rcases (by omega : t < 0 ∨ t = 0 ∨ t = 1 ∨ t = 2 ∨ t = 3 ∨ 3 < t) with c | rfl | rfl | rfl | rfl | c
  all_goals
    go_enter Tryd.func13, Tryd.ntmps13
    go_wp2
    go_ret
  · exact ⟨ret_i (waitS_0 (by omega)).symm, rfl⟩
  · exact ⟨rfl, rfl⟩
  · exact ⟨rfl, rfl⟩
  · exact ⟨rfl, rfl⟩
  · exact ⟨rfl, rfl⟩
  · exact ⟨ret_i (waitS_3 (by omega)).symm, rfl⟩

set_option maxHeartbeats 400000 in
theorem left_c (s t n : Int) (w : World) (hl : Laid w) : Calls Tryd.prog 10 #[.int .i64 s, .int .i64 t, .int .i64 n] w fun e w' => e = .returned (.int .i64 (leftS s t n)) ∧ w = w' := by
  have Hl := Lib.hid hl; clear hl
  go_enter Tryd.func10, Tryd.ntmps10
  go_wp2_with (go_at_call 13; refine (wait_c _ _ Hl.out).mono ?_; rintro e w' ⟨rfl, rfl⟩)
  all_goals
    go_ret
    exact ⟨ret_i (by unfold leftS; omega), rfl⟩

set_option maxHeartbeats 400000 in
theorem passed_c (s n : Int) (w : World) : Calls Tryd.prog 34 #[.int .i64 s, .int .i64 n] w fun e w' => ∃ g h, e = .returned (.func (.func 56) #[] #[.pointer (some ⟨g, 0, none⟩), .pointer (some ⟨h, 0, none⟩)]) ∧ w'.cell? ⟨g, 0, none⟩ = some (.int .i64 n) ∧ w'.cell? ⟨h, 0, none⟩ = some (.int .i64 s) ∧ Below w.heap.size w w' := by
  have X : Calls Tryd.prog 34 #[.int .i64 s, .int .i64 n] w fun e w' => e = .returned (.func (.func 56) #[] #[.pointer (some ⟨w.heap.size + 1, 0, none⟩), .pointer (some ⟨w.heap.size, 0, none⟩)]) ∧ w' = (w.alloc (.cells #[.int .i64 s] 3)).alloc (.cells #[.int .i64 n] 3) := by
    go_enter Tryd.func34, Tryd.ntmps34
    go_wp2
    go_ret
    exact ⟨rfl, rfl⟩
  refine X.mono ?_
  rintro e w' ⟨rfl, rfl⟩
  exact ⟨_, _, rfl, by simp, by simp, ((Below.refl _ w).alloc (Nat.le_refl _) _).alloc (by simp) _⟩

set_option maxHeartbeats 400000 in
theorem passed1_c (k s n : Int) (g h : Nat) (w : World) (hg : w.cell? ⟨g, 0, none⟩ = some (.int .i64 n)) (hh : w.cell? ⟨h, 0, none⟩ = some (.int .i64 s)) :
    Calls Tryd.prog 56 #[.int .i64 k, .pointer (some ⟨g, 0, none⟩), .pointer (some ⟨h, 0, none⟩)] w fun e w' => e = .returned (.bool (decide (k ≤ wrap64 (n - s)))) ∧ w = w' := by
  go_enter Tryd.func56, Tryd.ntmps56
  go_wp2
  go_ret
  exact ⟨rfl, rfl⟩

theorem dueS_no {s t n : Int} (h : ¬ (0 < t ∧ t < 3)) : dueS s t n = false := by unfold dueS; rw [if_neg h]
theorem dueS_1 (s n : Int) : dueS s 1 n = decide (1 ≤ wrap64 (n - s)) := rfl
theorem dueS_2 (s n : Int) : dueS s 2 n = decide (2 ≤ wrap64 (n - s)) := rfl
theorem overS_no {s t n : Int} (h : ¬ 3 ≤ t) : overS s t n = false := by unfold overS; rw [if_neg h]
theorem overS_yes {s t n : Int} (h : 3 ≤ t) : overS s t n = decide (4 ≤ wrap64 (n - s)) := by unfold overS; rw [if_pos h]

set_option maxHeartbeats 800000 in
theorem due_c (s t n : Int) (w : World) (hl : Laid w) : Calls Tryd.prog 11 #[.int .i64 s, .int .i64 t, .int .i64 n] w fun e w' => e = .returned (.bool (dueS s t n)) ∧ Below w.heap.size w w' := by
  rcases (by omega : t ≤ 0 ∨ 3 ≤ t ∨ t = 1 ∨ t = 2) with c | c | rfl | rfl
  · have c1 : decide (0 < t) = false := by simp; omega
    go_enter Tryd.func11, Tryd.ntmps11
    go_wp2
    go_quiet (fail)
    go_wp2
    go_ret
    exact ⟨ret_b (dueS_no (by omega)).symm, pw_below_drewN (Below.refl _ _) _⟩
  · have c1 : decide (0 < t) = true := by simp; omega
    have c2 : decide (t < 3) = false := by simp; omega
    go_enter Tryd.func11, Tryd.ntmps11
    go_wp2
    go_quiet (fail)
    go_wp2
    go_ret
    exact ⟨ret_b (dueS_no (by omega)).symm, pw_below_drewN (Below.refl _ _) _⟩
  · obtain ⟨h0, h1, h2, h3⟩ := hl
    go_enter Tryd.func11, Tryd.ntmps11
    go_wp2
    go_region_held3 (fun w' => w'.cell? ⟨0, 1, none⟩ = some (.int .i64 1)) (first | go_keep | assumption)
      (first | (go_at_call 34; refine (passed_c _ _ _).mono ?_; rintro e w1 ⟨g, h, rfl, hg, hh, hb⟩; have hS : w1.cell? ⟨0, 1, none⟩ = some (.int .i64 1) := pw_cell_below hb (by assumption)) | (go_at_call 56; refine (passed1_c _ _ _ _ _ _ ‹_› ‹_›).mono ?_; rintro e w' ⟨rfl, rfl⟩))
    go_wp2
    go_ret
    exact ⟨ret_b rfl, by exact below_un (by assumption)⟩
  · obtain ⟨h0, h1, h2, h3⟩ := hl
    go_enter Tryd.func11, Tryd.ntmps11
    go_wp2
    go_region_held3 (fun w' => w'.cell? ⟨0, 2, none⟩ = some (.int .i64 2)) (first | go_keep | assumption)
      (first | (go_at_call 34; refine (passed_c _ _ _).mono ?_; rintro e w1 ⟨g, h, rfl, hg, hh, hb⟩; have hS : w1.cell? ⟨0, 2, none⟩ = some (.int .i64 2) := pw_cell_below hb (by assumption)) | (go_at_call 56; refine (passed1_c _ _ _ _ _ _ ‹_› ‹_›).mono ?_; rintro e w' ⟨rfl, rfl⟩))
    go_wp2
    go_ret
    exact ⟨ret_b rfl, by exact below_un (by assumption)⟩

set_option maxHeartbeats 800000 in
theorem over_c (s t n : Int) (w : World) (hl : Laid w) : Calls Tryd.prog 12 #[.int .i64 s, .int .i64 t, .int .i64 n] w fun e w' => e = .returned (.bool (overS s t n)) ∧ Below w.heap.size w w' := by
  rcases (by omega : t < 3 ∨ 3 ≤ t) with c | c
  · have c1 : decide (3 ≤ t) = false := by simp; omega
    go_enter Tryd.func12, Tryd.ntmps12
    go_wp2
    go_quiet (fail)
    go_wp2
    go_ret
    exact ⟨ret_b (overS_no (by omega)).symm, pw_below_drewN (Below.refl _ _) _⟩
  · have c1 : decide (3 ≤ t) = true := by simp; omega
    obtain ⟨h0, h1, h2, h3⟩ := hl
    go_enter Tryd.func12, Tryd.ntmps12
    go_wp2
    go_region_held3 (fun w' => w'.cell? ⟨0, 3, none⟩ = some (.int .i64 4)) (first | go_keep | assumption)
      (first | (go_at_call 34; refine (passed_c _ _ _).mono ?_; rintro e w1 ⟨g, h, rfl, hg, hh, hb⟩; have hS : w1.cell? ⟨0, 3, none⟩ = some (.int .i64 4) := pw_cell_below hb (by assumption)) | (go_at_call 56; refine (passed1_c _ _ _ _ _ _ ‹_› ‹_›).mono ?_; rintro e w' ⟨rfl, rfl⟩))
    go_wp2
    go_ret
    exact ⟨ret_b (overS_yes c).symm, by exact below_un (by assumption)⟩

end Go.Proofs.YteadkghffdiaoaaDoor
