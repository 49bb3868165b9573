/- The statements of layer 9, walked: what their code comes to, out of the contracts of package wait. -/
import Derived.Test.YteadkghffdiaoaaDoorPlan
namespace Go.Proofs.YteadkghffdiaoaaDoor
open Go.RowKit Go.Shelf

theorem below_step {w W w2 : World} (h : Below w.heap.size w W) (k : Below W.heap.size W w2) : Below w.heap.size w w2 :=
  h.trans ⟨k.os, k.tape, k.output, k.size, fun i hi => k.block i (Nat.lt_of_lt_of_le hi h.size)⟩

set_option maxRecDepth 100000 in
set_option maxHeartbeats 1000000 in
theorem wakes9_c (w : World) (hl : Laid w) : Calls Tryd.prog 9 #[] w fun e w' => e = .returned (.bool true) ∧ Below w.heap.size w w' := by
  have HL := Lib.hid hl; clear hl
  have HB := Lib.hid (Below.refl w.heap.size w)
  have e1 : waitS 1 = 1 := by decide +kernel
  have e2 : waitS 9 = 4 := by decide +kernel
  have e3 : waitS 0 = 0 := by decide +kernel
  have d1 : dueS 10 1 11 = true := by decide +kernel
  have d2 : dueS 10 2 11 = false := by decide +kernel
  have d3 : dueS 10 3 99 = false := by decide +kernel
  have o1 : overS 13 3 17 = true := by decide +kernel
  have o2 : overS 13 3 16 = false := by decide +kernel
  have l1 : leftS 13 3 14 = 3 := by decide +kernel
  have l2 : leftS 13 1 99 = 0 := by decide +kernel
  have q1 : ∀ W, (binOp .eql 64 (.agg #[.int .i64 10, .int .i64 11, .int .i64 13, .int .i64 17]) (.agg #[.int .i64 10, .int .i64 11, .int .i64 13, .int .i64 17])).run Tryd.prog W = .ok (.bool true) W := fun _ => by kernel_rfl
  go_enter Tryd.func9, Tryd.ntmps9
  go_wp2_with (first
    | (go_at_call 33; refine (plan_c _ HL.out).mono ?_; rintro e w2 ⟨rfl, hb⟩; have n1 := Lib.hid (below_step HB.out hb); have n2 := Lib.hid (HL.out.below hb); clear HB HL hb; have HB := n1; have HL := n2; clear n1 n2)
    | (go_at_call 13; refine (wait_c _ _ HL.out).mono ?_; rintro e w2 ⟨rfl, rfl⟩)
    | (go_at_call 10; refine (left_c _ _ _ _ HL.out).mono ?_; rintro e w2 ⟨rfl, rfl⟩)
    | (go_at_call 11; refine (due_c _ _ _ _ HL.out).mono ?_; rintro e w2 ⟨rfl, hb⟩; have n1 := Lib.hid (below_step HB.out hb); have n2 := Lib.hid (HL.out.below hb); clear HB HL hb; have HB := n1; have HL := n2; clear n1 n2)
    | (go_at_call 12; refine (over_c _ _ _ _ HL.out).mono ?_; rintro e w2 ⟨rfl, hb⟩; have n1 := Lib.hid (below_step HB.out hb); have n2 := Lib.hid (HL.out.below hb); clear HB HL hb; have HB := n1; have HL := n2; clear n1 n2))
  go_ret
  exact ⟨rfl, HB.out⟩

theorem waitS_pos {t : Int} (h : 1 ≤ t) : 1 ≤ waitS t ∧ waitS t ≤ 4 := by
  unfold waitS; repeat' split
  all_goals omega
theorem waitS_mono {t : Int} (h : 1 ≤ t) : waitS t ≤ waitS (t + 1) := by
  unfold waitS; repeat' split
  all_goals omega
theorem wrap_sub {s far : Int} (_h0 : 0 ≤ far) (_h1 : far ≤ 1099511627776) : wrap64 (s + far - s) = far := by
  rw [show s + far - s = far from by omega]; unfold wrap64; omega
theorem left_far {s t far : Int} (ht : 1 ≤ t) (h0 : 0 ≤ far) (h1 : far ≤ 1099511627776) : leftS s t (s + far) = max 0 (waitS t - far) := by
  have := waitS_pos ht
  unfold leftS; rw [wrap_sub h0 h1]; unfold wrap64; omega
theorem left_self {s t : Int} (ht : 1 ≤ t) : leftS s t s = waitS t := by
  have := waitS_pos ht
  unfold leftS; rw [show s - s = 0 from by omega]; unfold wrap64; omega
theorem due_far {s t far : Int} (h0 : 0 ≤ far) (h1 : far ≤ 1099511627776) : dueS s t (s + far) = decide ((0 < t ∧ t < 3) ∧ waitS t ≤ far) := by
  unfold dueS; rw [wrap_sub h0 h1]; by_cases h : 0 < t ∧ t < 3 <;> simp [h]
theorem over_far {s t far : Int} (h0 : 0 ≤ far) (h1 : far ≤ 1099511627776) : overS s t (s + far) = decide (3 ≤ t ∧ 4 ≤ far) := by
  unfold overS; rw [wrap_sub h0 h1]; by_cases h : 3 ≤ t <;> simp [h]

/-- The statement's code where its arguments are shut out. -/
def outLeft (s t far : Int) : Prop := s < -1099511627776 ∨ 1099511627776 < s ∨ far < 0 ∨ 1099511627776 < far ∨ t < 1 ∨ 1099511627776 < t

set_option maxRecDepth 100000 in
set_option maxHeartbeats 1000000 in
theorem waitLeft_c (s t far : Int) (w : World) (hl : Laid w) : Calls Tryd.prog 3 #[.int .i64 s, .int .i64 t, .int .i64 far] w fun e w' => e = .returned (.bool true) ∧ Below w.heap.size w w' := by
  have HL := Lib.hid hl; clear hl
  have HB := Lib.hid (Below.refl w.heap.size w)
  rcases (by omega : s < -1099511627776 ∨ 1099511627776 < s ∨ far < 0 ∨ 1099511627776 < far ∨ t < 1 ∨ 1099511627776 < t ∨ (-1099511627776 ≤ s ∧ s ≤ 1099511627776 ∧ 0 ≤ far ∧ far ≤ 1099511627776 ∧ 1 ≤ t ∧ t ≤ 1099511627776)) with c | c | c | c | c | c | ⟨c1, c2, c3, c4, c5, c6⟩
  case inr.inr.inr.inr.inr.inr =>
    obtain ⟨p1, p2⟩ := waitS_pos c5
    have m1 := waitS_mono c5
    have e1 := left_far (s := s) c5 c3 c4
    have e2 : (leftS s t s != waitS t) = false := by rw [left_self c5]; simp
    have e3 := due_far (s := s) (t := t) c3 c4
    have e4 := over_far (s := s) (t := t) c3 c4
    by_cases hw : waitS t ≤ far
    · have f1 : leftS s t (s + far) = 0 := by omega
      clear e1
      by_cases ht : t < 3
      · have f2 : dueS s t (s + far) = true := by rw [e3]; simp; omega
        clear e3 e4
        go_enter Tryd.func3, Tryd.ntmps3
        go_wp2_with (first
    | (go_at_call 13; refine (wait_c _ _ HL.out).mono ?_; rintro e w2 ⟨rfl, rfl⟩)
    | (go_at_call 10; refine (left_c _ _ _ _ HL.out).mono ?_; rintro e w2 ⟨rfl, rfl⟩)
    | (go_at_call 11; refine (due_c _ _ _ _ HL.out).mono ?_; rintro e w2 ⟨rfl, hb⟩; have n1 := Lib.hid (below_step HB.out hb); have n2 := Lib.hid (HL.out.below hb); clear HB HL hb; have HB := n1; have HL := n2; clear n1 n2)
    | (go_at_call 12; refine (over_c _ _ _ _ HL.out).mono ?_; rintro e w2 ⟨rfl, hb⟩; have n1 := Lib.hid (below_step HB.out hb); have n2 := Lib.hid (HL.out.below hb); clear HB HL hb; have HB := n1; have HL := n2; clear n1 n2)
    | (go_at_call 9; refine (wakes9_c _ HL.out).mono ?_; rintro e w2 ⟨rfl, hb⟩; have n1 := Lib.hid (below_step HB.out hb); have n2 := Lib.hid (HL.out.below hb); clear HB HL hb; have HB := n1; have HL := n2; clear n1 n2))
        all_goals
          go_ret
          exact ⟨ret_b (by first | rfl | (simp; done) | (simp; omega)), HB.out⟩
      · have f2 : dueS s t (s + far) = false := by rw [e3]; simp; omega
        have f3 : overS s t (s + far) = true := by rw [e4]; rw [waitS_3 (by omega)] at hw; simp; omega
        clear e3 e4
        go_enter Tryd.func3, Tryd.ntmps3
        go_wp2_with (first
    | (go_at_call 13; refine (wait_c _ _ HL.out).mono ?_; rintro e w2 ⟨rfl, rfl⟩)
    | (go_at_call 10; refine (left_c _ _ _ _ HL.out).mono ?_; rintro e w2 ⟨rfl, rfl⟩)
    | (go_at_call 11; refine (due_c _ _ _ _ HL.out).mono ?_; rintro e w2 ⟨rfl, hb⟩; have n1 := Lib.hid (below_step HB.out hb); have n2 := Lib.hid (HL.out.below hb); clear HB HL hb; have HB := n1; have HL := n2; clear n1 n2)
    | (go_at_call 12; refine (over_c _ _ _ _ HL.out).mono ?_; rintro e w2 ⟨rfl, hb⟩; have n1 := Lib.hid (below_step HB.out hb); have n2 := Lib.hid (HL.out.below hb); clear HB HL hb; have HB := n1; have HL := n2; clear n1 n2)
    | (go_at_call 9; refine (wakes9_c _ HL.out).mono ?_; rintro e w2 ⟨rfl, hb⟩; have n1 := Lib.hid (below_step HB.out hb); have n2 := Lib.hid (HL.out.below hb); clear HB HL hb; have HB := n1; have HL := n2; clear n1 n2))
        all_goals
          go_ret
          exact ⟨ret_b (by first | rfl | (simp; done) | (simp; omega)), HB.out⟩
    · have f1 : leftS s t (s + far) = waitS t - far := by omega
      have f0 : (waitS t - far == 0) = false := by simp; omega
      have f2 : dueS s t (s + far) = false := by rw [e3]; simp; omega
      have f3 : overS s t (s + far) = false := by
        rw [e4]; simp; intro h; rw [waitS_3 (by omega)] at hw; omega
      clear e3 e4 e1
      · skip
        go_enter Tryd.func3, Tryd.ntmps3
        go_wp2_with (first
    | (go_at_call 13; refine (wait_c _ _ HL.out).mono ?_; rintro e w2 ⟨rfl, rfl⟩)
    | (go_at_call 10; refine (left_c _ _ _ _ HL.out).mono ?_; rintro e w2 ⟨rfl, rfl⟩)
    | (go_at_call 11; refine (due_c _ _ _ _ HL.out).mono ?_; rintro e w2 ⟨rfl, hb⟩; have n1 := Lib.hid (below_step HB.out hb); have n2 := Lib.hid (HL.out.below hb); clear HB HL hb; have HB := n1; have HL := n2; clear n1 n2)
    | (go_at_call 12; refine (over_c _ _ _ _ HL.out).mono ?_; rintro e w2 ⟨rfl, hb⟩; have n1 := Lib.hid (below_step HB.out hb); have n2 := Lib.hid (HL.out.below hb); clear HB HL hb; have HB := n1; have HL := n2; clear n1 n2)
    | (go_at_call 9; refine (wakes9_c _ HL.out).mono ?_; rintro e w2 ⟨rfl, hb⟩; have n1 := Lib.hid (below_step HB.out hb); have n2 := Lib.hid (HL.out.below hb); clear HB HL hb; have HB := n1; have HL := n2; clear n1 n2))
        all_goals
          go_ret
          exact ⟨ret_b (by first | rfl | (simp; done) | (simp; omega)), HB.out⟩
  all_goals
    · skip
      go_enter Tryd.func3, Tryd.ntmps3
      go_wp2_with (first
    | (go_at_call 13; refine (wait_c _ _ HL.out).mono ?_; rintro e w2 ⟨rfl, rfl⟩)
    | (go_at_call 10; refine (left_c _ _ _ _ HL.out).mono ?_; rintro e w2 ⟨rfl, rfl⟩)
    | (go_at_call 11; refine (due_c _ _ _ _ HL.out).mono ?_; rintro e w2 ⟨rfl, hb⟩; have n1 := Lib.hid (below_step HB.out hb); have n2 := Lib.hid (HL.out.below hb); clear HB HL hb; have HB := n1; have HL := n2; clear n1 n2)
    | (go_at_call 12; refine (over_c _ _ _ _ HL.out).mono ?_; rintro e w2 ⟨rfl, hb⟩; have n1 := Lib.hid (below_step HB.out hb); have n2 := Lib.hid (HL.out.below hb); clear HB HL hb; have HB := n1; have HL := n2; clear n1 n2)
    | (go_at_call 9; refine (wakes9_c _ HL.out).mono ?_; rintro e w2 ⟨rfl, hb⟩; have n1 := Lib.hid (below_step HB.out hb); have n2 := Lib.hid (HL.out.below hb); clear HB HL hb; have HB := n1; have HL := n2; clear n1 n2))
      all_goals
        go_ret
        exact ⟨ret_b (by first | rfl | (simp; done) | (simp; omega)), HB.out⟩

set_option maxRecDepth 100000 in
set_option maxHeartbeats 1000000 in
theorem waitTries_c (s t n : Int) (w : World) (hl : Laid w) : Calls Tryd.prog 4 #[.int .i64 s, .int .i64 t, .int .i64 n] w fun e w' => e = .returned (.bool true) ∧ Below w.heap.size w w' := by
  have HL := Lib.hid hl; clear hl
  have HB := Lib.hid (Below.refl w.heap.size w)
  rcases (by omega : t < 1 ∨ t = 1 ∨ t = 2 ∨ 3 ≤ t) with c | rfl | rfl | c
  · have f1 : dueS s t n = false := dueS_no (by omega)
    have f2 : overS s t n = false := overS_no (by omega)
    have f3 : waitS t = 0 := waitS_0 c
    go_enter Tryd.func4, Tryd.ntmps4
    go_wp2_with (first
    | (go_at_call 13; refine (wait_c _ _ HL.out).mono ?_; rintro e w2 ⟨rfl, rfl⟩)
    | (go_at_call 10; refine (left_c _ _ _ _ HL.out).mono ?_; rintro e w2 ⟨rfl, rfl⟩)
    | (go_at_call 11; refine (due_c _ _ _ _ HL.out).mono ?_; rintro e w2 ⟨rfl, hb⟩; have n1 := Lib.hid (below_step HB.out hb); have n2 := Lib.hid (HL.out.below hb); clear HB HL hb; have HB := n1; have HL := n2; clear n1 n2)
    | (go_at_call 12; refine (over_c _ _ _ _ HL.out).mono ?_; rintro e w2 ⟨rfl, hb⟩; have n1 := Lib.hid (below_step HB.out hb); have n2 := Lib.hid (HL.out.below hb); clear HB HL hb; have HB := n1; have HL := n2; clear n1 n2)
    | (go_at_call 9; refine (wakes9_c _ HL.out).mono ?_; rintro e w2 ⟨rfl, hb⟩; have n1 := Lib.hid (below_step HB.out hb); have n2 := Lib.hid (HL.out.below hb); clear HB HL hb; have HB := n1; have HL := n2; clear n1 n2))
    all_goals
      go_ret
      exact ⟨ret_b (by first | rfl | (simp; done) | (simp; omega)), HB.out⟩
  · have f2 : overS s 1 n = false := overS_no (by omega)
    go_enter Tryd.func4, Tryd.ntmps4
    go_wp2_with (first
    | (go_at_call 13; refine (wait_c _ _ HL.out).mono ?_; rintro e w2 ⟨rfl, rfl⟩)
    | (go_at_call 10; refine (left_c _ _ _ _ HL.out).mono ?_; rintro e w2 ⟨rfl, rfl⟩)
    | (go_at_call 11; refine (due_c _ _ _ _ HL.out).mono ?_; rintro e w2 ⟨rfl, hb⟩; have n1 := Lib.hid (below_step HB.out hb); have n2 := Lib.hid (HL.out.below hb); clear HB HL hb; have HB := n1; have HL := n2; clear n1 n2)
    | (go_at_call 12; refine (over_c _ _ _ _ HL.out).mono ?_; rintro e w2 ⟨rfl, hb⟩; have n1 := Lib.hid (below_step HB.out hb); have n2 := Lib.hid (HL.out.below hb); clear HB HL hb; have HB := n1; have HL := n2; clear n1 n2)
    | (go_at_call 9; refine (wakes9_c _ HL.out).mono ?_; rintro e w2 ⟨rfl, hb⟩; have n1 := Lib.hid (below_step HB.out hb); have n2 := Lib.hid (HL.out.below hb); clear HB HL hb; have HB := n1; have HL := n2; clear n1 n2))
    all_goals
      go_ret
      exact ⟨ret_b (by first | rfl | (simp; done) | (simp; omega)), HB.out⟩
  · have f2 : overS s 2 n = false := overS_no (by omega)
    go_enter Tryd.func4, Tryd.ntmps4
    go_wp2_with (first
    | (go_at_call 13; refine (wait_c _ _ HL.out).mono ?_; rintro e w2 ⟨rfl, rfl⟩)
    | (go_at_call 10; refine (left_c _ _ _ _ HL.out).mono ?_; rintro e w2 ⟨rfl, rfl⟩)
    | (go_at_call 11; refine (due_c _ _ _ _ HL.out).mono ?_; rintro e w2 ⟨rfl, hb⟩; have n1 := Lib.hid (below_step HB.out hb); have n2 := Lib.hid (HL.out.below hb); clear HB HL hb; have HB := n1; have HL := n2; clear n1 n2)
    | (go_at_call 12; refine (over_c _ _ _ _ HL.out).mono ?_; rintro e w2 ⟨rfl, hb⟩; have n1 := Lib.hid (below_step HB.out hb); have n2 := Lib.hid (HL.out.below hb); clear HB HL hb; have HB := n1; have HL := n2; clear n1 n2)
    | (go_at_call 9; refine (wakes9_c _ HL.out).mono ?_; rintro e w2 ⟨rfl, hb⟩; have n1 := Lib.hid (below_step HB.out hb); have n2 := Lib.hid (HL.out.below hb); clear HB HL hb; have HB := n1; have HL := n2; clear n1 n2))
    all_goals
      go_ret
      exact ⟨ret_b (by first | rfl | (simp; done) | (simp; omega)), HB.out⟩
  · have f1 : dueS s t n = false := dueS_no (by omega)
    go_enter Tryd.func4, Tryd.ntmps4
    go_wp2_with (first
    | (go_at_call 13; refine (wait_c _ _ HL.out).mono ?_; rintro e w2 ⟨rfl, rfl⟩)
    | (go_at_call 10; refine (left_c _ _ _ _ HL.out).mono ?_; rintro e w2 ⟨rfl, rfl⟩)
    | (go_at_call 11; refine (due_c _ _ _ _ HL.out).mono ?_; rintro e w2 ⟨rfl, hb⟩; have n1 := Lib.hid (below_step HB.out hb); have n2 := Lib.hid (HL.out.below hb); clear HB HL hb; have HB := n1; have HL := n2; clear n1 n2)
    | (go_at_call 12; refine (over_c _ _ _ _ HL.out).mono ?_; rintro e w2 ⟨rfl, hb⟩; have n1 := Lib.hid (below_step HB.out hb); have n2 := Lib.hid (HL.out.below hb); clear HB HL hb; have HB := n1; have HL := n2; clear n1 n2)
    | (go_at_call 9; refine (wakes9_c _ HL.out).mono ?_; rintro e w2 ⟨rfl, hb⟩; have n1 := Lib.hid (below_step HB.out hb); have n2 := Lib.hid (HL.out.below hb); clear HB HL hb; have HB := n1; have HL := n2; clear n1 n2))
    all_goals
      go_ret
      exact ⟨ret_b (by first | rfl | (simp; done) | (simp; omega)), HB.out⟩

end Go.Proofs.YteadkghffdiaoaaDoor
