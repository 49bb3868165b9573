/- Law 06: messages that are too great; MsgTells. -/
import Derived.Test.YteadkghffdiaoaaWakes06
import Derived.Test.YteadkghffdiaoaaRefRight
set_option linter.unusedVariables false
set_option linter.unusedSimpArgs false
namespace Go.Proofs.Yteadkghffdiaoaa
open Go.RowKit Go.Proofs.YteadkghffdiaoaaW.PrintWords

def greatS (m : Msg) : Bool := decide (30 < m.list.length) || decide (100 < m.item.key.size)

set_option maxHeartbeats 400000 in
theorem great_c (m : Msg) (A : Option Addr) (c : Nat) (w : World) : Calls Try.prog 8 #[.agg (mc m A c)] w fun e w' => e = .returned (.bool (greatS m)) ∧ Below w.heap.size w w' := by
  have hu := Try.underlying27
  have hu2 := Try.underlying24
  go_enter Try.func8, Try.ntmps8
  go_wp2
  all_goals
    go_ret
    exact ⟨ret_b (by rw [Bool.eq_iff_iff]; simp [greatS] <;> omega), (Below.refl _ _).alloc (Nat.le_refl _) _⟩
theorem great_w (m : Msg) (A : Option Addr) (c : Nat) (w : World) {b : Bool} (hb : greatS m = b) : Calls Try.prog 8 #[.agg (mc m A c)] w fun e w' => e = .returned (.bool b) ∧ Below w.heap.size w w' := by
  subst hb; exact great_c m A c w
theorem greatS_no {m : Msg} (h : greatS m = false) : m.list.length ≤ 30 ∧ m.item.key.size ≤ 100 := by
  simpa [greatS] using h

/-- What lies in memory while MsgTells is done. -/
structure TS (m o : Msg) (x : Item) (A B : Option Addr) (c d : Nat) (w : World) (g : Nat) (w' : World) : Prop where
  k5 : w'.heap[g]? = some (.cells (mc m A c) 27 (0, 0))
  k6 : w'.heap[g + 1]? = some (.cells (mc o B d) 27 (0, 0))
  k7 : w'.heap[g + 2]? = some (.cells (ic x) 24 (0, 0))
  rm : RL w' A c m.list
  ro : RL w' B d o.list
  below : Below w.heap.size w w'
theorem TS.step {m o : Msg} {x : Item} {A B : Option Addr} {c d g : Nat} {w w1 w2 : World} (h : TS m o x A B c d w g w1) (hb : Below w1.heap.size w1 w2) : TS m o x A B c d w g w2 :=
  ⟨blk_below h.k5 hb, blk_below h.k6 hb, blk_below h.k7 hb, h.rm.below hb, h.ro.below hb, below_step h.below hb⟩
theorem TS.drew {m o : Msg} {x : Item} {A B : Option Addr} {c d g : Nat} {w w1 : World} (h : TS m o x A B c d w g w1) : TS m o x A B c d w g w1.drew := ⟨h.k5, h.k6, h.k7, ⟨h.rm.r, h.rm.le⟩, ⟨h.ro.r, h.ro.le⟩, below_drewN h.below 1⟩

theorem tellS_list (m : Msg) : (tellS m).list = [] := by unfold tellS; split <;> rfl
theorem tellS_rl (m : Msg) (w : World) : RL w none 0 (tellS m).list := by rw [tellS_list]; exact RL.none_nil _
theorem rsame_self (a : Msg) (A B : Option Addr) (c d : Nat) (w : World) (ha : RL w A c a.list) (hb : RL w B d a.list) : Calls Try.prog 20 #[.agg (mc a A c), .agg (mc a B d)] w fun e w' => e = .returned (.bool true) ∧ Below w.heap.size w w' := by
  have := rsame_c a a A B c d w ha hb; rwa [decide_eq_true rfl] at this

set_option maxHeartbeats 4000000 in
set_option maxRecDepth 100000 in
theorem msgTells_c (m o : Msg) (x : Item) (A B : Option Addr) (c d : Nat) (id n : Int) (w : World) (hr : RL w A c m.list) (hs : RL w B d o.list) (hc : m.call ≤ 9223372036854775807) :
    Calls Try.prog 3 #[.agg (mc m A c), .agg (mc o B d), .agg (ic x), .int .i64 id, .int .i64 n] w fun e w' => e = .returned (.bool true) ∧ Below w.heap.size w w' := by
  have hu := Try.underlying27
  have hu2 := Try.underlying24
  go_enter Try.func3, Try.ntmps3
  go_upto_region 1 with fail
  obtain ⟨W, hW, hb, k5, k6, k7, -⟩ := three_new w (.cells (mc m A c) 27) (.cells (mc o B d) 27) (.cells (ic x) 24)
  rw [← hW]; clear hW
  have sf := Lib.hid (⟨k5, k6, k7, hr.below hb, hs.below hb, hb⟩ : TS m o x A B c d w w.heap.size W); clear k5 k6 k7 hb hr hs
  cases h1 : greatS m with
  | true =>
    go_wp2_with (first
      | (refine gate_ (.load 27 (.tmp 5)) rfl ?_; refine wpList_load_blk 27 (.tmp 5) rfl rfl w.heap.size rfl sf.out.k5 hu rfl msgSize ?_)
      | (go_at_call 8; refine (great_w m A c _ h1).mono ?_; rintro e w1 ⟨rfl, hb1⟩; have sf := Lib.hid (sf.out.step hb1); clear hb1)
      | (go_at_call 9; refine (wakes_c _).mono ?_; rintro e w2 ⟨rfl, hb1⟩; have sf := Lib.hid (sf.out.step hb1); clear hb1))
    go_ret
    exact ⟨rfl, sf.out.below⟩
  | false =>
  cases h2 : greatS o with
  | true =>
    go_wp2_with (first
      | (refine gate_ (.load 27 (.tmp 5)) rfl ?_; refine wpList_load_blk 27 (.tmp 5) rfl rfl w.heap.size rfl sf.out.k5 hu rfl msgSize ?_)
      | (refine gate_ (.load 27 (.tmp 6)) rfl ?_; refine gate_guard (by rfl) ?_; refine wpList_load_blk 27 (.tmp 6) rfl rfl (w.heap.size + 1) rfl sf.out.k6 hu rfl msgSize ?_)
      | (go_at_call 8; with_reducible refine (great_w m A c _ h1).mono ?_; rintro e w1 ⟨rfl, hb1⟩; have sf := Lib.hid (sf.out.step hb1); clear hb1)
      | (go_at_call 8; with_reducible refine (great_w o B d _ h2).mono ?_; rintro e w1 ⟨rfl, hb1⟩; have sf := Lib.hid (sf.out.step hb1); clear hb1)
      | (go_at_call 9; refine (wakes_c _).mono ?_; rintro e w2 ⟨rfl, hb1⟩; have sf := Lib.hid (sf.out.step hb1); clear hb1))
    go_ret
    exact ⟨rfl, sf.out.below⟩
  | false =>
  have HM := Lib.hid (greatS_no h1); have HO := Lib.hid (greatS_no h2)
  cases h3 : decide (100 < (x.key.size : Int)) with
  | true =>
    go_wp2_with (first
      | (refine gate_ (.load 27 (.tmp 5)) rfl ?_; refine wpList_load_blk 27 (.tmp 5) rfl rfl w.heap.size rfl sf.out.k5 hu rfl msgSize ?_)
      | (refine gate_ (.load 27 (.tmp 6)) rfl ?_; refine gate_guard (by rfl) ?_; refine wpList_load_blk 27 (.tmp 6) rfl rfl (w.heap.size + 1) rfl sf.out.k6 hu rfl msgSize ?_)
      | (go_at_call 8; with_reducible refine (great_w m A c _ h1).mono ?_; rintro e w1 ⟨rfl, hb1⟩; have sf := Lib.hid (sf.out.step hb1); clear hb1)
      | (go_at_call 8; with_reducible refine (great_w o B d _ h2).mono ?_; rintro e w1 ⟨rfl, hb1⟩; have sf := Lib.hid (sf.out.step hb1); have q7 := cells_all sf.out.k7; clear hb1)
      | (go_at_call 9; refine (wakes_c _).mono ?_; rintro e w2 ⟨rfl, hb1⟩; have sf := Lib.hid (sf.out.step hb1); clear hb1))
    go_ret
    exact ⟨rfl, sf.out.below⟩
  | false =>
  go_upto_region 5 with (first
      | (refine gate_ (.load 27 (.tmp 5)) rfl ?_; refine wpList_load_blk 27 (.tmp 5) rfl rfl w.heap.size rfl sf.out.k5 hu rfl msgSize ?_)
      | (refine gate_ (.load 27 (.tmp 6)) rfl ?_; refine gate_guard (by rfl) ?_; refine wpList_load_blk 27 (.tmp 6) rfl rfl (w.heap.size + 1) rfl sf.out.k6 hu rfl msgSize ?_)
      | (go_at_call 8; with_reducible refine (great_w m A c _ h1).mono ?_; rintro e w1 ⟨rfl, hb1⟩; have sf := Lib.hid (sf.out.step hb1); clear hb1)
      | (go_at_call 8; with_reducible refine (great_w o B d _ h2).mono ?_; rintro e w1 ⟨rfl, hb1⟩; have sf := Lib.hid (sf.out.step hb1); have q7 := cells_all sf.out.k7; clear hb1)
      | (go_at_call 10; refine (call_c _ _ _).mono ?_; rintro e w2 ⟨rfl, rfl⟩)
      | (go_at_call 11; refine (rcall_c _ _ _).mono ?_; rintro e w2 ⟨rfl, rfl⟩))
  have sf := sf.out.drew
  clear q7
  have b5 : ∀ W1, TS m o x A B c d w w.heap.size W1 → _ := fun W1 h => h.k5
  have b6 : ∀ W1, TS m o x A B c d w w.heap.size W1 → _ := fun W1 h => h.k6
  have b7 : ∀ W1, TS m o x A B c d w w.heap.size W1 → _ := fun W1 h => h.k7
  try simp only [List.append_eq, List.cons_append, List.nil_append]
  refine region_ord (TS m o x A B c d w w.heap.size) [(0, false), (1, false), (2, false), (3, false), (4, false), (5, false), (6, false), (7, false), (8, false), (9, false), (11, false), (10, true), (12, true), (13, false), (14, false), (15, false), (16, false), (18, false), (17, true), (19, true), (20, false), (21, false), (22, false), (23, false), (25, false), (24, true), (26, true), (27, false), (28, false), (29, false), (30, false), (32, false), (31, true), (33, true), (34, false), (35, false), (36, false), (37, false), (39, false), (38, true), (40, true), (41, true), (42, false), (43, false), (44, false), (45, false), (47, false), (48, false), (46, true), (49, true), (50, false), (51, false), (52, false), (53, false), (55, false), (54, true), (56, true), (57, false), (58, false), (59, true), (60, false), (61, false)] (by kernel_rfl) (by kernel_rfl) rfl (by kernel_rfl) sf ?_
  iterate 62 ((first | (refine ord_skip rfl rfl ?_; (try simp only [Act.put, List.setIfInBounds_toArray, List.set_cons_zero, List.set_cons_succ])) | ((first | refine ord_load_blk 27 (.tmp 5) rfl rfl rfl w.heap.size rfl b5 hu rfl msgSize ?_ | refine ord_load_blk 27 (.tmp 6) rfl rfl rfl (w.heap.size + 1) rfl b6 hu rfl msgSize ?_ | refine ord_load_blk 24 (.tmp 7) rfl rfl rfl (w.heap.size + 2) rfl b7 hu2 rfl itemSize ?_ | (with_reducible refine ord_callB 12 rfl rfl rfl (pair_c x _) (fun w' hb => TS.step sf hb) ?_ ?_; (· (go_simp; done)); intro wn sf) | (with_reducible refine ord_callB 13 rfl rfl rfl (rpair_c x _) (fun w' hb => TS.step sf hb) ?_ ?_; (· (go_simp; done)); intro wn sf) | (with_reducible refine ord_callB 14 rfl rfl rfl (right_c m A c _ sf.rm hc) (fun w' hb => TS.step sf hb) ?_ ?_; (· (go_simp; done)); intro wn sf) | (with_reducible refine ord_callB 15 rfl rfl rfl (rright_c m A c _ sf.rm) (fun w' hb => TS.step sf hb) ?_ ?_; (· (go_simp; done)); intro wn sf) | (with_reducible refine ord_callB 16 rfl rfl rfl (asks_c m (.slice A m.list.length c) _) (fun w' hb => TS.step sf hb) ?_ ?_; (· (go_simp; done)); intro wn sf) | (with_reducible refine ord_callB 17 rfl rfl rfl (rasks_c m (.slice A m.list.length c) _) (fun w' hb => TS.step sf hb) ?_ ?_; (· (go_simp; done)); intro wn sf) | (with_reducible refine ord_callB 18 rfl rfl rfl (asker_c m (.slice A m.list.length c) _) (fun w' hb => TS.step sf hb) ?_ ?_; (· (go_simp; done)); intro wn sf) | (with_reducible refine ord_callB 19 rfl rfl rfl (rasker_c m (.slice A m.list.length c) _) (fun w' hb => TS.step sf hb) ?_ ?_; (· (go_simp; done)); intro wn sf) | (with_reducible refine ord_callB 21 rfl rfl rfl (tell_c m (.slice A m.list.length c) _) (fun w' hb => TS.step sf hb) ?_ ?_; (· (go_simp; done)); intro wn sf) | (with_reducible refine ord_callB 22 rfl rfl rfl (rtell_c m (.slice A m.list.length c) _) (fun w' hb => TS.step sf hb) ?_ ?_; (· (go_simp; done)); intro wn sf) | (with_reducible refine ord_callB 20 rfl rfl rfl (rsame_self (tellS m) none none 0 0 _ (tellS_rl m _) (tellS_rl m _)) (fun w' hb => TS.step sf hb) ?_ ?_; (· (go_simp; done)); intro wn sf) | (with_reducible refine ord_callB 23 rfl rfl rfl (same_c m o A B c d _ sf.rm sf.ro) (fun w' hb => TS.step sf hb) ?_ ?_; (· (go_simp; done)); intro wn sf) | (with_reducible refine ord_callB 20 rfl rfl rfl (rsame_c m o A B c d _ sf.rm sf.ro) (fun w' hb => TS.step sf hb) ?_ ?_; (· (go_simp; done)); intro wn sf) | (with_reducible refine ord_callB 20 rfl rfl rfl (rsame_self m A8 A c8 c _ hr8 sf.rm) (fun w' hb => TS.step sf hb) ?_ ?_; (· (go_simp; done)); intro wn sf) | (with_reducible refine ord_callB 9 rfl rfl rfl (wakes_c _) (fun w' hb => TS.step sf hb) ?_ ?_; (· (go_simp; done)); intro wn sf) | (refine ord_call (R := fun u w' => ∃ A8 c8, u = .agg (mc m A8 c8) ∧ RL w' A8 c8 m.list ∧ Below _ _ w') 24 rfl rfl rfl ((own_rl m A c _ sf.rm (by have := HM.out; omega)).mono (fun e w' ⟨A8, c8, he, hr, hb⟩ => ⟨_, he, A8, c8, rfl, hr, hb⟩)) ?_ ?_; (· (go_simp; done)); rintro v wn ⟨A8, c8, rfl, hr8, hb⟩; have sf := TS.step sf hb; refine ⟨sf, ?_⟩; clear hb)); (try simp only [Act.put, List.setIfInBounds_toArray, List.set_cons_zero, List.set_cons_succ])) | (refine ord_val (v := ?_) rfl rfl (fun W1 hW1 => ?_) ?_; rotate_left; (· (go_simp; try with_reducible rfl)); (try simp only [Act.put, List.setIfInBounds_toArray, List.set_cons_zero, List.set_cons_succ]))))
  refine ord_nil ?_
  go_wp2
  go_ret
  exact ⟨rfl, sf.below⟩

end Go.Proofs.Yteadkghffdiaoaa
