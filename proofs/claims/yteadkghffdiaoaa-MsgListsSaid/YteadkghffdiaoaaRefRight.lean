/- garlandref06.Right comes to the same as msg.Right. -/
import Derived.Test.YteadkghffdiaoaaRefMsg
set_option linter.unusedVariables false
set_option linter.unusedSimpArgs false
namespace Go.Proofs.Yteadkghffdiaoaa
open Go.RowKit Go.Proofs.YteadkghffdiaoaaW.PrintWords

theorem off_bare {m : Msg} (h : m.kind ≠ 6) : offS m = bareR m := by unfold offS bareR; simp only [h, if_false]
theorem fine_has {m : Msg} (h : m.kind ≠ 6) : fineS m = hasS m := by unfold fineS hasS; simp only [h, if_false]
theorem right_ref (m : Msg) (e1 : endOk m = true) (e2 : callOk m = true) : rightS m = (decide (bareR m = bareS m) && hasS m) := by
  by_cases h : m.kind = 6
  · have o1 : offS m = { m with item := { m.item with key := ⟨#[]⟩ } } := by unfold offS; rw [if_neg (by omega), if_neg (by omega), if_pos h]
    have o2 : bareR m = { m with item := Item.zero } := by unfold bareR; rw [if_neg (by omega), if_neg (by omega), if_pos h]
    have o3 : fineS m = keyS m.item.key := by unfold fineS; rw [if_neg (by omega), if_neg (by omega), if_pos h]
    have o4 : hasS m = (pairS m.item && itemEqB m.item { Item.zero with key := m.item.key }) := by unfold hasS; rw [if_neg (by omega), if_neg (by omega), if_pos h]
    unfold rightS
    rw [e1, e2, o1, o2, o3, o4]
    obtain ⟨kind, call, frm, dst, key, slow, done, place, pred, list, ⟨k, v, n, g⟩, code⟩ := m
    have hw : withinS 0 = true := by decide
    rw [Bool.eq_iff_iff]
    simp only [bareS, Msg.zero, Item.zero, itemEqB, pairS, Bool.true_and, Bool.and_eq_true, decide_eq_true_eq, Msg.mk.injEq, Item.mk.injEq, true_and]
    constructor
    · rintro ⟨h1, a1, a2, a3, a4, a5, a6, ⟨a7, a8, a9⟩, a10⟩
      subst a7 a8 a9
      exact ⟨⟨a1, a2, a3, a4, a5, a6, a10⟩, ⟨⟨h1, hw⟩, hw⟩, rfl, rfl, rfl⟩
    · rintro ⟨⟨a1, a2, a3, a4, a5, a6, a10⟩, ⟨⟨h1, _⟩, _⟩, a7, a8, a9⟩
      exact ⟨h1, a1, a2, a3, a4, a5, a6, ⟨a7, a8, a9⟩, a10⟩
  · unfold rightS
    rw [e1, e2, off_bare h, fine_has h]
    cases hasS m <;> simp
theorem rightS_same {m : Msg} (e1 : endOk m = true) (e2 : callOk m = true) (h : decide (bareR m = bareS m) = false) : rightS m = false := by rw [right_ref m e1 e2, h]; rfl
theorem rightS_has {m : Msg} (e1 : endOk m = true) (e2 : callOk m = true) (h : decide (bareR m = bareS m) = true) : rightS m = hasS m := by rw [right_ref m e1 e2, h]; rfl
theorem callOk_lt {m : Msg} (h0 : 0 ≤ askerS m) (h : m.call < askerS m * 1048576 + 1) : callOk m = false := by simp [callOk]; omega
theorem callOk_ge {m : Msg} (h : askerS m * 1048576 + 1 + 1048576 ≤ m.call) : callOk m = false := by simp [callOk]; omega
theorem callOk_in {m : Msg} (h0 : 0 ≤ askerS m) (h : ¬ m.call < askerS m * 1048576 + 1) (h2 : ¬ askerS m * 1048576 + 1 + 1048576 ≤ m.call) : callOk m = true := by simp [callOk]; omega
theorem asker_place {m : Msg} (hp : placeS m.frm = true) (hq : placeS m.dst = true) : 0 ≤ askerS m ∧ askerS m < 65536 := by
  rw [placeS_iff] at hp hq
  unfold askerS; split <;> assumption

set_option maxHeartbeats 4000000 in
set_option maxRecDepth 100000 in
theorem rright_c (m : Msg) (A : Option Addr) (c : Nat) (w : World) (hr : RL w A c m.list) : Calls Try.prog 15 #[.agg (mc m A c)] w (RightP m w) := by
  have hu := Try.underlying27
  have HR := Lib.hid hr; clear hr
  obtain ⟨W, hW, hk⟩ : ∃ W, W = w.alloc (.cells (mc m A c) 27) ∧ W.heap[w.heap.size]? = some (.cells (mc m A c) 27 (0, 0)) := ⟨_, rfl, blk_new w _⟩
  have HB : Hid (Below w.heap.size w W) := Lib.hid (by rw [hW]; exact (Below.refl _ _).alloc (Nat.le_refl _) _)
  have hs : W.heap.size = w.heap.size + 1 := by rw [hW]; simp
  have HS := Lib.hid hs; clear hs
  have g1 := cells_all hk
  have K1 := Lib.hid hk
  go_enter Try.func15, Try.ntmps15
  go_upto_region 1 with fail
  rw [← hW]
  clear hW hk
  rcases (by omega : m.kind < 1 ∨ 13 ≤ m.kind ∨ (1 ≤ m.kind ∧ m.kind < 13)) with h | h | ⟨h1, h2⟩
  · have HE := Lib.hid (rightS_end (m := m) (by simp [endOk]; omega))
    go_wp2
    go_ret
    exact ⟨ret_b HE.out.symm, HB.out⟩
  · have HE := Lib.hid (rightS_end (m := m) (by simp [endOk]; omega))
    go_wp2
    go_ret
    exact ⟨ret_b HE.out.symm, HB.out⟩
  rcases hp : placeS m.frm with _ | _
  · have HE := Lib.hid (rightS_end (m := m) (by simp [endOk, hp]))
    go_wp2_with (go_at_call 26; refine (rplace_c _ _).mono ?_; rintro e w' ⟨rfl, rfl⟩)
    go_ret
    exact ⟨ret_b HE.out.symm, HB.out⟩
  rcases hq : placeS m.dst with _ | _
  · have HE := Lib.hid (rightS_end (m := m) (by simp [endOk, hq]))
    go_wp2_with (go_at_call 26; refine (rplace_c _ _).mono ?_; rintro e w' ⟨rfl, rfl⟩)
    go_ret
    exact ⟨ret_b HE.out.symm, HB.out⟩
  by_cases he : m.frm = m.dst
  · have HE := Lib.hid (rightS_end (m := m) (by simp [endOk, he]))
    have b : (m.frm == m.dst) = true := by simpa using he
    clear he
    go_wp2_with (go_at_call 26; refine (rplace_c _ _).mono ?_; rintro e w' ⟨rfl, rfl⟩)
    go_ret
    exact ⟨ret_b HE.out.symm, HB.out⟩
  have hE := Lib.hid (show endOk m = true by simp [endOk, h1, h2, hp, hq, he])
  have b : (m.frm == m.dst) = false := by simpa using he
  clear he
  go_upto_region 3 with (go_at_call 26; refine (rplace_c _ _).mono ?_; rintro e w' ⟨rfl, rfl⟩)
  obtain ⟨a0, a1⟩ := asker_place hp hq
  obtain ⟨a, ha⟩ : ∃ a, a = askerS m := ⟨_, rfl⟩
  have HA := Lib.hid ha
  rw [← ha] at a0 a1
  clear ha
  go_upto_region 4 with (first
    | (refine gate_ (.load 27 (.tmp 1)) rfl ?_; refine wpList_load_blk 27 (.tmp 1) rfl rfl w.heap.size rfl K1.out hu rfl msgSize ?_)
    | (go_at_call 19; refine (rasker_c m _ _).mono ?_; rintro e w2 ⟨rfl, hb⟩; rw [← HA.out]; have k1' := blk_below K1.out hb; have HB2 := Lib.hid (below_step HB.out hb); have HS2 := Lib.hid hb.size; clear hb g1; have g1 := cells_all k1'; have K1' := Lib.hid k1'; clear k1'))
  by_cases c1 : m.call < a * 1048576 + 1
  · have HE := Lib.hid (rightS_call (callOk_lt (m := m) (by rw [← HA.out]; exact a0) (by rw [← HA.out]; exact c1)))
    go_wp2
    go_ret
    exact ⟨ret_b HE.out.symm, HB2.out⟩
  by_cases c2 : a * 1048576 + 1 + 1048576 ≤ m.call
  · have HE := Lib.hid (rightS_call (callOk_ge (m := m) (by rw [← HA.out]; exact c2)))
    go_wp2
    go_ret
    exact ⟨ret_b HE.out.symm, HB2.out⟩
  have hC := Lib.hid (callOk_in (m := m) (by rw [← HA.out]; exact a0) (by rw [← HA.out]; exact c1) (by rw [← HA.out]; exact c2))
  go_upto_region 7 with (first
    | (refine gate_ (.store 27 (.tmp 4) (.tmp 55)) rfl ?_; refine wpList_store_blk 27 (.tmp 4) (.tmp 55) rfl rfl rfl w2.heap.size rfl (blk_new w2 (.cells zmc 27)) (cs := mcv (bareS m) (.slice none 0 0)) rfl msgSize rfl (mcv_one rfl) ?_; intro w3 k3 hg3
       have k1 := (hg3.block w.heap.size (by have := blk_lt K1'.out; simp; omega) (by have := blk_lt K1'.out; simp; omega)).trans (blk_below K1'.out ((Below.refl _ w2).alloc (Nat.le_refl _) _))
       have HB3 := Lib.hid ((HB2.out.alloc HB2.out.size _).grown hg3 ((HB2.out.alloc HB2.out.size _).size) (fun k e => by have := Option.some.inj e; have := blk_lt K1'.out; omega)); clear hg3))
  have bl1 : ∀ W1, Below w3.heap.size w3 W1 → W1.heap[w.heap.size]? = some (.cells (mc m A c) 27 (0, 0)) := fun W1 h => blk_below k1 h
  have bl2 : ∀ W1, Below w3.heap.size w3 W1 → W1.heap[w2.heap.size]? = some (.cells (mc (bareS m) none 0) 27 (0, 0)) := fun W1 h => blk_below k3 h
  have rs : ∀ W1, Below w3.heap.size w3 W1 → _ := fun W1 hW1 => rsame_c (bareR m) (bareS m) (bareA m A) none (bareC m c) 0 W1 (bareR_RL (HR.out.below (below_step HB3.out hW1))) (RL.none_nil W1)
  clear k1 k3 g1 c1 c2
  rcases hsm : decide (bareR m = bareS m) with _ | _
  · have HE := Lib.hid (rightS_same hE.out hC.out hsm)
    rw [hsm] at rs
    (refine region_below (by kernel_rfl) (by kernel_rfl) ?_; (repeat (first | (refine quiet_skip rfl ?_; (try simp only [Act.put, List.setIfInBounds_toArray, List.set_cons_zero, List.set_cons_succ])) | ((first | refine quiet_load_blk 27 (.tmp 1) rfl rfl w.heap.size rfl bl1 hu rfl msgSize ?_ | refine quiet_load_blk 27 (.tmp 4) rfl rfl w2.heap.size rfl bl2 hu rfl msgSize ?_ | (refine quiet_callB 31 rfl rfl (fun W1 hW1 => bare_c m A c W1) (fun W1 hW1 => ?_) ?_; (· (go_simp; done))) | (refine quiet_callB 20 rfl rfl rs (fun W1 hW1 => ?_) ?_; (· (go_simp; done)))); (try simp only [Act.put, List.setIfInBounds_toArray, List.set_cons_zero, List.set_cons_succ])) | (refine quiet_val (v := ?_) rfl (fun W1 hW1 => ?_) ?_; rotate_left; (· (go_simp; try with_reducible rfl)); (try simp only [Act.put, List.setIfInBounds_toArray, List.set_cons_zero, List.set_cons_succ])))); refine wpQuiet_nil ?_; intro Wq hWq)
    have HB4 := Lib.hid (below_step HB3.out hWq)
    clear hWq
    go_wp2
    go_ret
    exact ⟨ret_b HE.out.symm, HB4.out⟩
  · have HE := Lib.hid (rightS_has hE.out hC.out hsm)
    rw [hsm] at rs
    (refine region_below (by kernel_rfl) (by kernel_rfl) ?_; (repeat (first | (refine quiet_skip rfl ?_; (try simp only [Act.put, List.setIfInBounds_toArray, List.set_cons_zero, List.set_cons_succ])) | ((first | refine quiet_load_blk 27 (.tmp 1) rfl rfl w.heap.size rfl bl1 hu rfl msgSize ?_ | refine quiet_load_blk 27 (.tmp 4) rfl rfl w2.heap.size rfl bl2 hu rfl msgSize ?_ | (refine quiet_callB 31 rfl rfl (fun W1 hW1 => bare_c m A c W1) (fun W1 hW1 => ?_) ?_; (· (go_simp; done))) | (refine quiet_callB 32 rfl rfl (fun W1 hW1 => has_c m A c W1 (HR.out.below (below_step HB3.out hW1))) (fun W1 hW1 => ?_) ?_; (· (go_simp; done))) | (refine quiet_callB 20 rfl rfl rs (fun W1 hW1 => ?_) ?_; (· (go_simp; done)))); (try simp only [Act.put, List.setIfInBounds_toArray, List.set_cons_zero, List.set_cons_succ])) | (refine quiet_val (v := ?_) rfl (fun W1 hW1 => ?_) ?_; rotate_left; (· (go_simp; try with_reducible rfl)); (try simp only [Act.put, List.setIfInBounds_toArray, List.set_cons_zero, List.set_cons_succ])))); refine wpQuiet_nil ?_; intro Wq hWq)
    have HB4 := Lib.hid (below_step HB3.out hWq)
    clear hWq
    go_wp2
    go_ret
    exact ⟨ret_b HE.out.symm, HB4.out⟩

end Go.Proofs.Yteadkghffdiaoaa
