/- Law 06: MsgCalls: numbers of calls. -/
import Derived.Test.YteadkghffdiaoaaLawB
import Derived.Test.YteadkghffdiaoaaOrdT
set_option linter.unusedVariables false
set_option linter.unusedSimpArgs false
namespace Go.Proofs.Yteadkghffdiaoaa
open Go.RowKit Go.Proofs.YteadkghffdiaoaaW.PrintWords

def CallOk (id n : Int) : Prop := placeS id = true ∧ 1 ≤ n ∧ n ≤ 1048576
theorem call_y (id n : Int) (w : World) (h : CallOk id n) : Calls Try.prog 10 #[.int .i64 id, .int .i64 n] w fun e w' => e = .returned (.tuple #[.int .i64 (id * 1048576 + n), .int .i64 0]) ∧ w = w' := by
  have := call_c id n w; rwa [callS_yes h] at this
theorem call_n (id n : Int) (w : World) (h : ¬ CallOk id n) : Calls Try.prog 10 #[.int .i64 id, .int .i64 n] w fun e w' => e = .returned (.tuple #[.int .i64 0, .int .i64 2]) ∧ w = w' := by
  have := call_c id n w; rwa [callS_no h] at this
/-- A message of a ping: asked (2), told (8). -/
def pingM (k c a b : Int) : Msg := { Msg.zero with kind := k, call := c, frm := a, dst := b }
theorem ping_right {a b c : Int} (ha : placeS a = true) (hb : placeS b = true) (hne : a ≠ b) (h1 : 1 ≤ c) (hc : (c - 1) / 1048576 = a) : rightS (pingM 2 c a b) = true := by
  refine (rightS_iff _).2 ⟨⟨of_decide_eq_true rfl, of_decide_eq_true rfl, ha, hb, hne⟩, ⟨h1, ?_⟩, rfl, rfl⟩
  exact hc
theorem ping_wrong {a b c : Int} (hc : (c - 1) / 1048576 ≠ a) : rightS (pingM 2 c a b) = false := by
  rw [Bool.eq_false_iff]; intro hh
  exact hc ((rightS_iff _).1 hh).2.1.2
theorem pong_right {a b c : Int} (ha : placeS a = true) (hb : placeS b = true) (hne : a ≠ b) (h1 : 1 ≤ c) (hc : (c - 1) / 1048576 = b) : rightS (pingM 8 c a b) = true := by
  refine (rightS_iff _).2 ⟨⟨of_decide_eq_true rfl, of_decide_eq_true rfl, ha, hb, hne⟩, ⟨h1, ?_⟩, rfl, rfl⟩
  exact hc
theorem pong_wrong {a b c : Int} (hc : (c - 1) / 1048576 ≠ b) : rightS (pingM 8 c a b) = false := by
  rw [Bool.eq_false_iff]; intro hh
  exact hc ((rightS_iff _).1 hh).2.1.2
theorem call_pre {a n : Int} (h : CallOk a n) : 1 ≤ a * 1048576 + n ∧ (a * 1048576 + n - 1) / 1048576 = a ∧ a * 1048576 + n ≤ 68719476736 := by
  obtain ⟨h1, h2, h3⟩ := h
  rw [placeS_iff] at h1
  omega

/-- What lies in memory while MsgCalls is done. -/
structure TC (w : World) (g : Nat) (p q : Msg) (w' : World) : Prop where
  k14 : w'.heap[w.heap.size]? = some (.cells (mc p none 0) 27 (0, 0))
  k15 : w'.heap[g]? = some (.cells (mc q none 0) 27 (0, 0))
  below : Below w.heap.size w w'
  le : w.heap.size ≤ g
theorem TC.step {w w1 w2 : World} {g : Nat} {p q : Msg} (h : TC w g p q w1) (hb : Below w1.heap.size w1 w2) : TC w g p q w2 := ⟨blk_below h.k14 hb, blk_below h.k15 hb, below_step h.below hb, h.le⟩
theorem TC.drew {w w1 : World} {g : Nat} {p q : Msg} (h : TC w g p q w1) : TC w g p q w1.drew := ⟨h.k14, h.k15, below_drewN h.below 1, h.le⟩
theorem TC.lt {w w1 : World} {g : Nat} {p q : Msg} (h : TC w g p q w1) : g < w1.heap.size := blk_lt h.k15
theorem TC.grown {w w1 w2 : World} {g j : Nat} {p q : Msg} (h : TC w g p q w1) (hg : w1.grownBy w2 (some j)) (hne : g < j) : TC w g p q w2 :=
  ⟨blk_grown h.k14 hg (by have := h.le; simp; omega), blk_grown h.k15 hg (by simp; omega), h.below.grown hg h.below.size (fun k e => by have := Option.some.inj e; have := h.le; omega), h.le⟩
theorem alloc_below (w : World) (o : Obj) : Below w.heap.size w (w.alloc o) := (Below.refl _ _).alloc (Nat.le_refl _) _
theorem right_p (k c a b : Int) (w : World) (hc : c ≤ 9223372036854775807) {r : Bool} (hb : Hid (rightS (pingM k c a b) = r)) : Calls Try.prog 14 #[.agg (mc (pingM k c a b) none 0)] w fun e w' => e = .returned (.bool r) ∧ Below w.heap.size w w' := right_t _ none 0 w (RL.none_nil _) hc hb.out

set_option maxHeartbeats 4000000 in
set_option maxRecDepth 100000 in
theorem msgCalls_c (a b n k : Int) (w : World) :
    Calls Try.prog 6 #[.int .i64 a, .int .i64 b, .int .i64 n, .int .i64 k] w fun e w' => e = .returned (.bool true) ∧ Below w.heap.size w w' := by
  have hu := Try.underlying27
  by_cases hA : CallOk a n
  · by_cases hB : CallOk b k
    · have hA := Lib.hid hA; have hB := Lib.hid hB
      by_cases hab : a = b
      · subst hab
        by_cases hnk : n = k
        · subst hnk
          go_enter Try.func6, Try.ntmps6
          go_wp2_with (first
        | (go_at_call 10; refine (call_c _ _ _).mono ?_; rintro e w1 ⟨rfl, rfl⟩; first | rw [callS_yes hA.out] | rw [callS_yes hB.out] | rw [callS_no hB] | rw [callS_no hA])
        | (go_at_call 9; refine (wakes_c _).mono ?_; rintro e w2 ⟨rfl, hb1⟩))
          go_ret
          exact ⟨rfl, hb1⟩
        · have b1 : (n == k) = false := by simpa using hnk
          have b2 : (a * 1048576 + n == a * 1048576 + k) = false := by rw [beq_eq_false_iff_ne]; omega
          go_enter Try.func6, Try.ntmps6
          go_wp2_with (first
        | (go_at_call 10; refine (call_c _ _ _).mono ?_; rintro e w1 ⟨rfl, rfl⟩; first | rw [callS_yes hA.out] | rw [callS_yes hB.out] | rw [callS_no hB] | rw [callS_no hA])
        | (go_at_call 9; refine (wakes_c _).mono ?_; rintro e w2 ⟨rfl, hb1⟩))
          go_ret
          exact ⟨rfl, hb1⟩
      · have b1 : (a == b) = false := by simpa using hab
        have b2 : (a * 1048576 + n == b * 1048576 + k) = false := by
          obtain ⟨p1, p2, p3⟩ := hA.out
          obtain ⟨q1, q2, q3⟩ := hB.out
          rw [beq_eq_false_iff_ne]; omega
        go_enter Try.func6, Try.ntmps6
        go_upto_region 12 with (first
        | (go_at_call 10; refine (call_c _ _ _).mono ?_; rintro e w1 ⟨rfl, rfl⟩; first | rw [callS_yes hA.out] | rw [callS_yes hB.out] | rw [callS_no hB] | rw [callS_no hA])
        | (go_at_call 9; refine (wakes_c _).mono ?_; rintro e w2 ⟨rfl, hb1⟩)
          | (refine gate_ (.store 27 (.tmp 14) (.tmp 88)) rfl ?_; refine wpList_store_new 27 (.tmp 14) (.tmp 88) rfl rfl rfl rfl (cs := mc (pingM 2 (a * 1048576 + n) a b) none 0) rfl msgSize rfl (mcv_one rfl) (Below.refl w.heap.size _) ?_; intro w3 k14 hb3)
          | (refine gate_ (.store 27 (.tmp 15) (.tmp 92)) rfl ?_; refine wpList_store_new 27 (.tmp 15) (.tmp 92) rfl rfl rfl rfl (cs := mc (pingM 8 (b * 1048576 + k) a b) none 0) rfl msgSize rfl (mcv_one rfl) (Below.refl w3.heap.size _) ?_; intro w4 k15 hb4))
        obtain ⟨f1, f2, f3⟩ := call_pre hA.out
        obtain ⟨f4, f5, f6⟩ := call_pre hB.out
        obtain ⟨pa, pa2, pa3⟩ := hA.out
        obtain ⟨pb, pb2, pb3⟩ := hB.out
        have c1 : a * 1048576 + n ≤ 9223372036854775807 := by omega
        have c2 : b * 1048576 + k ≤ 9223372036854775807 := by omega
        have r1 := Lib.hid (ping_right pa pb hab f1 f2)
        have r2 := Lib.hid (pong_right pa pb hab f4 f5)
        have r3 := Lib.hid (ping_wrong (a := a) (b := b) (c := b * 1048576 + k) (by rw [f5]; exact fun e => hab e.symm))
        have r4 := Lib.hid (pong_wrong (a := a) (b := b) (c := a * 1048576 + n) (by rw [f2]; exact hab))
        have sk : TC w w3.heap.size (pingM 2 (a * 1048576 + n) a b) (pingM 8 (b * 1048576 + k) a b) w4.drew := TC.drew ⟨blk_below k14 hb4, k15, below_step hb3 hb4, hb3.size⟩
        clear f1 f2 f3 f4 f5 f6 pa pa2 pa3 pb pb2 pb3 k14 k15 hb3 hb4
        have b14 : ∀ W1, TC w w3.heap.size (pingM 2 (a * 1048576 + n) a b) (pingM 8 (b * 1048576 + k) a b) W1 → _ := fun W1 h => h.k14
        have b15 : ∀ W1, TC w w3.heap.size (pingM 2 (a * 1048576 + n) a b) (pingM 8 (b * 1048576 + k) a b) W1 → _ := fun W1 h => h.k15
        try simp only [List.append_eq, List.cons_append, List.nil_append]
        refine region_ordT (TC w w3.heap.size (pingM 2 (a * 1048576 + n) a b) (pingM 8 (b * 1048576 + k) a b)) (.take 0 (.take 1 (.two 2 3 (.one 3 (.one 4 (.one 5 .done))) (.one 2 (.one 4 (.one 5 .done)))))) (by kernel_rfl) (by kernel_rfl) rfl (by kernel_rfl) sk ?_
        refine ordT_load_blk 27 (.tmp 14) rfl rfl rfl w.heap.size rfl b14 hu rfl msgSize ?_
        (try simp only [Act.put, List.setIfInBounds_toArray, List.set_cons_zero, List.set_cons_succ])
        refine ordT_load_blk 27 (.tmp 15) rfl rfl rfl w3.heap.size rfl b15 hu rfl msgSize ?_
        (try simp only [Act.put, List.setIfInBounds_toArray, List.set_cons_zero, List.set_cons_succ])
        clear b14 b15
        refine ⟨?_, ?_⟩
        · -- 16 first
          refine deed_run (v := .pointer (some ⟨w4.heap.size, 0, none⟩)) (w1 := w4.drew.alloc (.cells zmc 27)) rfl rfl (by go_simp; done) ?_
          have kA := blk_new w4.drew (.cells zmc 27)
          have sk5 := sk.step (alloc_below w4.drew (.cells zmc 27))
          refine ⟨sk5, ?_⟩
          have hs5 : (w4.drew.alloc (.cells zmc 27)).heap.size = w4.heap.size + 1 := by simp
          generalize World.alloc _ _ = W5 at kA sk5 hs5 ⊢
          (try simp only [Act.put, List.setIfInBounds_toArray, List.set_cons_zero, List.set_cons_succ])
          refine deed_run (v := .pointer (some ⟨W5.heap.size, 0, none⟩)) (w1 := W5.alloc (.cells zmc 27)) rfl rfl (by go_simp; done) ?_
          have kB := blk_new W5 (.cells zmc 27)
          have kA := blk_below kA (alloc_below W5 (.cells zmc 27))
          have sk6 := sk5.step (alloc_below W5 (.cells zmc 27))
          refine ⟨sk6, ?_⟩
          generalize World.alloc _ _ = W6 at kA kB sk6 ⊢
          rw [hs5] at kB ⊢
          (try simp only [Act.put, List.setIfInBounds_toArray, List.set_cons_zero, List.set_cons_succ])
          have k16 : W6.heap[w4.heap.size]? = some (.cells zmc 27 (0, 0)) := kA
          have k17 : W6.heap[w4.heap.size + 1]? = some (.cells zmc 27 (0, 0)) := kB
          clear kA kB
          have hlt : w3.heap.size < w4.heap.size := sk.lt
          have l16 : w3.heap.size < w4.heap.size := by omega
          have l17 : w3.heap.size < w4.heap.size + 1 := by omega
          have hne : w4.heap.size ≠ w4.heap.size + 1 := by omega
          clear hs5 sk sk5 hlt
          refine deed_store 27 (.tmp 16) (.tmp 93) rfl rfl rfl rfl (w4.heap.size) 0 rfl (v := .agg (mc (pingM 2 (a * 1048576 + n) a b) none 0)) rfl k16 (cs' := mc (pingM 2 (a * 1048576 + n) a b) none 0) (by kernel_rfl) (of_decide_eq_true rfl) (mcv_one rfl) rfl ?_
          intro W7 k16 hg
          have sk7 := sk6.grown hg l16
          have k17 := blk_grown k17 hg (by simp)
          refine ⟨sk7, ?_⟩
          (try simp only [Act.put, List.setIfInBounds_toArray, List.set_cons_zero, List.set_cons_succ])
          clear hg sk6
          refine deed_store 27 (.tmp 17) (.tmp 94) rfl rfl rfl rfl (w4.heap.size + 1) 0 rfl (v := .agg (mc (pingM 8 (b * 1048576 + k) a b) none 0)) rfl k17 (cs' := mc (pingM 8 (b * 1048576 + k) a b) none 0) (by kernel_rfl) (of_decide_eq_true rfl) (mcv_one rfl) rfl ?_
          intro W8 k17 hg
          have sk := sk7.grown hg l17
          have k16 := blk_grown k16 hg (by simp)
          refine ⟨sk, ?_⟩
          (try simp only [Act.put, List.setIfInBounds_toArray, List.set_cons_zero, List.set_cons_succ])
          clear hg sk7
          refine NoPanic.normal ?_
          go_wp2_with (first
            | (refine gate_ (.store 3 (.tmp 97) (.tmp 95)) rfl ?_; refine wpList_store_at 3 (.tmp 97) (.tmp 95) rfl rfl rfl (w4.heap.size) 1 rfl (v := .int .i64 (b * 1048576 + k)) rfl k16 (cs' := mc (pingM 2 (b * 1048576 + k) a b) none 0) (by kernel_rfl) (of_decide_eq_true rfl) (by simp [Value.cells, Value.oneCell']) rfl ?_; intro w7 k16b hg; have sk := sk.grown hg l16; have k17 := blk_grown k17 hg (by simp); clear hg k16)
            | (refine gate_ (.store 3 (.tmp 98) (.tmp 96)) rfl ?_; refine wpList_store_at 3 (.tmp 98) (.tmp 96) rfl rfl rfl (w4.heap.size + 1) 1 rfl (v := .int .i64 (a * 1048576 + n)) rfl k17 (cs' := mc (pingM 8 (a * 1048576 + n) a b) none 0) (by kernel_rfl) (of_decide_eq_true rfl) (by simp [Value.cells, Value.oneCell']) rfl ?_; intro w8 k17b hg; have sk := Lib.hid (sk.grown hg l17); have k16b := blk_grown k16b hg (by simp); clear hg k17)
            | (refine gate_ (.load 27 (.tmp 14)) rfl ?_; refine wpList_load_blk 27 (.tmp 14) rfl rfl w.heap.size rfl sk.out.k14 hu rfl msgSize ?_)
            | (refine gate_ (.load 27 (.tmp 15)) rfl ?_; refine gate_guard (by rfl) ?_; refine wpList_load_blk 27 (.tmp 15) rfl rfl w3.heap.size rfl sk.out.k15 hu rfl msgSize ?_)
            | (refine gate_ (.load 27 (.tmp 16)) rfl ?_; refine gate_guard (by rfl) ?_; refine wpList_load_blk 27 (.tmp 16) rfl rfl (w4.heap.size) rfl k16b hu rfl msgSize ?_)
            | (refine gate_ (.load 27 (.tmp 17)) rfl ?_; refine gate_guard (by rfl) ?_; refine wpList_load_blk 27 (.tmp 17) rfl rfl (w4.heap.size + 1) rfl k17b hu rfl msgSize ?_)
            | (go_at_call 14; with_reducible refine (right_p 2 (a * 1048576 + n) a b _ c1 r1).mono ?_; rintro e w9 ⟨rfl, hb1⟩; have sk := Lib.hid (sk.out.step hb1); replace k16b := blk_below k16b hb1; replace k17b := blk_below k17b hb1; clear hb1)
            | (go_at_call 14; with_reducible refine (right_p 8 (b * 1048576 + k) a b _ c2 r2).mono ?_; rintro e w9 ⟨rfl, hb1⟩; have sk := Lib.hid (sk.out.step hb1); replace k16b := blk_below k16b hb1; replace k17b := blk_below k17b hb1; clear hb1)
            | (go_at_call 14; with_reducible refine (right_p 2 (b * 1048576 + k) a b _ c2 r3).mono ?_; rintro e w9 ⟨rfl, hb1⟩; have sk := Lib.hid (sk.out.step hb1); replace k17b := blk_below k17b hb1; clear hb1)
            | (go_at_call 14; with_reducible refine (right_p 8 (a * 1048576 + n) a b _ c1 r4).mono ?_; rintro e w9 ⟨rfl, hb1⟩; have sk := Lib.hid (sk.out.step hb1); clear hb1)
            | (go_at_call 9; refine (wakes_c _).mono ?_; rintro e w2 ⟨rfl, hb1⟩; have sk := Lib.hid (sk.out.step hb1); clear hb1))
          go_ret
          exact ⟨rfl, sk.out.below⟩
        · -- 17 first
          refine deed_run (v := .pointer (some ⟨w4.heap.size, 0, none⟩)) (w1 := w4.drew.alloc (.cells zmc 27)) rfl rfl (by go_simp; done) ?_
          have kA := blk_new w4.drew (.cells zmc 27)
          have sk5 := sk.step (alloc_below w4.drew (.cells zmc 27))
          refine ⟨sk5, ?_⟩
          have hs5 : (w4.drew.alloc (.cells zmc 27)).heap.size = w4.heap.size + 1 := by simp
          generalize World.alloc _ _ = W5 at kA sk5 hs5 ⊢
          (try simp only [Act.put, List.setIfInBounds_toArray, List.set_cons_zero, List.set_cons_succ])
          refine deed_run (v := .pointer (some ⟨W5.heap.size, 0, none⟩)) (w1 := W5.alloc (.cells zmc 27)) rfl rfl (by go_simp; done) ?_
          have kB := blk_new W5 (.cells zmc 27)
          have kA := blk_below kA (alloc_below W5 (.cells zmc 27))
          have sk6 := sk5.step (alloc_below W5 (.cells zmc 27))
          refine ⟨sk6, ?_⟩
          generalize World.alloc _ _ = W6 at kA kB sk6 ⊢
          rw [hs5] at kB ⊢
          (try simp only [Act.put, List.setIfInBounds_toArray, List.set_cons_zero, List.set_cons_succ])
          have k16 : W6.heap[w4.heap.size + 1]? = some (.cells zmc 27 (0, 0)) := kB
          have k17 : W6.heap[w4.heap.size]? = some (.cells zmc 27 (0, 0)) := kA
          clear kA kB
          have hlt : w3.heap.size < w4.heap.size := sk.lt
          have l16 : w3.heap.size < w4.heap.size + 1 := by omega
          have l17 : w3.heap.size < w4.heap.size := by omega
          have hne : w4.heap.size + 1 ≠ w4.heap.size := by omega
          clear hs5 sk sk5 hlt
          refine deed_store 27 (.tmp 16) (.tmp 93) rfl rfl rfl rfl (w4.heap.size + 1) 0 rfl (v := .agg (mc (pingM 2 (a * 1048576 + n) a b) none 0)) rfl k16 (cs' := mc (pingM 2 (a * 1048576 + n) a b) none 0) (by kernel_rfl) (of_decide_eq_true rfl) (mcv_one rfl) rfl ?_
          intro W7 k16 hg
          have sk7 := sk6.grown hg l16
          have k17 := blk_grown k17 hg (by simp)
          refine ⟨sk7, ?_⟩
          (try simp only [Act.put, List.setIfInBounds_toArray, List.set_cons_zero, List.set_cons_succ])
          clear hg sk6
          refine deed_store 27 (.tmp 17) (.tmp 94) rfl rfl rfl rfl (w4.heap.size) 0 rfl (v := .agg (mc (pingM 8 (b * 1048576 + k) a b) none 0)) rfl k17 (cs' := mc (pingM 8 (b * 1048576 + k) a b) none 0) (by kernel_rfl) (of_decide_eq_true rfl) (mcv_one rfl) rfl ?_
          intro W8 k17 hg
          have sk := sk7.grown hg l17
          have k16 := blk_grown k16 hg (by simp)
          refine ⟨sk, ?_⟩
          (try simp only [Act.put, List.setIfInBounds_toArray, List.set_cons_zero, List.set_cons_succ])
          clear hg sk7
          refine NoPanic.normal ?_
          go_wp2_with (first
            | (refine gate_ (.store 3 (.tmp 97) (.tmp 95)) rfl ?_; refine wpList_store_at 3 (.tmp 97) (.tmp 95) rfl rfl rfl (w4.heap.size + 1) 1 rfl (v := .int .i64 (b * 1048576 + k)) rfl k16 (cs' := mc (pingM 2 (b * 1048576 + k) a b) none 0) (by kernel_rfl) (of_decide_eq_true rfl) (by simp [Value.cells, Value.oneCell']) rfl ?_; intro w7 k16b hg; have sk := sk.grown hg l16; have k17 := blk_grown k17 hg (by simp); clear hg k16)
            | (refine gate_ (.store 3 (.tmp 98) (.tmp 96)) rfl ?_; refine wpList_store_at 3 (.tmp 98) (.tmp 96) rfl rfl rfl (w4.heap.size) 1 rfl (v := .int .i64 (a * 1048576 + n)) rfl k17 (cs' := mc (pingM 8 (a * 1048576 + n) a b) none 0) (by kernel_rfl) (of_decide_eq_true rfl) (by simp [Value.cells, Value.oneCell']) rfl ?_; intro w8 k17b hg; have sk := Lib.hid (sk.grown hg l17); have k16b := blk_grown k16b hg (by simp); clear hg k17)
            | (refine gate_ (.load 27 (.tmp 14)) rfl ?_; refine wpList_load_blk 27 (.tmp 14) rfl rfl w.heap.size rfl sk.out.k14 hu rfl msgSize ?_)
            | (refine gate_ (.load 27 (.tmp 15)) rfl ?_; refine gate_guard (by rfl) ?_; refine wpList_load_blk 27 (.tmp 15) rfl rfl w3.heap.size rfl sk.out.k15 hu rfl msgSize ?_)
            | (refine gate_ (.load 27 (.tmp 16)) rfl ?_; refine gate_guard (by rfl) ?_; refine wpList_load_blk 27 (.tmp 16) rfl rfl (w4.heap.size + 1) rfl k16b hu rfl msgSize ?_)
            | (refine gate_ (.load 27 (.tmp 17)) rfl ?_; refine gate_guard (by rfl) ?_; refine wpList_load_blk 27 (.tmp 17) rfl rfl (w4.heap.size) rfl k17b hu rfl msgSize ?_)
            | (go_at_call 14; with_reducible refine (right_p 2 (a * 1048576 + n) a b _ c1 r1).mono ?_; rintro e w9 ⟨rfl, hb1⟩; have sk := Lib.hid (sk.out.step hb1); replace k16b := blk_below k16b hb1; replace k17b := blk_below k17b hb1; clear hb1)
            | (go_at_call 14; with_reducible refine (right_p 8 (b * 1048576 + k) a b _ c2 r2).mono ?_; rintro e w9 ⟨rfl, hb1⟩; have sk := Lib.hid (sk.out.step hb1); replace k16b := blk_below k16b hb1; replace k17b := blk_below k17b hb1; clear hb1)
            | (go_at_call 14; with_reducible refine (right_p 2 (b * 1048576 + k) a b _ c2 r3).mono ?_; rintro e w9 ⟨rfl, hb1⟩; have sk := Lib.hid (sk.out.step hb1); replace k17b := blk_below k17b hb1; clear hb1)
            | (go_at_call 14; with_reducible refine (right_p 8 (a * 1048576 + n) a b _ c1 r4).mono ?_; rintro e w9 ⟨rfl, hb1⟩; have sk := Lib.hid (sk.out.step hb1); clear hb1)
            | (go_at_call 9; refine (wakes_c _).mono ?_; rintro e w2 ⟨rfl, hb1⟩; have sk := Lib.hid (sk.out.step hb1); clear hb1))
          go_ret
          exact ⟨rfl, sk.out.below⟩
    · obtain ⟨h1, h2, h3⟩ := hA
      have hA := Lib.hid (⟨h1, h2, h3⟩ : CallOk a n)
      obtain ⟨p1, p2⟩ := placeS_iff.1 h1
      go_enter Try.func6, Try.ntmps6
      go_wp2_with (first
        | (go_at_call 10; refine (call_c _ _ _).mono ?_; rintro e w1 ⟨rfl, rfl⟩; first | rw [callS_yes hA.out] | rw [callS_no hB])
        | (go_at_call 9; refine (wakes_c _).mono ?_; rintro e w2 ⟨rfl, hb1⟩))
      go_ret
      exact ⟨rfl, hb1⟩
  · by_cases hB : CallOk b k
    · have hB := Lib.hid hB
      go_enter Try.func6, Try.ntmps6
      go_wp2_with (first
        | (go_at_call 10; refine (call_c _ _ _).mono ?_; rintro e w1 ⟨rfl, rfl⟩; first | rw [callS_yes hA.out] | rw [callS_yes hB.out] | rw [callS_no hB] | rw [callS_no hA])
        | (go_at_call 9; refine (wakes_c _).mono ?_; rintro e w2 ⟨rfl, hb1⟩))
      all_goals first
        | (go_ret; exact ⟨rfl, hb1⟩)
        | (go_ret; exact ⟨ret_b (by simp; omega), hb1⟩)
        | exact absurd ⟨placeS_iff.2 ⟨by omega, by omega⟩, by omega, by omega⟩ hA
    · go_enter Try.func6, Try.ntmps6
      go_wp2_with (first
        | (go_at_call 10; refine (call_c _ _ _).mono ?_; rintro e w1 ⟨rfl, rfl⟩; first | rw [callS_yes hA.out] | rw [callS_yes hB.out] | rw [callS_no hB] | rw [callS_no hA])
        | (go_at_call 9; refine (wakes_c _).mono ?_; rintro e w2 ⟨rfl, hb1⟩))
      all_goals first
        | (go_ret; exact ⟨rfl, hb1⟩)
        | (go_ret; exact ⟨ret_b (by simp; omega), hb1⟩)
        | exact absurd ⟨placeS_iff.2 ⟨by omega, by omega⟩, by omega, by omega⟩ hA

end Go.Proofs.Yteadkghffdiaoaa
