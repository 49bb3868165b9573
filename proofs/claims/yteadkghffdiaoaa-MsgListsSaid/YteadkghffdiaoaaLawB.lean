/- Law 06: MsgTold: what is told to an ask that may be. -/
import Derived.Test.YteadkghffdiaoaaLawA
import Derived.Test.YteadkghffdiaoaaStore
set_option linter.unusedVariables false
set_option linter.unusedSimpArgs false
namespace Go.Proofs.Yteadkghffdiaoaa
open Go.RowKit Go.Proofs.YteadkghffdiaoaaW.PrintWords

theorem rightS_iff (m : Msg) : rightS m = true ↔ (1 ≤ m.kind ∧ m.kind < 13 ∧ placeS m.frm = true ∧ placeS m.dst = true ∧ m.frm ≠ m.dst) ∧ (1 ≤ m.call ∧ (m.call - 1) / 1048576 = askerS m) ∧ fineS m = true ∧ offS m = bareS m := by
  simp [rightS, endOk, callOk, and_assoc]
def toldS (m : Msg) : Msg := ⟨m.kind + 6, m.call, m.dst, m.frm, 0, false, false, 0, 0, [], Item.zero, 0⟩
theorem tellS_told {m : Msg} (h : asksS m = true) : tellS m = toldS m := by rw [tellS_yes m h]; rfl
theorem toldS_asks {m : Msg} (h : asksS m = true) : asksS (toldS m) = false := by
  have := asksS_kind m h
  rw [Bool.eq_false_iff]; intro hh
  have h2 : 1 ≤ m.kind + 6 ∧ m.kind + 6 ≤ 6 := asksS_kind (toldS m) hh
  omega
theorem toldS_asker {m : Msg} (h : asksS m = true) : askerS (toldS m) = askerS m := by
  have h2 := toldS_asks h
  have e1 : askerS (toldS m) = if asksS (toldS m) = true then (toldS m).frm else (toldS m).dst := rfl
  have e2 : askerS m = if asksS m = true then m.frm else m.dst := rfl
  rw [e1, e2, h2, h]; rfl
theorem told_right {m : Msg} (hr : rightS m = true) (ha : asksS m = true) (hk : m.kind ≠ 6) : rightS (toldS m) = true := by
  obtain ⟨⟨k1, k2, p1, p2, hne⟩, ⟨c1, c2⟩, hf, ho⟩ := (rightS_iff m).1 hr
  obtain ⟨a1, a2⟩ := asksS_kind m ha
  refine (rightS_iff _).2 ⟨⟨?_, ?_, p2, p1, fun e => hne e.symm⟩, ⟨c1, ?_⟩, ?_, ?_⟩
  · show 1 ≤ m.kind + 6; omega
  · show m.kind + 6 < 13; omega
  · rw [toldS_asker ha]; exact c2
  · have : m.kind = 1 ∨ m.kind = 2 ∨ m.kind = 3 ∨ m.kind = 4 ∨ m.kind = 5 := by omega
    rcases this with e | e | e | e | e <;> simp [fineS, toldS, e, placeS, listS, othersTo]
  · have : m.kind = 1 ∨ m.kind = 2 ∨ m.kind = 3 ∨ m.kind = 4 ∨ m.kind = 5 := by omega
    rcases this with e | e | e | e | e <;> simp [offS, bareS, toldS, e, Msg.zero, Item.zero]
def toldN (m : Msg) : Msg := { toldS m with code := 201 }
def toldX (m : Msg) (x : Item) : Msg := { toldS m with code := 0, item := x }
theorem told_end {m t : Msg} (hr : rightS m = true) (ha : asksS m = true) (e1 : t.kind = m.kind + 6) (e2 : t.call = m.call) (e3 : t.frm = m.dst) (e4 : t.dst = m.frm) : endOk t = true ∧ callOk t = true := by
  obtain ⟨⟨k1, k2, p1, p2, hne⟩, ⟨c1, c2⟩, hf, ho⟩ := (rightS_iff m).1 hr
  obtain ⟨a1, a2⟩ := asksS_kind m ha
  have ht : asksS t = false := by simp [asksS, e1]; omega
  have q1 : askerS t = if asksS t = true then t.frm else t.dst := rfl
  have q2 : askerS m = if asksS m = true then m.frm else m.dst := rfl
  rw [ht] at q1; rw [ha] at q2
  simp at q1 q2
  constructor
  · simp [endOk, e1, e3, e4, p1, p2]; exact ⟨by omega, by omega, fun e => hne e.symm⟩
  · simp [callOk, e2, q1, e4, c1]; rw [c2, q2]
theorem told_none {m : Msg} (hr : rightS m = true) (ha : asksS m = true) (hk : m.kind = 6) : rightS (toldN m) = true := by
  obtain ⟨h1, h2⟩ := told_end (t := toldN m) hr ha rfl rfl rfl rfl
  unfold rightS
  rw [h1, h2]
  simp [fineS, toldN, toldS, hk, offS, bareS, Msg.zero, Item.zero, itemEqB]
theorem told_item {m : Msg} {x : Item} (hr : rightS m = true) (ha : asksS m = true) (hk : m.kind = 6) : rightS (toldX m x) = pairS x := by
  obtain ⟨h1, h2⟩ := told_end (t := toldX m x) hr ha rfl rfl rfl rfl
  unfold rightS
  rw [h1, h2]
  simp [fineS, toldX, toldS, hk, offS, bareS, Msg.zero, Item.zero]


/-- What lies in memory while MsgTold is done. -/
structure TD (m : Msg) (x : Item) (A : Option Addr) (c : Nat) (w : World) (w' : World) : Prop where
  k2 : w'.heap[w.heap.size]? = some (.cells (mc m A c) 27 (0, 0))
  k3 : w'.heap[w.heap.size + 1]? = some (.cells (ic x) 24 (0, 0))
  rm : RL w A c m.list
  below : Below w.heap.size w w'
theorem TD.rl {m : Msg} {x : Item} {A : Option Addr} {c : Nat} {w w1 : World} (h : TD m x A c w w1) : RL w1 A c m.list := h.rm.below h.below
theorem TD.step {m : Msg} {x : Item} {A : Option Addr} {c : Nat} {w w1 w2 : World} (h : TD m x A c w w1) (hb : Below w1.heap.size w1 w2) : TD m x A c w w2 :=
  ⟨blk_below h.k2 hb, blk_below h.k3 hb, h.rm, below_step h.below hb⟩
theorem TD.drew {m : Msg} {x : Item} {A : Option Addr} {c : Nat} {w w1 : World} (h : TD m x A c w w1) : TD m x A c w w1.drew := ⟨h.k2, h.k3, h.rm, below_drewN h.below 1⟩
theorem TD.grown {m : Msg} {x : Item} {A : Option Addr} {c g : Nat} {w w1 w2 : World} (h : TD m x A c w w1) (hg : w1.grownBy w2 (some g)) (hne : w.heap.size + 1 < g) : TD m x A c w w2 :=
  ⟨blk_grown h.k2 hg (by simp; omega), blk_grown h.k3 hg (by simp; omega), h.rm, h.below.grown hg h.below.size (fun k e => by have := Option.some.inj e; omega)⟩
/-- .. and t's own block. -/
structure TT (m : Msg) (x : Item) (A : Option Addr) (c : Nat) (w : World) (g : Nat) (t : Msg) (w' : World) : Prop extends TD m x A c w w' where
  k5 : w'.heap[g]? = some (.cells (mc t none 0) 27 (0, 0))
theorem TT.step {m t : Msg} {x : Item} {A : Option Addr} {c g : Nat} {w w1 w2 : World} (h : TT m x A c w g t w1) (hb : Below w1.heap.size w1 w2) : TT m x A c w g t w2 := ⟨h.1.step hb, blk_below h.k5 hb⟩
theorem TT.drew {m t : Msg} {x : Item} {A : Option Addr} {c g : Nat} {w w1 : World} (h : TT m x A c w g t w1) : TT m x A c w g t w1.drew := ⟨⟨h.1.k2, h.1.k3, h.1.rm, below_drewN h.1.below 1⟩, h.k5⟩
theorem right_t (t : Msg) (A : Option Addr) (c : Nat) (w : World) (hr : RL w A c t.list) (hc : t.call ≤ 9223372036854775807) {b : Bool} (hb : rightS t = b) : Calls Try.prog 14 #[.agg (mc t A c)] w fun e w' => e = .returned (.bool b) ∧ Below w.heap.size w w' := by
  subst hb; exact right_c t A c w hr hc
theorem rright_w (m : Msg) (A : Option Addr) (c : Nat) (w : World) (hr : RL w A c m.list) {b : Bool} (hb : rightS m = b) : Calls Try.prog 15 #[.agg (mc m A c)] w fun e w' => e = .returned (.bool b) ∧ Below w.heap.size w w' := by
  subst hb; exact rright_c m A c w hr
theorem tell_told (m : Msg) (v : Value) (w : World) (h : asksS m = true) : Calls Try.prog 21 #[.agg (mcv m v)] w fun e w' => e = .returned (.agg (mc (toldS m) none 0)) ∧ Below w.heap.size w w' := by
  have := tell_c m v w; rwa [tellS_told h] at this
theorem tell_none (m : Msg) (v : Value) (w : World) (h : asksS m = false) : Calls Try.prog 21 #[.agg (mcv m v)] w fun e w' => e = .returned (.agg zmc) ∧ Below w.heap.size w w' := by
  have := tell_c m v w; rwa [tellS_no m h] at this

theorem right_X (m : Msg) (x : Item) (w : World) (hc : m.call ≤ 9223372036854775807) {b : Bool} (hb : rightS (toldX m x) = b) : Calls Try.prog 14 #[.agg (mc (toldX m x) none 0)] w fun e w' => e = .returned (.bool b) ∧ Below w.heap.size w w' := right_t (toldX m x) none 0 w (RL.none_nil _) hc hb

set_option maxHeartbeats 4000000 in
set_option maxRecDepth 100000 in
theorem msgTold_c (m : Msg) (x : Item) (A : Option Addr) (c : Nat) (w : World) (hr : RL w A c m.list) (hc : m.call ≤ 9223372036854775807) :
    Calls Try.prog 4 #[.agg (mc m A c), .agg (ic x)] w fun e w' => e = .returned (.bool true) ∧ Below w.heap.size w w' := by
  have hu := Try.underlying27
  have hu2 := Try.underlying24
  go_enter Try.func4, Try.ntmps4
  go_upto_region 1 with fail
  obtain ⟨W, hW, hb, k2, k3, -⟩ := two_new w (.cells (mc m A c) 27) (.cells (ic x) 24)
  rw [← hW]; clear hW
  have sf := Lib.hid (⟨k2, k3, hr, hb⟩ : TD m x A c w W); clear k2 k3 hb hr
  cases h1 : greatS m with
  | true =>
    go_wp2_with (first
      | (refine gate_ (.load 27 (.tmp 2)) rfl ?_; (try refine gate_guard (by rfl) ?_); refine wpList_load_blk 27 (.tmp 2) rfl rfl w.heap.size rfl sf.out.k2 hu rfl msgSize ?_)
      | (go_at_call 8; refine (great_w m A c _ h1).mono ?_; rintro e w1 ⟨rfl, hb1⟩; have sf := Lib.hid (sf.out.step hb1); have q3 := cells_all sf.out.k3; clear hb1)
      | (go_at_call 9; refine (wakes_c _).mono ?_; rintro e w2 ⟨rfl, hb1⟩; have sf := Lib.hid (sf.out.step hb1); clear hb1)
      | (go_at_call 15; refine (rright_w m A c _ sf.out.rl h4).mono ?_; rintro e w2 ⟨rfl, hb1⟩; have sf := Lib.hid (sf.out.step hb1); clear hb1))
    go_ret
    exact ⟨rfl, sf.out.below⟩
  | false =>
  cases h3 : decide (100 < (x.key.size : Int)) with
  | true =>
    go_wp2_with (first
      | (refine gate_ (.load 27 (.tmp 2)) rfl ?_; (try refine gate_guard (by rfl) ?_); refine wpList_load_blk 27 (.tmp 2) rfl rfl w.heap.size rfl sf.out.k2 hu rfl msgSize ?_)
      | (go_at_call 8; refine (great_w m A c _ h1).mono ?_; rintro e w1 ⟨rfl, hb1⟩; have sf := Lib.hid (sf.out.step hb1); have q3 := cells_all sf.out.k3; clear hb1)
      | (go_at_call 9; refine (wakes_c _).mono ?_; rintro e w2 ⟨rfl, hb1⟩; have sf := Lib.hid (sf.out.step hb1); clear hb1)
      | (go_at_call 15; refine (rright_w m A c _ sf.out.rl h4).mono ?_; rintro e w2 ⟨rfl, hb1⟩; have sf := Lib.hid (sf.out.step hb1); clear hb1))
    go_ret
    exact ⟨rfl, sf.out.below⟩
  | false =>
  cases h4 : rightS m with
  | false =>
    go_wp2_with (first
      | (refine gate_ (.load 27 (.tmp 2)) rfl ?_; (try refine gate_guard (by rfl) ?_); refine wpList_load_blk 27 (.tmp 2) rfl rfl w.heap.size rfl sf.out.k2 hu rfl msgSize ?_)
      | (go_at_call 8; refine (great_w m A c _ h1).mono ?_; rintro e w1 ⟨rfl, hb1⟩; have sf := Lib.hid (sf.out.step hb1); have q3 := cells_all sf.out.k3; clear hb1)
      | (go_at_call 9; refine (wakes_c _).mono ?_; rintro e w2 ⟨rfl, hb1⟩; have sf := Lib.hid (sf.out.step hb1); clear hb1)
      | (go_at_call 15; refine (rright_w m A c _ sf.out.rl h4).mono ?_; rintro e w2 ⟨rfl, hb1⟩; have sf := Lib.hid (sf.out.step hb1); clear hb1))
    go_ret
    exact ⟨rfl, sf.out.below⟩
  | true =>
  go_upto_region 3 with (first
      | (refine gate_ (.load 27 (.tmp 2)) rfl ?_; (try refine gate_guard (by rfl) ?_); refine wpList_load_blk 27 (.tmp 2) rfl rfl w.heap.size rfl sf.out.k2 hu rfl msgSize ?_)
      | (go_at_call 8; refine (great_w m A c _ h1).mono ?_; rintro e w1 ⟨rfl, hb1⟩; have sf := Lib.hid (sf.out.step hb1); have q3 := cells_all sf.out.k3; clear hb1)
      | (go_at_call 9; refine (wakes_c _).mono ?_; rintro e w2 ⟨rfl, hb1⟩; have sf := Lib.hid (sf.out.step hb1); clear hb1)
      | (go_at_call 15; refine (rright_w m A c _ sf.out.rl h4).mono ?_; rintro e w2 ⟨rfl, hb1⟩; have sf := Lib.hid (sf.out.step hb1); clear hb1))
  cases ha : asksS m with
  | false =>
    go_wp2_with (first
      | (go_at_call 21; refine (tell_none m _ _ ha).mono ?_; rintro e w1 ⟨rfl, hb1⟩; have sf := Lib.hid (sf.out.step hb1); clear hb1)
      | (refine gate_ (.store 27 (.tmp 5) (.tmp 22)) rfl ?_; refine wpList_store_new 27 (.tmp 5) (.tmp 22) rfl rfl rfl rfl (cs := zmc) rfl msgSize rfl (mcv_one (m := Msg.zero) rfl) (Below.refl w.heap.size _) ?_; intro w3 k5 hb3; have sf := Lib.hid (sf.out.step hb3); clear hb3)
      | (refine gate_ (.load 27 (.tmp 5)) rfl ?_; refine wpList_load_blk 27 (.tmp 5) rfl rfl _ rfl k5 hu rfl msgSize ?_)
      | (go_at_call 16; refine (asks_w m A c _ ha).mono ?_; rintro e w5 ⟨rfl, hb1⟩; have sf := Lib.hid (sf.out.step hb1); replace k5 := blk_below k5 hb1; clear hb1)
      | (go_at_call 20; refine (rsame_self Msg.zero none none 0 0 _ (RL.none_nil _) (RL.none_nil _)).mono ?_; rintro e w6 ⟨rfl, hb1⟩; have sf := Lib.hid (sf.out.step hb1); clear hb1)
      | (refine gate_ (.load 27 (.tmp 2)) rfl ?_; (try refine gate_guard (by rfl) ?_); refine wpList_load_blk 27 (.tmp 2) rfl rfl w.heap.size rfl sf.out.k2 hu rfl msgSize ?_)
      | (go_at_call 8; refine (great_w m A c _ h1).mono ?_; rintro e w1 ⟨rfl, hb1⟩; have sf := Lib.hid (sf.out.step hb1); have q3 := cells_all sf.out.k3; clear hb1)
      | (go_at_call 9; refine (wakes_c _).mono ?_; rintro e w2 ⟨rfl, hb1⟩; have sf := Lib.hid (sf.out.step hb1); clear hb1)
      | (go_at_call 15; refine (rright_w m A c _ sf.out.rl h4).mono ?_; rintro e w2 ⟨rfl, hb1⟩; have sf := Lib.hid (sf.out.step hb1); clear hb1))
    go_ret
    exact ⟨rfl, sf.out.below⟩
  | true =>
  go_upto_region 6 with (first
      | (go_at_call 21; refine (tell_told m _ _ ha).mono ?_; rintro e wT ⟨rfl, hb1⟩; have sf := Lib.hid (sf.out.step hb1); have hlt := blk_lt sf.out.k3; clear hb1)
      | (refine gate_ (.store 27 (.tmp 5) (.tmp 22)) rfl ?_; refine wpList_store_new 27 (.tmp 5) (.tmp 22) rfl rfl rfl rfl (cs := mc (toldS m) none 0) rfl msgSize rfl (mcv_one rfl) (Below.refl w.heap.size _) ?_; intro w3 k5 hb3; have sf := Lib.hid (sf.out.step hb3); clear hb3)
      | (go_at_call 16; refine (asks_w m A c _ ha).mono ?_; rintro e w5 ⟨rfl, hb1⟩; have sf := Lib.hid (sf.out.step hb1); replace k5 := blk_below k5 hb1; clear hb1)
      | (refine gate_ (.load 27 (.tmp 2)) rfl ?_; (try refine gate_guard (by rfl) ?_); refine wpList_load_blk 27 (.tmp 2) rfl rfl w.heap.size rfl sf.out.k2 hu rfl msgSize ?_)
      | (go_at_call 8; refine (great_w m A c _ h1).mono ?_; rintro e w1 ⟨rfl, hb1⟩; have sf := Lib.hid (sf.out.step hb1); have q3 := cells_all sf.out.k3; clear hb1)
      | (go_at_call 9; refine (wakes_c _).mono ?_; rintro e w2 ⟨rfl, hb1⟩; have sf := Lib.hid (sf.out.step hb1); clear hb1)
      | (go_at_call 15; refine (rright_w m A c _ sf.out.rl h4).mono ?_; rintro e w2 ⟨rfl, hb1⟩; have sf := Lib.hid (sf.out.step hb1); clear hb1))
  generalize wT.heap.size = g at *
  have sk := TT.drew ⟨sf.out, k5⟩
  clear k5 sf q3
  have b5 : ∀ W1, TT m x A c w g (toldS m) W1 → _ := fun W1 h => h.k5
  have b2 : ∀ W1, TT m x A c w g (toldS m) W1 → _ := fun W1 h => h.1.k2
  have c51 : ∀ W1, TT m x A c w g (toldS m) W1 → W1.cell? ⟨g, 1, none⟩ = some (.int .i64 m.call) := fun W1 h => cells_all h.k5 1
  have c52 : ∀ W1, TT m x A c w g (toldS m) W1 → W1.cell? ⟨g, 2, none⟩ = some (.int .i64 m.dst) := fun W1 h => cells_all h.k5 2
  have c53 : ∀ W1, TT m x A c w g (toldS m) W1 → W1.cell? ⟨g, 3, none⟩ = some (.int .i64 m.frm) := fun W1 h => cells_all h.k5 3
  have c21 : ∀ W1, TT m x A c w g (toldS m) W1 → W1.cell? ⟨w.heap.size, 1, none⟩ = some (.int .i64 m.call) := fun W1 h => cells_all h.1.k2 1
  have c22 : ∀ W1, TT m x A c w g (toldS m) W1 → W1.cell? ⟨w.heap.size, 2, none⟩ = some (.int .i64 m.frm) := fun W1 h => cells_all h.1.k2 2
  have c23 : ∀ W1, TT m x A c w g (toldS m) W1 → W1.cell? ⟨w.heap.size, 3, none⟩ = some (.int .i64 m.dst) := fun W1 h => cells_all h.1.k2 3
  try simp only [List.append_eq, List.cons_append, List.nil_append]
  refine region_ord (TT m x A c w g (toldS m)) [(0, false), (1, true), (2, false), (3, false), (5, false), (4, true), (6, true), (7, false), (8, false), (9, false), (10, false), (11, false), (12, false), (13, false), (14, false), (15, false), (16, false), (17, false), (18, false), (19, false), (20, false), (21, false), (22, false), (23, false), (24, false), (25, false), (26, false), (27, false), (28, false), (29, false)] (by kernel_rfl) (by kernel_rfl) rfl (by kernel_rfl) sk ?_
  iterate 30 ((first | (refine ord_skip rfl rfl ?_; (try simp only [Act.put, List.setIfInBounds_toArray, List.set_cons_zero, List.set_cons_succ])) | ((first | refine ord_load_blk 27 (.tmp 5) rfl rfl rfl g rfl b5 hu rfl msgSize ?_ | refine ord_load_blk 27 (.tmp 2) rfl rfl rfl w.heap.size rfl b2 hu rfl msgSize ?_ | (with_reducible refine ord_callB 16 rfl rfl rfl (asks_w (toldS m) none 0 _ (toldS_asks ha)) (fun w' hb => TT.step sk hb) ?_ ?_; (· (go_simp; done)); intro wn sk) | (with_reducible refine ord_callB 18 rfl rfl rfl (asker_w (toldS m) none 0 _ (toldS_asker ha)) (fun w' hb => TT.step sk hb) ?_ ?_; (· (go_simp; done)); intro wn sk) | (with_reducible refine ord_callB 18 rfl rfl rfl (asker_w m A c _ rfl) (fun w' hb => TT.step sk hb) ?_ ?_; (· (go_simp; done)); intro wn sk)); (try simp only [Act.put, List.setIfInBounds_toArray, List.set_cons_zero, List.set_cons_succ])) | (refine ord_val (v := ?_) rfl rfl (fun W1 hW1 => ?_) ?_; rotate_left; (· (go_simp; try with_reducible rfl)); (try simp only [Act.put, List.setIfInBounds_toArray, List.set_cons_zero, List.set_cons_succ]))))
  refine ord_nil ?_
  have sf := Lib.hid sk.1; have k5 := sk.k5
  have q2 : wn.cell? ⟨w.heap.size, 0, none⟩ = some (.int .u8 m.kind) := cells_all sk.1.k2 0
  clear b5 b2 c51 c52 c53 c21 c22 c23 sk
  by_cases hk : m.kind = 6
  · have hkb : (m.kind != 6) = false := by simp [hk]
    go_upto_region 12 with (first
      | (refine gate_ (.store 25 (.tmp 70) (.const (.int .i64 201))) rfl ?_; refine wpList_store_at 25 (.tmp 70) (.const (.int .i64 201)) rfl rfl rfl g 14 rfl (v := .int .i64 201) rfl k5 (cs' := mc (toldN m) none 0) (by kernel_rfl) (of_decide_eq_true rfl) (by simp [Value.cells, Value.oneCell']) rfl ?_; intro w7 k5 hg; have sf := Lib.hid (sf.out.grown hg hlt); clear hg)
      | (refine gate_ (.load 27 (.tmp 5)) rfl ?_; refine wpList_load_blk 27 (.tmp 5) rfl rfl g rfl k5 hu rfl msgSize ?_)
      | (go_at_call 14; refine (right_t (toldN m) none 0 _ (RL.none_nil _) hc (told_none h4 ha hk)).mono ?_; rintro e wX ⟨rfl, hb1⟩; have sf := Lib.hid (sf.out.step hb1); replace k5 := blk_below k5 hb1; clear hb1))
    have sd := TD.drew sf.out
    have k5d : wX.drew.heap[g]? = some (.cells (mc (toldN m) none 0) 27 (0, 0)) := k5
    clear k5 sf
    have b3 : ∀ W1, TD m x A c w W1 → _ := fun W1 h => h.k3
    try simp only [List.append_eq, List.cons_append, List.nil_append]
    refine region_ord (TD m x A c w) [(0, false), (1, false), (2, true), (3, false), (4, true)] (by kernel_rfl) (by kernel_rfl) rfl (by kernel_rfl) sd ?_
    iterate 5 ((first | (refine ord_skip rfl rfl ?_; (try simp only [Act.put, List.setIfInBounds_toArray, List.set_cons_zero, List.set_cons_succ])) | ((first | refine ord_load_blk 24 (.tmp 3) rfl rfl rfl (w.heap.size + 1) rfl b3 hu2 rfl itemSize ?_ | (refine ord_store 25 (.tmp 74) (.const (.int .i64 0)) rfl rfl rfl rfl g 14 rfl (v := .int .i64 0) rfl k5d (cs' := mc { toldN m with code := 0 } none 0) (by kernel_rfl) (of_decide_eq_true rfl) (by simp [Value.cells, Value.oneCell']) rfl ?_; intro w8 k5e hg; have sd := sd.grown hg hlt; refine ⟨sd, ?_⟩; clear hg k5d) | (refine ord_store 24 (.tmp 75) (.tmp 73) rfl rfl rfl rfl g 10 rfl (v := .agg (ic x)) rfl k5e (cs' := mc (toldX m x) none 0) (by kernel_rfl) (of_decide_eq_true rfl) (by simp [Value.cells, Value.oneCell']) rfl ?_; intro w9 k5f hg; have sd := sd.grown hg hlt; refine ⟨sd, ?_⟩; clear hg k5e)); (try simp only [Act.put, List.setIfInBounds_toArray, List.set_cons_zero, List.set_cons_succ])) | (refine ord_val (v := ?_) rfl rfl (fun W1 hW1 => ?_) ?_; rotate_left; (· (go_simp; try with_reducible rfl)); (try simp only [Act.put, List.setIfInBounds_toArray, List.set_cons_zero, List.set_cons_succ]))))
    refine ord_nil ?_
    go_upto_region 13 with fail
    have sk := TT.drew ⟨sd, k5f⟩
    clear sd k5f b3
    have b5 : ∀ W1, TT m x A c w g (toldX m x) W1 → _ := fun W1 h => h.k5
    have b3 : ∀ W1, TT m x A c w g (toldX m x) W1 → _ := fun W1 h => h.1.k3
    try simp only [List.append_eq, List.cons_append, List.nil_append]
    refine region_ord (TT m x A c w g (toldX m x)) [(0, false), (1, false), (2, false), (4, false), (3, true), (5, true), (6, false), (7, false), (8, false), (9, true), (10, false), (11, false)] (by kernel_rfl) (by kernel_rfl) rfl (by kernel_rfl) sk ?_
    iterate 12 ((first | (refine ord_skip rfl rfl ?_; (try simp only [Act.put, List.setIfInBounds_toArray, List.set_cons_zero, List.set_cons_succ])) | ((first | refine ord_load_blk 27 (.tmp 5) rfl rfl rfl g rfl b5 hu rfl msgSize ?_ | refine ord_load_blk 24 (.tmp 3) rfl rfl rfl (w.heap.size + 1) rfl b3 hu2 rfl itemSize ?_ | (with_reducible refine ord_callB 14 rfl rfl rfl (right_X m x _ hc (told_item h4 ha hk)) (fun w' hb => TT.step sk hb) ?_ ?_; (· (go_simp; done)); intro wn sk) | (with_reducible refine ord_callB 13 rfl rfl rfl (rpair_c x _) (fun w' hb => TT.step sk hb) ?_ ?_; (· (go_simp; done)); intro wn sk) | (with_reducible refine ord_callB 9 rfl rfl rfl (wakes_c _) (fun w' hb => TT.step sk hb) ?_ ?_; (· (go_simp; done)); intro wn sk)); (try simp only [Act.put, List.setIfInBounds_toArray, List.set_cons_zero, List.set_cons_succ])) | (refine ord_val (v := ?_) rfl rfl (fun W1 hW1 => ?_) ?_; rotate_left; (· (go_simp; try with_reducible rfl)); (try simp only [Act.put, List.setIfInBounds_toArray, List.set_cons_zero, List.set_cons_succ]))))
    refine ord_nil ?_
    go_wp2
    go_ret
    exact ⟨rfl, sk.1.below⟩
  · have hkb : (m.kind != 6) = true := by simp [hk]
    go_wp2_with (first
      | (refine gate_ (.load 27 (.tmp 5)) rfl ?_; refine wpList_load_blk 27 (.tmp 5) rfl rfl g rfl k5 hu rfl msgSize ?_)
      | (go_at_call 14; refine (right_t (toldS m) none 0 _ (RL.none_nil _) hc (told_right h4 ha hk)).mono ?_; rintro e w6 ⟨rfl, hb1⟩; have sf := Lib.hid (sf.out.step hb1); clear hb1)
      | (go_at_call 9; refine (wakes_c _).mono ?_; rintro e w2 ⟨rfl, hb1⟩; have sf := Lib.hid (sf.out.step hb1); clear hb1))
    go_ret
    exact ⟨rfl, sf.out.below⟩

end Go.Proofs.Yteadkghffdiaoaa
