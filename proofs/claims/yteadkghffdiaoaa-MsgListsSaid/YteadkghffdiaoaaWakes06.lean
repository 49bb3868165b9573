/- The waking examples of law 06. -/
import Derived.Test.YteadkghffdiaoaaMsgR
import Derived.Test.YteadkghffdiaoaaHeld
set_option linter.unusedVariables false
set_option linter.unusedSimpArgs false
namespace Go.Proofs.Yteadkghffdiaoaa
open Go.RowKit Go.Proofs.YteadkghffdiaoaaW.PrintWords

theorem RL.blk {w : World} {b : Nat} {t : TypeId} {l : List Int} (h : w.heap[b]? = some (.cells (l.map (Value.int .i64)).toArray t (0, 0))) (hl : l.length ≤ 9223372036854775807) : RL w (some ⟨b, 0, none⟩) l.length l := by
  refine ⟨Kd.C_of_reads (d := (0 : Int)) ⟨rfl, by omega, fun _ => ⟨_, rfl, fun j hj => ?_⟩⟩, Nat.le_refl _⟩
  have e : (⟨b, 0, none⟩ : Addr).add j = ⟨b, j, none⟩ := by unfold Addr.add; split <;> simp_all
  rw [e, blk_cell h j]
  simp [hj]
theorem own_rl (m : Msg) (A : Option Addr) (c : Nat) (w : World) (hr : RL w A c m.list) (hl : m.list.length ≤ 17592186044416) : Calls Try.prog 24 #[.agg (mc m A c)] w fun e w' => ∃ A' c', e = .returned (.agg (mc m A' c')) ∧ RL w' A' c' m.list ∧ Below w.heap.size w w' := by
  refine (own_c m A c w hr hl).mono ?_
  rintro e w' ⟨v, rfl, hv, hb⟩
  obtain ⟨A', c', rfl, hle, hc⟩ := Kd.R_reads hv
  exact ⟨A', c', rfl, ⟨hc, hle⟩, hb⟩

def wM : Msg := ⟨4, 2097155, 2, 9, 65535, true, false, 0, 0, [], Item.zero, 0⟩
def wT : Msg := ⟨10, 2097155, 9, 2, 0, false, false, 0, 0, [], Item.zero, 0⟩
def wS : Msg := ⟨7, 2097155, 9, 2, 0, false, false, 0, -1, [4, 2], Item.zero, 0⟩
def wI : Item := ⟨⟨#[97]⟩, 0, 0, false⟩
theorem wk1 : callS 2 3 = (2097155, 0) := by decide +kernel
theorem wk2 : callS 2 0 = (0, 2) := by decide +kernel
theorem wk3 : rightS wM = true := by decide +kernel
theorem wk4 : asksS wM = true := by decide +kernel
theorem wk5 : tellS wM = wT := by decide +kernel
theorem wk6 : asksS wT = false := by decide +kernel
theorem wk7 : askerS wM = 2 := by decide +kernel
theorem wk8 : askerS wT = 2 := by decide +kernel
theorem wk9 : rightS wT = true := by decide +kernel
theorem wk10 : rightS wS = true := by decide +kernel
theorem wk11 : rightS Msg.zero = false := by decide +kernel
theorem wk12 : pairS wI = true := by decide +kernel
theorem wk13 : pairS Item.zero = false := by decide +kernel
theorem right_w (m : Msg) (A : Option Addr) (c : Nat) (w : World) (hr : RL w A c m.list) (hc : decide (m.call ≤ 9223372036854775807) = true) {b : Bool} (hb : rightS m = b) : Calls Try.prog 14 #[.agg (mc m A c)] w fun e w' => e = .returned (.bool b) ∧ Below w.heap.size w w' := by
  subst hb; exact right_c m A c w hr (by simpa using hc)
theorem wk14 : decide (wT = wT) = true := by decide +kernel
theorem wk15 : decide (wS = wS) = true := by decide +kernel

theorem wS_len : wS.list.length ≤ 17592186044416 := by decide
structure WK (w : World) (g5 g6 g7 gl : Nat) (w' : World) : Prop where
  k5 : w'.heap[g5]? = some (.cells (mc wM none 0) 27 (0, 0))
  k6 : w'.heap[g6]? = some (.cells (mc wT none 0) 27 (0, 0))
  k7 : w'.heap[g7]? = some (.cells (mc wS (some ⟨gl, 0, none⟩) 2) 27 (0, 0))
  rl : RL w' (some ⟨gl, 0, none⟩) 2 wS.list
  below : Below w.heap.size w w'
theorem WK.step {w w1 w2 : World} {g5 g6 g7 gl : Nat} (h : WK w g5 g6 g7 gl w1) (hb : Below w1.heap.size w1 w2) : WK w g5 g6 g7 gl w2 :=
  ⟨blk_below h.k5 hb, blk_below h.k6 hb, blk_below h.k7 hb, h.rl.below hb, below_step h.below hb⟩

theorem WK.drew {w w1 : World} {g5 g6 g7 gl : Nat} (h : WK w g5 g6 g7 gl w1) : WK w g5 g6 g7 gl w1.drew := ⟨h.k5, h.k6, h.k7, ⟨h.rl.r, h.rl.le⟩, below_drewN h.below 1⟩
theorem right_wS (w : World) (g : Nat) (hr : RL w (some ⟨g, 0, none⟩) 2 wS.list) : Calls Try.prog 14 #[.agg (mc wS (some ⟨g, 0, none⟩) 2)] w fun e w' => e = .returned (.bool true) ∧ Below w.heap.size w w' := right_w wS _ 2 w hr rfl wk10
theorem right_z (w : World) : Calls Try.prog 14 #[.agg zmc] w fun e w' => e = .returned (.bool false) ∧ Below w.heap.size w w' := right_w Msg.zero none 0 w (RL.none_nil _) rfl wk11
theorem asks_w (m : Msg) (A : Option Addr) (c : Nat) (w : World) {b : Bool} (hb : asksS m = b) : Calls Try.prog 16 #[.agg (mc m A c)] w fun e w' => e = .returned (.bool b) ∧ Below w.heap.size w w' := by subst hb; exact asks_c m _ w
theorem asker_w (m : Msg) (A : Option Addr) (c : Nat) (w : World) {b : Int} (hb : askerS m = b) : Calls Try.prog 18 #[.agg (mc m A c)] w fun e w' => e = .returned (.int .i64 b) ∧ Below w.heap.size w w' := by subst hb; exact asker_c m _ w
theorem pair_wI (w : World) : Calls Try.prog 12 #[.agg #[.string ⟨#[97]⟩, .int .i64 0, .int .i64 0, .bool false]] w fun e w' => e = .returned (.bool true) ∧ Below w.heap.size w w' := by have := pair_c wI w; rwa [wk12] at this
theorem pair_z (w : World) : Calls Try.prog 12 #[.agg #[.string ⟨#[]⟩, .int .i64 0, .int .i64 0, .bool false]] w fun e w' => e = .returned (.bool false) ∧ Below w.heap.size w w' := by have := pair_c Item.zero w; rwa [wk13] at this
theorem own_wS (w : World) (g : Nat) (hr : RL w (some ⟨g, 0, none⟩) 2 wS.list) : Calls Try.prog 24 #[.agg (mc wS (some ⟨g, 0, none⟩) 2)] w fun e w' => ∃ A' c', e = .returned (.agg (mc wS A' c')) ∧ RL w' A' c' wS.list ∧ Below w.heap.size w w' := own_rl wS _ 2 w hr wS_len
theorem same_wT (w : World) : Calls Try.prog 23 #[.agg (mc wT none 0), .agg #[.int .u8 10, .int .i64 2097155, .int .i64 9, .int .i64 2, .int .i64 0, .bool false, .bool false, .int .i64 0, .int .i64 0, .slice none 0 0, .string ⟨#[]⟩, .int .i64 0, .int .i64 0, .bool false, .int .i64 0]] w fun e w' => e = .returned (.bool true) ∧ Below w.heap.size w w' := by
  have := same_c wT wT none none 0 0 w (RL.none_nil _) (RL.none_nil _); rwa [wk14] at this
theorem same_wS (w : World) (A : Option Addr) (c g : Nat) (h1 : RL w A c wS.list) (hr : RL w (some ⟨g, 0, none⟩) 2 wS.list) : Calls Try.prog 23 #[.agg (mc wS A c), .agg (mc wS (some ⟨g, 0, none⟩) 2)] w fun e w' => e = .returned (.bool true) ∧ Below w.heap.size w w' := by
  have := same_c wS wS A (some ⟨g, 0, none⟩) c 2 w h1 hr; rwa [wk15] at this
/-- A store of a whole struct into the block just made. -/
theorem wpList_store_new {P : Program} {ops : Array Oper} {rest : List Oper} {o : Oper} {a : Act} {Q : Exit → Act → World → Prop} {w W : World} {b : Nat} (ty : TypeId) (p x : Operand) (ho : o.op = .store ty p x) (hgd : o.guard = none) (hdst : o.dst = none)
    (hp : a.eval p = .pointer (some ⟨W.heap.size, 0, none⟩)) {e : TypeId} {cur cs : Array Value} (hx : a.eval x = .agg cs)
    (hi : (P.info? ty).map (·.size) = some cs.size) (hsz : cs.size = cur.size) (h1 : ∀ q ∈ cs.toList, q.oneCell' = true) (hB : Below b w W)
    (h : ∀ w1, w1.heap[W.heap.size]? = some (.cells cs e (0, 0)) → Below W.heap.size W w1 → wpList P ops Q rest a w1) : wpList P ops Q (o :: rest) a (W.alloc (.cells cur e)) := by
  refine wpList_store_blk ty p x ho hgd hdst W.heap.size hp (blk_new W _) hx hi hsz h1 ?_
  intro w1 k hg
  refine h w1 k ?_
  have h0 := (Below.refl W.heap.size W).alloc (Nat.le_refl _) (.cells cur e)
  exact h0.grown hg h0.size (fun k e => by have := Option.some.inj e; omega)

set_option maxHeartbeats 4000000 in
set_option maxRecDepth 100000 in
theorem wakes_c (w : World) : Calls Try.prog 9 #[] w fun e w' => e = .returned (.bool true) ∧ Below w.heap.size w w' := by
  have hu := Try.underlying27
  go_enter Try.func9, Try.ntmps9
  go_upto_region 4 with (first
    | (go_at_call 10; refine (call_c _ _ _).mono ?_; rintro e w' ⟨rfl, rfl⟩; first | rw [wk1] | rw [wk2])
    | (refine gate_ (.store 27 (.tmp 5) (.tmp 17)) rfl ?_; refine wpList_store_new 27 (.tmp 5) (.tmp 17) rfl rfl rfl rfl (cs := mc wM none 0) rfl msgSize rfl (mcv_one rfl) (Below.refl w.heap.size w) ?_; intro w3 k5 hb3))
  have HB3 := Lib.hid hb3; clear hb3
  go_upto_region 5 with (first
    | (refine gate_ (.load 27 (.tmp 5)) rfl ?_; refine wpList_load_blk 27 (.tmp 5) rfl rfl w.heap.size rfl k5 hu rfl msgSize ?_)
    | (go_at_call 21; refine (tell_c wM (.slice none 0 0) _).mono ?_; rintro e w4 ⟨rfl, hb4⟩; rw [wk5]; have k5b := blk_below k5 hb4; have HB4 := Lib.hid (below_step HB3.out hb4); clear hb4)
    | (refine gate_ (.store 27 (.tmp 6) (.tmp 19)) rfl ?_; refine wpList_store_new 27 (.tmp 6) (.tmp 19) rfl rfl rfl rfl (cs := mc wT none 0) rfl msgSize rfl (mcv_one rfl) HB4.out ?_; intro w5 k6 hb5))
  have k5c := blk_below k5b hb5
  have HB5 := Lib.hid (below_step HB4.out hb5); clear hb5 k5 k5b
  obtain ⟨W6, hW6, hb6, q1, q2, hs6⟩ := two_new w5 (.cells #[.int .i64 4, .int .i64 2] 3) (.cells zmc 27)
  go_upto_region 6 with (first
    | (refine gate_ (.store 27 (.tmp 7) (.tmp 22)) rfl ?_; rw [← hW6]; refine wpList_store_blk 27 (.tmp 7) (.tmp 22) rfl rfl rfl (w5.heap.size + 1) rfl q2 (cs := mc wS (some ⟨w5.heap.size, 0, none⟩) 2) rfl msgSize rfl (mcv_one rfl) ?_; intro w7 k7 hg7))
  have hb7 : Below w5.heap.size w5 w7 := hb6.grown hg7 hb6.size (fun k e => by have := Option.some.inj e; omega)
  have q1b := (hg7.block w5.heap.size (by omega) (by simp)).trans q1
  have HK : Hid (WK w w.heap.size w4.heap.size (w5.heap.size + 1) w5.heap.size w7) := Lib.hid ⟨blk_below k5c hb7, blk_below k6 hb7, k7, RL.blk (l := [4, 2]) q1b (by decide), below_step HB5.out hb7⟩
  clear hb7 q1b hb6 q1 q2 hs6 hW6 hg7 k7 k6 k5c HB5 HB4 HB3
  have b5 : ∀ W1, WK w w.heap.size w4.heap.size (w5.heap.size + 1) w5.heap.size W1 → _ := fun W1 h => h.k5
  have b6 : ∀ W1, WK w w.heap.size w4.heap.size (w5.heap.size + 1) w5.heap.size W1 → _ := fun W1 h => h.k6
  have b7 : ∀ W1, WK w w.heap.size w4.heap.size (w5.heap.size + 1) w5.heap.size W1 → _ := fun W1 h => h.k7
  have sf := HK.out.drew
  clear HK
  simp only [List.append_eq, List.cons_append, List.nil_append]
  refine region_ord (WK w w.heap.size w4.heap.size (w5.heap.size + 1) w5.heap.size) [(0, false), (1, false), (2, false), (3, false), (4, false), (5, false), (6, false), (7, false), (8, false), (9, false), (10, false), (11, false), (12, true), (13, false), (14, false), (15, false), (16, true), (17, false), (18, false), (19, false), (20, true), (21, false), (22, false), (23, false), (24, false), (25, true), (26, false), (27, false), (28, false), (29, false), (30, true), (31, false), (32, false), (33, false), (34, false), (35, false), (36, false), (37, true), (38, false), (39, false), (40, false), (41, true), (42, false), (43, false), (44, false), (45, true), (46, false), (47, false), (48, false), (49, true), (50, false), (51, false), (52, false), (53, false), (54, true), (55, false), (56, false), (57, false), (58, true), (59, false), (60, false), (61, false), (62, false), (64, false), (63, true), (65, true), (66, false), (67, false)] (by kernel_rfl) (by kernel_rfl) rfl (by kernel_rfl) sf ?_
  iterate 68 ((first | (refine ord_skip rfl rfl ?_; (try simp only [Act.put, List.setIfInBounds_toArray, List.set_cons_zero, List.set_cons_succ])) | ((first | refine ord_load_blk 27 (.tmp 5) rfl rfl rfl w.heap.size rfl b5 hu rfl msgSize ?_ | refine ord_load_blk 27 (.tmp 6) rfl rfl rfl w4.heap.size rfl b6 hu rfl msgSize ?_ | refine ord_load_blk 27 (.tmp 7) rfl rfl rfl (w5.heap.size + 1) rfl b7 hu rfl msgSize ?_ | (with_reducible refine ord_callB 14 rfl rfl rfl (right_w wM none 0 _ (RL.none_nil _) rfl wk3) (fun w' hb => WK.step sf hb) ?_ ?_; (· (go_simp; done)); intro wn sf) | (with_reducible refine ord_callB 14 rfl rfl rfl (right_w wT none 0 _ (RL.none_nil _) rfl wk9) (fun w' hb => WK.step sf hb) ?_ ?_; (· (go_simp; done)); intro wn sf) | (with_reducible refine ord_callB 14 rfl rfl rfl (right_wS _ _ sf.rl) (fun w' hb => WK.step sf hb) ?_ ?_; (· (go_simp; done)); intro wn sf) | (with_reducible refine ord_callB 14 rfl rfl rfl (right_z _) (fun w' hb => WK.step sf hb) ?_ ?_; (· (go_simp; done)); intro wn sf) | (with_reducible refine ord_callB 16 rfl rfl rfl (asks_w wM none 0 _ wk4) (fun w' hb => WK.step sf hb) ?_ ?_; (· (go_simp; done)); intro wn sf) | (with_reducible refine ord_callB 16 rfl rfl rfl (asks_w wT none 0 _ wk6) (fun w' hb => WK.step sf hb) ?_ ?_; (· (go_simp; done)); intro wn sf) | (with_reducible refine ord_callB 18 rfl rfl rfl (asker_w wM none 0 _ wk7) (fun w' hb => WK.step sf hb) ?_ ?_; (· (go_simp; done)); intro wn sf) | (with_reducible refine ord_callB 18 rfl rfl rfl (asker_w wT none 0 _ wk8) (fun w' hb => WK.step sf hb) ?_ ?_; (· (go_simp; done)); intro wn sf) | (with_reducible refine ord_callB 12 rfl rfl rfl (pair_wI _) (fun w' hb => WK.step sf hb) ?_ ?_; (· (go_simp; done)); intro wn sf) | (with_reducible refine ord_callB 12 rfl rfl rfl (pair_z _) (fun w' hb => WK.step sf hb) ?_ ?_; (· (go_simp; done)); intro wn sf) | (with_reducible refine ord_callB 23 rfl rfl rfl (same_wT _) (fun w' hb => WK.step sf hb) ?_ ?_; (· (go_simp; done)); intro wn sf) | (with_reducible refine ord_callB 23 rfl rfl rfl (same_wS _ A8 c8 _ hr8 sf.rl) (fun w' hb => WK.step sf hb) ?_ ?_; (· (go_simp; done)); intro wn sf) | (refine ord_call (R := fun u w' => ∃ A8 c8, u = .agg (mc wS A8 c8) ∧ RL w' A8 c8 wS.list ∧ Below _ _ w') 24 rfl rfl rfl ((own_wS _ _ sf.rl).mono (fun e w' ⟨A8, c8, he, hr, hb⟩ => ⟨_, he, A8, c8, rfl, hr, hb⟩)) ?_ ?_; (· (go_simp; done)); rintro v wn ⟨A8, c8, rfl, hr8, hb⟩; have sf := WK.step sf hb; refine ⟨sf, ?_⟩; clear hb)); (try simp only [Act.put, List.setIfInBounds_toArray, List.set_cons_zero, List.set_cons_succ])) | (refine ord_val (v := ?_) rfl rfl (fun W1 hW1 => ?_) ?_; rotate_left; (· (go_simp; try with_reducible rfl)); (try simp only [Act.put, List.setIfInBounds_toArray, List.set_cons_zero, List.set_cons_succ]))))
  refine ord_nil ?_
  go_wp2
  go_ret
  exact ⟨rfl, sf.below⟩

end Go.Proofs.Yteadkghffdiaoaa
