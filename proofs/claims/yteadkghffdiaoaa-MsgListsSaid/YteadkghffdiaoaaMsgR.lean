/- msg.Right: may a message be? -/
import Derived.Test.YteadkghffdiaoaaMsgE
import Derived.Test.YteadkghffdiaoaaQuiet
set_option linter.unusedVariables false
set_option linter.unusedSimpArgs false
namespace Go.Proofs.Yteadkghffdiaoaa
open Go.RowKit Go.Proofs.YteadkghffdiaoaaW.PrintWords

def bareS (m : Msg) : Msg := { Msg.zero with kind := m.kind, call := m.call, frm := m.frm, dst := m.dst }
def endOk (m : Msg) : Bool := decide (1 ≤ m.kind ∧ m.kind < 13 ∧ placeS m.frm = true ∧ placeS m.dst = true ∧ m.frm ≠ m.dst)
def callOk (m : Msg) : Bool := decide (1 ≤ m.call ∧ (m.call - 1) / 1048576 = askerS m)
def rightS (m : Msg) : Bool := endOk m && callOk m && fineS m && decide (offS m = bareS m)
theorem rightS_end {m : Msg} (h : endOk m = false) : rightS m = false := by unfold rightS; rw [h]; rfl
theorem rightS_call {m : Msg} (h : callOk m = false) : rightS m = false := by unfold rightS; rw [h]; simp
theorem rightS_fine {m : Msg} (h : fineS m = false) : rightS m = false := by unfold rightS; rw [h]; simp

theorem keepC {w w' : World} (hb : Below w.heap.size w w') {g j : Nat} {v : Value} (h : w.cell? ⟨g, j, none⟩ = some v) : w'.cell? ⟨g, j, none⟩ = some v := (hb.cell (World.block_lt_of_cell? _ _ h)).trans h
theorem blk_range {w : World} {g : Nat} {t : TypeId} {cs : Array Value} (h : w.heap[g]? = some (.cells cs t (0, 0))) : w.rangeAt g 0 cs.toList := by
  intro j v hj
  rw [Nat.zero_add, blk_cell h]
  simpa using hj

theorem i64_in {x : Int} (h1 : 0 ≤ x) (h2 : x ≤ 9223372036854775807) : IntKind.i64.wrap x = x := IntWalk.i64_in x (by omega)
theorem wrap_pred {c : Int} (h : ¬ c < 1) (h2 : c ≤ 9223372036854775807) : IntKind.i64.wrap (c - 1) = c - 1 := i64_in (by omega) (by omega)
theorem wrap_quo {c q : Int} (h : ¬ c < 1) (h2 : c ≤ 9223372036854775807) (hq : q = (c - 1) / 1048576) : IntKind.i64.wrap ((c - 1).tdiv 1048576) = q := by
  rw [Int.tdiv_eq_ediv_of_nonneg (by omega), ← hq]
  exact i64_in (by omega) (by omega)

abbrev RightP (m : Msg) (w : World) (e : Ending) (w' : World) : Prop := e = .returned (.bool (rightS m)) ∧ Below w.heap.size w w'
def RightJ (m : Msg) (w : World) (a' : Act) (w' : World) : Prop := Below w.heap.size w w' ∧ rightS m = false ∧ ∃ (u0 u1 u2 u3 u4 u5 u6 u7 u8 u9 u10 u11 u12 u13 u14 u15 u16 u17 u18 u19 u20 u21 u22 u23 u24 u25 u26 u27 u28 u29 u30 u31 u32 u33 u34 u35 u36 u37 u38 u39 u40 u41 u42 u43 u44 u45 u46 u47 u48 u49 u50 u51 u52 u53 u54 u55 u56 u57 u58 u59 u60 : Value), a' = { tmps := #[u0, u1, u2, u3, u4, u5, u6, u7, u8, u9, u10, u11, u12, u13, u14, u15, u16, u17, u18, u19, u20, u21, u22, u23, u24, u25, u26, u27, u28, u29, u30, u31, u32, u33, u34, u35, u36, u37, u38, u39, u40, u41, u42, u43, u44, u45, u46, u47, u48, u49, u50, u51, u52, u53, u54, u55, u56, u57, u58, u59, u60], defers := [] }

set_option maxHeartbeats 4000000 in
set_option maxRecDepth 100000 in
theorem right_c (m : Msg) (A : Option Addr) (c : Nat) (w : World) (hr : RL w A c m.list) (hc : m.call ≤ 9223372036854775807) : Calls Try.prog 14 #[.agg (mc m A c)] w (RightP m w) := by
  have hu := Try.underlying27
  have HR := Lib.hid hr; clear hr
  obtain ⟨_, rfl, hb, k1, k2, hs⟩ := two_new w (.cells (mc m A c) 27) (.cells zmc 27)
  have HB0 := Lib.hid hb; clear hb
  have HZ := Lib.hid hs; clear hs
  have HC := Lib.hid hc; clear hc
  go_enter Try.func14, Try.ntmps14
  go_upto_region 1 with fail
  refine wp_scope_jumps 0 (RightJ m w) (fun _ _ => 0) rfl ?_ ?_
  · go_upto_region 2 with (first
      | (refine gate_ (.store 27 (.tmp 3) (.tmp 12)) rfl ?_; refine wpList_store_blk 27 (.tmp 3) (.tmp 12) rfl rfl rfl (w.heap.size + 1) rfl k2 (cs := mcv (bareS m) (.slice none 0 0)) rfl msgSize rfl (mcv_one rfl) ?_; intro W k3 hg3; have k1' := (hg3.block w.heap.size (by simp; omega) (by simp)).trans k1; have HB := Lib.hid (HB0.out.grown hg3 HB0.out.size (fun k e => by have := Option.some.inj e; omega)); clear hg3))
    have g1 := cells_all k1'
    have K1 := Lib.hid k1'
    have K3 := Lib.hid k3
    have HBW := HB
    clear k1' k3 k1 k2
    rcases (by omega : m.kind < 1 ∨ 13 ≤ m.kind ∨ (1 ≤ m.kind ∧ m.kind < 13)) with h | h | ⟨h1, h2⟩
    · have HE := Lib.hid (rightS_end (m := m) (by simp [endOk]; omega))
      go_wp2
      go_step3; go_wp2
      exact ⟨rfl, HB.out, HE.out, _, _, _, _, _, _, _, _, _, _, _, _, _, _, _, _, _, _, _, _, _, _, _, _, _, _, _, _, _, _, _, _, _, _, _, _, _, _, _, _, _, _, _, _, _, _, _, _, _, _, _, _, _, _, _, _, _, _, _, _, _, rfl⟩
    · have HE := Lib.hid (rightS_end (m := m) (by simp [endOk]; omega))
      go_wp2
      go_step3; go_wp2
      exact ⟨rfl, HB.out, HE.out, _, _, _, _, _, _, _, _, _, _, _, _, _, _, _, _, _, _, _, _, _, _, _, _, _, _, _, _, _, _, _, _, _, _, _, _, _, _, _, _, _, _, _, _, _, _, _, _, _, _, _, _, _, _, _, _, _, _, _, _, _, rfl⟩
    · rcases hp : placeS m.frm with _ | _
      · have HE := Lib.hid (rightS_end (m := m) (by simp [endOk, hp]))
        go_wp2_with (go_at_call 25; refine (place_c _ _).mono ?_; rintro e w' ⟨rfl, rfl⟩)
        go_step3; go_wp2
        exact ⟨rfl, HB.out, HE.out, _, _, _, _, _, _, _, _, _, _, _, _, _, _, _, _, _, _, _, _, _, _, _, _, _, _, _, _, _, _, _, _, _, _, _, _, _, _, _, _, _, _, _, _, _, _, _, _, _, _, _, _, _, _, _, _, _, _, _, _, _, rfl⟩
      rcases hq : placeS m.dst with _ | _
      · have HE := Lib.hid (rightS_end (m := m) (by simp [endOk, hq]))
        go_wp2_with (go_at_call 25; refine (place_c _ _).mono ?_; rintro e w' ⟨rfl, rfl⟩)
        go_step3; go_wp2
        exact ⟨rfl, HB.out, HE.out, _, _, _, _, _, _, _, _, _, _, _, _, _, _, _, _, _, _, _, _, _, _, _, _, _, _, _, _, _, _, _, _, _, _, _, _, _, _, _, _, _, _, _, _, _, _, _, _, _, _, _, _, _, _, _, _, _, _, _, _, _, rfl⟩
      by_cases he : m.frm = m.dst
      · have HE := Lib.hid (rightS_end (m := m) (by simp [endOk, he]))
        have b : (m.frm == m.dst) = true := by simpa using he
        clear he
        go_wp2_with (go_at_call 25; refine (place_c _ _).mono ?_; rintro e w' ⟨rfl, rfl⟩)
        go_step3; go_wp2
        exact ⟨rfl, HB.out, HE.out, _, _, _, _, _, _, _, _, _, _, _, _, _, _, _, _, _, _, _, _, _, _, _, _, _, _, _, _, _, _, _, _, _, _, _, _, _, _, _, _, _, _, _, _, _, _, _, _, _, _, _, _, _, _, _, _, _, _, _, _, _, rfl⟩
      have hE := Lib.hid (show endOk m = true by simp [endOk, h1, h2, hp, hq, he])
      have b : (m.frm == m.dst) = false := by simpa using he
      clear he
      go_upto_region 3 with (go_at_call 25; refine (place_c _ _).mono ?_; rintro e w' ⟨rfl, rfl⟩)
      by_cases hc1 : m.call < 1
      · have HE := Lib.hid (rightS_call (m := m) (by simp [callOk]; omega))
        have d : decide (m.call < 1) = true := by simpa using hc1
        go_quiet (fail)
        go_wp2
        go_step3; go_wp2
        exact ⟨rfl, below_drewN HB.out _, HE.out, _, _, _, _, _, _, _, _, _, _, _, _, _, _, _, _, _, _, _, _, _, _, _, _, _, _, _, _, _, _, _, _, _, _, _, _, _, _, _, _, _, _, _, _, _, _, _, _, _, _, _, _, _, _, _, _, _, _, _, _, _, rfl⟩
      · have d : decide (m.call < 1) = false := by simpa using hc1
        have hq1 := wrap_pred hc1 HC.out
        obtain ⟨q, hq⟩ : ∃ q, q = (m.call - 1) / 1048576 := ⟨_, rfl⟩
        have hq2 := wrap_quo hc1 HC.out hq
        have HCQ : Hid (callOk m = decide (q = askerS m)) := Lib.hid (by unfold callOk; rw [hq, decide_eq_decide]; exact ⟨fun h => h.2, fun h => ⟨by omega, h⟩⟩)
        have cl : ∀ W1, Below W.heap.size W W1 → W1.cell? ⟨w.heap.size, 1, none⟩ = some (.int .i64 m.call) := fun W1 h => keepC h (g1 1)
        have bl : ∀ W1, Below W.heap.size W W1 → W1.heap[w.heap.size]? = some (.cells (mc m A c) 27 (0, 0)) := fun W1 h => blk_below K1.out h
        clear g1
        clear hq hc1
        by_cases hca : q = askerS m
        · have b2 : (q != askerS m) = false := by simpa using hca
          have HCA := Lib.hid hca; clear hca
          have HRW := Lib.hid (HR.out.below HB.out)
          rcases hf : fineS m with _ | _
          · have HE := Lib.hid (rightS_fine (m := m) hf)
            (refine region_below (by kernel_rfl) (by kernel_rfl) ?_; (repeat (first | (refine quiet_skip rfl ?_; (try simp only [Act.put, List.setIfInBounds_toArray, List.set_cons_zero, List.set_cons_succ])) | ((first | refine quiet_load_blk 27 (.tmp 1) rfl rfl w.heap.size rfl bl hu rfl msgSize ?_ | (refine quiet_callB 18 rfl rfl (fun W1 hW1 => asker_c m (.slice A m.list.length c) W1) (fun W1 hW1 => ?_) ?_; (· (go_simp; done))) | (refine quiet_callB 29 rfl rfl (fun W1 hW1 => fine_c m A c W1 (HRW.out.below hW1)) (fun W1 hW1 => ?_) ?_; (· (go_simp; done)))); (try simp only [Act.put, List.setIfInBounds_toArray, List.set_cons_zero, List.set_cons_succ])) | (refine quiet_val (v := ?_) rfl (fun W1 hW1 => ?_) ?_; rotate_left; (· (go_simp; try with_reducible rfl)); (try simp only [Act.put, List.setIfInBounds_toArray, List.set_cons_zero, List.set_cons_succ])))); refine wpQuiet_nil ?_; intro Wq hWq)
            have HB2 := Lib.hid (below_step HB.out hWq); clear hWq
            go_wp2
            go_step3; go_wp2
            exact ⟨rfl, HB2.out, HE.out, _, _, _, _, _, _, _, _, _, _, _, _, _, _, _, _, _, _, _, _, _, _, _, _, _, _, _, _, _, _, _, _, _, _, _, _, _, _, _, _, _, _, _, _, _, _, _, _, _, _, _, _, _, _, _, _, _, _, _, _, _, rfl⟩
          · have HE : Hid (rightS m = decide (offS m = bareS m)) := Lib.hid (by unfold rightS; rw [hE.out, HCQ.out, hf, HCA.out]; simp)
            (refine region_below (by kernel_rfl) (by kernel_rfl) ?_; (repeat (first | (refine quiet_skip rfl ?_; (try simp only [Act.put, List.setIfInBounds_toArray, List.set_cons_zero, List.set_cons_succ])) | ((first | refine quiet_load_blk 27 (.tmp 1) rfl rfl w.heap.size rfl bl hu rfl msgSize ?_ | (refine quiet_callB 18 rfl rfl (fun W1 hW1 => asker_c m (.slice A m.list.length c) W1) (fun W1 hW1 => ?_) ?_; (· (go_simp; done))) | (refine quiet_callB 29 rfl rfl (fun W1 hW1 => fine_c m A c W1 (HRW.out.below hW1)) (fun W1 hW1 => ?_) ?_; (· (go_simp; done)))); (try simp only [Act.put, List.setIfInBounds_toArray, List.set_cons_zero, List.set_cons_succ])) | (refine quiet_val (v := ?_) rfl (fun W1 hW1 => ?_) ?_; rotate_left; (· (go_simp; try with_reducible rfl)); (try simp only [Act.put, List.setIfInBounds_toArray, List.set_cons_zero, List.set_cons_succ])))); refine wpQuiet_nil ?_; intro Wq hWq)
            have HB2 := Lib.hid (below_step HB.out hWq)
            have k1q := bl Wq hWq
            have k3q := blk_below K3.out hWq
            clear hWq cl bl
            go_wp2_with (first
              | (go_at_call 30; refine (off_c m A c _ _ k1q).mono ?_; rintro e w4 ⟨rfl, hgr, A', c', k4, hl⟩
                 have k5 := (hgr.block (w.heap.size + 1) (blk_lt k3q) (by simp)).trans k3q
                 have HB3 := Lib.hid (HB2.out.grown hgr HB2.out.size (fun k e => by have := Option.some.inj e; omega))
                 have HL := Lib.hid (hl w4 (HR.out.below HB3.out)); clear hl hgr k1q k3q)
              | (refine gate_ (.load 27 (.tmp 1)) rfl ?_; refine wpList_load_blk 27 (.tmp 1) rfl rfl w.heap.size rfl k4 hu rfl msgSize ?_)
              | (refine gate_ (.load 27 (.tmp 3)) rfl ?_; refine wpList_load_blk 27 (.tmp 3) rfl rfl (w.heap.size + 1) rfl k5 hu rfl msgSize ?_)
              | (go_at_call 23; refine (same_c (offS m) (bareS m) A' none c' 0 _ HL.out (RL.none_nil _)).mono ?_; rintro e w5 ⟨rfl, hb5⟩; have HB4 := Lib.hid (below_step HB3.out hb5); clear hb5))
            simp only [Exit.jump]
            go_ret
            exact ⟨ret_b HE.out.symm, HB4.out⟩
        · have b2 : (q != askerS m) = true := by simpa using hca
          have HE := Lib.hid (rightS_call (m := m) (by rw [HCQ.out]; simpa using hca)); clear hca
          (refine region_below (by kernel_rfl) (by kernel_rfl) ?_; (repeat (first | (refine quiet_skip rfl ?_; (try simp only [Act.put, List.setIfInBounds_toArray, List.set_cons_zero, List.set_cons_succ])) | ((first | refine quiet_load_blk 27 (.tmp 1) rfl rfl w.heap.size rfl bl hu rfl msgSize ?_ | (refine quiet_callB 18 rfl rfl (fun W1 hW1 => asker_c m (.slice A m.list.length c) W1) (fun W1 hW1 => ?_) ?_; (· (go_simp; done)))); (try simp only [Act.put, List.setIfInBounds_toArray, List.set_cons_zero, List.set_cons_succ])) | (refine quiet_val (v := ?_) rfl (fun W1 hW1 => ?_) ?_; rotate_left; (· (go_simp; try with_reducible rfl)); (try simp only [Act.put, List.setIfInBounds_toArray, List.set_cons_zero, List.set_cons_succ])))); refine wpQuiet_nil ?_; intro Wq hWq)
          have HB2 := Lib.hid (below_step HB.out hWq); clear hWq
          go_wp2
          go_step3; go_wp2
          exact ⟨rfl, HB2.out, HE.out, _, _, _, _, _, _, _, _, _, _, _, _, _, _, _, _, _, _, _, _, _, _, _, _, _, _, _, _, _, _, _, _, _, _, _, _, _, _, _, _, _, _, _, _, _, _, _, _, _, _, _, _, _, _, _, _, _, _, _, _, _, rfl⟩
  · rintro a' w' ⟨hb, h2, u0, u1, u2, u3, u4, u5, u6, u7, u8, u9, u10, u11, u12, u13, u14, u15, u16, u17, u18, u19, u20, u21, u22, u23, u24, u25, u26, u27, u28, u29, u30, u31, u32, u33, u34, u35, u36, u37, u38, u39, u40, u41, u42, u43, u44, u45, u46, u47, u48, u49, u50, u51, u52, u53, u54, u55, u56, u57, u58, u59, u60, rfl⟩
    have HE := Lib.hid h2
    have HB := Lib.hid hb
    clear h2 hb
    go_wp2
    simp only [Exit.jump]
    go_ret
    exact ⟨by rw [HE.out]; rfl, HB.out⟩

end Go.Proofs.Yteadkghffdiaoaa
