/- Law 06: MsgLists: lists of states. -/
import Derived.Test.YteadkghffdiaoaaLawB
import Derived.Test.YteadkghffdiaoaaRefList
set_option linter.unusedVariables false
set_option linter.unusedSimpArgs false
namespace Go.Proofs.Yteadkghffdiaoaa
open Go.RowKit Go.Proofs.YteadkghffdiaoaaW.PrintWords

def baseF (l : List Int) (pred : Int) : Bool := decide ((l.length : Int) ≤ 3) && decide (-1 ≤ pred) && decide (pred < 65536)
/-- Fine, as far as place k. -/
def upF (l : List Int) (frm pred : Int) (k : Nat) : Bool := baseF l pred && (othersTo l frm k).all okS
def midF (l : List Int) (frm pred : Int) (k : Nat) : Bool := upF l frm pred k && decide (0 ≤ l.getD k 0) && decide (l.getD k 0 < 65536) && decide (l.getD k 0 ≠ frm)
def inF (l : List Int) (frm pred : Int) (k q : Nat) : Bool := midF l frm pred k && (l.take q).all fun x => decide (l.getD k 0 ≠ x)
theorem upF_succ (l : List Int) (frm pred : Int) {k : Nat} (hk : k < l.length) : upF l frm pred (k + 1) = inF l frm pred k k := by
  have e : l[k]?.getD 0 = l.getD k 0 := by rw [List.getD_eq_getElem?_getD]
  unfold inF midF upF
  rw [othersTo_succ, List.all_append]
  unfold okS otherAt placeS
  rw [e]
  have h2 : (l.take k).all (fun x => decide (l.getD k 0 ≠ x)) = !decide (l.getD k 0 ∈ l.take k) := by
    rw [Bool.eq_iff_iff]
    simp only [List.all_eq_true, decide_eq_true_eq, Bool.not_eq_true', decide_eq_false_iff_not]
    exact ⟨fun h hm => h _ hm rfl, fun h x hx e => h (e ▸ hx)⟩
  rw [h2]
  cases baseF l pred <;> cases (List.all (othersTo l frm k) fun x => x.2 && decide (0 ≤ x.1 ∧ x.1 < 65536)) <;> simp [Bool.and_assoc, Bool.and_comm, Bool.and_left_comm, Bool.decide_and]
theorem inF_succ (l : List Int) (frm pred : Int) (k : Nat) {q : Nat} (hq : q < l.length) : inF l frm pred k (q + 1) = (inF l frm pred k q && decide (l.getD k 0 ≠ l[q])) := by
  unfold inF
  rw [List.take_succ_eq_append_getElem hq, List.all_append]
  simp [Bool.and_assoc]
theorem inF_zero (l : List Int) (frm pred : Int) (k : Nat) : inF l frm pred k 0 = midF l frm pred k := by simp [inF]
theorem upF_zero (l : List Int) (frm pred : Int) : upF l frm pred 0 = baseF l pred := by simp [upF, othersTo]

def stateM (l : List Int) (frm dst pred : Int) : Msg := ⟨7, dst * 1048576 + 1, frm, dst, 0, false, false, 0, pred, l, Item.zero, 0⟩
theorem state_right {l : List Int} {frm dst pred : Int} (h1 : 0 ≤ frm) (h2 : frm ≤ 65535) (hd : dst = (frm + 1) % 65536) : rightS (stateM l frm dst pred) = upF l frm pred l.length := by
  have hd1 : 0 ≤ dst ∧ dst < 65536 := by omega
  have hne : frm ≠ dst := by omega
  have e1 : endOk (stateM l frm dst pred) = true := by
    unfold endOk
    exact decide_eq_true ⟨of_decide_eq_true rfl, of_decide_eq_true rfl, placeS_iff.2 ⟨h1, by show frm < 65536; omega⟩, placeS_iff.2 hd1, hne⟩
  have e2 : callOk (stateM l frm dst pred) = true := by
    unfold callOk
    refine decide_eq_true ⟨?_, ?_⟩
    · show 1 ≤ dst * 1048576 + 1; omega
    · show (dst * 1048576 + 1 - 1) / 1048576 = dst; omega
  have e3 : offS (stateM l frm dst pred) = bareS (stateM l frm dst pred) := rfl
  have e4 : fineS (stateM l frm dst pred) = (((pred == -1) || placeS pred) && listS l frm) := rfl
  unfold rightS
  rw [e1, e2, decide_eq_true e3, e4]
  unfold upF baseF listS placeS
  rw [Bool.eq_iff_iff]
  simp only [Bool.true_and, Bool.and_true, Bool.and_eq_true, Bool.or_eq_true, beq_iff_eq, decide_eq_true_eq]
  constructor
  · rintro ⟨h3, h4, h5⟩
    exact ⟨⟨⟨by omega, by omega⟩, by omega⟩, h4⟩
  · rintro ⟨⟨⟨h3, h4⟩, h5⟩, h6⟩
    exact ⟨by omega, h6, by omega⟩

theorem same_self2 (m : Msg) (A B : Option Addr) (c d : Nat) (w : World) (hr : RL w A c m.list) (hs : RL w B d m.list) : Calls Try.prog 23 #[.agg (mc m A c), .agg (mc m B d)] w fun e w' => e = .returned (.bool true) ∧ Below w.heap.size w w' := by
  have := same_c m m A B c d w hr hs; rwa [decide_eq_true rfl] at this

set_option maxHeartbeats 4000000 in
set_option maxRecDepth 100000 in
theorem msgLists_c (l : List Int) (A : Option Addr) (c : Nat) (frm pred : Int) (w : World) (hr : RL w A c l) :
    Calls Try.prog 7 #[.slice A l.length c, .int .i64 frm, .int .i64 pred] w fun e w' => e = .returned (.bool true) ∧ Below w.heap.size w w' := by
  have hu := Try.underlying27
  have hm := hr.max
  have HR := Lib.hid hr; clear hr
  by_cases hg : l.length ≤ 6 ∧ 0 ≤ frm ∧ frm ≤ 65535
  · obtain ⟨g1, g2, g3⟩ := hg
    have g1' : ((l.length : Int) ≤ 6) := by omega
    go_enter Try.func7, Try.ntmps7
    go_upto_region 4 with fail
    go_cut [8] (fun s8 w2 => w = w2 ∧ s8 = .bool (baseF l pred))
    case first =>
      go_wp2_with fail
      all_goals go_meet
      all_goals exact ⟨rfl, congrArg Value.bool (by rw [Bool.eq_iff_iff]; simp [baseF] <;> omega)⟩
    case rest =>
      obtain ⟨rfl, rfl⟩ := hcut
      have hd : ∃ dst, dst = (frm + 1) % 65536 := ⟨_, rfl⟩
      obtain ⟨dst, hd⟩ := hd
      rw [← hd]
      have HD := Lib.hid hd; clear hd
      go_wp2
      go_loopw [8, 9] (fun f i wr => ∃ k n : Nat, k ≤ l.length ∧ f = .bool (upF l frm pred k) ∧ i = .int .i64 k ∧ wr = w.drewN n) (fun _ i _ => l.length - (intOf i).toNat)
      case atStart => exact ⟨0, 0, by omega, by rw [upF_zero], rfl, rfl⟩
      case round =>
        obtain ⟨k, n, hk, rfl, rfl, rfl⟩ := hrel
        by_cases hlt : k < l.length
        · obtain ⟨ad, rfl, hck⟩ := HR.out.get hlt
          have i0 : (0 : Int) ≤ (k : Int) := by omega
          have i1 : (k : Int) < (l.length : Int) := by omega
          have e1 : l.getD k 0 = l[k] := by rw [List.getD_eq_getElem?_getD, List.getElem?_eq_getElem hlt]; rfl
          have E1 := Lib.hid e1; clear e1
          go_upto_region 8 with fail
          go_cut [8] (fun s8 w2 => w.drewN n = w2 ∧ s8 = .bool (midF l frm pred k))
          case first =>
            cases hf : upF l frm pred k
            all_goals
              have HF := Lib.hid hf
              go_wp2_with fail
              all_goals go_meet
              all_goals exact ⟨rfl, congrArg Value.bool (by unfold midF; rw [HF.out, E1.out, Bool.eq_iff_iff]; simp <;> omega)⟩
          case rest =>
            obtain ⟨rfl, rfl⟩ := hcut
            go_wp2
            go_loopw [8, 10] (fun f j wr => ∃ q n : Nat, q ≤ k ∧ f = .bool (inF l frm pred k q) ∧ j = .int .i64 q ∧ wr = w.drewN n) (fun _ j _ => k - (intOf j).toNat)
            case atStart => exact ⟨0, _, by omega, by rw [inF_zero], rfl, rfl⟩
            case round =>
              obtain ⟨q, n2, hq, rfl, rfl, rfl⟩ := hrel
              by_cases hql : q < k
              · have hql2 : q < l.length := by omega
                have hcq : w.cell? (ad.add q) = some (.int .i64 l[q]) := by
                  obtain ⟨ad', e, h⟩ := HR.out.get hql2
                  cases e; exact h
                have j0 : (0 : Int) ≤ (q : Int) := by omega
                have j1 : (q : Int) < (l.length : Int) := by omega
                cases hf : inF l frm pred k q
                · have HF := Lib.hid hf; clear hf
                  go_wp2
                  go_quiet (fail)
                  go_wp2
                  go_roundw
                  case rel => exact ⟨q + 1, _, by omega, by rw [inF_succ l frm pred k hql2, HF.out]; rfl, by go_num, rfl⟩
                  case measure => simp [intOf]; omega
                · have HF := Lib.hid hf; clear hf
                  go_wp2
                  go_quiet (fail)
                  go_wp2
                  go_roundw
                  case rel => exact ⟨q + 1, _, by omega, by rw [inF_succ l frm pred k hql2, HF.out, E1.out]; simp [bne, Bool.beq_eq_decide_eq], by go_num, rfl⟩
                  case measure => simp [intOf]; omega
              · obtain rfl : q = k := by omega
                go_wp2
                go_roundw
                case rel => exact ⟨q + 1, _, by omega, by rw [upF_succ l frm pred hlt], by go_num, rfl⟩
                case measure => simp [intOf]; omega
        · obtain rfl : k = l.length := by omega
          have hbw : Below w.heap.size w (w.drewN n) := below_drewN (Below.refl _ _) _
          have HRW := Lib.hid (HR.out.below hbw)
          generalize w.drewN n = W at *
          have HB := Lib.hid hbw; clear hbw
          have hd1 : 0 ≤ dst ∧ dst < 65536 := by have := HD.out; omega
          go_upto_region 15 with (first
            | (refine gate_ (.store 27 (.tmp 11) (.tmp 92)) rfl ?_; refine wpList_store_new 27 (.tmp 11) (.tmp 92) rfl rfl rfl rfl (cs := mc (stateM l frm dst pred) A c) rfl msgSize rfl (mcv_one rfl) HB.out ?_; intro w3 k11 hb3; have HRW := Lib.hid (HRW.out.below hb3); have HB := Lib.hid (below_step HB.out hb3); clear hb3)
            | (refine gate_ (.load 27 (.tmp 11)) rfl ?_; refine wpList_load_blk 27 (.tmp 11) rfl rfl W.heap.size rfl k11 hu rfl msgSize ?_)
            | (go_at_call 24; refine (own_rl (stateM l frm dst pred) A c _ HRW.out (by show l.length ≤ _; omega)).mono ?_; rintro e w4 ⟨A8, c8, rfl, hr8, hb4⟩; have HRW := Lib.hid (HRW.out.below hb4); have HB := Lib.hid (below_step HB.out hb4); replace k11 := blk_below k11 hb4; have HR8 := Lib.hid hr8; clear hb4 hr8)
            | (refine gate_ (.store 27 (.tmp 12) (.tmp 94)) rfl ?_; refine wpList_store_new 27 (.tmp 12) (.tmp 94) rfl rfl rfl rfl (cs := mc (stateM l frm dst pred) A8 c8) rfl msgSize rfl (mcv_one rfl) HB.out ?_; intro w5 k12 hb5; have HRW := Lib.hid (HRW.out.below hb5); have HR8 := Lib.hid (HR8.out.below hb5); have HB := Lib.hid (below_step HB.out hb5); replace k11 := blk_below k11 hb5; clear hb5))
          have hst := Lib.hid (state_right (l := l) (pred := pred) g2 g3 HD.out)
          have hcall : (stateM l frm dst pred).call ≤ 9223372036854775807 := by show dst * 1048576 + 1 ≤ _; omega
          go_wp2_with (first
            | (refine gate_ (.load 27 (.tmp 11)) rfl ?_; (try refine gate_guard (by rfl) ?_); refine wpList_load_blk 27 (.tmp 11) rfl rfl W.heap.size rfl k11 hu rfl msgSize ?_)
            | (go_at_call 14; refine (right_t (stateM l frm dst pred) A c _ HRW.out hcall hst.out).mono ?_; rintro e w6 ⟨rfl, hb6⟩; have HRW := Lib.hid (HRW.out.below hb6); have HR8 := Lib.hid (HR8.out.below hb6); have HB := Lib.hid (below_step HB.out hb6); replace k11 := blk_below k11 hb6; replace k12 := blk_below k12 hb6; have q12 := cells_all k12; clear hb6)
            | (refine gate_ (.load 27 (.tmp 12)) rfl ?_; refine gate_guard (by rfl) ?_; refine wpList_load_blk 27 (.tmp 12) rfl rfl _ rfl k12 hu rfl msgSize ?_)
            | (go_at_call 23; refine (same_self2 (stateM l frm dst pred) A8 A c8 c _ HR8.out HRW.out).mono ?_; rintro e w7 ⟨rfl, hb7⟩; have HB := Lib.hid (below_step HB.out hb7); clear hb7)
            | (go_at_call 9; refine (wakes_c _).mono ?_; rintro e w8 ⟨rfl, hb8⟩; have HB := Lib.hid (below_step HB.out hb8); clear hb8))
          go_ret
          exact ⟨rfl, HB.out⟩
  · go_enter Try.func7, Try.ntmps7
    go_wp2_with (go_at_call 9; refine (wakes_c _).mono ?_; rintro e w2 ⟨rfl, hb1⟩)
    all_goals first
      | (go_ret; exact ⟨rfl, hb1⟩)
      | exact absurd ⟨by omega, by omega, by omega⟩ hg

end Go.Proofs.Yteadkghffdiaoaa
