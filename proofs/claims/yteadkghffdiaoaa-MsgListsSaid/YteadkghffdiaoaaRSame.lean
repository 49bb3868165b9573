/- The reference's Same: whether two messages are one. -/
import Derived.Test.YteadkghffdiaoaaMsgC
set_option linter.unusedVariables false
set_option linter.unusedSimpArgs false
namespace Go.Proofs.Yteadkghffdiaoaa
open Go.RowKit Go.Proofs.YteadkghffdiaoaaW.PrintWords

set_option maxHeartbeats 10000000 in
set_option maxRecDepth 100000 in
theorem rsame_c (a b : Msg) (A B : Option Addr) (c d : Nat) (w : World) (ha : RL w A c a.list) (hb : RL w B d b.list) :
    Calls Try.prog 20 #[.agg (mc a A c), .agg (mc b B d)] w fun e w' => e = .returned (.bool (decide (a = b))) ∧ Below w.heap.size w w' := by
  have hu := Try.underlying27
  have hi := Try.underlying24
  have qi := fun W => run_eql_item W a.item b.item
  have hm := ha.max
  have hm2 := hb.max
  have HA := Lib.hid ha
  have HB := Lib.hid hb
  clear ha hb
  by_cases hl : a.list.length = b.list.length
  · have b1 : (a.list.length == b.list.length) = true := by simpa using hl
    have b2 : ((a.list.length : Int) != (b.list.length : Int)) = false := by simp; omega
    have HL := Lib.hid hl; clear hl
    go_enter Try.func20, Try.ntmps20
    go_upto_region 1 with (fail)
    obtain ⟨W, hW, hb, k1, k2, hs⟩ := two_new w (.cells (mc a A c) 27) (.cells (mc b B d) 27)
    rw [← hW]
    clear hW hs
    have g1 := cells_all k1
    have g2 := cells_all k2
    have HW := Lib.hid hb; clear hb k1 k2
    go_wp2
    go_loopw [5] (fun i wr => ∃ k n : Nat, k ≤ a.list.length ∧ i = .int .i64 k ∧ Hid (a.list.take k = b.list.take k) ∧ wr = W.drewN n) (fun i _ => a.list.length - (intOf i).toNat)
    case atStart => exact ⟨0, 0, by omega, rfl, Lib.hid (by simp), rfl⟩
    case round =>
      obtain ⟨k, n, hk, rfl, hn, rfl⟩ := hrel
      by_cases hlt : k < a.list.length
      · have hlt2 : k < b.list.length := by have := HL.out; omega
        obtain ⟨ad, rfl, hc⟩ := (HA.out.below HW.out).get hlt
        obtain ⟨ad2, rfl, hc2⟩ := (HB.out.below HW.out).get hlt2
        have i0 : (0 : Int) ≤ (k : Int) := by omega
        have i1 : (k : Int) < (a.list.length : Int) := by omega
        have i2 : (k : Int) < (b.list.length : Int) := by omega
        by_cases he : a.list[k] = b.list[k]
        · have b : (a.list[k] != b.list[k]) = false := by simpa using he
          have HE := Lib.hid he; clear he
          go_wp2
          go_quiet (fail)
          go_wp2
          go_roundw
          case rel => exact ⟨k + 1, _, by omega, by go_num, Lib.hid (take_eq_succ hlt hlt2 hn.out HE.out), rfl⟩
          case measure => simp [intOf]; omega
        · have b3 : (a.list[k] != b.list[k]) = true := by simpa using he
          have HE := Lib.hid he; clear he
          go_wp2
          go_quiet (fail)
          go_wp2
          go_ret
          exact ⟨ret_b (msg_ne_list (fun e => HE.out (by simp [e]))).symm, below_drewN (below_drewN HW.out _) _⟩
      · have HE : Hid (a.list = b.list) := Lib.hid (by
          have := hn.out
          rwa [List.take_of_length_le (by omega), List.take_of_length_le (by have := HL.out; omega)] at this)
        go_wp2
        all_goals
          go_ret
          exact ⟨ret_b (by rw [Bool.eq_iff_iff]; simp [msg_eq_iff2, HE.out, *]), below_drewN HW.out _⟩
  · have b1 : (a.list.length == b.list.length) = false := by simpa using hl
    have b2 : ((a.list.length : Int) != (b.list.length : Int)) = true := by simp; omega
    have HL := Lib.hid hl; clear hl
    go_enter Try.func20, Try.ntmps20
    go_wp2
    go_ret
    exact ⟨ret_b (msg_ne_list (fun e => HL.out (by rw [e]))).symm, ((Below.refl _ w).alloc (Nat.le_refl _) _).alloc (by simp) _⟩

end Go.Proofs.Yteadkghffdiaoaa
