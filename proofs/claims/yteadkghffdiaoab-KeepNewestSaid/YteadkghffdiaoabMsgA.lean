/- The small functions of package msg and of its reference: what each comes to. -/
import Derived.Test.YteadkghffdiaoabBase
set_option linter.unusedVariables false
set_option linter.unusedSimpArgs false
set_option maxRecDepth 100000
namespace Go.Proofs.Yteadkghffdiaoab
open Go.RowKit Go.Proofs.YteadkghffdiaoabW.PrintWords

def placeS (n : Int) : Bool := decide (0 ≤ n ∧ n < 65536)
def withinS (n : Int) : Bool := decide (0 ≤ n ∧ n ≤ 1048576)
def keyS (s : ByteArray) : Bool := decide (1 ≤ s.size ∧ s.size ≤ 20)
def pairS (x : Item) : Bool := keyS x.key && withinS x.value && withinS x.version
def asksS (m : Msg) : Bool := decide (1 ≤ m.kind ∧ m.kind ≤ 6)
def askerS (m : Msg) : Int := if asksS m = true then m.frm else m.dst
def tellS (m : Msg) : Msg := if asksS m = true then { Msg.zero with kind := m.kind + 6, call := m.call, frm := m.dst, dst := m.frm } else Msg.zero
def callS (id n : Int) : Int × Int := if placeS id = true ∧ 1 ≤ n ∧ n ≤ 1048576 then (id * 1048576 + n, 0) else (0, 2)

set_option maxHeartbeats 400000 in
theorem place_c (n : Int) (w : World) : Calls Try.prog 64 #[.int .i64 n] w fun e w' => e = .returned (.bool (placeS n)) ∧ w = w' := by
  by_cases h : 0 ≤ n <;> by_cases k : n < 65536
  all_goals
    go_enter Try.func64, Try.ntmps64
    go_wp2
    go_ret
    exact ⟨ret_b (by simp [placeS, *]), rfl⟩

set_option maxHeartbeats 400000 in
theorem rplace_c (n : Int) (w : World) : Calls Try.prog 36 #[.int .i64 n] w fun e w' => e = .returned (.bool (placeS n)) ∧ w = w' := by
  by_cases h : 0 ≤ n <;> by_cases k : n < 65536
  all_goals
    go_enter Try.func36, Try.ntmps36
    go_wp2
    go_ret
    exact ⟨ret_b (by simp [placeS, *]), rfl⟩

set_option maxHeartbeats 400000 in
theorem within_c (n : Int) (w : World) : Calls Try.prog 83 #[.int .i64 n] w fun e w' => e = .returned (.bool (withinS n)) ∧ w = w' := by
  by_cases h : 0 ≤ n <;> by_cases k : n ≤ 1048576
  all_goals
    go_enter Try.func83, Try.ntmps83
    go_wp2
    go_ret
    exact ⟨ret_b (by simp [withinS, *]), rfl⟩

theorem size_pos {s : ByteArray} (h : ¬ s.toList = []) : 1 ≤ s.size := by
  rw [ByteArray.toList_eq] at h
  have := data_length s
  rcases Nat.eq_zero_or_pos s.size with h0 | h0
  · exact absurd (List.eq_nil_of_length_eq_zero (this.trans h0)) h
  · exact h0
theorem size_zero {s : ByteArray} (h : s.toList = []) : s.size = 0 := by
  rw [ByteArray.toList_eq] at h
  have := data_length s
  rw [h] at this
  exact this.symm

set_option maxHeartbeats 400000 in
theorem key_c (s : ByteArray) (w : World) : Calls Try.prog 81 #[.string s] w fun e w' => e = .returned (.bool (keyS s)) ∧ w = w' := by
  by_cases h : s.toList = []
  · have h0 := size_zero h
    have b : (s.toList == ([] : List UInt8)) = true := by simpa using h
    have b1 : (s.toList != ([] : List UInt8)) = false := by simpa using h
    have H0 := Lib.hid h0; clear h0 h
    go_enter Try.func81, Try.ntmps81
    go_wp2
    go_ret
    exact ⟨ret_b (by simp [keyS, H0.out]), rfl⟩
  · have h0 := size_pos h
    have b : (s.toList == ([] : List UInt8)) = false := by simpa using h
    have b1 : (s.toList != ([] : List UInt8)) = true := by simpa using h
    clear h
    go_enter Try.func81, Try.ntmps81
    go_wp2
    all_goals
      go_ret
      exact ⟨ret_b (by unfold keyS; rw [decide_eq_decide]; omega), rfl⟩

theorem pairS_iff (x : Item) : pairS x = true ↔ keyS x.key = true ∧ withinS x.value = true ∧ withinS x.version = true := by unfold pairS; simp [and_assoc]

set_option maxHeartbeats 400000 in
theorem pair_c (x : Item) (w : World) : Calls Try.prog 70 #[.agg (ic x)] w fun e w' => e = .returned (.bool (pairS x)) ∧ Below w.heap.size w w' := by
  have hu := Try.underlying25
  cases h1 : keyS x.key <;> cases h2 : withinS x.value
  all_goals
    go_enter Try.func70, Try.ntmps70
    go_wp2_with (first | (go_at_call 81; refine (key_c _ _).mono ?_; rintro e w' ⟨rfl, rfl⟩) | (go_at_call 83; refine (within_c _ _).mono ?_; rintro e w' ⟨rfl, rfl⟩))
    go_ret
    exact ⟨ret_b (by simp [pairS, h1, h2]), (Below.refl _ _).alloc (Nat.le_refl _) _⟩

set_option maxHeartbeats 400000 in
theorem rpair_c (x : Item) (w : World) : Calls Try.prog 25 #[.agg (ic x)] w fun e w' => e = .returned (.bool (pairS x)) ∧ Below w.heap.size w w' := by
  have hu := Try.underlying25
  go_enter Try.func25, Try.ntmps25
  go_wp2
  all_goals
    go_ret
    exact ⟨ret_b (by rw [Bool.eq_iff_iff]; simp [pairS, keyS, withinS] <;> omega), (Below.refl _ _).alloc (Nat.le_refl _) _⟩

section
variable (m : Msg) (v : Value) (w : World)
set_option maxHeartbeats 400000 in
theorem asks_c : Calls Try.prog 45 #[.agg (mcv m v)] w fun e w' => e = .returned (.bool (asksS m)) ∧ Below w.heap.size w w' := by
  have hu := Try.underlying28
  go_enter Try.func45, Try.ntmps45
  go_wp2
  all_goals
    go_ret
    exact ⟨ret_b (by rw [Bool.eq_iff_iff]; simp [asksS] <;> omega), (Below.refl _ _).alloc (Nat.le_refl _) _⟩

set_option maxHeartbeats 400000 in
theorem rasks_c : Calls Try.prog 12 #[.agg (mcv m v)] w fun e w' => e = .returned (.bool (asksS m)) ∧ Below w.heap.size w w' := by
  have hu := Try.underlying28
  go_enter Try.func12, Try.ntmps12
  go_wp2
  all_goals
    go_ret
    exact ⟨ret_b (by rw [Bool.eq_iff_iff]; simp [asksS] <;> omega), (Below.refl _ _).alloc (Nat.le_refl _) _⟩

set_option maxHeartbeats 400000 in
theorem asker_c : Calls Try.prog 65 #[.agg (mcv m v)] w fun e w' => e = .returned (.int .i64 (askerS m)) ∧ Below w.heap.size w w' := by
  have hu := Try.underlying28
  cases h1 : asksS m
  all_goals
    have h2 : askerS m = if asksS m = true then m.frm else m.dst := rfl
    rw [h1] at h2
    simp at h2
    have H2 := Lib.hid h2; clear h2
    go_enter Try.func65, Try.ntmps65
    go_wp2_with (first | (refine gate_ (.load 28 (.tmp 1)) rfl ?_; refine wpList_load_blk 28 (.tmp 1) rfl rfl w.heap.size rfl (blk_new w _) hu rfl msgSize ?_) | (go_at_call 45; refine (asks_c _ _ _).mono ?_; rintro e w' ⟨rfl, hb⟩; have hg := cells_all (blk_below (blk_new w _) hb)))
    go_ret
    exact ⟨ret_i H2.out.symm, ((Below.refl _ w).alloc (Nat.le_refl _) _).trans (hb.mono (by simp))⟩

set_option maxHeartbeats 400000 in
theorem rasker_c : Calls Try.prog 37 #[.agg (mcv m v)] w fun e w' => e = .returned (.int .i64 (askerS m)) ∧ Below w.heap.size w w' := by
  have hu := Try.underlying28
  cases h1 : asksS m
  all_goals
    have h2 : askerS m = if asksS m = true then m.frm else m.dst := rfl
    rw [h1] at h2
    simp at h2
    have H2 := Lib.hid h2; clear h2
    go_enter Try.func37, Try.ntmps37
    go_wp2_with (first | (refine gate_ (.load 28 (.tmp 1)) rfl ?_; refine wpList_load_blk 28 (.tmp 1) rfl rfl w.heap.size rfl (blk_new w _) hu rfl msgSize ?_) | (go_at_call 12; refine (rasks_c _ _ _).mono ?_; rintro e w' ⟨rfl, hb⟩; have hg := cells_all (blk_below (blk_new w _) hb)))
    go_ret
    exact ⟨ret_i H2.out.symm, ((Below.refl _ w).alloc (Nat.le_refl _) _).trans (hb.mono (by simp))⟩

theorem tellS_yes (h : asksS m = true) : tellS m = { Msg.zero with kind := m.kind + 6, call := m.call, frm := m.dst, dst := m.frm } := by unfold tellS; rw [if_pos h]
theorem tellS_no (h : asksS m = false) : tellS m = Msg.zero := by unfold tellS; rw [if_neg (by rw [h]; decide)]
theorem asksS_kind (h : asksS m = true) : 1 ≤ m.kind ∧ m.kind ≤ 6 := by simpa [asksS] using h

set_option maxHeartbeats 400000 in
theorem rtell_c : Calls Try.prog 14 #[.agg (mcv m v)] w fun e w' => e = .returned (.agg (mc (tellS m) none 0)) ∧ Below w.heap.size w w' := by
  have hu := Try.underlying28
  cases h1 : asksS m
  · have h2 := Lib.hid (tellS_no m h1)
    go_enter Try.func14, Try.ntmps14
    go_upto_region 1 with fail
    obtain ⟨W, hW, hb, k1, k2, hs⟩ := two_new w (.cells (mcv m v) 28) (.cells zmc 28)
    rw [← hW]
    clear hW
    have HB := Lib.hid hb; clear hb
    have HZ := Lib.hid hs; clear hs
    go_wp2_with (first
      | (refine gate_ (.load 28 (.tmp 1)) rfl ?_; refine wpList_load_blk 28 (.tmp 1) rfl rfl w.heap.size rfl k1 hu rfl msgSize ?_)
      | (go_at_call 12; refine (rasks_c _ _ _).mono ?_; rintro e w' ⟨rfl, hb⟩; have g1 := cells_all (blk_below k1 hb); have k2' := blk_below k2 hb; have HB' := Lib.hid (below_step HB.out hb))
      | (refine gate_ (.store 28 (.tmp 2) (.tmp 6)) rfl ?_; refine wpList_store_blk 28 (.tmp 2) (.tmp 6) rfl rfl rfl (w.heap.size + 1) rfl k2' (cs := mcv Msg.zero (.slice none 0 0)) rfl msgSize rfl (mcv_one rfl) ?_; intro w3 k3 hg3))
    refine bodyPost_ret (results_cell_row Try.results14 _ _ (w.heap.size + 1) _ _ (0, 0) _ rfl k3 hu rfl msgSize) rfl ⟨?_, ?_⟩
    · rw [h2.out]; rfl
    · exact HB'.out.grown hg3 HB'.out.size (fun k e => by have := Option.some.inj e; omega)
  · have h2 := Lib.hid (tellS_yes m h1)
    obtain ⟨q1, q2⟩ := asksS_kind m h1
    go_enter Try.func14, Try.ntmps14
    go_upto_region 1 with fail
    obtain ⟨W, hW, hb, k1, k2, hs⟩ := two_new w (.cells (mcv m v) 28) (.cells zmc 28)
    rw [← hW]
    clear hW
    have HB := Lib.hid hb; clear hb
    have HZ := Lib.hid hs; clear hs
    go_wp2_with (first
      | (refine gate_ (.load 28 (.tmp 1)) rfl ?_; refine wpList_load_blk 28 (.tmp 1) rfl rfl w.heap.size rfl k1 hu rfl msgSize ?_)
      | (go_at_call 12; refine (rasks_c _ _ _).mono ?_; rintro e w' ⟨rfl, hb⟩; have g1 := cells_all (blk_below k1 hb); have k2' := blk_below k2 hb; have HB' := Lib.hid (below_step HB.out hb))
      | (refine gate_ (.store 28 (.tmp 2) (.tmp 16)) rfl ?_; refine wpList_store_blk 28 (.tmp 2) (.tmp 16) rfl rfl rfl (w.heap.size + 1) rfl k2' (cs := mcv { Msg.zero with kind := m.kind + 6, call := m.call, frm := m.dst, dst := m.frm } (.slice none 0 0)) rfl msgSize rfl (mcv_one rfl) ?_; intro w3 k3 hg3))
    refine bodyPost_ret (results_cell_row Try.results14 _ _ (w.heap.size + 1) _ _ (0, 0) _ rfl k3 hu rfl msgSize) rfl ⟨?_, ?_⟩
    · rw [h2.out]; rfl
    · exact HB'.out.grown hg3 HB'.out.size (fun k e => by have := Option.some.inj e; omega)
end

end Go.Proofs.Yteadkghffdiaoab
