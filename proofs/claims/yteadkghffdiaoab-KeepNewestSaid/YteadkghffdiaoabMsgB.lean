/- msg.Call and its reference; Go's own Index, Contains, Equal, Clone over lists of whole numbers: what each comes to. -/
import Derived.Test.YteadkghffdiaoabMsgA
set_option linter.unusedVariables false
set_option linter.unusedSimpArgs false
set_option maxRecDepth 100000
namespace Go.Proofs.Yteadkghffdiaoab
open Go.RowKit Go.Proofs.YteadkghffdiaoabW.PrintWords

theorem callS_no {id n : Int} (h : ¬ (placeS id = true ∧ 1 ≤ n ∧ n ≤ 1048576)) : callS id n = (0, 2) := by unfold callS; rw [if_neg h]
theorem callS_yes {id n : Int} (h : placeS id = true ∧ 1 ≤ n ∧ n ≤ 1048576) : callS id n = (id * 1048576 + n, 0) := by unfold callS; rw [if_pos h]
theorem wrap_call {id n : Int} (h : placeS id = true) (h1 : 1 ≤ n) (h2 : n ≤ 1048576) : wrap64 (wrap64 (id * 1048576) + n) = id * 1048576 + n := by
  simp [placeS] at h; unfold wrap64; omega
theorem call_end {id n : Int} (h : placeS id = true) (h1 : 1 ≤ n) (h2 : n ≤ 1048576) : Ending.returned (.tuple #[.int .i64 (wrap64 (wrap64 (id * 1048576) + n)), .int .i64 0]) = .returned (.tuple #[.int .i64 (callS id n).1, .int .i64 (callS id n).2]) := by
  rw [callS_yes ⟨h, h1, h2⟩, wrap_call h h1 h2]
theorem placeS_iff {n : Int} : placeS n = true ↔ 0 ≤ n ∧ n < 65536 := by simp [placeS]

theorem RL.get {w : World} {A : Option Addr} {c : Nat} {l : List Int} (h : RL w A c l) {k : Nat} (hk : k < l.length) : ∃ ad, A = some ad ∧ w.cell? (ad.add k) = some (.int .i64 l[k]) := by
  obtain ⟨ad, e, hc⟩ := (Kd.reads_of_C (d := (0 : Int)) h.r).2.2 (by omega)
  exact ⟨ad, e, by have := hc k hk; rwa [List.getD_eq_getElem?_getD, List.getElem?_eq_getElem hk, Option.getD_some] at this⟩
theorem RL.max {w : World} {A : Option Addr} {c : Nat} {l : List Int} (h : RL w A c l) : l.length ≤ 9223372036854775807 := (Kd.reads_of_C (d := (0 : Int)) h.r).2.1
theorem RL.of {w w1 : World} {A : Option Addr} {c : Nat} {l : List Int} (h : RL w A c l) {n : Nat} (_ : w1 = w.drewN n) : RL (w.drewN n) A c l := ⟨h.r, h.le⟩

def IndexP (l : List Int) (v : Int) (w : World) (e : Ending) (w' : World) : Prop := ∃ r : Int, e = .returned (.int .i64 r) ∧ decide (0 ≤ r) = decide (v ∈ l) ∧ w = w'
theorem mem_take_succ {l : List Int} {k : Nat} (hk : k < l.length) {v : Int} : v ∈ l.take (k + 1) ↔ v ∈ l.take k ∨ v = l[k] := by
  rw [List.take_succ_eq_append_getElem hk, List.mem_append, List.mem_singleton]

set_option maxHeartbeats 400000 in
theorem index_c (l : List Int) (v : Int) (A : Option Addr) (c : Nat) (w : World) (hr : RL w A c l) : Calls Try.prog 98 #[.slice A l.length c, .int .i64 v] w (IndexP l v w) := by
  have hm := hr.max
  have HR := Lib.hid hr; clear hr
  go_enter Try.func98, Try.ntmps98
  go_wp2
  go_loop [8] (fun i => ∃ k : Nat, k ≤ l.length ∧ i = .int .i64 k ∧ Hid (v ∉ l.take k)) (fun i => l.length - (intOf i).toNat)
  case atStart => exact ⟨0, by omega, rfl, Lib.hid (by simp)⟩
  case round =>
    obtain ⟨k, hk, rfl, hn⟩ := hrel
    by_cases hlt : k < l.length
    · obtain ⟨ad, rfl, hc⟩ := HR.out.get hlt
      by_cases he : v = l[k]
      · have b : (v == l[k]) = true := by simpa using he
        have HE := Lib.hid he; clear he
        go_wp2
        go_ret
        exact ⟨k, rfl, by
          have : v ∈ l := by rw [HE.out]; simp
          simp [this], rfl⟩
      · have b : (v == l[k]) = false := by simpa using he
        have HE := Lib.hid he; clear he
        go_wp2
        go_round
        case rel => exact ⟨k + 1, by omega, by go_num, Lib.hid (by rw [mem_take_succ hlt]; exact fun h => h.elim hn.out HE.out)⟩
        case measure => simp [intOf]; omega
    · go_wp2
      go_ret
      exact ⟨-1, rfl, by
        have := hn.out
        rw [List.take_of_length_le (by omega)] at this
        simp [this], rfl⟩

set_option maxHeartbeats 400000 in
theorem contains_c (l : List Int) (v : Int) (A : Option Addr) (c : Nat) (w : World) (hr : RL w A c l) : Calls Try.prog 95 #[.slice A l.length c, .int .i64 v] w fun e w' => e = .returned (.bool (decide (v ∈ l))) ∧ w = w' := by
  have HR := Lib.hid hr; clear hr
  go_enter Try.func95, Try.ntmps95
  go_wp2_with (go_at_call 98; refine (index_c _ _ _ _ _ HR.out).mono ?_; rintro e w' ⟨r, rfl, hx, rfl⟩; have HX := Lib.hid hx; clear hx)
  go_ret
  exact ⟨ret_b HX.out, rfl⟩

theorem take_eq_succ {l m : List Int} {k : Nat} (h1 : k < l.length) (h2 : k < m.length) (h : l.take k = m.take k) (he : l[k] = m[k]) : l.take (k + 1) = m.take (k + 1) := by
  rw [List.take_succ_eq_append_getElem h1, List.take_succ_eq_append_getElem h2, h, he]
theorem below_drewN {B : Nat} {w W : World} (h : Below B w W) (n : Nat) : Below B w (W.drewN n) := ⟨h.os, h.tape, h.output, h.size, h.block⟩

set_option maxHeartbeats 800000 in
theorem equal_c (l m : List Int) (A B : Option Addr) (c d : Nat) (w : World) (hr : RL w A c l) (hs : RL w B d m) : Calls Try.prog 78 #[.slice A l.length c, .slice B m.length d] w fun e w' => e = .returned (.bool (decide (l = m))) ∧ Below w.heap.size w w' := by
  have hm := hr.max
  have hm2 := hs.max
  have HR := Lib.hid hr; clear hr
  have HS := Lib.hid hs; clear hs
  by_cases hl : l.length = m.length
  · have b1 : (l.length == m.length) = true := by simpa using hl
    have b2 : ((l.length : Int) != (m.length : Int)) = false := by simp; omega
    have HL := Lib.hid hl; clear hl
    go_enter Try.func78, Try.ntmps78
    go_wp2
    go_loopw [13] (fun i wr => ∃ k n : Nat, k ≤ l.length ∧ i = .int .i64 k ∧ Hid (l.take k = m.take k) ∧ wr = w.drewN n) (fun i _ => l.length - (intOf i).toNat)
    case atStart => exact ⟨0, 0, by omega, rfl, Lib.hid (by simp), rfl⟩
    case round =>
      obtain ⟨k, n, hk, rfl, hn, rfl⟩ := hrel
      by_cases hlt : k < l.length
      · have hlt2 : k < m.length := by have := HL.out; omega
        obtain ⟨ad, rfl, hc⟩ := HR.out.get hlt
        obtain ⟨ad2, rfl, hc2⟩ := HS.out.get hlt2
        have i0 : (0 : Int) ≤ (k : Int) := by omega
        have i1 : (k : Int) < (l.length : Int) := by omega
        have i2 : (k : Int) < (m.length : Int) := by omega
        by_cases he : l[k] = m[k]
        · have b : (l[k] != m[k]) = false := by simpa using he
          have HE := Lib.hid he; clear he
          go_wp2
          go_quiet (fail)
          go_wp2
          go_roundw
          case rel => exact ⟨k + 1, _, by omega, by go_num, Lib.hid (take_eq_succ hlt hlt2 hn.out HE.out), rfl⟩
          case measure => simp [intOf]; omega
        · have b : (l[k] != m[k]) = true := by simpa using he
          have HE := Lib.hid he; clear he
          go_wp2
          go_quiet (fail)
          go_wp2
          go_ret
          exact ⟨ret_b (by symm; rw [decide_eq_false_iff_not]; intro e; exact HE.out (by simp [e])), below_drewN (below_drewN (Below.refl _ _) _) _⟩
      · go_wp2
        go_ret
        exact ⟨ret_b (by
          have := hn.out
          rw [List.take_of_length_le (by omega), List.take_of_length_le (by have := HL.out; omega)] at this
          simp [this]), below_drewN (Below.refl _ _) _⟩
  · have b1 : (l.length == m.length) = false := by simpa using hl
    have b2 : ((l.length : Int) != (m.length : Int)) = true := by simp; omega
    have HL := Lib.hid hl; clear hl
    go_enter Try.func78, Try.ntmps78
    go_wp2
    go_ret
    exact ⟨ret_b (by symm; rw [decide_eq_false_iff_not]; intro e; exact HL.out (by rw [e])), Below.refl _ _⟩

theorem intInfo : (Try.prog.info? 3).map (fun i => (i.zero, i.size, i.bytes)) = some (some (.int .i64 0), 1, 8) := by kernel_rfl

/-- A slice of the call's own: a new row that holds l. -/
abbrev OwnInts (w : World) (base : Nat) (v : Value) (l : List Int) : Prop := (Kd.int .i64).R 3 w base (fun _ => True) v l
def CloneP (l : List Int) (w : World) (e : Ending) (w' : World) : Prop := ∃ v, e = .returned v ∧ OwnInts w' w.heap.size v l ∧ Below w.heap.size w w'

theorem RL.nil {w : World} {c : Nat} {l : List Int} (h : RL w none c l) : l = [] := by
  rcases Nat.eq_zero_or_pos l.length with h0 | h0
  · exact List.eq_nil_of_length_eq_zero h0
  · obtain ⟨ad, e, _⟩ := h.get h0
    cases e

set_option maxHeartbeats 800000 in
theorem clone_c (l : List Int) (A : Option Addr) (c : Nat) (w : World) (hr : RL w A c l) (hl : l.length ≤ 17592186044416) : Calls Try.prog 69 #[.slice A l.length c] w (CloneP l w) := by
  have e0 := fun W => Lib.run_eql_slice_nil (P := Try.prog) W 23 3 A l.length c 0 0 Try.underlying23
  have HR := Lib.hid hr; clear hr
  cases A with
  | none =>
    have HN := Lib.hid HR.out.nil
    go_enter Try.func69, Try.ntmps69
    go_wp2
    go_ret
    exact ⟨_, rfl, by rw [HN.out]; exact Kd.R_nil _ _ _ _ _, Below.refl _ _⟩
  | some ad =>
    go_enter Try.func69, Try.ntmps69
    go_wp2_with (first
      | ((with_reducible refine gate_dst (N := 5) rfl ?_); go_must (refine Kd.R_lit (Kd.int .i64) _ 3 rfl (N := 5) rfl (xs := ([] : List Int)) (inner := []) (ok := fun _ => True) (okp := fun _ => True) (by go_simp) (Reps.none _ _) (fun _ hk => hk) trivial (Below.refl _ _) (Nat.le_refl _) (by simp) ?_); intro v1 w1 hv1 hb1 hg1 hat1; have HV := Lib.hid hv1; have HB := Lib.hid hb1; clear hv1 hb1 hg1 hat1)
      | (at_builtin; go_must (refine Kd.R_append_row (Value.int .i64) (0 : Int) (h1 := fun _ => rfl) (w0 := w) w.heap.size rfl (.tmp 5) (.tmp 6) 23 3 (.int .i64 0) 8 rfl Try.underlying23 intInfo rfl (by omega) v1 [] l (some ad) l.length c (fun _ => True) rfl rfl (fun _ _ => trivial) HV.out (HR.out.below HB.out).r HB.out HB.out.size (by simp; omega) ?_); intro v2 w2 hv2 hb2 hg2 hat2; have HV2 := Lib.hid hv2; have HB2 := Lib.hid hb2; clear hv2 hb2 hg2 hat2))
    go_ret
    exact ⟨_, rfl, HV2.out, HB2.out⟩

end Go.Proofs.Yteadkghffdiaoab
