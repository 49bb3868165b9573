/- The reference's own small functions over pairs: Cmp, Newer, Items, Great. -/
import Derived.Test.YteadkghffdiaoabKeepG
set_option linter.unusedVariables false
set_option linter.unusedSimpArgs false
set_option maxRecDepth 100000
namespace Go.Proofs.Yteadkghffdiaoab
open Go.RowKit Go.Proofs.YteadkghffdiaoabW.PrintWords

theorem icmp_gone (a b : Item) : icmpS (goneS a) (goneS b) = if (a.gone && !b.gone) = true then 1 else if (b.gone && !a.gone) = true then -1 else 0 := by
  unfold icmpS goneS
  cases a.gone <;> cases b.gone <;> rfl
theorem itemCmp_ifs (a b : Item) : itemCmpS a b = if b.version < a.version then 1 else if a.version < b.version then -1 else if b.value < a.value then 1 else if a.value < b.value then -1 else icmpS (goneS a) (goneS b) := by
  unfold itemCmpS
  rcases Int.lt_trichotomy a.version b.version with h | h | h
  · rw [if_neg (by omega), if_pos h]
    have : icmpS a.version b.version = -1 := by unfold icmpS; rw [if_pos h]
    rw [this]; rfl
  · rw [if_neg (by omega), if_neg (by omega)]
    have : icmpS a.version b.version = 0 := by unfold icmpS; rw [if_neg (by omega), if_neg (by omega)]
    rw [this]
    rcases Int.lt_trichotomy a.value b.value with k | k | k
    · rw [if_neg (by omega), if_pos k]
      have : icmpS a.value b.value = -1 := by unfold icmpS; rw [if_pos k]
      rw [this]; rfl
    · rw [if_neg (by omega), if_neg (by omega)]
      have : icmpS a.value b.value = 0 := by unfold icmpS; rw [if_neg (by omega), if_neg (by omega)]
      rw [this, icmp_gone]
      unfold orS
      split
      · rfl
      · split <;> rfl
    · rw [if_pos k]
      have : icmpS a.value b.value = 1 := by unfold icmpS; rw [if_neg (by omega), if_pos k]
      rw [this]; rfl
  · rw [if_pos h]
    have : icmpS a.version b.version = 1 := by unfold icmpS; rw [if_neg (by omega), if_pos h]
    rw [this]; rfl

set_option maxHeartbeats 1000000 in
theorem rcmp_c (a b : Item) (w : World) : Calls Try.prog 57 #[.agg (ic a), .agg (ic b)] w fun e w' => e = .returned (.int .i64 (itemCmpS a b)) ∧ Below w.heap.size w w' := by
  have hu := Try.underlying25
  have H0 := Lib.hid (itemCmp_ifs a b)
  have H1 := Lib.hid (icmp_gone a b)
  cases hga : a.gone <;> cases hgb : b.gone
  all_goals
    have G1 := Lib.hid hga
    have G2 := Lib.hid hgb
    go_enter Try.func57, Try.ntmps57
    go_upto_region 1 with fail
    obtain ⟨W, hW, hb, k2, k3, -⟩ := two_new w (.cells (ic a) 25) (.cells (ic b) 25)
    rw [← hW]; clear hW
    simp only [ic, hga, hgb] at k2 k3
    have HB := Lib.hid hb; clear hb
    have q2 := cells_all k2
    have q3 := cells_all k3
    clear k2 k3
    go_wp2
  all_goals
    go_ret
    exact ⟨ret_i (by
      rw [H0.out, H1.out, G1.out, G2.out]
      first
        | rfl
        | rw [if_pos (by omega)]
        | rw [if_neg (by omega), if_pos (by omega)]
        | rw [if_neg (by omega), if_neg (by omega), if_pos (by omega)]
        | rw [if_neg (by omega), if_neg (by omega), if_neg (by omega), if_pos (by omega)]
        | (rw [if_neg (by omega), if_neg (by omega), if_neg (by omega), if_neg (by omega)]; rfl)), HB.out⟩
set_option maxHeartbeats 1000000 in
theorem rnewer_c (a b : Item) (w : World) : Calls Try.prog 35 #[.agg (ic a), .agg (ic b)] w fun e w' => e = .returned (.bool (newerS a b)) ∧ Below w.heap.size w w' := by
  have hu := Try.underlying25
  go_enter Try.func35, Try.ntmps35
  go_upto_region 1 with fail
  obtain ⟨W, hW, hb, k2, k3, -⟩ := two_new w (.cells (ic a) 25) (.cells (ic b) 25)
  rw [← hW]; clear hW
  have HB := Lib.hid hb; clear hb
  go_wp2_with (first
    | (refine gate_ (.load 25 (.tmp 2)) rfl ?_; refine wpList_load_blk 25 (.tmp 2) rfl rfl w.heap.size rfl k2 hu rfl itemSize ?_)
    | (refine gate_ (.load 25 (.tmp 3)) rfl ?_; refine wpList_load_blk 25 (.tmp 3) rfl rfl (w.heap.size + 1) rfl k3 hu rfl itemSize ?_)
    | (go_at_call 57; refine (rcmp_c _ _ _).mono ?_; rintro e w' ⟨rfl, hb2⟩; have HB := Lib.hid (below_step HB.out hb2); clear hb2))
  go_ret
  exact ⟨ret_b rfl, HB.out⟩

theorem run_neq_item (w : World) (x y : Item) : (binOp .neq 25 (.agg (ic x)) (.agg (ic y))).run Try.prog w = .ok (.bool (!itemEqB x y)) w := by
  have h : (x.key.toList == y.key.toList && (x.value == y.value && (x.version == y.version && (x.gone == y.gone)))) = itemEqB x y := by
    rw [string_eq, Bool.eq_iff_iff]
    simp [itemEqB, item_eq_iff]
  simp only [binOp]
  simp [Op.equal, Op.maxDepth, eqItem 9998, h]
theorem take_eq_succI {a b : List Item} {k : Nat} (ha : k < a.length) (hb : k < b.length) (h : a.take k = b.take k) (e : a[k] = b[k]) : a.take (k + 1) = b.take (k + 1) := by
  rw [List.take_succ_eq_append_getElem ha, List.take_succ_eq_append_getElem hb, h, e]

set_option maxHeartbeats 1000000 in
theorem items_c (a b : List Item) (A B : Option Addr) (c d : Nat) (w : World) (ha : RI w A c a) (hb : RI w B d b) :
    Calls Try.prog 31 #[.slice A a.length c, .slice B b.length d] w fun e w' => e = .returned (.bool (decide (a = b))) ∧ Below w.heap.size w w' := by
  have hm := ha.max
  have hm2 := hb.max
  have hu := Try.underlying25
  have HA := Lib.hid ha; have HB := Lib.hid hb; clear ha hb
  by_cases hl : a.length = b.length
  · have hlb : ((a.length : Int) != (b.length : Int)) = false := by simp [hl]
    have HL := Lib.hid hl; clear hl
    go_enter Try.func31, Try.ntmps31
    go_wp2
    go_loopw [5] (fun i wr => ∃ k n : Nat, k ≤ a.length ∧ i = .int .i64 k ∧ Hid (a.take k = b.take k) ∧ wr = w.drewN n) (fun i _ => a.length - (intOf i).toNat)
    case atStart => exact ⟨0, 0, by omega, rfl, Lib.hid (by simp), rfl⟩
    case round =>
      obtain ⟨k, n, hk, rfl, hn, rfl⟩ := hrel
      by_cases hlt : k < a.length
      · have hlt2 : k < b.length := by have := HL.out; omega
        obtain ⟨ad, rfl⟩ := HA.out.some hlt
        obtain ⟨bd, rfl⟩ := HB.out.some hlt2
        obtain ⟨f0, f1, f2, f3⟩ := ri_cells4 HA.out hlt
        obtain ⟨g0, g1, g2, g3⟩ := ri_cells4 HB.out hlt2
        have i0 : (0 : Int) ≤ (k : Int) := by omega
        have i1 : (k : Int) < (a.length : Int) := by omega
        have i2 : (k : Int) < (b.length : Int) := by omega
        have qn := fun W => run_neq_item W a[k] b[k]
        by_cases he : a[k] = b[k]
        · have hq : itemEqB a[k] b[k] = true := by simpa [itemEqB] using he
          rw [hq] at qn
          have HE := Lib.hid he; clear he hq
          go_wp2
          go_quiet (fail)
          go_wp2
          go_roundw
          case rel => exact ⟨k + 1, _, by omega, by go_num, Lib.hid (take_eq_succI hlt hlt2 hn.out HE.out), rfl⟩
          case measure => simp [intOf]; omega
        · have hq : itemEqB a[k] b[k] = false := by simpa [itemEqB] using he
          rw [hq] at qn
          have HE : Hid (a ≠ b) := Lib.hid (fun e => he (by subst e; rfl)); clear he hq
          go_wp2
          go_quiet (fail)
          go_wp2
          go_ret
          exact ⟨ret_b (decide_eq_false HE.out).symm, below_drewN (below_drewN (Below.refl _ _) _) _⟩
      · have HE : Hid (a = b) := Lib.hid (by
          have h1 := hn.out
          have := HL.out
          rwa [List.take_of_length_le (by omega), List.take_of_length_le (by omega)] at h1)
        go_wp2
        go_ret
        exact ⟨ret_b (decide_eq_true HE.out).symm, below_drewN (Below.refl _ _) _⟩
  · have hlb : ((a.length : Int) != (b.length : Int)) = true := by simp; omega
    have HE : Hid (a ≠ b) := Lib.hid (fun e => hl (by rw [e]))
    go_enter Try.func31, Try.ntmps31
    go_wp2
    go_ret
    exact ⟨ret_b (decide_eq_false HE.out).symm, Below.refl _ _⟩

def greatI (l : List Item) : Bool := l.any (fun x => decide (100 < x.key.size)) || decide (40 < l.length)
theorem greatI_no {l : List Item} (h : greatI l = false) : (∀ x, x ∈ l → x.key.size ≤ 100) ∧ l.length ≤ 40 := by
  unfold greatI at h
  simp only [Bool.or_eq_false_iff, List.any_eq_false, decide_eq_true_eq, decide_eq_false_iff_not] at h
  exact ⟨fun x hx => by have := h.1 x hx; omega, by omega⟩
theorem greatI_key {l : List Item} {k : Nat} (hk : k < l.length) (h : 100 < l[k].key.size) : greatI l = true := by
  unfold greatI
  rw [Bool.or_eq_true]
  exact .inl (List.any_eq_true.2 ⟨l[k], List.getElem_mem _, by simpa using h⟩)
theorem greatI_end {l : List Item} {k : Nat} (hk : k ≤ l.length) (h : ∀ x, x ∈ l.take k → x.key.size ≤ 100) (he : k = l.length ∨ 41 ≤ k) : greatI l = decide (40 < (l.length : Int)) := by
  unfold greatI
  rcases Nat.lt_or_ge 40 l.length with h1 | h1
  · rw [decide_eq_true h1, Bool.or_true, decide_eq_true (by omega)]
  · have : k = l.length := by omega
    subst this
    have h2 : l.any (fun x => decide (100 < x.key.size)) = false := by
      rw [List.any_eq_false]
      intro x hx
      have := h x (by simpa using hx)
      simp; omega
    rw [h2, decide_eq_false (by omega), decide_eq_false (by omega)]; rfl
theorem mem_take_succI {l : List Item} {k : Nat} (hk : k < l.length) {x : Item} (h : x ∈ l.take (k + 1)) : x ∈ l.take k ∨ x = l[k] := by
  rw [List.take_succ_eq_append_getElem hk, List.mem_append, List.mem_singleton] at h; exact h

set_option maxHeartbeats 1000000 in
theorem greatI_c (l : List Item) (A : Option Addr) (c : Nat) (w : World) (hr : RI w A c l) : Calls Try.prog 23 #[.slice A l.length c] w fun e w' => e = .returned (.bool (greatI l)) ∧ w = w' := by
  have hm := hr.max
  have hu := Try.underlying25
  have HR := Lib.hid hr; clear hr
  go_enter Try.func23, Try.ntmps23
  go_wp2
  go_loop [3] (fun i => ∃ k : Nat, k ≤ l.length ∧ k ≤ 41 ∧ i = .int .i64 k ∧ Hid (∀ x, x ∈ l.take k → x.key.size ≤ 100)) (fun i => l.length - (intOf i).toNat)
  case atStart => exact ⟨0, by omega, by omega, rfl, Lib.hid (by simp)⟩
  case round =>
    obtain ⟨k, hk, hk2, rfl, hn⟩ := hrel
    by_cases hlt : k < l.length
    · have i1 : (k : Int) < (l.length : Int) := by omega
      by_cases h41 : k ≤ 40
      · have i2 : (k : Int) ≤ 40 := by omega
        obtain ⟨ad, rfl⟩ := HR.out.some hlt
        obtain ⟨f0, f1, f2, f3⟩ := ri_cells4 HR.out hlt
        have i0 : (0 : Int) ≤ (k : Int) := by omega
        by_cases hb : 100 < l[k].key.size
        · have hbb : decide (100 < (l[k].key.size : Int)) = true := by simpa using (by omega : (100 : Int) < (l[k].key.size : Int))
          have HE := Lib.hid (greatI_key hlt hb); clear hb
          go_wp2
          go_ret
          exact ⟨ret_b HE.out.symm, rfl⟩
        · have hbb : decide (100 < (l[k].key.size : Int)) = false := by simpa using (by omega : ¬ (100 : Int) < (l[k].key.size : Int))
          have HE := Lib.hid hb; clear hb
          go_wp2
          go_round
          case rel => exact ⟨k + 1, by omega, by omega, by go_num, Lib.hid (fun x hx => by
            rcases mem_take_succI hlt hx with h | h
            · exact hn.out x h
            · rw [h]; have := HE.out; omega)⟩
          case measure => simp [intOf]; omega
      · have i2 : ¬ (k : Int) ≤ 40 := by omega
        have HE := Lib.hid (greatI_end hk hn.out (.inr (by omega)))
        go_wp2
        go_ret
        exact ⟨ret_b HE.out.symm, rfl⟩
    · have i1 : ¬ (k : Int) < (l.length : Int) := by omega
      have HE := Lib.hid (greatI_end hk hn.out (.inl (by omega)))
      go_wp2
      go_ret
      exact ⟨ret_b HE.out.symm, rfl⟩

end Go.Proofs.Yteadkghffdiaoab
