/- Rows of pairs of the call's own; slices.Clone, keep.Own. -/
import Derived.Test.YteadkghffdiaoabKeepB
set_option linter.unusedVariables false
set_option linter.unusedSimpArgs false
set_option maxRecDepth 100000
namespace Go.Proofs.Yteadkghffdiaoab
open Go.RowKit Go.Proofs.YteadkghffdiaoabW.PrintWords

theorem itemInfo : (Try.prog.info? 25).map (fun i => (i.zero, i.size, i.bytes)) = some (some (.agg #[.string ⟨#[]⟩, .int .i64 0, .int .i64 0, .bool false]), 4, 40) := by kernel_rfl
def flatI (l : List Item) : List Value := (l.map fun x => (ic x).toList).flatten
theorem flatI_len (l : List Item) : (flatI l).length = l.length * 4 := by
  induction l with
  | nil => rfl
  | cons x l ih =>
    have e : flatI (x :: l) = (ic x).toList ++ flatI l := rfl
    rw [e, List.length_append, ih]
    show 4 + l.length * 4 = (l.length + 1) * 4
    omega
theorem flatI_append (a b : List Item) : flatI (a ++ b) = flatI a ++ flatI b := by simp [flatI]
/-- A row of pairs of the call's own. -/
abbrev OwnI (w : World) (base : Nat) (v : Value) (l : List Item) : Prop := kI.R 25 w base (fun _ => True) v l
theorem reps_flat {R : Item → List Value → Prop} (hR : ∀ x cs, R x cs → cs = (ic x).toList) : ∀ (l : List Item) (cs : List Value), Reps R 4 l cs → cs = flatI l
  | [], cs, h => List.eq_nil_of_length_eq_zero (by simpa using h.1)
  | x :: l, cs, h => by
    have h0 := hR _ _ (h.2 0 x rfl)
    have hl : cs.length = (l.length + 1) * 4 := h.1
    have h1 : Reps R 4 l (cs.drop 4) := by
      refine ⟨by rw [List.length_drop, hl]; omega, fun j p hj => ?_⟩
      have := h.2 (j + 1) p (by simpa using hj)
      rw [List.drop_drop]
      have e : 4 + j * 4 = (j + 1) * 4 := by omega
      rw [e]; exact this
    have e : flatI (x :: l) = (ic x).toList ++ flatI l := rfl
    rw [e, ← reps_flat hR l _ h1, ← h0]
    simp
theorem flat_reps {R : Item → List Value → Prop} (hR : ∀ x, R x (ic x).toList) : ∀ l : List Item, Reps R 4 l (flatI l)
  | [] => Reps.none _ _
  | x :: l => by
    have h := flat_reps hR l
    refine ⟨flatI_len _, fun j p hj => ?_⟩
    have e : flatI (x :: l) = (ic x).toList ++ flatI l := rfl
    rw [e]
    cases j with
    | zero =>
      obtain rfl : x = p := by simpa using hj
      have : (((ic x).toList ++ flatI l).drop (0 * 4)).take 4 = (ic x).toList := by simp
      rw [this]; exact hR x
    | succ j =>
      have h2 := h.2 j p (by simpa using hj)
      have e2 : (j + 1) * 4 = (ic x).toList.length + j * 4 := by show _ = 4 + j * 4; omega
      rw [e2, List.drop_length_add_append]
      exact h2
theorem OwnI.own {w : World} {base : Nat} {v : Value} {l : List Item} (h : OwnI w base v l) : w.ownsRow base 25 4 v l.length (flatI l) := by
  obtain ⟨_, inner, ho, hr⟩ := h
  have := reps_flat (fun x cs hM => kI_openM hM) l inner hr
  rw [← this]; exact ho
theorem OwnI.of {w : World} {base : Nat} {v : Value} {l : List Item} (h : w.ownsRow base 25 4 v l.length (flatI l)) : OwnI w base v l :=
  ⟨fun _ _ => trivial, flatI l, h, flat_reps (fun x => kI_mkM _ _ _ x) l⟩
theorem OwnI.reads {w : World} {base : Nat} {v : Value} {l : List Item} (h : OwnI w base v l) : ∃ A c, v = .slice A l.length c ∧ RI w A c l := by
  obtain ⟨A, c, e, hl, hc⟩ := Kd.R_reads h
  exact ⟨A, c, e, hc, hl⟩
theorem OwnI.below {w w1 : World} {base : Nat} {v : Value} {l : List Item} (h : OwnI w base v l) (hb : Below w.heap.size w w1) : OwnI w1 base v l := Kd.R_below h hb
theorem OwnI.lower {w : World} {base base' : Nat} {v : Value} {l : List Item} (h : OwnI w base v l) (hb : base' ≤ base) : OwnI w base' v l := Kd.R_lower h hb
theorem RI.none_nil {w : World} {c : Nat} {l : List Item} (h : RI w none c l) : l = [] := by
  rcases Nat.eq_zero_or_pos l.length with h0 | h0
  · exact List.eq_nil_of_length_eq_zero h0
  · obtain ⟨ad, e, _⟩ := h.get h0
    cases e

set_option maxHeartbeats 800000 in
theorem cloneI_c (l : List Item) (A : Option Addr) (c : Nat) (w : World) (hr : RI w A c l) (hl : l.length ≤ 1000000) : Calls Try.prog 73 #[.slice A l.length c] w fun e w' => ∃ v, e = .returned v ∧ OwnI w' w.heap.size v l ∧ Below w.heap.size w w' := by
  have e0 := fun W => Lib.run_eql_slice_nil (P := Try.prog) W 48 25 A l.length c 0 0 Try.underlying48
  have HR := Lib.hid hr; clear hr
  cases A with
  | none =>
    have HN := Lib.hid HR.out.none_nil
    go_enter Try.func73, Try.ntmps73
    go_wp2
    go_ret
    exact ⟨_, rfl, by rw [HN.out]; exact Kd.R_nil _ _ _ _ _, Below.refl _ _⟩
  | some ad =>
    go_enter Try.func73, Try.ntmps73
    go_wp2_with (first
      | ((with_reducible refine gate_dst (N := 5) rfl ?_); go_must (refine Kd.R_lit kI _ 25 rfl (N := 5) rfl (xs := ([] : List Item)) (inner := []) (ok := fun _ => True) (okp := fun _ => True) (by go_simp) (Reps.none _ _) (fun _ hk => hk) trivial (Below.refl _ _) (Nat.le_refl _) (by simp) ?_); intro v1 w1 hv1 hb1 hg1 hat1; have HV := Lib.hid hv1; have HB := Lib.hid hb1; clear hv1 hb1 hg1 hat1)
      | (at_builtin; go_must (refine Kd.R_append_rows kI (Rr := kI.K w1) (w0 := w) w.heap.size rfl (.tmp 5) (.tmp 6) 48 25 (.agg #[.string ⟨#[]⟩, .int .i64 0, .int .i64 0, .bool false]) 40 rfl Try.underlying48 itemInfo rfl (of_decide_eq_true rfl) (of_decide_eq_true rfl) v1 [] l (some ad) l.length c (fun _ => True) (fun k => some k ≠ v1.ownBlock) rfl rfl HV.out (HR.out.below HB.out).r (fun x cs hK => by rw [kI_open hK]; exact kI_mkM _ _ _ x) (fun k hk => ⟨trivial, hk⟩) (fun _ _ => trivial) HB.out HB.out.size (by simp; omega) ?_); intro v2 w2 hv2 hb2 hg2 hat2; have HV2 := Lib.hid hv2; have HB2 := Lib.hid hb2; clear hv2 hb2 hg2 hat2))
    go_ret
    exact ⟨_, rfl, HV2.out, HB2.out⟩
set_option maxHeartbeats 400000 in
theorem keepOwn_c (l : List Item) (A : Option Addr) (c : Nat) (w : World) (hr : RI w A c l) (hl : l.length ≤ 1000000) : Calls Try.prog 54 #[.slice A l.length c] w fun e w' => ∃ v, e = .returned v ∧ OwnI w' w.heap.size v l ∧ Below w.heap.size w w' := by
  go_enter Try.func54, Try.ntmps54
  go_wp2_with (go_at_call 73; refine (cloneI_c l A c _ hr hl).mono ?_; rintro e w' ⟨v, rfl, hv, hb⟩)
  go_ret
  exact ⟨_, rfl, hv, hb⟩

end Go.Proofs.Yteadkghffdiaoab
