/- The reference's Right over keeps. -/
import Derived.Test.YteadkghffdiaoabKeepH
set_option linter.unusedVariables false
set_option linter.unusedSimpArgs false
set_option maxRecDepth 100000
namespace Go.Proofs.Yteadkghffdiaoab
open Go.RowKit Go.Proofs.YteadkghffdiaoabW.PrintWords

theorem leS_lt (a b : ByteArray) : (Op.bytesLess a.toList b.toList || a.toList == b.toList) = !ltS b a := by
  have := gtS_lt a b
  unfold gtS at this
  rw [← this, Bool.not_not]
theorem good_end {l : List Item} (h : ∀ j, j < l.length → (pairAt l j).2 = true) : rightK l = decide ((l.length : Int) ≤ 24) :=
  rightK_yes (fun x hx => by
    obtain ⟨j, hj, rfl⟩ := List.mem_map.1 hx
    exact h j (List.mem_range.1 hj))
theorem good_bad {l : List Item} {k : Nat} (hk : k < l.length) (h : (pairAt l k).2 = false) : rightK l = false :=
  rightK_no (k := k + 1) (by omega) (x := pairAt l k) (by rw [pairsTo_succ]; simp) h
theorem pairAt_zero {l : List Item} {k : Nat} (hk : k < l.length) (h0 : k = 0) (hp : pairS l[k] = true) : (pairAt l k).2 = true := by
  unfold pairAt; rw [pairAt_get hk, hp, decide_eq_true h0]; rfl
theorem pairAt_no {l : List Item} {k : Nat} (hk : k < l.length) (hp : pairS l[k] = false) : (pairAt l k).2 = false := by
  unfold pairAt; rw [pairAt_get hk, hp]; rfl
theorem pairAt_up {l : List Item} {k j : Nat} (hk : k < l.length) (hj : j + 1 = k) (hp : pairS l[k] = true) : (pairAt l k).2 = ltS (l[j]'(by omega)).key l[k].key := by
  have e : k - 1 = j := by omega
  unfold pairAt
  rw [pairAt_get hk, hp, decide_eq_false (by omega), e, pairAt_get (by omega)]; rfl

theorem rpair_w (x : Item) (w : World) {b : Bool} (hb : pairS x = b) : Calls Try.prog 25 #[.agg (ic x)] w fun e w' => e = .returned (.bool b) ∧ Below w.heap.size w w' := by subst hb; exact rpair_c x w

set_option maxHeartbeats 2000000 in
theorem rrightK_c (l : List Item) (A : Option Addr) (c : Nat) (w : World) (hr : RI w A c l) : Calls Try.prog 33 #[.slice A l.length c] w fun e w' => e = .returned (.bool (rightK l)) ∧ Below w.heap.size w w' := by
  have hm := hr.max
  have hu := Try.underlying25
  have HR := Lib.hid hr; clear hr
  go_enter Try.func33, Try.ntmps33
  go_wp2
  go_loopw [3] (fun i wr => ∃ k : Nat, k ≤ l.length ∧ i = .int .i64 k ∧ Hid (∀ j, j < k → (pairAt l j).2 = true) ∧ Hid (Below w.heap.size w wr)) (fun i _ => l.length - (intOf i).toNat)
  case atStart => exact ⟨0, by omega, rfl, Lib.hid (fun j hj => absurd hj (by omega)), Lib.hid (Below.refl _ _)⟩
  case round =>
    obtain ⟨k, hk, rfl, hn, HB⟩ := hrel
    by_cases hlt : k < l.length
    · obtain ⟨ad, rfl⟩ := HR.out.some hlt
      have i0 : (0 : Int) ≤ (k : Int) := by omega
      have i1 : (k : Int) < (l.length : Int) := by omega
      have sk : Below w.heap.size w wr.drew := below_drewN HB.out 1
      have b4 : ∀ W1, Below w.heap.size w W1 → _ := fun W1 h => (HR.out.below h).at4 hlt
      have e2 : ∀ W1, Below w.heap.size w W1 → W1.cell? (ad.add (k * 4)) = some (.string l[k].key) := fun W1 h => (ri_cells4 (HR.out.below h) hlt).1
      go_upto_region 4 with fail
      cases hp : pairS l[k] with
      | false =>
        have HE := Lib.hid (good_bad hlt (pairAt_no hlt hp))
        try simp only [List.append_eq, List.cons_append, List.nil_append]
        refine region_ord (Below w.heap.size w) [(0, false), (1, false), (2, false), (3, false), (4, true), (5, false), (6, false), (7, false), (8, false), (9, false), (10, false), (11, false), (12, false), (13, false), (14, false), (15, false), (16, false), (17, false), (18, false), (19, false), (20, false), (21, false), (22, false), (23, false)] (by kernel_rfl) (by kernel_rfl) rfl (by kernel_rfl) sk ?_
        iterate 24 ((first | (refine ord_skip rfl rfl ?_; (try simp only [Act.put, List.setIfInBounds_toArray, List.set_cons_zero, List.set_cons_succ])) | ((first | refine ord_load_addr 25 (.tmp 12) rfl rfl rfl (ad.add (k * 4)) rfl (cs := ic l[k]) b4 hu rfl itemSize ?_ | (with_reducible refine ord_callB 25 rfl rfl rfl (rpair_w l[k] _ hp) (fun w' hb => below_step sk hb) ?_ ?_; (· (go_simp; done)); intro wn sk)); (try simp only [Act.put, List.setIfInBounds_toArray, List.set_cons_zero, List.set_cons_succ])) | (refine ord_val (v := ?_) rfl rfl (fun W1 hW1 => ?_) ?_; rotate_left; (· (go_simp; try with_reducible rfl)); (try simp only [Act.put, List.setIfInBounds_toArray, List.set_cons_zero, List.set_cons_succ]))))
        refine ord_nil ?_
        clear b4 e2
        go_wp2
        go_ret
        exact ⟨ret_b HE.out.symm, sk⟩
      | true =>
        by_cases hk0 : k = 0
        · have HE := Lib.hid (pairAt_zero hlt hk0 hp)
          have hkb : decide (0 < (k : Int)) = false := by simp [hk0]
          have hkb2 : decide (0 < k) = false := by simp [hk0]
          clear hk0
          try simp only [List.append_eq, List.cons_append, List.nil_append]
          refine region_ord (Below w.heap.size w) [(0, false), (1, false), (2, false), (3, false), (4, true), (5, false), (6, false), (7, false), (8, false), (9, false), (10, false), (11, false), (12, false), (13, false), (14, false), (15, false), (16, false), (17, false), (18, false), (19, false), (20, false), (21, false), (22, false), (23, false)] (by kernel_rfl) (by kernel_rfl) rfl (by kernel_rfl) sk ?_
          iterate 24 ((first | (refine ord_skip rfl rfl ?_; (try simp only [Act.put, List.setIfInBounds_toArray, List.set_cons_zero, List.set_cons_succ])) | ((first | refine ord_load_addr 25 (.tmp 12) rfl rfl rfl (ad.add (k * 4)) rfl (cs := ic l[k]) b4 hu rfl itemSize ?_ | (with_reducible refine ord_callB 25 rfl rfl rfl (rpair_w l[k] _ hp) (fun w' hb => below_step sk hb) ?_ ?_; (· (go_simp; done)); intro wn sk)); (try simp only [Act.put, List.setIfInBounds_toArray, List.set_cons_zero, List.set_cons_succ])) | (refine ord_val (v := ?_) rfl rfl (fun W1 hW1 => ?_) ?_; rotate_left; (· (go_simp; try with_reducible rfl)); (try simp only [Act.put, List.setIfInBounds_toArray, List.set_cons_zero, List.set_cons_succ]))))
          refine ord_nil ?_
          clear b4 e2
          go_wp2
          go_roundw
          case rel => exact ⟨k + 1, by omega, by go_num, Lib.hid (fun j hj => by
            rcases Nat.lt_or_ge j k with h | h
            · exact hn.out j h
            · obtain rfl : j = k := by omega
              exact HE.out), Lib.hid sk⟩
          case measure => simp [intOf]; omega
        · obtain ⟨j, hj⟩ : ∃ j, j + 1 = k := ⟨k - 1, by omega⟩
          have ej : (k : Int) - 1 = (j : Int) := by omega
          have hjl : j < l.length := by omega
          have j0 : (0 : Int) ≤ (j : Int) := by omega
          have j1 : (j : Int) < (l.length : Int) := by omega
          have hkb : decide (0 < (k : Int)) = true := by simp; omega
          have hkb2 : decide (0 < k) = true := by simp; omega
          have ewj : IntKind.i64.wrap (j : Int) = (j : Int) := IntWalk.i64_in _ (by omega)
          have e3 : ∀ W1, Below w.heap.size w W1 → W1.cell? (ad.add (j * 4)) = some (.string l[j].key) := fun W1 h => (ri_cells4 (HR.out.below h) hjl).1
          have hv : (pairAt l k).2 = ltS l[j].key l[k].key := pairAt_up hlt hj hp
          have hq := leS_lt l[k].key l[j].key
          clear hj hk0
          cases hlts : ltS l[j].key l[k].key with
          | false =>
            rw [hlts] at hv hq
            have HE := Lib.hid (good_bad hlt hv); clear hv hlts
            have hq2 : (Op.bytesLess l[k].key.toList l[j].key.toList || l[k].key.toList == l[j].key.toList) = true := hq
            clear hq
            try simp only [List.append_eq, List.cons_append, List.nil_append]
            refine region_ord (Below w.heap.size w) [(0, false), (1, false), (2, false), (3, false), (4, true), (5, false), (6, false), (7, false), (8, false), (9, false), (10, false), (11, false), (12, false), (13, false), (14, false), (15, false), (16, false), (17, false), (18, false), (19, false), (20, false), (21, false), (22, false), (23, false)] (by kernel_rfl) (by kernel_rfl) rfl (by kernel_rfl) sk ?_
            iterate 24 ((first | (refine ord_skip rfl rfl ?_; (try simp only [Act.put, List.setIfInBounds_toArray, List.set_cons_zero, List.set_cons_succ])) | ((first | refine ord_load_addr 25 (.tmp 12) rfl rfl rfl (ad.add (k * 4)) rfl (cs := ic l[k]) b4 hu rfl itemSize ?_ | (with_reducible refine ord_callB 25 rfl rfl rfl (rpair_w l[k] _ hp) (fun w' hb => below_step sk hb) ?_ ?_; (· (go_simp; done)); intro wn sk)); (try simp only [Act.put, List.setIfInBounds_toArray, List.set_cons_zero, List.set_cons_succ])) | (refine ord_val (v := ?_) rfl rfl (fun W1 hW1 => ?_) ?_; rotate_left; (· (go_simp; try with_reducible rfl)); (try simp only [Act.put, List.setIfInBounds_toArray, List.set_cons_zero, List.set_cons_succ]))))
            refine ord_nil ?_
            clear b4 e2
            go_wp2
            go_ret
            exact ⟨ret_b HE.out.symm, sk⟩
          | true =>
            rw [hlts] at hv hq
            have HE := Lib.hid hv; clear hv hlts
            have hq2 : (Op.bytesLess l[k].key.toList l[j].key.toList || l[k].key.toList == l[j].key.toList) = false := hq
            clear hq
            try simp only [List.append_eq, List.cons_append, List.nil_append]
            refine region_ord (Below w.heap.size w) [(0, false), (1, false), (2, false), (3, false), (4, true), (5, false), (6, false), (7, false), (8, false), (9, false), (10, false), (11, false), (12, false), (13, false), (14, false), (15, false), (16, false), (17, false), (18, false), (19, false), (20, false), (21, false), (22, false), (23, false)] (by kernel_rfl) (by kernel_rfl) rfl (by kernel_rfl) sk ?_
            iterate 24 ((first | (refine ord_skip rfl rfl ?_; (try simp only [Act.put, List.setIfInBounds_toArray, List.set_cons_zero, List.set_cons_succ])) | ((first | refine ord_load_addr 25 (.tmp 12) rfl rfl rfl (ad.add (k * 4)) rfl (cs := ic l[k]) b4 hu rfl itemSize ?_ | (with_reducible refine ord_callB 25 rfl rfl rfl (rpair_w l[k] _ hp) (fun w' hb => below_step sk hb) ?_ ?_; (· (go_simp; done)); intro wn sk)); (try simp only [Act.put, List.setIfInBounds_toArray, List.set_cons_zero, List.set_cons_succ])) | (refine ord_val (v := ?_) rfl rfl (fun W1 hW1 => ?_) ?_; rotate_left; (· (go_simp; try with_reducible rfl)); (try simp only [Act.put, List.setIfInBounds_toArray, List.set_cons_zero, List.set_cons_succ]))))
            refine ord_nil ?_
            clear b4 e2
            go_wp2
            go_roundw
            case rel => exact ⟨k + 1, by omega, by go_num, Lib.hid (fun i hi => by
              rcases Nat.lt_or_ge i k with h | h
              · exact hn.out i h
              · obtain rfl : i = k := by omega
                exact HE.out), Lib.hid sk⟩
            case measure => simp [intOf]; omega
    · have HE := Lib.hid (good_end (fun j hj => hn.out j (by omega)))
      go_wp2
      go_ret
      exact ⟨ret_b HE.out.symm, HB.out⟩

end Go.Proofs.Yteadkghffdiaoab
