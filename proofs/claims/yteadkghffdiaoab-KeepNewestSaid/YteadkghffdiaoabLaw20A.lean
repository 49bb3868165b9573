/- Law 20: KeepAll. -/
import Derived.Test.YteadkghffdiaoabKeepT
import Derived.Test.YteadkghffdiaoabWakes20
set_option linter.unusedVariables false
set_option linter.unusedSimpArgs false
set_option maxRecDepth 100000
namespace Go.Proofs.Yteadkghffdiaoab
open Go.RowKit Go.Proofs.YteadkghffdiaoabW.PrintWords

theorem all_w (k l : List Item) (A B : Option Addr) (c d : Nat) (w : World) (hr : RI w A c k) (hs : RI w B d l) (hk : k.length ≤ 1000) (hl : l.length ≤ 1000) {r : List Item × Int} (h : allS k l = r) :
    Calls Try.prog 26 #[.slice A k.length c, .slice B l.length d] w fun e w' => ∃ A' c', e = .returned (.tuple #[.slice A' r.1.length c', .int .i64 r.2]) ∧ RI w' A' c' r.1 ∧ Below w.heap.size w w' := by
  subst h
  refine (keepAll_c k l A B c d w hr hs hk hl).mono ?_
  rintro e w' ⟨v, rfl, hv, hb⟩
  obtain ⟨A', c', rfl, hR⟩ := hv.reads
  exact ⟨A', c', rfl, hR, hb⟩
theorem all_n (k l : List Item) (A B : Option Addr) (c d n : Nat) (w : World) (hn : n = l.length) (hr : RI w A c k) (hs : RI w B d l) (hk : k.length ≤ 1000) (hl : l.length ≤ 1000) {r : List Item × Int} (h : allS k l = r) :
    Calls Try.prog 26 #[.slice A k.length c, .slice B n d] w fun e w' => ∃ A' c', e = .returned (.tuple #[.slice A' r.1.length c', .int .i64 r.2]) ∧ RI w' A' c' r.1 ∧ Below w.heap.size w w' := by
  subst hn; exact all_w k l A B c d w hr hs hk hl h
theorem get_w (w : World) (A : Option Addr) (c : Nat) (l : List Item) (key : ByteArray) (hr : RI w A c l) {y : Item} {b : Int} (h : getS l key = (y, b)) :
    Calls Try.prog 28 #[.slice A l.length c, .string key] w fun e w' => e = .returned (.tuple #[.agg (ic y), .int .i64 b]) ∧ Below w.heap.size w w' := by
  have := keepGet_c w A c l key hr
  rw [h] at this; exact this
theorem rnewer_w (a b : Item) (w : World) {r : Bool} (h : newerS a b = r) : Calls Try.prog 35 #[.agg (ic a), .agg (ic b)] w fun e w' => e = .returned (.bool r) ∧ Below w.heap.size w w' := by subst h; exact rnewer_c a b w
theorem items_w (a : List Item) (A B : Option Addr) (c d : Nat) (w : World) (ha : RI w A c a) (hb : RI w B d a) :
    Calls Try.prog 31 #[.slice A a.length c, .slice B a.length d] w fun e w' => e = .returned (.bool true) ∧ Below w.heap.size w w' := items_b a a A B c d w ha hb (decide_eq_true rfl)

set_option maxHeartbeats 4000000 in
theorem keepAllL_c (k l m : List Item) (A B C : Option Addr) (c d f : Nat) (w : World) (hk : RI w A c k) (hl : RI w B d l) (hm : RI w C f m) :
    Calls Try.prog 7 #[.slice A k.length c, .slice B l.length d, .slice C m.length f] w fun e w' => e = .returned (.bool true) ∧ Below w.heap.size w w' := by
  have mk := hk.max
  have ml := hl.max
  have mm := hm.max
  have hu := Try.underlying25
  have RK := Lib.hid hk; have RL0 := Lib.hid hl; have RM := Lib.hid hm
  clear hk hl hm
  go_enter Try.func7, Try.ntmps7
  cases hgk : greatI k with
  | true =>
    go_wp2_with (first
      | (go_at_call 23; with_reducible refine Calls.mono (greatI_w k A c _ RK.out hgk) ?_; rintro e w' ⟨rfl, rfl⟩)
      | (go_at_call 24; refine (wakes_c _).mono ?_; rintro e w2 ⟨rfl, hb⟩))
    go_ret
    exact ⟨rfl, hb⟩
  | false =>
  cases hrk : rightK k with
  | false =>
    go_wp2_with (first
      | (go_at_call 23; with_reducible refine Calls.mono (greatI_w k A c _ RK.out hgk) ?_; rintro e w' ⟨rfl, rfl⟩)
      | (go_at_call 33; refine (rrightK_w k A c _ RK.out hrk).mono ?_; rintro e w1 ⟨rfl, hb1⟩)
      | (go_at_call 24; refine (wakes_c _).mono ?_; rintro e w2 ⟨rfl, hb⟩))
    go_ret
    exact ⟨rfl, below_step hb1 hb⟩
  | true =>
  cases hgl : greatI l with
  | true =>
    go_wp2_with (first
      | (go_at_call 23; with_reducible refine Calls.mono (greatI_w k A c _ RK.out hgk) ?_; rintro e w' ⟨rfl, rfl⟩)
      | (go_at_call 33; refine (rrightK_w k A c _ RK.out hrk).mono ?_; rintro e w1 ⟨rfl, hb1⟩)
      | (go_at_call 23; with_reducible refine Calls.mono (greatI_w l B d _ (RL0.out.below hb1) hgl) ?_; rintro e w' ⟨rfl, rfl⟩)
      | (go_at_call 24; refine (wakes_c _).mono ?_; rintro e w2 ⟨rfl, hb⟩))
    go_ret
    exact ⟨rfl, below_step hb1 hb⟩
  | false =>
  cases hgm : greatI m with
  | true =>
    go_wp2_with (first
      | (go_at_call 23; with_reducible refine Calls.mono (greatI_w k A c _ RK.out hgk) ?_; rintro e w' ⟨rfl, rfl⟩)
      | (go_at_call 33; refine (rrightK_w k A c _ RK.out hrk).mono ?_; rintro e w1 ⟨rfl, hb1⟩)
      | (go_at_call 23; with_reducible refine Calls.mono (greatI_w l B d _ (RL0.out.below hb1) hgl) ?_; rintro e w' ⟨rfl, rfl⟩)
      | (go_at_call 23; with_reducible refine Calls.mono (greatI_w m C f _ (RM.out.below hb1) hgm) ?_; rintro e w' ⟨rfl, rfl⟩)
      | (go_at_call 24; refine (wakes_c _).mono ?_; rintro e w2 ⟨rfl, hb⟩))
    go_ret
    exact ⟨rfl, below_step hb1 hb⟩
  | false =>
  by_cases hll : 20 < l.length
  · have hll2 : (20 : Int) < (l.length : Int) := by omega
    go_wp2_with (first
      | (go_at_call 23; with_reducible refine Calls.mono (greatI_w k A c _ RK.out hgk) ?_; rintro e w' ⟨rfl, rfl⟩)
      | (go_at_call 33; refine (rrightK_w k A c _ RK.out hrk).mono ?_; rintro e w1 ⟨rfl, hb1⟩)
      | (go_at_call 23; with_reducible refine Calls.mono (greatI_w l B d _ (RL0.out.below hb1) hgl) ?_; rintro e w' ⟨rfl, rfl⟩)
      | (go_at_call 23; with_reducible refine Calls.mono (greatI_w m C f _ (RM.out.below hb1) hgm) ?_; rintro e w' ⟨rfl, rfl⟩)
      | (go_at_call 24; refine (wakes_c _).mono ?_; rintro e w2 ⟨rfl, hb⟩))
    go_ret
    exact ⟨rfl, below_step hb1 hb⟩
  · have hll2 : ¬ (20 : Int) < (l.length : Int) := by omega
    by_cases hlm : 20 < m.length
    · have hlm2 : (20 : Int) < (m.length : Int) := by omega
      go_wp2_with (first
        | (go_at_call 23; with_reducible refine Calls.mono (greatI_w k A c _ RK.out hgk) ?_; rintro e w' ⟨rfl, rfl⟩)
        | (go_at_call 33; refine (rrightK_w k A c _ RK.out hrk).mono ?_; rintro e w1 ⟨rfl, hb1⟩)
        | (go_at_call 23; with_reducible refine Calls.mono (greatI_w l B d _ (RL0.out.below hb1) hgl) ?_; rintro e w' ⟨rfl, rfl⟩)
        | (go_at_call 23; with_reducible refine Calls.mono (greatI_w m C f _ (RM.out.below hb1) hgm) ?_; rintro e w' ⟨rfl, rfl⟩)
        | (go_at_call 24; refine (wakes_c _).mono ?_; rintro e w2 ⟨rfl, hb⟩))
      go_ret
      exact ⟨rfl, below_step hb1 hb⟩
    · have hlm2 : ¬ (20 : Int) < (m.length : Int) := by omega
      have HRK := Lib.hid hrk
      have hk24 := rightK_len hrk
      obtain ⟨a, e1, hA1⟩ : ∃ a e1, allS k l = (a, e1) := ⟨_, _, rfl⟩
      obtain ⟨b, e2, hA2⟩ : ∃ b e2, allS a m = (b, e2) := ⟨_, _, rfl⟩
      have hra : rightK a = true := by have h : rightK (allS k l).1 = true := fold_right l (k, 0) hrk; rwa [hA1] at h
      have hrb : rightK b = true := by have h : rightK (allS a m).1 = true := fold_right m (a, 0) hra; rwa [hA2] at h
      have hsz : k.length ≤ b.length := by
        have h1 : k.length ≤ (allS k l).1.length := fold_size l (k, 0)
        have h2 : a.length ≤ (allS a m).1.length := fold_size m (a, 0)
        rw [hA1] at h1; rw [hA2] at h2; exact Nat.le_trans h1 h2
      have HKE : Hid (∀ y ∈ k, ∃ q, getS b y.key = (q, 0) ∧ newerS y q = false) := Lib.hid (fun y hy => by
        have h1 : ∃ z ∈ (allS k l).1, z.key = y.key ∧ newerS y z = false := fold_keep l (k, 0) hrk y hy
        rw [hA1] at h1
        obtain ⟨z, hz, e1, h1⟩ := h1
        have h2 : ∃ q ∈ (allS a m).1, q.key = z.key ∧ newerS z q = false := fold_keep m (a, 0) hra z hz
        rw [hA2] at h2
        obtain ⟨q, hq, e2, h2⟩ := h2
        have := getS_mem hrb hq
        rw [e2.trans e1] at this
        exact ⟨q, this, newerS_trans h1 h2⟩)
      have HAP : Hid (allS k (l ++ m) = (b, if e1 = 0 then e2 else e1)) := Lib.hid (by rw [allS_append, hA1]; simp only [hA2])
      have hla : a.length ≤ 1000 := by have h := allS_len (k := k) l (by omega); rwa [hA1] at h
      have HA1 := Lib.hid hA1
      have HA2 := Lib.hid hA2
      have HRB := Lib.hid hrb
      have HSZ := Lib.hid hsz
      clear hA1 hA2 hra hrb hsz
      go_upto_region 3 with (first
        | (go_at_call 23; with_reducible refine Calls.mono (greatI_w k A c _ RK.out hgk) ?_; rintro e w' ⟨rfl, rfl⟩)
        | (go_at_call 33; refine (rrightK_w k A c _ RK.out hrk).mono ?_; rintro e w1 ⟨rfl, hb1⟩)
        | (go_at_call 23; with_reducible refine Calls.mono (greatI_w l B d _ (RL0.out.below hb1) hgl) ?_; rintro e w' ⟨rfl, rfl⟩)
        | (go_at_call 23; with_reducible refine Calls.mono (greatI_w m C f _ (RM.out.below hb1) hgm) ?_; rintro e w' ⟨rfl, rfl⟩))
      have HB1 := Lib.hid hb1; clear hb1
      go_upto_region 4 with (go_at_call 26; with_reducible refine Calls.mono (all_w k l A B c d _ (RK.out.below HB1.out) (RL0.out.below HB1.out) (by omega) (by omega) HA1.out) ?_; rintro e w2 ⟨Aa, ca, rfl, hR, hb⟩; have HB2 := Lib.hid (below_step HB1.out hb); have RA := Lib.hid hR; clear hb hR)
      go_upto_region 5 with (go_at_call 26; with_reducible refine Calls.mono (all_w a m Aa C ca f _ RA.out (RM.out.below HB2.out) hla (by omega) HA2.out) ?_; rintro e w3 ⟨Ab, cb, rfl, hR, hb⟩; have HB3 := Lib.hid (below_step HB2.out hb); have RB := Lib.hid hR; clear hb hR)
      have hlm40 : l.length + m.length ≤ 1000 := by omega
      go_upto_region 6 with (first
        | ((with_reducible refine gate_dst (N := 56) rfl ?_); go_must (refine Kd.R_lit kI _ 25 rfl (N := 56) rfl (xs := ([] : List Item)) (inner := []) (ok := fun _ => True) (okp := fun _ => True) (by go_simp) (Reps.none _ _) (fun _ hk => hk) trivial (Below.refl _ _) (Nat.le_refl _) (by simp) ?_); intro v1 w4 hv1 hb1 hg1 hat1; have HV1 := Lib.hid hv1; have HB4 := Lib.hid hb1; clear hv1 hb1 hg1 hat1)
        | ((with_reducible refine gate_dst (N := 58) rfl ?_); go_must (refine Kd.R_append_rows kI (Rr := kI.K w4) (w0 := w3) w3.heap.size rfl (.tmp 56) (.tmp 57) 48 25 (.agg #[.string ⟨#[]⟩, .int .i64 0, .int .i64 0, .bool false]) 40 rfl Try.underlying48 itemInfo rfl (of_decide_eq_true rfl) (of_decide_eq_true rfl) v1 [] l B l.length d (fun _ => True) (fun k => some k ≠ v1.ownBlock) rfl rfl HV1.out (RL0.out.below (below_step HB3.out HB4.out)).r (fun x cs hK => by rw [kI_open hK]; exact kI_mkM _ _ _ x) (fun k hk => ⟨trivial, hk⟩) (fun _ _ => trivial) HB4.out HB4.out.size (by simp; omega) ?_); intro v2 w5 hv2 hb2 hg2 hat2; have HV2 := Lib.hid hv2; have HB5 := Lib.hid hb2; clear hv2 hb2 hg2 hat2)
        | ((with_reducible refine gate_dst (N := 60) rfl ?_); go_must (refine Kd.R_append_rows kI (Rr := kI.K w5) (w0 := w3) w3.heap.size rfl (.tmp 58) (.tmp 59) 48 25 (.agg #[.string ⟨#[]⟩, .int .i64 0, .int .i64 0, .bool false]) 40 rfl Try.underlying48 itemInfo rfl (of_decide_eq_true rfl) (of_decide_eq_true rfl) v2 l m C m.length f (fun _ => True) (fun k => some k ≠ v2.ownBlock) rfl rfl HV2.out (RM.out.below (below_step HB3.out HB5.out)).r (fun x cs hK => by rw [kI_open hK]; exact kI_mkM _ _ _ x) (fun k hk => ⟨trivial, hk⟩) (fun _ _ => trivial) HB5.out HB5.out.size (by omega) ?_); intro v3 w6 hv3 hb3 hg3 hat3; obtain ⟨A3, c3, rfl, hR3⟩ := (show OwnI w6 w3.heap.size v3 (l ++ m) from hv3).reads; have R3 := Lib.hid hR3; have HB6 := Lib.hid (below_step HB3.out hb3); have RB6 := Lib.hid (RB.out.below hb3); clear hv3 hb3 hg3 hat3 hR3)
        | (go_at_call 26; with_reducible refine Calls.mono (all_n k (l ++ m) A A3 c c3 (l.length + m.length) _ (by rw [List.length_append]) (RK.out.below HB6.out) R3.out (by omega) (by rw [List.length_append]; omega) HAP.out) ?_; rintro e w7 ⟨Ac, cc, rfl, hR, hb⟩; have HB7 := Lib.hid (below_step HB6.out hb); have RC := Lib.hid hR; have RB7 := Lib.hid (RB6.out.below hb); clear hb hR))
      by_cases he : e1 = 0
      · subst he
        have hsz2 : ¬ (b.length : Int) < (k.length : Int) := by have := HSZ.out; omega
        go_wp2_with (first
          | (go_at_call 31; with_reducible refine Calls.mono (items_w b Ab Ac cb cc _ RB7.out RC.out) ?_; rintro e w8 ⟨rfl, hb⟩; have HB8 := Lib.hid (below_step HB7.out hb); have RB8 := Lib.hid (RB7.out.below hb); clear hb)
          | (go_at_call 27; with_reducible refine Calls.mono (keepRight_w _ Ab cb b RB8.out HRB.out) ?_; rintro e w9 ⟨rfl, hb⟩; have HB9 := Lib.hid (below_step HB8.out hb); have RB9 := Lib.hid (RB8.out.below hb); clear hb))
        have e96 : decide (b.length < k.length) = false := by have := HSZ.out; rw [decide_eq_false_iff_not]; omega
        simp only [e96]
        clear e96 hsz2
        go_loopw [13] (fun j wr => ∃ i : Nat, i ≤ k.length ∧ j = .int .i64 i ∧ Hid (Below w.heap.size w wr) ∧ Hid (RI wr Ab cb b)) (fun j _ => k.length - (intOf j).toNat)
        case atStart => exact ⟨0, by omega, rfl, HB9, RB9⟩
        case round =>
          obtain ⟨i, hi, rfl, HBr, RBr⟩ := hrel
          have RKr := Lib.hid (RK.out.below HBr.out)
          by_cases hlt : i < k.length
          · obtain ⟨ad, rfl⟩ := RK.out.some hlt
            obtain ⟨f0, f1, f2, f3⟩ := ri_cells4 RKr.out hlt
            have i0 : (0 : Int) ≤ (i : Int) := by omega
            have i1 : (i : Int) < (k.length : Int) := by omega
            obtain ⟨q, hq1, hq2⟩ := HKE.out k[i] (List.getElem_mem hlt)
            have HQ1 := Lib.hid hq1; have HQ2 := Lib.hid hq2
            clear hq1 hq2
            go_upto_region 12 with (first
              | (go_at_call 28; with_reducible refine Calls.mono (get_w _ Ab cb b k[i].key RBr.out HQ1.out) ?_; rintro e w10 ⟨rfl, hb⟩; have HB10 := Lib.hid (below_step HBr.out hb); have RB10 := Lib.hid (RBr.out.below hb); clear hb)
              | (refine gate_ (.store 25 (.tmp 14) (.tmp 112)) rfl ?_; refine wpList_store_new 25 (.tmp 14) (.tmp 112) rfl rfl rfl rfl (cs := ic q) rfl itemSize rfl (ic_one _) ?_; intro w11 k14 hb; have HB11 := Lib.hid (below_step HB10.out hb); have RB11 := Lib.hid (RB10.out.below hb); clear hb))
            have sf : Below w11.heap.size w11 w11.drew := below_drewN (Below.refl _ _) 1
            have RK11 := Lib.hid (RK.out.below HB11.out)
            have b14 : ∀ W1, Below w11.heap.size w11 W1 → _ := fun W1 h => blk_below k14 h
            have b0 : ∀ W1, Below w11.heap.size w11 W1 → ∀ j v, (ic k[i])[j]? = some v → W1.cell? ((ad.add (i * 4)).add j) = some v := fun W1 h => (RK11.out.below h).at4 hlt
            try simp only [List.append_eq, List.cons_append, List.nil_append]
            refine region_ord (Below w11.heap.size w11) [(0, false), (1, false), (2, false), (3, false), (4, false), (5, false), (6, false), (7, false), (8, true), (9, false)] (by kernel_rfl) (by kernel_rfl) rfl (by kernel_rfl) sf ?_
            iterate 10 ((first | (refine ord_skip rfl rfl ?_; (try simp only [Act.put, List.setIfInBounds_toArray, List.set_cons_zero, List.set_cons_succ])) | ((first | refine ord_load_blk 25 (.tmp 14) rfl rfl rfl w10.heap.size rfl b14 hu rfl itemSize ?_ | refine ord_load_addr 25 (.tmp 119) rfl rfl rfl (ad.add (i * 4)) rfl (cs := ic k[i]) b0 hu rfl itemSize ?_ | (with_reducible refine ord_callB 35 rfl rfl rfl (rnewer_w k[i] q _ HQ2.out) (fun w' hb => below_step sf hb) ?_ ?_; (· (go_simp; done)); intro wn sf)); (try simp only [Act.put, List.setIfInBounds_toArray, List.set_cons_zero, List.set_cons_succ])) | (refine ord_val (v := ?_) rfl rfl (fun W1 hW1 => ?_) ?_; rotate_left; (· (go_simp; try with_reducible rfl)); (try simp only [Act.put, List.setIfInBounds_toArray, List.set_cons_zero, List.set_cons_succ]))))
            refine ord_nil ?_
            go_wp2
            go_roundw
            case rel => exact ⟨i + 1, hlt, by go_num, Lib.hid (below_step HB11.out sf), Lib.hid (RB11.out.below sf)⟩
            case measure => simp [intOf]; omega
          · obtain rfl : i = k.length := by omega
            go_wp2_with (go_at_call 24; refine (wakes_c _).mono ?_; rintro e w10 ⟨rfl, hb⟩)
            go_ret
            exact ⟨rfl, below_step HBr.out hb⟩
      · have he1 : (e1 != 0) = true := bne_iff_ne.2 he
        have he2 : (e1 == 0) = false := beq_eq_false_iff_ne.2 he
        have hsz2 : ¬ (b.length : Int) < (k.length : Int) := by have := HSZ.out; omega
        go_wp2_with (first
          | (go_at_call 31; with_reducible refine Calls.mono (items_w b Ab Ac cb cc _ RB7.out RC.out) ?_; rintro e w8 ⟨rfl, hb⟩; have HB8 := Lib.hid (below_step HB7.out hb); have RB8 := Lib.hid (RB7.out.below hb); clear hb)
          | (go_at_call 27; with_reducible refine Calls.mono (keepRight_w _ Ab cb b RB8.out HRB.out) ?_; rintro e w9 ⟨rfl, hb⟩; have HB9 := Lib.hid (below_step HB8.out hb); have RB9 := Lib.hid (RB8.out.below hb); clear hb))
        have e96 : decide (b.length < k.length) = false := by have := HSZ.out; rw [decide_eq_false_iff_not]; omega
        simp only [e96]
        clear e96 hsz2
        go_loopw [13] (fun j wr => ∃ i : Nat, i ≤ k.length ∧ j = .int .i64 i ∧ Hid (Below w.heap.size w wr) ∧ Hid (RI wr Ab cb b)) (fun j _ => k.length - (intOf j).toNat)
        case atStart => exact ⟨0, by omega, rfl, HB9, RB9⟩
        case round =>
          obtain ⟨i, hi, rfl, HBr, RBr⟩ := hrel
          have RKr := Lib.hid (RK.out.below HBr.out)
          by_cases hlt : i < k.length
          · obtain ⟨ad, rfl⟩ := RK.out.some hlt
            obtain ⟨f0, f1, f2, f3⟩ := ri_cells4 RKr.out hlt
            have i0 : (0 : Int) ≤ (i : Int) := by omega
            have i1 : (i : Int) < (k.length : Int) := by omega
            obtain ⟨q, hq1, hq2⟩ := HKE.out k[i] (List.getElem_mem hlt)
            have HQ1 := Lib.hid hq1; have HQ2 := Lib.hid hq2
            clear hq1 hq2
            go_upto_region 12 with (first
              | (go_at_call 28; with_reducible refine Calls.mono (get_w _ Ab cb b k[i].key RBr.out HQ1.out) ?_; rintro e w10 ⟨rfl, hb⟩; have HB10 := Lib.hid (below_step HBr.out hb); have RB10 := Lib.hid (RBr.out.below hb); clear hb)
              | (refine gate_ (.store 25 (.tmp 14) (.tmp 112)) rfl ?_; refine wpList_store_new 25 (.tmp 14) (.tmp 112) rfl rfl rfl rfl (cs := ic q) rfl itemSize rfl (ic_one _) ?_; intro w11 k14 hb; have HB11 := Lib.hid (below_step HB10.out hb); have RB11 := Lib.hid (RB10.out.below hb); clear hb))
            have sf : Below w11.heap.size w11 w11.drew := below_drewN (Below.refl _ _) 1
            have RK11 := Lib.hid (RK.out.below HB11.out)
            have b14 : ∀ W1, Below w11.heap.size w11 W1 → _ := fun W1 h => blk_below k14 h
            have b0 : ∀ W1, Below w11.heap.size w11 W1 → ∀ j v, (ic k[i])[j]? = some v → W1.cell? ((ad.add (i * 4)).add j) = some v := fun W1 h => (RK11.out.below h).at4 hlt
            try simp only [List.append_eq, List.cons_append, List.nil_append]
            refine region_ord (Below w11.heap.size w11) [(0, false), (1, false), (2, false), (3, false), (4, false), (5, false), (6, false), (7, false), (8, true), (9, false)] (by kernel_rfl) (by kernel_rfl) rfl (by kernel_rfl) sf ?_
            iterate 10 ((first | (refine ord_skip rfl rfl ?_; (try simp only [Act.put, List.setIfInBounds_toArray, List.set_cons_zero, List.set_cons_succ])) | ((first | refine ord_load_blk 25 (.tmp 14) rfl rfl rfl w10.heap.size rfl b14 hu rfl itemSize ?_ | refine ord_load_addr 25 (.tmp 119) rfl rfl rfl (ad.add (i * 4)) rfl (cs := ic k[i]) b0 hu rfl itemSize ?_ | (with_reducible refine ord_callB 35 rfl rfl rfl (rnewer_w k[i] q _ HQ2.out) (fun w' hb => below_step sf hb) ?_ ?_; (· (go_simp; done)); intro wn sf)); (try simp only [Act.put, List.setIfInBounds_toArray, List.set_cons_zero, List.set_cons_succ])) | (refine ord_val (v := ?_) rfl rfl (fun W1 hW1 => ?_) ?_; rotate_left; (· (go_simp; try with_reducible rfl)); (try simp only [Act.put, List.setIfInBounds_toArray, List.set_cons_zero, List.set_cons_succ]))))
            refine ord_nil ?_
            go_wp2
            go_roundw
            case rel => exact ⟨i + 1, hlt, by go_num, Lib.hid (below_step HB11.out sf), Lib.hid (RB11.out.below sf)⟩
            case measure => simp [intOf]; omega
          · obtain rfl : i = k.length := by omega
            go_wp2_with (go_at_call 24; refine (wakes_c _).mono ?_; rintro e w10 ⟨rfl, hb⟩)
            go_ret
            exact ⟨rfl, below_step HBr.out hb⟩

end Go.Proofs.Yteadkghffdiaoab
