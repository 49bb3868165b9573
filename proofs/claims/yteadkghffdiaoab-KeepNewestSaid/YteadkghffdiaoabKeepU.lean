/- ref19: Newest, Of. -/
import Derived.Test.YteadkghffdiaoabKeepT
set_option linter.unusedVariables false
set_option linter.unusedSimpArgs false
set_option maxRecDepth 100000
namespace Go.Proofs.Yteadkghffdiaoab
open Go.RowKit Go.Proofs.YteadkghffdiaoabW.PrintWords

theorem rnewer_w (a b : Item) (w : World) {r : Bool} (h : newerS a b = r) : Calls Try.prog 35 #[.agg (ic a), .agg (ic b)] w fun e w' => e = .returned (.bool r) ∧ Below w.heap.size w w' := by subst h; exact rnewer_c a b w
theorem newest_take {l : List Item} {i : Nat} (hi : i < l.length) : newestS (l.take (i + 1)) = newStep (newestS (l.take i)) l[i] := by
  unfold newestS
  rw [List.take_succ_eq_append_getElem hi, List.foldl_append]
  rfl
set_option maxHeartbeats 2000000 in
theorem newest_c (l : List Item) (A : Option Addr) (c : Nat) (w : World) (hr : RI w A c l) :
    Calls Try.prog 29 #[.slice A l.length c] w fun e w' => e = .returned (.tuple #[.agg (ic (newestS l).1), .bool (newestS l).2]) ∧ Below w.heap.size w w' := by
  have hm := hr.max
  have hu := Try.underlying25
  have HR := Lib.hid hr; clear hr
  go_enter Try.func29, Try.ntmps29
  go_upto_region 2 with fail
  obtain ⟨W, hW, hb, k1, k2, -⟩ := two_new w (.cells (ic Item.zero) 25) (.cells (ic Item.zero) 25)
  have hW2 := hW.symm
  simp only [ic, Item.zero] at hW2
  rw [hW2]; clear hW hW2
  have HB := Lib.hid hb; clear hb
  go_wp2
  go_loopw [5, 6] (fun b j wr => ∃ i : Nat, i ≤ l.length ∧ j = .int .i64 i ∧ b = .bool (newestS (l.take i)).2 ∧ wr.heap[w.heap.size]? = some (.cells (ic Item.zero) 25 (0, 0)) ∧ wr.heap[w.heap.size + 1]? = some (.cells (ic (newestS (l.take i)).1) 25 (0, 0)) ∧ Hid (Below w.heap.size w wr)) (fun _ j _ => l.length - (intOf j).toNat)
  case atStart => exact ⟨0, by omega, rfl, rfl, k1, k2, HB⟩
  case round =>
    clear k1 k2 HB
    obtain ⟨i, hi, rfl, rfl, k1, k2, HB⟩ := hrel
    by_cases hlt : i < l.length
    · obtain ⟨ad, rfl⟩ := HR.out.some hlt
      have i0 : (0 : Int) ≤ (i : Int) := by omega
      have i1 : (i : Int) < (l.length : Int) := by omega
      have HRn := Lib.hid (HR.out.below HB.out)
      have HST := Lib.hid (newest_take hlt)
      generalize newestS (l.take i) = o at HST k2 ⊢
      go_upto_region 6 with fail
      have sf : Below wr.heap.size wr wr.drew := below_drewN (Below.refl _ _) 1
      have b2 : ∀ W1, Below wr.heap.size wr W1 → _ := fun W1 h => blk_below k2 h
      have b4 : ∀ W1, Below wr.heap.size wr W1 → ∀ j v, (ic l[i])[j]? = some v → W1.cell? ((ad.add (i * 4)).add j) = some v := fun W1 h => (HRn.out.below h).at4 hlt
      cases hp : pairS l[i] with
      | false =>
        have HE := Lib.hid (show newestS (l.take (i + 1)) = o by rw [HST.out]; unfold newStep; rw [hp]; rfl)
        try simp only [List.append_eq, List.cons_append, List.nil_append]
        refine region_ord (Below wr.heap.size wr) [(0, false), (1, false), (2, false), (3, false), (4, true), (5, false), (6, false), (7, false), (8, false), (9, false), (10, false), (11, false), (12, false), (13, false), (14, true), (15, false), (16, false)] (by kernel_rfl) (by kernel_rfl) rfl (by kernel_rfl) sf ?_
        iterate 17 ((first | (refine ord_skip rfl rfl ?_; (try simp only [Act.put, List.setIfInBounds_toArray, List.set_cons_zero, List.set_cons_succ])) | ((first | refine ord_load_addr 25 (.tmp 15) rfl rfl rfl (ad.add (i * 4)) rfl (cs := ic l[i]) b4 hu rfl itemSize ?_ | refine ord_load_addr 25 (.tmp 24) rfl rfl rfl (ad.add (i * 4)) rfl (cs := ic l[i]) b4 hu rfl itemSize ?_ | refine ord_load_blk 25 (.tmp 4) rfl rfl rfl (w.heap.size + 1) rfl b2 hu rfl itemSize ?_ | (with_reducible refine ord_callB 25 rfl rfl rfl (rpair_w l[i] _ hp) (fun w' hb => below_step sf hb) ?_ ?_; (· (go_simp; done)); intro wn sf)); (try simp only [Act.put, List.setIfInBounds_toArray, List.set_cons_zero, List.set_cons_succ])) | (refine ord_val (v := ?_) rfl rfl (fun W1 hW1 => ?_) ?_; rotate_left; (· (go_simp; try with_reducible rfl)); (try simp only [Act.put, List.setIfInBounds_toArray, List.set_cons_zero, List.set_cons_succ]))))
        refine ord_nil ?_
        have k1 := blk_below k1 sf
        have k2 := blk_below k2 sf
        have HB := Lib.hid (below_step HB.out sf)
        have HRn := Lib.hid (HRn.out.below sf)
        clear b2 b4 sf
        go_wp2
        go_roundw
        case rel => exact ⟨i + 1, hlt, by go_num, by rw [HE.out]; first | done | rw [ho], k1, by rw [HE.out]; exact k2, HB⟩
        case measure => simp [intOf]; omega
      | true =>
        cases ho : o.2 with
        | false =>
          have HE := Lib.hid (show newestS (l.take (i + 1)) = (l[i], true) by rw [HST.out]; unfold newStep; rw [hp, ho]; rfl)
          try simp only [List.append_eq, List.cons_append, List.nil_append]
          refine region_ord (Below wr.heap.size wr) [(0, false), (1, false), (2, false), (3, false), (4, true), (5, false), (6, false), (7, false), (8, false), (9, false), (10, false), (11, false), (12, false), (13, false), (14, true), (15, false), (16, false)] (by kernel_rfl) (by kernel_rfl) rfl (by kernel_rfl) sf ?_
          iterate 17 ((first | (refine ord_skip rfl rfl ?_; (try simp only [Act.put, List.setIfInBounds_toArray, List.set_cons_zero, List.set_cons_succ])) | ((first | refine ord_load_addr 25 (.tmp 15) rfl rfl rfl (ad.add (i * 4)) rfl (cs := ic l[i]) b4 hu rfl itemSize ?_ | refine ord_load_addr 25 (.tmp 24) rfl rfl rfl (ad.add (i * 4)) rfl (cs := ic l[i]) b4 hu rfl itemSize ?_ | refine ord_load_blk 25 (.tmp 4) rfl rfl rfl (w.heap.size + 1) rfl b2 hu rfl itemSize ?_ | (with_reducible refine ord_callB 25 rfl rfl rfl (rpair_w l[i] _ hp) (fun w' hb => below_step sf hb) ?_ ?_; (· (go_simp; done)); intro wn sf)); (try simp only [Act.put, List.setIfInBounds_toArray, List.set_cons_zero, List.set_cons_succ])) | (refine ord_val (v := ?_) rfl rfl (fun W1 hW1 => ?_) ?_; rotate_left; (· (go_simp; try with_reducible rfl)); (try simp only [Act.put, List.setIfInBounds_toArray, List.set_cons_zero, List.set_cons_succ]))))
          refine ord_nil ?_
          have k1 := blk_below k1 sf
          have k2 := blk_below k2 sf
          have HB := Lib.hid (below_step HB.out sf)
          have HRn := Lib.hid (HRn.out.below sf)
          clear b2 b4 sf
          go_wp2_with (first
            | (refine gate_ (.load 25 (.tmp 32)) rfl ?_; refine wpList_load_addr 25 (.tmp 32) rfl rfl (ad.add (i * 4)) rfl (cs := ic l[i]) (HRn.out.at4 hlt) hu rfl itemSize ?_)
            | (refine gate_ (.store 25 (.tmp 4) (.tmp 33)) rfl ?_; refine wpList_store_blk 25 (.tmp 4) (.tmp 33) rfl rfl rfl (w.heap.size + 1) rfl k2 (cs := ic l[i]) rfl itemSize rfl (ic_one _) ?_; intro W3 k2c hg; have k1c := blk_grown k1 hg (by simp); have HBc := Lib.hid (HB.out.grown hg HB.out.size (fun k e => by have := Option.some.inj e; omega)); clear hg))
          go_roundw
          case rel => exact ⟨i + 1, hlt, by go_num, by rw [HE.out], k1c, by rw [HE.out]; exact k2c, HBc⟩
          case measure => simp [intOf]; omega
        | true =>
          cases hn : newerS l[i] o.1 with
          | false =>
            have HE := Lib.hid (show newestS (l.take (i + 1)) = o by rw [HST.out]; unfold newStep; rw [hp, ho, hn]; rfl)
            try simp only [List.append_eq, List.cons_append, List.nil_append]
            refine region_ord (Below wr.heap.size wr) [(0, false), (1, false), (2, false), (3, false), (4, true), (5, false), (6, false), (7, false), (8, false), (9, false), (10, false), (11, false), (12, false), (13, false), (14, true), (15, false), (16, false)] (by kernel_rfl) (by kernel_rfl) rfl (by kernel_rfl) sf ?_
            iterate 17 ((first | (refine ord_skip rfl rfl ?_; (try simp only [Act.put, List.setIfInBounds_toArray, List.set_cons_zero, List.set_cons_succ])) | ((first | refine ord_load_addr 25 (.tmp 15) rfl rfl rfl (ad.add (i * 4)) rfl (cs := ic l[i]) b4 hu rfl itemSize ?_ | refine ord_load_addr 25 (.tmp 24) rfl rfl rfl (ad.add (i * 4)) rfl (cs := ic l[i]) b4 hu rfl itemSize ?_ | refine ord_load_blk 25 (.tmp 4) rfl rfl rfl (w.heap.size + 1) rfl b2 hu rfl itemSize ?_ | (with_reducible refine ord_callB 25 rfl rfl rfl (rpair_w l[i] _ hp) (fun w' hb => below_step sf hb) ?_ ?_; (· (go_simp; done)); intro wn sf) | (with_reducible refine ord_callB 35 rfl rfl rfl (rnewer_w l[i] o.1 _ hn) (fun w' hb => below_step sf hb) ?_ ?_; (· (go_simp; done)); intro wn sf)); (try simp only [Act.put, List.setIfInBounds_toArray, List.set_cons_zero, List.set_cons_succ])) | (refine ord_val (v := ?_) rfl rfl (fun W1 hW1 => ?_) ?_; rotate_left; (· (go_simp; try with_reducible rfl)); (try simp only [Act.put, List.setIfInBounds_toArray, List.set_cons_zero, List.set_cons_succ]))))
            refine ord_nil ?_
            have k1 := blk_below k1 sf
            have k2 := blk_below k2 sf
            have HB := Lib.hid (below_step HB.out sf)
            have HRn := Lib.hid (HRn.out.below sf)
            clear b2 b4 sf
            go_wp2
            go_roundw
            case rel => exact ⟨i + 1, hlt, by go_num, by rw [HE.out]; first | done | rw [ho], k1, by rw [HE.out]; exact k2, HB⟩
            case measure => simp [intOf]; omega
          | true =>
            have HE := Lib.hid (show newestS (l.take (i + 1)) = (l[i], true) by rw [HST.out]; unfold newStep; rw [hp, ho, hn]; rfl)
            try simp only [List.append_eq, List.cons_append, List.nil_append]
            refine region_ord (Below wr.heap.size wr) [(0, false), (1, false), (2, false), (3, false), (4, true), (5, false), (6, false), (7, false), (8, false), (9, false), (10, false), (11, false), (12, false), (13, false), (14, true), (15, false), (16, false)] (by kernel_rfl) (by kernel_rfl) rfl (by kernel_rfl) sf ?_
            iterate 17 ((first | (refine ord_skip rfl rfl ?_; (try simp only [Act.put, List.setIfInBounds_toArray, List.set_cons_zero, List.set_cons_succ])) | ((first | refine ord_load_addr 25 (.tmp 15) rfl rfl rfl (ad.add (i * 4)) rfl (cs := ic l[i]) b4 hu rfl itemSize ?_ | refine ord_load_addr 25 (.tmp 24) rfl rfl rfl (ad.add (i * 4)) rfl (cs := ic l[i]) b4 hu rfl itemSize ?_ | refine ord_load_blk 25 (.tmp 4) rfl rfl rfl (w.heap.size + 1) rfl b2 hu rfl itemSize ?_ | (with_reducible refine ord_callB 25 rfl rfl rfl (rpair_w l[i] _ hp) (fun w' hb => below_step sf hb) ?_ ?_; (· (go_simp; done)); intro wn sf) | (with_reducible refine ord_callB 35 rfl rfl rfl (rnewer_w l[i] o.1 _ hn) (fun w' hb => below_step sf hb) ?_ ?_; (· (go_simp; done)); intro wn sf)); (try simp only [Act.put, List.setIfInBounds_toArray, List.set_cons_zero, List.set_cons_succ])) | (refine ord_val (v := ?_) rfl rfl (fun W1 hW1 => ?_) ?_; rotate_left; (· (go_simp; try with_reducible rfl)); (try simp only [Act.put, List.setIfInBounds_toArray, List.set_cons_zero, List.set_cons_succ]))))
            refine ord_nil ?_
            have k1 := blk_below k1 sf
            have k2 := blk_below k2 sf
            have HB := Lib.hid (below_step HB.out sf)
            have HRn := Lib.hid (HRn.out.below sf)
            clear b2 b4 sf
            go_wp2_with (first
              | (refine gate_ (.load 25 (.tmp 32)) rfl ?_; refine wpList_load_addr 25 (.tmp 32) rfl rfl (ad.add (i * 4)) rfl (cs := ic l[i]) (HRn.out.at4 hlt) hu rfl itemSize ?_)
              | (refine gate_ (.store 25 (.tmp 4) (.tmp 33)) rfl ?_; refine wpList_store_blk 25 (.tmp 4) (.tmp 33) rfl rfl rfl (w.heap.size + 1) rfl k2 (cs := ic l[i]) rfl itemSize rfl (ic_one _) ?_; intro W3 k2c hg; have k1c := blk_grown k1 hg (by simp); have HBc := Lib.hid (HB.out.grown hg HB.out.size (fun k e => by have := Option.some.inj e; omega)); clear hg))
            go_roundw
            case rel => exact ⟨i + 1, hlt, by go_num, by rw [HE.out], k1c, by rw [HE.out]; exact k2c, HBc⟩
            case measure => simp [intOf]; omega
    · obtain rfl : i = l.length := by omega
      have e : l.take l.length = l := List.take_length
      rw [e] at k2 ⊢
      go_wp2_with (first
        | (refine gate_ (.load 25 (.tmp 4)) rfl ?_; refine wpList_load_blk 25 (.tmp 4) rfl rfl (w.heap.size + 1) rfl k2 hu rfl itemSize ?_)
        | (refine gate_ (.store 25 (.tmp 2) (.tmp 34)) rfl ?_; refine wpList_store_blk 25 (.tmp 2) (.tmp 34) rfl rfl rfl w.heap.size rfl k1 (cs := ic (newestS l).1) rfl itemSize rfl (ic_one _) ?_; intro W3 k1c hg; have HBc := Lib.hid (HB.out.grown hg HB.out.size (fun k e => by have := Option.some.inj e; omega)); clear hg))
      exact bodyPost_ret (results_ct (g1 := w.heap.size) (v2 := .bool (newestS l).2) rfl rfl k1c hu rfl itemSize rfl) rfl ⟨rfl, HBc.out⟩

end Go.Proofs.Yteadkghffdiaoab
