/- Law 20: KeepRound. -/
import Derived.Test.YteadkghffdiaoabKeepS
import Derived.Test.YteadkghffdiaoabWakes20
set_option linter.unusedVariables false
set_option linter.unusedSimpArgs false
set_option maxRecDepth 100000
namespace Go.Proofs.Yteadkghffdiaoab
open Go.RowKit Go.Proofs.YteadkghffdiaoabW.PrintWords

theorem next_w (w : World) (A : Option Addr) (c : Nat) (l : List Item) (key : ByteArray) (hr : RI w A c l) {y : Item} {b : Bool} (hn : nextS l key = (y, b)) :
    Calls Try.prog 34 #[.slice A l.length c, .string key] w fun e w' => e = .returned (.tuple #[.agg (ic y), .bool b]) ∧ Below w.heap.size w w' := by
  have := keepNext_c w A c l key hr
  rw [hn] at this; exact this

theorem next_0 (w : World) (A : Option Addr) (c : Nat) (key : ByteArray) (hr : RI w A c []) : Calls Try.prog 34 #[.slice A 0 c, .string key] w fun e w' => e = .returned (.tuple #[.agg (ic Item.zero), .bool false]) ∧ Below w.heap.size w w' :=
  next_w w A c [] key hr (next_nil rfl)

set_option maxHeartbeats 4000000 in
theorem keepRound_c (k : List Item) (key : ByteArray) (A : Option Addr) (c : Nat) (w : World) (hr : RI w A c k) :
    Calls Try.prog 6 #[.slice A k.length c, .string key] w fun e w' => e = .returned (.bool true) ∧ Below w.heap.size w w' := by
  have hm := hr.max
  have hu := Try.underlying25
  have HR := Lib.hid hr; clear hr
  go_enter Try.func6, Try.ntmps6
  cases hg : greatI k with
  | true =>
    go_wp2_with (first
      | (go_at_call 23; refine (greatI_w k A c _ HR.out hg).mono ?_; rintro e w' ⟨rfl, rfl⟩)
      | (go_at_call 24; refine (wakes_c _).mono ?_; rintro e w2 ⟨rfl, hb⟩))
    go_ret
    exact ⟨rfl, hb⟩
  | false =>
  cases hrk : rightK k with
  | false =>
    go_wp2_with (first
      | (go_at_call 23; refine (greatI_w k A c _ HR.out hg).mono ?_; rintro e w' ⟨rfl, rfl⟩)
      | (go_at_call 33; refine (rrightK_w k A c _ HR.out hrk).mono ?_; rintro e w1 ⟨rfl, hb1⟩)
      | (go_at_call 24; refine (wakes_c _).mono ?_; rintro e w2 ⟨rfl, hb⟩))
    go_ret
    exact ⟨rfl, below_step hb1 hb⟩
  | true =>
  by_cases hkl : 100 < key.size
  · have hkl2 : (100 : Int) < (key.size : Int) := by omega
    go_wp2_with (first
      | (go_at_call 23; refine (greatI_w k A c _ HR.out hg).mono ?_; rintro e w' ⟨rfl, rfl⟩)
      | (go_at_call 33; refine (rrightK_w k A c _ HR.out hrk).mono ?_; rintro e w1 ⟨rfl, hb1⟩)
      | (go_at_call 24; refine (wakes_c _).mono ?_; rintro e w2 ⟨rfl, hb⟩))
    go_ret
    exact ⟨rfl, below_step hb1 hb⟩
  · have hkl2 : ¬ (100 : Int) < (key.size : Int) := by omega
    have HK := Lib.hid hrk
    go_wp2_with (first
      | (go_at_call 23; refine (greatI_w k A c _ HR.out hg).mono ?_; rintro e w' ⟨rfl, rfl⟩)
      | (go_at_call 33; refine (rrightK_w k A c _ HR.out hrk).mono ?_; rintro e w1 ⟨rfl, hb1⟩; have HB1 := Lib.hid hb1; clear hb1))
    go_loopw [5, 6] (fun a j wr => ∃ i : Nat, i ≤ k.length ∧ j = .int .i64 i ∧ a = .string (atS k i) ∧ Hid (Below w.heap.size w wr)) (fun _ j _ => k.length - (intOf j).toNat)
    case atStart => exact ⟨0, by omega, rfl, rfl, HB1⟩
    case round =>
      obtain ⟨i, hi, rfl, rfl, HB⟩ := hrel
      by_cases hlt : i < k.length
      · obtain ⟨ad, rfl⟩ := HR.out.some hlt
        have i0 : (0 : Int) ≤ (i : Int) := by omega
        have i1 : (i : Int) < (k.length : Int) := by omega
        have HN := Lib.hid (next_round HK.out hlt)
        have HS := Lib.hid (atS_succ hlt)
        go_upto_region 8 with (first
          | (go_at_call 34; with_reducible refine Calls.mono (next_w _ _ c k (atS k i) (HR.out.below HB.out) HN.out) ?_; rintro e w3 ⟨rfl, hb⟩; have HB3 := Lib.hid (below_step HB.out hb); clear hb)
          | (refine gate_ (.store 25 (.tmp 7) (.tmp 37)) rfl ?_; refine wpList_store_new 25 (.tmp 7) (.tmp 37) rfl rfl rfl rfl (cs := ic k[i]) rfl itemSize rfl (ic_one _) ?_; intro w4 k7 hb; have HB4 := Lib.hid (below_step HB3.out hb); clear hb))
        obtain ⟨f0, f1, f2, f3⟩ := ri_cells4 (HR.out.below HB4.out) hlt
        have c0 : w4.cell? ⟨w3.heap.size, 0, none⟩ = some (.string k[i].key) := cells_all k7 0
        have c1 : w4.cell? ⟨w3.heap.size, 1, none⟩ = some (.int .i64 k[i].value) := cells_all k7 1
        have c2 : w4.cell? ⟨w3.heap.size, 2, none⟩ = some (.int .i64 k[i].version) := cells_all k7 2
        have c3 : w4.cell? ⟨w3.heap.size, 3, none⟩ = some (.bool k[i].gone) := cells_all k7 3
        have qn := fun W => run_neq_item W k[i] k[i]
        have hq : itemEqB k[i] k[i] = true := by simp [itemEqB]
        rw [hq] at qn
        go_quiet (fail)
        go_wp2
        go_roundw
        case rel => exact ⟨i + 1, hlt, by go_num, by rw [HS.out], Lib.hid (below_drewN HB4.out _)⟩
        case measure => simp [intOf]; omega
      · obtain rfl : i = k.length := by omega
        by_cases hk0 : k.length = 0
        · obtain rfl : k = [] := List.eq_nil_of_length_eq_zero hk0
          clear hk0 hm hi hlt hg hrk HK
          generalize atS [] ([] : List Item).length = at0
          have qe := fun W => run_eql_item W Item.zero Item.zero
          have hq : itemEqB Item.zero Item.zero = true := by simp [itemEqB]
          rw [hq] at qe
          have qe2 : ∀ W : World, (binOp .eql 25 (.agg (ic Item.zero)) (.agg #[.string ⟨#[]⟩, .int .i64 0, .int .i64 0, .bool false])).run Try.prog W = .ok (.bool true) W := qe
          go_upto_region 12 with (first
            | (go_at_call 34; with_reducible refine Calls.mono (next_0 _ A c _ (HR.out.below HB.out)) ?_; rintro e w3 ⟨rfl, hb⟩; have HB3 := Lib.hid (below_step HB.out hb); clear hb)
            | (refine gate_ (.store 25 (.tmp 9) (.tmp 55)) rfl ?_; refine wpList_store_new 25 (.tmp 9) (.tmp 55) rfl rfl rfl rfl (cs := ic Item.zero) rfl itemSize rfl (ic_one _) ?_; intro w4 k9 hb; have HB4 := Lib.hid (below_step HB3.out hb); clear hb))
          go_upto_region 13 with (first
            | (go_at_call 34; with_reducible refine Calls.mono (next_0 _ A c _ (HR.out.below HB4.out)) ?_; rintro e w5 ⟨rfl, hb⟩; have HB5 := Lib.hid (below_step HB4.out hb); have k9 := blk_below k9 hb; clear hb)
            | (refine gate_ (.store 25 (.tmp 11) (.tmp 61)) rfl ?_; refine wpList_store_new 25 (.tmp 11) (.tmp 61) rfl rfl rfl rfl (cs := ic Item.zero) rfl itemSize rfl (ic_one _) ?_; intro w6 k11 hb; have HB6 := Lib.hid (below_step HB5.out hb); have k9 := blk_below k9 hb; clear hb))
          go_wp2_with (first
            | (refine gate_ (.load 25 (.tmp 9)) rfl ?_; refine wpList_load_blk 25 (.tmp 9) rfl rfl w3.heap.size rfl k9 hu rfl itemSize ?_)
            | (refine gate_ (.load 25 (.tmp 9)) rfl ?_; refine gate_guard (by rfl) ?_; refine wpList_load_blk 25 (.tmp 9) rfl rfl w3.heap.size rfl k9 hu rfl itemSize ?_)
            | (refine gate_ (.load 25 (.tmp 11)) rfl ?_; refine gate_guard (by rfl) ?_; refine wpList_load_blk 25 (.tmp 11) rfl rfl w5.heap.size rfl k11 hu rfl itemSize ?_)
            | (go_at_call 24; refine (wakes_c _).mono ?_; rintro e w7 ⟨rfl, hb⟩; have HB7 := Lib.hid (below_step HB6.out hb)))
          go_ret
          exact ⟨rfl, HB7.out⟩
        · have hkp : 0 < k.length := by omega
          have hk0' : (0 : Int) < (k.length : Int) := by omega
          have HN1 := Lib.hid (next_last HK.out hkp)
          have hor := next_or HK.out hkp key
          have HN2 : Hid (nextS k key = ((nextS k key).1, true)) := Lib.hid (Prod.ext rfl hor.1)
          have HO := Lib.hid hor.2; clear hor
          generalize (nextS k key).1 = y at HN2 HO
          clear hk0
          obtain ⟨ad, rfl⟩ := HR.out.some hkp
          go_upto_region 12 with (first
            | (go_at_call 34; with_reducible refine Calls.mono (next_w _ _ c k (atS k k.length) (HR.out.below HB.out) HN1.out) ?_; rintro e w3 ⟨rfl, hb⟩; have HB3 := Lib.hid (below_step HB.out hb); clear hb)
            | (refine gate_ (.store 25 (.tmp 9) (.tmp 55)) rfl ?_; refine wpList_store_new 25 (.tmp 9) (.tmp 55) rfl rfl rfl rfl (cs := ic k[0]) rfl itemSize rfl (ic_one _) ?_; intro w4 k9 hb; have HB4 := Lib.hid (below_step HB3.out hb); clear hb))
          go_upto_region 13 with (first
            | (go_at_call 34; with_reducible refine Calls.mono (next_w _ _ c k key (HR.out.below HB4.out) HN2.out) ?_; rintro e w5 ⟨rfl, hb⟩; have HB5 := Lib.hid (below_step HB4.out hb); have k9 := blk_below k9 hb; clear hb)
            | (refine gate_ (.store 25 (.tmp 11) (.tmp 61)) rfl ?_; refine wpList_store_new 25 (.tmp 11) (.tmp 61) rfl rfl rfl rfl (cs := ic y) rfl itemSize rfl (ic_one _) ?_; intro w6 k11 hb; have HB6 := Lib.hid (below_step HB5.out hb); have k9 := blk_below k9 hb; clear hb))
          go_wp2
          clear hi hlt
          go_loopw [13] (fun j wr => ∃ i : Nat, i ≤ k.length ∧ j = .int .i64 i ∧ Hid (Below w6.heap.size w6 wr)) (fun j _ => k.length - (intOf j).toNat)
          case atStart => exact ⟨0, by omega, rfl, Lib.hid (Below.refl _ _)⟩
          case round =>
            obtain ⟨i, hi, rfl, H68⟩ := hrel
            have k9 := blk_below k9 H68.out
            have k11 := blk_below k11 H68.out
            have HB8 := Lib.hid (below_step HB6.out H68.out)
            have HRn := Lib.hid (HR.out.below HB8.out)
            have c11 : wr.cell? ⟨w5.heap.size, 0, none⟩ = some (.string y.key) := cells_all k11 0
            by_cases hlt : i < k.length
            · obtain ⟨f0, f1, f2, f3⟩ := ri_cells4 HRn.out hlt
              have i0 : (0 : Int) ≤ (i : Int) := by omega
              have i1 : (i : Int) < (k.length : Int) := by omega
              have hgt := gtS_lt k[i].key key
              cases hx : ltS key k[i].key with
              | false =>
                rw [hx] at hgt
                have hgt2 : (!(Op.bytesLess k[i].key.toList key.toList || k[i].key.toList == key.toList)) = false := hgt
                clear hgt hx
                go_upto_region 20 with (fail)
                go_quiet (fail)
                go_wp2
                go_roundw
                case rel => exact ⟨i + 1, hlt, by go_num, Lib.hid (below_drewN H68.out _)⟩
                case measure => simp [intOf]; omega
              | true =>
                rw [hx] at hgt
                have hgt2 : (!(Op.bytesLess k[i].key.toList key.toList || k[i].key.toList == key.toList)) = true := hgt
                have hle : (Op.bytesLess y.key.toList key.toList || y.key.toList == key.toList) = false := by
                  rw [leS_lt]
                  rcases HO.out with ⟨h, _⟩ | ⟨_, h⟩
                  · rw [h]; rfl
                  · rw [h i hlt] at hx; cases hx
                have hlt3 : Op.bytesLess k[i].key.toList y.key.toList = false := by
                  rcases HO.out with ⟨_, h⟩ | ⟨_, h⟩
                  · exact h i hlt hx
                  · rw [h i hlt] at hx; cases hx
                clear hgt hx
                go_upto_region 20 with (fail)
                go_quiet (fail)
                go_wp2
                go_roundw
                case rel => exact ⟨i + 1, hlt, by go_num, Lib.hid (below_drewN H68.out _)⟩
                case measure => simp [intOf]; omega
            · go_upto_region 22 with (fail)
              have sf : Below wr.heap.size wr wr.drew := below_drewN (Below.refl _ _) 1
              have b9 : ∀ W1, Below wr.heap.size wr W1 → _ := fun W1 h => blk_below k9 h
              have b11 : ∀ W1, Below wr.heap.size wr W1 → _ := fun W1 h => blk_below k11 h
              have q11 : ∀ W1, Below wr.heap.size wr W1 → W1.cell? ⟨w5.heap.size, 0, none⟩ = some (.string y.key) := fun W1 h => cells_all (blk_below k11 h) 0
              have b0 : ∀ W1, Below wr.heap.size wr W1 → ∀ j v, (ic k[0])[j]? = some v → W1.cell? ((ad.add (0 * 4)).add j) = some v := fun W1 h => (HRn.out.below h).at4 hkp
              have qe := fun W => run_eql_item W k[0] k[0]
              have hq : itemEqB k[0] k[0] = true := by simp [itemEqB]
              rw [hq] at qe
              have hgt := gtS_lt y.key key
              cases hx : ltS key y.key with
              | false =>
                have hy : y = k[0] := by
                  rcases HO.out with ⟨h, _⟩ | ⟨h, _⟩
                  · rw [h] at hx; cases hx
                  · exact h
                rw [hx] at hgt
                have hgt2 : (!(Op.bytesLess y.key.toList key.toList || y.key.toList == key.toList)) = false := hgt
                clear hgt hx
                have b11 : ∀ W1, Below wr.heap.size wr W1 → W1.heap[w5.heap.size]? = some (.cells (ic k[0]) 25 (0, 0)) := fun W1 h => by rw [← hy]; exact b11 W1 h
                clear hy k9 k11 c11
                try simp only [List.append_eq, List.cons_append, List.nil_append]
                refine region_ord (Below wr.heap.size wr) [(0, false), (1, false), (2, false), (3, false), (4, false), (5, false), (6, false), (7, false), (8, false), (9, false), (10, false), (11, false), (12, false), (13, false), (14, false), (15, false), (16, false), (17, false), (18, false), (19, true), (20, false), (21, false)] (by kernel_rfl) (by kernel_rfl) rfl (by kernel_rfl) sf ?_
                iterate 22 ((first | (refine ord_skip rfl rfl ?_; (try simp only [Act.put, List.setIfInBounds_toArray, List.set_cons_zero, List.set_cons_succ])) | ((first | refine ord_load_blk 25 (.tmp 9) rfl rfl rfl w3.heap.size rfl b9 hu rfl itemSize ?_ | refine ord_load_blk 25 (.tmp 11) rfl rfl rfl w5.heap.size rfl b11 hu rfl itemSize ?_ | refine ord_load_addr 25 (.tmp 117) rfl rfl rfl (ad.add (0 * 4)) rfl (cs := ic k[0]) b0 hu rfl itemSize ?_ | refine ord_load_addr 25 (.tmp 128) rfl rfl rfl (ad.add (0 * 4)) rfl (cs := ic k[0]) b0 hu rfl itemSize ?_ | (with_reducible refine ord_callB 24 rfl rfl rfl (wakes_c _) (fun w' hb => below_step sf hb) ?_ ?_; (· (go_simp; done)); intro wn sf)); (try simp only [Act.put, List.setIfInBounds_toArray, List.set_cons_zero, List.set_cons_succ])) | (refine ord_val (v := ?_) rfl rfl (fun W1 hW1 => ?_) ?_; rotate_left; (· (go_simp; try with_reducible rfl)); (try simp only [Act.put, List.setIfInBounds_toArray, List.set_cons_zero, List.set_cons_succ]))))
                refine ord_nil ?_
                go_wp2
                go_ret
                exact ⟨rfl, below_step HB8.out sf⟩
              | true =>
                rw [hx] at hgt
                have hgt2 : (!(Op.bytesLess y.key.toList key.toList || y.key.toList == key.toList)) = true := hgt
                clear hgt hx
                try simp only [List.append_eq, List.cons_append, List.nil_append]
                refine region_ord (Below wr.heap.size wr) [(0, false), (1, false), (2, false), (3, false), (4, false), (5, false), (6, false), (7, false), (8, false), (9, false), (10, false), (11, false), (12, false), (13, false), (14, false), (15, false), (16, false), (17, false), (18, false), (19, true), (20, false), (21, false)] (by kernel_rfl) (by kernel_rfl) rfl (by kernel_rfl) sf ?_
                iterate 22 ((first | (refine ord_skip rfl rfl ?_; (try simp only [Act.put, List.setIfInBounds_toArray, List.set_cons_zero, List.set_cons_succ])) | ((first | refine ord_load_blk 25 (.tmp 9) rfl rfl rfl w3.heap.size rfl b9 hu rfl itemSize ?_ | refine ord_load_addr 25 (.tmp 117) rfl rfl rfl (ad.add (0 * 4)) rfl (cs := ic k[0]) b0 hu rfl itemSize ?_ | (with_reducible refine ord_callB 24 rfl rfl rfl (wakes_c _) (fun w' hb => below_step sf hb) ?_ ?_; (· (go_simp; done)); intro wn sf)); (try simp only [Act.put, List.setIfInBounds_toArray, List.set_cons_zero, List.set_cons_succ])) | (refine ord_val (v := ?_) rfl rfl (fun W1 hW1 => ?_) ?_; rotate_left; (· (go_simp; try with_reducible rfl)); (try simp only [Act.put, List.setIfInBounds_toArray, List.set_cons_zero, List.set_cons_succ]))))
                refine ord_nil ?_
                go_wp2
                go_ret
                exact ⟨rfl, below_step HB8.out sf⟩

end Go.Proofs.Yteadkghffdiaoab
