/- ref19: Of. -/
import Derived.Test.YteadkghffdiaoabKeepU
import Derived.Test.YteadkghffdiaoabWakes20A
set_option linter.unusedVariables false
set_option linter.unusedSimpArgs false
set_option maxRecDepth 100000
namespace Go.Proofs.Yteadkghffdiaoab
open Go.RowKit Go.Proofs.YteadkghffdiaoabW.PrintWords

theorem of_take {key : ByteArray} {l : List Item} {i : Nat} (hi : i < l.length) : ofS key (l.take (i + 1)) = if l[i].key = key then ofS key (l.take i) ++ [l[i]] else ofS key (l.take i) := by
  unfold ofS
  rw [List.take_succ_eq_append_getElem hi, List.filter_append]
  by_cases h : l[i].key = key <;> simp [h]
theorem of_len (key : ByteArray) (l : List Item) : (ofS key l).length ≤ l.length := List.length_filter_le _ _
set_option maxHeartbeats 1000000 in
theorem of19_c (l : List Item) (key : ByteArray) (A : Option Addr) (c : Nat) (w : World) (hr : RI w A c l) (hl : l.length ≤ 1000) :
    Calls Try.prog 30 #[.string key, .slice A l.length c] w fun e w' => ∃ v, e = .returned v ∧ OwnI w' w.heap.size v (ofS key l) ∧ Below w.heap.size w w' := by
  have hm := hr.max
  have hu := Try.underlying25
  have HR := Lib.hid hr; clear hr
  go_enter Try.func30, Try.ntmps30
  go_wp2
  go_loopw [5, 6] (fun b j wr => ∃ i : Nat, i ≤ l.length ∧ j = .int .i64 i ∧ Hid (OwnI wr w.heap.size b (ofS key (l.take i))) ∧ Hid (Below w.heap.size w wr)) (fun _ j _ => l.length - (intOf j).toNat)
  case atStart => exact ⟨0, by omega, rfl, Lib.hid (Kd.R_nil _ _ _ _ _), Lib.hid (Below.refl _ _)⟩
  case round =>
    obtain ⟨i, hi, rfl, HO, HB⟩ := hrel
    by_cases hlt : i < l.length
    · obtain ⟨ad, rfl⟩ := HR.out.some hlt
      have i0 : (0 : Int) ≤ (i : Int) := by omega
      have i1 : (i : Int) < (l.length : Int) := by omega
      have HRn := Lib.hid (HR.out.below HB.out)
      obtain ⟨f0, f1, f2, f3⟩ := ri_cells4 HRn.out hlt
      have hst := of_take (key := key) hlt
      have hol := Nat.le_trans (of_len key (l.take i)) (by rw [List.length_take]; exact Nat.min_le_right _ _ : (l.take i).length ≤ l.length)
      by_cases hk : l[i].key = key
      · have HE := Lib.hid (hst.trans (if_pos hk)); clear hst
        have he : (l[i].key.toList == key.toList) = true := by rw [string_eq, decide_eq_true hk]
        generalize ofS key (l.take i) = o at HO HE hol
        clear hk
        obtain ⟨Ao, co, rfl, -⟩ := HO.out.reads
        have HO := Lib.hid HO.out
        go_wp2_with (first
          | (refine gate_ (.load 25 (.tmp 23)) rfl ?_; refine wpList_load_addr 25 (.tmp 23) rfl rfl (ad.add (i * 4)) rfl (cs := ic l[i]) (HRn.out.at4 hlt) hu rfl itemSize ?_)
          | ((with_reducible refine gate_dst (N := 26) rfl ?_); go_must (refine Kd.R_append_rows kI (Rr := kI.K (wr.alloc (.cells (flatI [l[i]]).toArray 25))) (w0 := w) w.heap.size rfl (.tmp 20) (.tmp 25) 48 25 (.agg #[.string ⟨#[]⟩, .int .i64 0, .int .i64 0, .bool false]) 40 rfl Try.underlying48 itemInfo rfl (of_decide_eq_true rfl) (of_decide_eq_true rfl) (.slice Ao o.length co) o [l[i]] (some ⟨wr.heap.size, 0, none⟩) 1 1 (fun _ => True) (fun k => some k ≠ (Value.slice Ao o.length co).ownBlock) rfl rfl (HO.out.below (alloc_belowK _ _)) (ri_new wr [l[i]] (Nat.le_of_ble_eq_true rfl)).r (fun x cs hK => by rw [kI_open hK]; exact kI_mkM _ _ _ x) (fun k hk => ⟨trivial, hk⟩) (fun _ _ => trivial) (below_step HB.out (alloc_belowK _ _)) (below_step HB.out (alloc_belowK _ _)).size (by omega) ?_); intro v2 w2 hv2 hb2 hg2 hat2; have HO2 := Lib.hid hv2; have HB2 := Lib.hid hb2; clear hv2 hb2 hg2 hat2))
        go_roundw
        case rel => exact ⟨i + 1, hlt, by go_num, by rw [HE.out]; exact HO2, HB2⟩
        case measure => simp [intOf]; omega
      · have HE := Lib.hid (hst.trans (if_neg hk)); clear hst
        have he : (l[i].key.toList == key.toList) = false := by rw [string_eq, decide_eq_false hk]
        clear hk
        go_wp2
        go_roundw
        case rel => exact ⟨i + 1, hlt, by go_num, by rw [HE.out]; exact HO, HB⟩
        case measure => simp [intOf]; omega
    · obtain rfl : i = l.length := by omega
      have e : l.take l.length = l := List.take_length
      rw [e] at HO
      go_wp2
      go_ret
      exact ⟨_, rfl, HO.out, HB.out⟩

end Go.Proofs.Yteadkghffdiaoab
