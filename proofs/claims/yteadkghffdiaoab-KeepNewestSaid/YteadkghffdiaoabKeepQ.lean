/- keep.All; a pair made by the law. -/
import Derived.Test.YteadkghffdiaoabKeepP
set_option linter.unusedVariables false
set_option linter.unusedSimpArgs false
set_option maxRecDepth 100000
namespace Go.Proofs.Yteadkghffdiaoab
open Go.RowKit Go.Proofs.YteadkghffdiaoabW.PrintWords

def stepS (o : List Item × Int) (x : Item) : List Item × Int := ((putS o.1 x).1, if o.2 = 0 then (putS o.1 x).2 else o.2)
def allS (k : List Item) (l : List Item) : List Item × Int := l.foldl stepS (k, 0)
theorem putS_len {k : List Item} {x : Item} (h : k.length ≤ 1000) : (putS k x).1.length ≤ 1000 := by
  unfold putS
  split
  · rename_i h1
    rw [Bool.and_eq_true] at h1
    have := rightK_len h1.1
    split
    · split
      · rw [List.length_set]; exact h
      · exact h
    · split
      · exact h
      · have := posS_le k x.key
        simp only [List.length_append, List.length_take, List.length_cons, List.length_drop]; omega
  · exact h
theorem allS_take {k l : List Item} {i : Nat} (hi : i < l.length) : allS k (l.take (i + 1)) = stepS (allS k (l.take i)) l[i] := by
  unfold allS
  rw [List.take_add_one, List.getElem?_eq_getElem hi, List.foldl_append]
  rfl
theorem foldS_len : ∀ (l : List Item) (o : List Item × Int), o.1.length ≤ 1000 → (l.foldl stepS o).1.length ≤ 1000
  | [], o, h => h
  | x :: l, o, h => foldS_len l (stepS o x) (putS_len h)
theorem allS_len {k : List Item} (l : List Item) (h : k.length ≤ 1000) : (allS k l).1.length ≤ 1000 := foldS_len l (k, 0) h

set_option maxHeartbeats 2000000 in
theorem keepAll_c (k l : List Item) (A B : Option Addr) (c d : Nat) (w : World) (hr : RI w A c k) (hs : RI w B d l) (hk : k.length ≤ 1000) (hl : l.length ≤ 1000) :
    Calls Try.prog 26 #[.slice A k.length c, .slice B l.length d] w fun e w' => ∃ v, e = .returned (.tuple #[v, .int .i64 (allS k l).2]) ∧ OwnI w' w.heap.size v (allS k l).1 ∧ Below w.heap.size w w' := by
  have hu := Try.underlying25
  have HR := Lib.hid hr; clear hr
  have HS := Lib.hid hs; clear hs
  go_enter Try.func26, Try.ntmps26
  go_wp2_with (go_at_call 54; refine (keepOwn_c k A c _ HR.out (by omega)).mono ?_; rintro e W1 ⟨o, rfl, ho, hb1⟩; have HO1 := Lib.hid ho; have HB1 := Lib.hid hb1; clear hb1 ho)
  go_loopw [4, 5, 14] (fun a b j wr => ∃ i : Nat, i ≤ l.length ∧ j = .int .i64 i ∧ b = .int .i64 (allS k (l.take i)).2 ∧ Hid (OwnI wr w.heap.size a (allS k (l.take i)).1) ∧ Hid (Below w.heap.size w wr)) (fun _ _ j _ => l.length - (intOf j).toNat)
  case atStart => exact ⟨0, by omega, rfl, rfl, HO1, HB1⟩
  case round =>
    obtain ⟨i, hi, rfl, rfl, HO, HB⟩ := hrel
    by_cases hlt : i < l.length
    · obtain ⟨ad, rfl⟩ := HS.out.some hlt
      have i0 : (0 : Int) ≤ (i : Int) := by omega
      have i1 : (i : Int) < (l.length : Int) := by omega
      have HC := Lib.hid ((HS.out.below HB.out).at4 hlt)
      have hst := allS_take (k := k) hlt
      have hlen := allS_len (l.take i) hk
      obtain ⟨Av, cv, rfl, hRv⟩ := HO.out.reads
      have HRv := Lib.hid hRv; clear hRv
      have HST := Lib.hid hst; clear hst
      generalize allS k (l.take i) = s at HO HRv HST hlen ⊢
      go_upto_region 5 with (first
        | (refine gate_ (.load 25 (.tmp 16)) rfl ?_; refine wpList_load_addr 25 (.tmp 16) rfl rfl (ad.add (i * 4)) rfl (cs := ic l[i]) HC.out hu rfl itemSize ?_)
        | (refine gate_ (.store 25 (.tmp 7) (.tmp 17)) rfl ?_; have k0 := blk_new wr (.cells (ic Item.zero) 25); have hb0 := alloc_belowK wr (.cells (ic Item.zero) 25); refine wpList_store_blk 25 (.tmp 7) (.tmp 17) rfl rfl rfl wr.heap.size rfl k0 (cs := ic l[i]) rfl itemSize rfl (ic_one l[i]) ?_; intro W3 k7 hg; have hbr : Below wr.heap.size wr W3 := hb0.grown hg hb0.size (fun k e => by have := Option.some.inj e; omega); have HB3 := Lib.hid (below_step HB.out hbr); have HRv3 := Lib.hid (HRv.out.below hbr); clear hg hb0 k0 hbr))
      have HHI := Lib.hid hi
      by_cases he : s.2 = 0
      · have heb : (s.2 == 0) = true := beq_iff_eq.2 he
        have HE := Lib.hid (show allS k (l.take (i + 1)) = ((putS s.1 l[i]).1, (putS s.1 l[i]).2) by rw [HST.out]; unfold stepS; rw [if_pos he])
        clear he
        go_wp2_with (first
          | (refine gate_ (.load 25 (.tmp 7)) rfl ?_; refine wpList_load_blk 25 (.tmp 7) rfl rfl wr.heap.size rfl k7 hu rfl itemSize ?_)
          | (go_at_call 53; refine (put_c s.1 l[i] Av cv _ HRv3.out hlen).mono ?_; rintro e W4 ⟨v4, rfl, hv4, hb4⟩; have HO4 := Lib.hid (hv4.lower HB3.out.size); have HB4 := Lib.hid (below_step HB3.out hb4); clear hb4 hv4))
        go_roundw
        case rel => exact ⟨i + 1, hlt, by go_num, by rw [HE.out], by rw [HE.out]; exact HO4, HB4⟩
        case measure => simp [intOf]; omega
      · have heb : (s.2 == 0) = false := beq_eq_false_iff_ne.2 he
        have HE := Lib.hid (show allS k (l.take (i + 1)) = ((putS s.1 l[i]).1, s.2) by rw [HST.out]; unfold stepS; rw [if_neg he])
        clear he
        go_wp2_with (first
          | (refine gate_ (.load 25 (.tmp 7)) rfl ?_; refine wpList_load_blk 25 (.tmp 7) rfl rfl wr.heap.size rfl k7 hu rfl itemSize ?_)
          | (go_at_call 53; refine (put_c s.1 l[i] Av cv _ HRv3.out hlen).mono ?_; rintro e W4 ⟨v4, rfl, hv4, hb4⟩; have HO4 := Lib.hid (hv4.lower HB3.out.size); have HB4 := Lib.hid (below_step HB3.out hb4); clear hb4 hv4))
        go_roundw
        case rel => exact ⟨i + 1, hlt, by go_num, by rw [HE.out], by rw [HE.out]; exact HO4, HB4⟩
        case measure => simp [intOf]; omega
    · obtain rfl : i = l.length := by omega
      have e : l.take l.length = l := List.take_length
      rw [e] at HO ⊢
      go_wp2
      go_ret2
      exact ⟨_, rfl, HO.out, HB.out⟩

set_option maxHeartbeats 400000 in
theorem of_c (key : ByteArray) (v x : Int) (w : World) : Calls Try.prog 52 #[.string key, .int .i64 v, .int .i64 x] w fun e w' => e = .returned (.agg (ic ⟨key, x, v, false⟩)) ∧ Below w.heap.size w w' := by
  have hu := Try.underlying25
  go_enter Try.func52, Try.ntmps52
  go_wp2_with (refine gate_ (.store 25 (.tmp 6) (.tmp 10)) rfl ?_; have k0 := blk_new w (.cells (ic Item.zero) 25); have hb0 := alloc_belowK w (.cells (ic Item.zero) 25); refine wpList_store_blk 25 (.tmp 6) (.tmp 10) rfl rfl rfl w.heap.size rfl k0 (cs := ic ⟨key, x, v, false⟩) rfl itemSize rfl (ic_one _) ?_; intro W3 k7 hg; have hbr : Below w.heap.size w W3 := hb0.grown hg hb0.size (fun k e => by have := Option.some.inj e; omega); clear hg hb0 k0)
  exact bodyPost_ret (results_cell_row Try.results52 _ _ w.heap.size _ _ (0, 0) _ rfl k7 hu rfl itemSize) rfl ⟨rfl, hbr⟩

end Go.Proofs.Yteadkghffdiaoab
