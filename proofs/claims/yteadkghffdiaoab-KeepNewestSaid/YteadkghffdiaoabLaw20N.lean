/- Law 20: KeepNewest. -/
import Derived.Test.YteadkghffdiaoabKeepW
import Derived.Test.YteadkghffdiaoabWakes20
import Derived.Test.YteadkghffdiaoabLaw20A
set_option linter.unusedVariables false
set_option linter.unusedSimpArgs false
set_option maxRecDepth 100000
namespace Go.Proofs.Yteadkghffdiaoab
open Go.RowKit Go.Proofs.YteadkghffdiaoabW.PrintWords

def fineS (l : List Item) : Bool := l.all pairS
theorem fine_take {l : List Item} {i : Nat} (hi : i < l.length) : fineS (l.take (i + 1)) = (fineS (l.take i) && pairS l[i]) := by
  unfold fineS
  rw [List.take_succ_eq_append_getElem hi, List.all_append]
  simp
theorem back_take {l : List Item} {i : Nat} (hi : i < l.length) : (l.take (i + 1)).reverse = [l[i]] ++ (l.take i).reverse := by
  rw [List.take_succ_eq_append_getElem hi, List.reverse_append]; rfl
theorem flat_reps1 (w : World) (base : Nat) (ok : Nat → Prop) (x : Item) : Reps (kI.M w base ok) kI.sz [x] (flatI [x]) := flat_reps (R := kI.M w base ok) (fun x => kI_mkM w base ok x) [x]
theorem of19_w (l : List Item) (key : ByteArray) (A : Option Addr) (c : Nat) (w : World) (hr : RI w A c l) (hl : l.length ≤ 1000) {r : List Item} (h : ofS key l = r) :
    Calls Try.prog 30 #[.string key, .slice A l.length c] w fun e w' => ∃ A' c', e = .returned (.slice A' r.length c') ∧ RI w' A' c' r ∧ Below w.heap.size w w' := by
  subst h
  refine (of19_c l key A c w hr hl).mono ?_
  rintro e w' ⟨v, rfl, hv, hb⟩
  obtain ⟨A', c', rfl, hR⟩ := hv.reads
  exact ⟨A', c', rfl, hR, hb⟩
theorem newest_w (l : List Item) (A : Option Addr) (c : Nat) (w : World) (hr : RI w A c l) {x : Item} {b : Bool} (h : newestS l = (x, b)) :
    Calls Try.prog 29 #[.slice A l.length c] w fun e w' => e = .returned (.tuple #[.agg (ic x), .bool b]) ∧ Below w.heap.size w w' := by
  have := newest_c l A c w hr
  rw [h] at this; exact this
theorem keys_w (l : List Item) (A : Option Addr) (c : Nat) (w : World) (hr : RI w A c l) (hl : l.length ≤ 1000) {n : Nat} (h : (keysS l).length = n) :
    Calls Try.prog 32 #[.slice A l.length c] w fun e w' => ∃ A' c', e = .returned (.slice A' n c') ∧ Below w.heap.size w w' := by
  subst h
  refine (keys_c l A c w hr hl).mono ?_
  rintro e w' ⟨v, rfl, hv, hb⟩
  obtain ⟨A', c', rfl, _⟩ := hv.reads
  exact ⟨A', c', rfl, hb⟩
theorem all_nw (l : List Item) (B : Option Addr) (d n : Nat) (w : World) (hn : n = l.length) (hs : RI w B d l) (hl : l.length ≤ 1000) {r : List Item × Int} (h : allS [] l = r) :
    Calls Try.prog 26 #[.slice none 0 0, .slice B n d] w fun e w' => ∃ A' c', e = .returned (.tuple #[.slice A' r.1.length c', .int .i64 r.2]) ∧ RI w' A' c' r.1 ∧ Below w.heap.size w w' :=
  all_n [] l none B 0 d n w hn (RI.nil w) hs (by simp) hl h

/-- What the law says of the two goes. -/
theorem two_goes {l : List Item} (hl : l.length ≤ 40) : ∃ a b : List Item, ∃ e f : Int, allS [] l = (a, e) ∧ allS [] l.reverse = (b, f) ∧ rightK a = true ∧ rightK b = true ∧ (fineS l = false → e ≠ 0 ∧ f ≠ 0) ∧
    ((e ≠ 0 ∨ f ≠ 0) → (fineS l = decide (e = 200 ∧ f = 200))) ∧
    (e = 0 → f = 0 → a = b ∧ a.length = (keysS l).length ∧ ∀ x ∈ l, getS a x.key = ((newestS (ofS x.key l)).1, 0)) := by
  have hm : ∀ x, x ∈ l ↔ x ∈ l.reverse := fun x => List.mem_reverse.symm
  have hfine : fineS l = true ↔ ∀ x ∈ l, pairS x = true := by unfold fineS; rw [List.all_eq_true]
  have hbad : ∀ m : List Item, (∃ x ∈ m, pairS x = false) → (allS [] m).2 ≠ 0 := by
    rintro m ⟨x, hx, hp⟩
    rcases all_spec m with ⟨_, h, _⟩ | ⟨h, _⟩ | ⟨h, _⟩
    · rw [h x hx] at hp; cases hp
    · rw [h]; decide
    · rw [h]; decide
  refine ⟨(allS [] l).1, (allS [] l.reverse).1, (allS [] l).2, (allS [] l.reverse).2, rfl, rfl, fold_right l ([], 0) (by decide +kernel), fold_right l.reverse ([], 0) (by decide +kernel), fun h => ?_, fun h => ?_, fun he hf => ?_⟩
  · have hex : ∃ x ∈ l, pairS x = false := by
      unfold fineS at h
      rw [List.all_eq_false] at h
      obtain ⟨x, hx, hp⟩ := h
      exact ⟨x, hx, by simpa using hp⟩
    obtain ⟨x, hx, hp⟩ := hex
    exact ⟨hbad l ⟨x, hx, hp⟩, hbad l.reverse ⟨x, (hm x).1 hx, hp⟩⟩
  · rw [Bool.eq_iff_iff, decide_eq_true_eq]
    constructor
    · intro hf
      have hp := hfine.1 hf
      rcases h with h | h
      · exact all_full hm hp h
      · have := all_full (l := l.reverse) (m := l) (fun x => (hm x).symm) (fun x hx => hp x ((hm x).2 hx)) h
        exact ⟨this.2, this.1⟩
    · rintro ⟨h1, h2⟩
      exact hfine.2 (full_both hl h1 h2)
  · rcases all_spec l with ⟨_, hp, ka⟩ | ⟨h, _⟩ | ⟨h, _⟩
    · rcases all_spec l.reverse with ⟨_, _, kb⟩ | ⟨h, _⟩ | ⟨h, _⟩
      · exact ⟨ka.same kb hm, keys_len ka, fun x hx => newest_is ka hp hx⟩
      · rw [h] at hf; cases hf
      · rw [h] at hf; cases hf
    · rw [h] at he; cases he
    · rw [h] at he; cases he

set_option maxHeartbeats 4000000 in
theorem keepNewest_c (l : List Item) (A : Option Addr) (c : Nat) (w : World) (hr : RI w A c l) :
    Calls Try.prog 5 #[.slice A l.length c] w fun e w' => e = .returned (.bool true) ∧ Below w.heap.size w w' := by
  have hm := hr.max
  have hu := Try.underlying25
  have HR := Lib.hid hr; clear hr
  go_enter Try.func5, Try.ntmps5
  cases hg : greatI l with
  | true =>
    go_wp2_with (first
      | (go_at_call 23; refine (greatI_w l A c _ HR.out hg).mono ?_; rintro e w' ⟨rfl, rfl⟩)
      | (go_at_call 24; refine (wakes_c _).mono ?_; rintro e wk ⟨rfl, hbk⟩))
    go_ret
    exact ⟨rfl, hbk⟩
  | false =>
    have hl40 := (greatI_no hg).2
    obtain ⟨a, b, e, f, ha, hb, hra, hrb, hfe, hfu, hz⟩ := two_goes hl40
    have HA := Lib.hid ha; have HBb := Lib.hid hb; have HRA := Lib.hid hra; have HRB := Lib.hid hrb; have HFE := Lib.hid hfe; have HFU := Lib.hid hfu; have HZ := Lib.hid hz
    clear ha hb hra hrb hfe hfu hz
    go_wp2_with (go_at_call 23; refine (greatI_w l A c _ HR.out hg).mono ?_; rintro e w' ⟨rfl, rfl⟩)
    go_loopw [3, 4, 5] (fun b q j wr => ∃ i : Nat, i ≤ l.length ∧ j = .int .i64 i ∧ q = .bool (fineS (l.take i)) ∧ Hid (OwnI wr w.heap.size b (l.take i).reverse) ∧ Hid (Below w.heap.size w wr)) (fun _ _ j _ => l.length - (intOf j).toNat)
    case atStart => exact ⟨0, by omega, rfl, rfl, Lib.hid (Kd.R_nil _ _ _ _ _), Lib.hid (Below.refl _ _)⟩
    case round =>
      obtain ⟨i, hi, rfl, rfl, HO, HB⟩ := hrel
      by_cases hlt : i < l.length
      · obtain ⟨ad, rfl⟩ := HR.out.some hlt
        have i0 : (0 : Int) ≤ (i : Int) := by omega
        have i1 : (i : Int) < (l.length : Int) := by omega
        have hil : i ≤ 40 := by omega
        have HRn := Lib.hid (HR.out.below HB.out)
        have HS1 := Lib.hid (fine_take hlt)
        have HS2 := Lib.hid (back_take hlt)
        have hbl : (l.take i).reverse.length = i := by rw [List.length_reverse, List.length_take]; omega
        obtain ⟨Ab, cb, rfl, hRb⟩ := HO.out.reads
        rw [hbl] at HO ⊢
        have RB := Lib.hid hRb; clear hRb
        generalize (l.take i).reverse = bk at HO HS2 RB hbl
        go_upto_region 9 with (first
          | (refine gate_ (.load 25 (.tmp 26)) rfl ?_; refine wpList_load_addr 25 (.tmp 26) rfl rfl (ad.add (i * 4)) rfl (cs := ic l[i]) (HRn.out.at4 hlt) hu rfl itemSize ?_)
          | ((with_reducible refine gate_dst (N := 28) rfl ?_); go_must (refine Kd.R_lit kI (w0 := w) w.heap.size 25 rfl (N := 28) rfl (xs := [l[i]]) (inner := flatI [l[i]]) (ok := fun _ => True) (okp := fun _ => True) (by go_simp; first | done | rfl) (flat_reps1 _ _ _ _) (fun _ hk => hk) trivial HB.out HB.out.size (by simp) ?_); intro v1 w1 hv1 hb1 hg1 hat1; have HV1 := Lib.hid hv1; have HB1 := Lib.hid hb1; have RB1 := Lib.hid (RB.out.below ((Below.refl _ _).grown hg1 (Nat.le_refl _) (fun k e => by cases e))); clear hv1 hb1 hg1 hat1)
          | ((with_reducible refine gate_dst (N := 30) rfl ?_); go_must (refine Kd.R_append_rows kI (Rr := kI.K w1) (w0 := w) w.heap.size rfl (.tmp 28) (.tmp 29) 48 25 (.agg #[.string ⟨#[]⟩, .int .i64 0, .int .i64 0, .bool false]) 40 rfl Try.underlying48 itemInfo rfl (of_decide_eq_true rfl) (of_decide_eq_true rfl) v1 [l[i]] bk Ab i cb (fun _ => True) (fun k => some k ≠ v1.ownBlock) rfl rfl HV1.out (by have h := RB1.out.r; rwa [hbl] at h) (fun x cs hK => by rw [kI_open hK]; exact kI_mkM _ _ _ x) (fun k hk => ⟨trivial, hk⟩) (fun _ _ => trivial) HB1.out HB1.out.size (by simp; omega) ?_); intro v2 w2 hv2 hb2 hg2 hat2; have HV2 := Lib.hid hv2; have HB2 := Lib.hid hb2; clear hv2 hb2 hg2 hat2))
        generalize fineS (l.take i) = fq at HS1
        cases fq with
        | false =>
          have HS1 : Hid (fineS (l.take (i + 1)) = false) := Lib.hid (by rw [HS1.out]; rfl)
          go_wp2
          go_roundw
          case rel => exact ⟨i + 1, hlt, by go_num, by rw [HS1.out], by rw [HS2.out]; exact HV2, HB2⟩
          case measure => simp [intOf]; omega
        | true =>
          have HS1 : Hid (fineS (l.take (i + 1)) = pairS l[i]) := Lib.hid (by rw [HS1.out]; rfl)
          have RL2 := Lib.hid (HR.out.below HB2.out)
          cases hp : pairS l[i] with
          | false =>
            have HP := Lib.hid hp
            go_wp2_with (first
              | (refine gate_ (.load 25 (.tmp 35)) rfl ?_; refine gate_guard (by rfl) ?_; refine wpList_load_addr 25 (.tmp 35) rfl rfl (ad.add (i * 4)) rfl (cs := ic l[i]) (RL2.out.at4 hlt) hu rfl itemSize ?_)
              | (go_at_call 25; refine (rpair_w l[i] _ HP.out).mono ?_; rintro e w3 ⟨rfl, hb3⟩; have HB3 := Lib.hid (below_step HB2.out hb3); have HV3 := Lib.hid (OwnI.below HV2.out hb3); clear hb3))
            go_roundw
            case rel => exact ⟨i + 1, hlt, by go_num, by rw [HS1.out, HP.out], by rw [HS2.out]; exact HV3, HB3⟩
            case measure => simp [intOf]; omega
          | true =>
            have HP := Lib.hid hp
            go_wp2_with (first
              | (refine gate_ (.load 25 (.tmp 35)) rfl ?_; refine gate_guard (by rfl) ?_; refine wpList_load_addr 25 (.tmp 35) rfl rfl (ad.add (i * 4)) rfl (cs := ic l[i]) (RL2.out.at4 hlt) hu rfl itemSize ?_)
              | (go_at_call 25; refine (rpair_w l[i] _ HP.out).mono ?_; rintro e w3 ⟨rfl, hb3⟩; have HB3 := Lib.hid (below_step HB2.out hb3); have HV3 := Lib.hid (OwnI.below HV2.out hb3); clear hb3))
            go_roundw
            case rel => exact ⟨i + 1, hlt, by go_num, by rw [HS1.out, HP.out], by rw [HS2.out]; exact HV3, HB3⟩
            case measure => simp [intOf]; omega
      · obtain rfl : i = l.length := by omega
        have et : l.take l.length = l := List.take_length
        rw [et] at HO ⊢
        obtain ⟨Ab, cb, rfl, hRb⟩ := HO.out.reads
        rw [List.length_reverse]
        have RBK := Lib.hid hRb; clear hRb HO
        go_upto_region 11 with (go_at_call 26; with_reducible refine Calls.mono (all_nw l A c l.length _ rfl (HR.out.below HB.out) (by omega) HA.out) ?_; rintro _ w2 ⟨Aa, ca, rfl, hR, hb⟩; have HB2 := Lib.hid (below_step HB.out hb); have RA := Lib.hid hR; have RBK2 := Lib.hid (RBK.out.below hb); clear hb hR)
        go_upto_region 12 with (go_at_call 26; with_reducible refine Calls.mono (all_nw l.reverse Ab cb l.length _ (List.length_reverse).symm RBK2.out (by rw [List.length_reverse]; omega) HBb.out) ?_; rintro _ w3 ⟨A3, c3, rfl, hR, hb⟩; have HB3 := Lib.hid (below_step HB2.out hb); have RBB := Lib.hid hR; have RA3 := Lib.hid (RA.out.below hb); clear hb hR)
        by_cases hz : e = 0 ∧ f = 0
        · obtain ⟨rfl, rfl⟩ := hz
          have hfin : fineS l = true := by
            cases h : fineS l with
            | true => rfl
            | false => exact absurd rfl (HFE.out h).1
          obtain ⟨hab, hkl, hget⟩ := HZ.out rfl rfl
          subst hab
          have HKL := Lib.hid hkl.symm
          have HG := Lib.hid hget
          rw [hfin]
          clear hfin hkl hget HZ
          go_upto_region 17 with (first
            | (go_at_call 27; with_reducible refine Calls.mono (keepRight_w _ Aa ca a RA3.out HRA.out) ?_; rintro e w4 ⟨rfl, hb⟩; have HB4 := Lib.hid (below_step HB3.out hb); have RA4 := Lib.hid (RA3.out.below hb); have RB4 := Lib.hid (RBB.out.below hb); clear hb)
            | (go_at_call 27; with_reducible refine Calls.mono (keepRight_w _ A3 c3 a RB4.out HRA.out) ?_; rintro e w5 ⟨rfl, hb⟩; have HB5 := Lib.hid (below_step HB4.out hb); have RA5 := Lib.hid (RA4.out.below hb); have RB5 := Lib.hid (RB4.out.below hb); clear hb))
          go_loopw [10] (fun j wr => ∃ i : Nat, i ≤ l.length ∧ j = .int .i64 i ∧ Hid (Below w.heap.size w wr) ∧ Hid (RI wr Aa ca a) ∧ Hid (RI wr A3 c3 a)) (fun j _ => l.length - (intOf j).toNat)
          case atStart => exact ⟨0, by omega, rfl, HB5, RA5, RB5⟩
          case round =>
            obtain ⟨i, hi, rfl, HBr, RAr, RBr⟩ := hrel
            have RLr := Lib.hid (HR.out.below HBr.out)
            by_cases hlt : i < l.length
            · obtain ⟨ad, rfl⟩ := HR.out.some hlt
              obtain ⟨f0, f1, f2, f3⟩ := ri_cells4 RLr.out hlt
              have i0 : (0 : Int) ≤ (i : Int) := by omega
              have i1 : (i : Int) < (l.length : Int) := by omega
              have HGi := Lib.hid (HG.out l[i] (List.getElem_mem hlt))
              obtain ⟨os, hos⟩ : ∃ os, ofS l[i].key l = os := ⟨_, rfl⟩
              have HOS := Lib.hid hos
              have hosl : os.length ≤ 1000 := by have := of_len l[i].key l; rw [hos] at this; omega
              rw [hos] at HGi
              obtain ⟨x, ok, hx⟩ : ∃ x ok, newestS os = (x, ok) := ⟨_, _, rfl⟩
              have HX := Lib.hid hx
              rw [hx] at HGi
              clear hos hx
              have qn := fun W => run_neq_item W x x
              have hq : itemEqB x x = true := by simp [itemEqB]
              rw [hq] at qn
              go_upto_region 20 with (first
                | (go_at_call 28; with_reducible refine Calls.mono (get_w _ Aa ca a l[i].key RAr.out HGi.out) ?_; rintro e w10 ⟨rfl, hb⟩; have HB10 := Lib.hid (below_step HBr.out hb); have RA10 := Lib.hid (RAr.out.below hb); have RB10 := Lib.hid (RBr.out.below hb); clear hb)
                | (refine gate_ (.store 25 (.tmp 11) (.tmp 100)) rfl ?_; refine wpList_store_new 25 (.tmp 11) (.tmp 100) rfl rfl rfl rfl (cs := ic x) rfl itemSize rfl (ic_one _) ?_; intro w11 k11 hb; have HB11 := Lib.hid (below_step HB10.out hb); have RA11 := Lib.hid (RA10.out.below hb); have RB11 := Lib.hid (RB10.out.below hb); clear hb))
              have RL11 := Lib.hid (HR.out.below HB11.out)
              obtain ⟨g0, g1, g2, g3⟩ := ri_cells4 RL11.out hlt
              clear f0 f1 f2 f3
              go_upto_region 21 with (first
                | (go_at_call 30; with_reducible refine Calls.mono (of19_w l l[i].key _ c _ RL11.out (by omega) HOS.out) ?_; rintro e w12 ⟨Ao, co, rfl, hO, hb⟩; have RO := Lib.hid hO; have HB12 := Lib.hid (below_step HB11.out hb); have RA12 := Lib.hid (RA11.out.below hb); have RB12 := Lib.hid (RB11.out.below hb); have k11 := blk_below k11 hb; clear hb hO)
                | (go_at_call 29; with_reducible refine Calls.mono (newest_w os Ao co _ RO.out HX.out) ?_; rintro e w13 ⟨rfl, hb⟩; have HB13 := Lib.hid (below_step HB12.out hb); have RA13 := Lib.hid (RA12.out.below hb); have RB13 := Lib.hid (RB12.out.below hb); have k11 := blk_below k11 hb; clear hb)
                | (refine gate_ (.store 25 (.tmp 13) (.tmp 111)) rfl ?_; refine wpList_store_new 25 (.tmp 13) (.tmp 111) rfl rfl rfl rfl (cs := ic x) rfl itemSize rfl (ic_one _) ?_; intro w14 k13 hb; have HB14 := Lib.hid (below_step HB13.out hb); have RA14 := Lib.hid (RA13.out.below hb); have RB14 := Lib.hid (RB13.out.below hb); have k11 := blk_below k11 hb; clear hb))
              clear g0 g1 g2 g3
              go_wp2_with (first
                | (refine gate_ (.load 25 (.tmp 11)) rfl ?_; refine gate_guard (by rfl) ?_; refine wpList_load_blk 25 (.tmp 11) rfl rfl w10.heap.size rfl k11 hu rfl itemSize ?_)
                | (refine gate_ (.load 25 (.tmp 13)) rfl ?_; refine gate_guard (by rfl) ?_; refine wpList_load_blk 25 (.tmp 13) rfl rfl w13.heap.size rfl k13 hu rfl itemSize ?_))
              go_roundw
              case rel => exact ⟨i + 1, hlt, by go_num, HB14, RA14, RB14⟩
              case measure => simp [intOf]; omega
            · obtain rfl : i = l.length := by omega
              go_wp2_with (first
                | (go_at_call 31; with_reducible refine Calls.mono (items_w a Aa A3 ca c3 _ RAr.out RBr.out) ?_; rintro e w8 ⟨rfl, hb⟩; have HB8 := Lib.hid (below_step HBr.out hb); have RL8 := Lib.hid (RLr.out.below hb); clear hb)
                | (go_at_call 32; with_reducible refine Calls.mono (keys_w l A c _ RL8.out (by omega) HKL.out) ?_; rintro e w9 ⟨Ak, ck, rfl, hb⟩; have HB9 := Lib.hid (below_step HB8.out hb); clear hb)
                | (go_at_call 24; refine (wakes_c _).mono ?_; rintro e wk ⟨rfl, hbk⟩))
              go_ret
              exact ⟨rfl, below_step HB9.out hbk⟩
        · have hz : e ≠ 0 ∨ f ≠ 0 := by
            rcases Classical.em (e = 0) with h | h
            · exact .inr (fun h2 => hz ⟨h, h2⟩)
            · exact .inl h
          have hfu := HFU.out hz
          cases hfin : fineS l with
          | true =>
            rw [hfin] at hfu
            obtain ⟨rfl, rfl⟩ := of_decide_eq_true hfu.symm
            clear hfu hz hfin HFE HFU HZ
            go_wp2_with (first
              | (go_at_call 27; with_reducible refine Calls.mono (keepRight_w _ Aa ca a RA3.out HRA.out) ?_; rintro e w4 ⟨rfl, hb⟩; have HB4 := Lib.hid (below_step HB3.out hb); have RB4 := Lib.hid (RBB.out.below hb); clear hb)
              | (go_at_call 27; with_reducible refine Calls.mono (keepRight_w _ A3 c3 b RB4.out HRB.out) ?_; rintro e w5 ⟨rfl, hb⟩; have HB5 := Lib.hid (below_step HB4.out hb); clear hb)
              | (go_at_call 24; refine (wakes_c _).mono ?_; rintro e wk ⟨rfl, hbk⟩))
            go_ret
            exact ⟨rfl, below_step HB5.out hbk⟩
          | false =>
            obtain ⟨he0, hf0⟩ := HFE.out hfin
            rw [hfin] at hfu
            have h200 := of_decide_eq_false hfu.symm
            have t1 : (e == 0) = false := beq_eq_false_iff_ne.2 he0
            have t2 : (f == 0) = false := beq_eq_false_iff_ne.2 hf0
            have t3 : (e != 0) = true := bne_iff_ne.2 he0
            have t4 : (f != 0) = true := bne_iff_ne.2 hf0
            clear hfu hz hfin HFE HFU HZ
            by_cases h2 : e = 200
            · have t5 : (f == 200) = false := beq_eq_false_iff_ne.2 (fun h => h200 ⟨h2, h⟩)
              have t6 : (e == 200) = true := beq_iff_eq.2 h2
              clear h2 h200 he0 hf0
              go_wp2_with (first
                | (go_at_call 27; with_reducible refine Calls.mono (keepRight_w _ Aa ca a RA3.out HRA.out) ?_; rintro e w4 ⟨rfl, hb⟩; have HB4 := Lib.hid (below_step HB3.out hb); have RB4 := Lib.hid (RBB.out.below hb); clear hb)
                | (go_at_call 27; with_reducible refine Calls.mono (keepRight_w _ A3 c3 b RB4.out HRB.out) ?_; rintro e w5 ⟨rfl, hb⟩; have HB5 := Lib.hid (below_step HB4.out hb); clear hb)
                | (go_at_call 24; refine (wakes_c _).mono ?_; rintro e wk ⟨rfl, hbk⟩))
              go_ret
              exact ⟨rfl, below_step HB5.out hbk⟩
            · have t6 : (e == 200) = false := beq_eq_false_iff_ne.2 h2
              clear h2 h200 he0 hf0
              go_wp2_with (first
                | (go_at_call 27; with_reducible refine Calls.mono (keepRight_w _ Aa ca a RA3.out HRA.out) ?_; rintro e w4 ⟨rfl, hb⟩; have HB4 := Lib.hid (below_step HB3.out hb); have RB4 := Lib.hid (RBB.out.below hb); clear hb)
                | (go_at_call 27; with_reducible refine Calls.mono (keepRight_w _ A3 c3 b RB4.out HRB.out) ?_; rintro e w5 ⟨rfl, hb⟩; have HB5 := Lib.hid (below_step HB4.out hb); clear hb)
                | (go_at_call 24; refine (wakes_c _).mono ?_; rintro e wk ⟨rfl, hbk⟩))
              go_ret
              exact ⟨rfl, below_step HB5.out hbk⟩

end Go.Proofs.Yteadkghffdiaoab
