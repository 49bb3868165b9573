/- slices.Insert of one pair, whole; keep.Put. -/
import Derived.Test.YteadkghffdiaoabKeepL
import Derived.Test.YteadkghffdiaoabStore
set_option linter.unusedVariables false
set_option linter.unusedSimpArgs false
set_option maxRecDepth 100000
namespace Go.Proofs.Yteadkghffdiaoab
open Go.RowKit Go.Proofs.YteadkghffdiaoabW.PrintWords

theorem insert_c (l : List Item) (x : Item) (i : Nat) (v : Value) (base b : Nat) (w : World) (hi : i ≤ l.length) (hl : l.length ≤ 1000) (hO : OwnI w base v l) (hx : w.heap[b]? = some (.cells (ic x) 25 (0, 0))) (hbne : v.ownBlock ≠ some b) (hbase : base ≤ w.heap.size) :
    Calls Try.prog 72 #[v, .int .i64 i, .slice (some ⟨b, 0, none⟩) 1 1] w fun e w' => ∃ v', e = .returned v' ∧ OwnI w' base v' (l.take i ++ x :: l.drop i) ∧ Below base w w' := by
  rcases Nat.lt_or_ge i l.length with h | h
  · obtain ⟨_, h2⟩ := hO.own
    rcases h2 with ⟨_, h0⟩ | ⟨g, c, cur, rfl, h1, h2, h3, h4, h5, h6⟩
    · omega
    · have hgb : b ≠ g := fun e => hbne (by rw [e]; rfl)
      rcases Nat.lt_or_ge c (l.length + 1) with hc | hc
      · exact (insertGrow_c l x i g c b cur w h hl h3 hc h2 h6 hx).mono fun e w' ⟨v', e1, e2, e3⟩ => ⟨v', e1, e2.lower hbase, e3.mono hbase⟩
      · exact insertRoom_c l x i g c b base cur w h hl hc h4 h1 hbase hgb h2 h5 h6 hx
  · obtain rfl : i = l.length := by omega
    have := insertEnd_c l x v base b w hO hx hbne hbase hl
    rw [List.take_length, List.drop_length]
    exact this

theorem ic_one (x : Item) : ∀ q ∈ (Value.agg (ic x)).cells.toList, q.oneCell' = true := by
  intro q hq
  have hq : q ∈ (ic x).toList := hq
  simp at hq
  rcases hq with rfl | rfl | rfl | rfl <;> rfl
theorem foundS_at {k : List Item} {key : ByteArray} (h : foundS k key = true) : ∃ hk : posS k key < k.length, k[posS k key].key = key := by
  unfold foundS at h
  rw [decide_eq_true_eq] at h
  rcases Nat.lt_or_ge (posS k key) k.length with h1 | h1
  · rw [List.getElem?_eq_getElem h1] at h
    exact ⟨h1, by simpa using h⟩
  · rw [List.getElem?_eq_none h1] at h; cases h
theorem OwnI.ne_top {w : World} {base : Nat} {v : Value} {l : List Item} (h : OwnI w base v l) : v.ownBlock ≠ some w.heap.size := by
  obtain ⟨_, h2⟩ := h.own
  rcases h2 with ⟨rfl, _⟩ | ⟨g, c, cur, rfl, h1, h2, _⟩
  · intro e; cases e
  · have := blk_lt h2
    intro e
    have := Option.some.inj e
    simp at this
    omega
theorem flat_set (l : List Item) (x : Item) (i : Nat) (hi : i < l.length) : flatI (l.set i x) = flatI (l.take i) ++ ((ic x).toList ++ flatI (l.drop (i + 1))) := by
  rw [List.set_eq_take_append_cons_drop, if_pos hi, flatI_append]; rfl
theorem own_set {w : World} {base g c : Nat} {cur cs' : Array Value} {l : List Item} {x : Item} {i : Nat} (hi : i < l.length) (h1 : base ≤ g) (h2 : w.heap[g]? = some (.cells cs' 25 (0, 0))) (h3 : l.length ≤ c) (h4 : c ≤ maxLen) (h5 : cur.size = c * 4) (h6 : cur.toList.take (l.length * 4) = flatI l)
    (hcs : cs'.toList = cur.toList.take (i * 4) ++ (ic x).toList ++ cur.toList.drop (i * 4 + (ic x).toList.length)) : OwnI w base (.slice (some ⟨g, 0, none⟩) l.length c) (l.set i x) := by
  have hxl : (ic x).toList.length = 4 := rfl
  have hcl : cur.toList.length = c * 4 := by rw [Array.length_toList, h5]
  have hsz : cs'.size = c * 4 := by
    rw [← Array.length_toList, hcs, List.length_append, List.length_append, List.length_take, List.length_drop, hxl, hcl]; omega
  refine OwnI.of ⟨by rw [flatI_len], .inr ⟨g, c, cs', by rw [List.length_set], h1, h2, by rw [List.length_set]; exact h3, h4, hsz, ?_⟩⟩
  have hct : cur.toList.take (i * 4) = flatI (l.take i) := by
    have := congrArg (List.take (i * 4)) h6
    rw [List.take_take, Nat.min_eq_left (by omega), flat_take l i (by omega)] at this
    exact this
  have hdt : (cur.toList.drop (i * 4 + 4)).take (l.length * 4 - (i * 4 + 4)) = flatI (l.drop (i + 1)) := by
    have := congrArg (List.drop ((i + 1) * 4)) h6
    rw [flat_drop l (i + 1) (by omega), List.drop_take] at this
    rw [show i * 4 + 4 = (i + 1) * 4 from by omega]
    exact this
  rw [List.length_set, flat_set l x i hi, hcs, hct, hxl, List.append_assoc]
  have hti : (flatI (l.take i)).length = i * 4 := by rw [flatI_len, List.length_take, Nat.min_eq_left (by omega)]
  have e : l.length * 4 = (flatI (l.take i)).length + ((ic x).toList.length + (l.length * 4 - (i * 4 + 4))) := by rw [hti, hxl]; omega
  rw [e, List.take_length_add_append, List.take_length_add_append, show l.length * 4 - (i * 4 + 4) = l.length * 4 - (i * 4 + 4) from rfl]
  rw [hdt]

def putS (k : List Item) (x : Item) : List Item × Int :=
  if (rightK k && pairS x) = true then
    if foundS k x.key = true then (if newerS x (k.getD (posS k x.key) Item.zero) = true then k.set (posS k x.key) x else k, 0)
    else if k.length = 24 then (k, 200) else (k.take (posS k x.key) ++ x :: k.drop (posS k x.key), 0)
  else (k, 2)
def PutJ (k : List Item) (x : Item) (A : Option Addr) (c : Nat) (w : World) (a' : Act) (w' : World) : Prop := ∃ (o : Value) (z : Int), OwnI w' w.heap.size o (putS k x).1 ∧ (putS k x).2 = z ∧ Below w.heap.size w w' ∧ ∃ (u6 u7 u8 u9 u10 u11 u12 u13 u14 u15 u16 u17 u18 u19 u20 u21 u22 u23 u24 u25 u26 u27 u28 u29 u30 u31 u32 u33 u34 u35 u36 u37 u38 u39 u40 u41 u42 u43 u44 u45 u46 : Value), a' = { tmps := #[.slice A k.length c, .agg (ic x), undef, .pointer (some ⟨w.heap.size, 0, none⟩), o, .int .i64 z, u6, u7, u8, u9, u10, u11, u12, u13, u14, u15, u16, u17, u18, u19, u20, u21, u22, u23, u24, u25, u26, u27, u28, u29, u30, u31, u32, u33, u34, u35, u36, u37, u38, u39, u40, u41, u42, u43, u44, u45, u46], defers := [] }

set_option maxHeartbeats 2000000 in
theorem put_c (k : List Item) (x : Item) (A : Option Addr) (c : Nat) (w : World) (hr : RI w A c k) (hl : k.length ≤ 1000) :
    Calls Try.prog 53 #[.slice A k.length c, .agg (ic x)] w fun e w' => ∃ v, e = .returned (.tuple #[v, .int .i64 (putS k x).2]) ∧ OwnI w' w.heap.size v (putS k x).1 ∧ Below w.heap.size w w' := by
  have hu := Try.underlying25
  have HR := Lib.hid hr; clear hr
  go_enter Try.func53, Try.ntmps53
  go_upto_region 1 with fail
  have k3 := blk_new w (.cells (ic x) 25)
  have hb := alloc_belowK w (.cells (ic x) 25)
  have HRb := Lib.hid (HR.out.below hb)
  generalize World.alloc _ _ = W at k3 hb HRb ⊢
  have HB := Lib.hid hb; clear hb
  refine wp_scope_jumps 0 (PutJ k x A c w) (fun _ _ => 0) rfl ?_ ?_
  · go_upto_region 4 with (go_at_call 54; refine (keepOwn_c k A c W HRb.out (by omega)).mono ?_; rintro e W1 ⟨o, rfl, ho, hb1⟩; have k3a := blk_below k3 hb1; have HO1 := Lib.hid (ho.lower HB.out.size); have HB1 := Lib.hid (below_step HB.out hb1); have HR1 := Lib.hid (HRb.out.below hb1); obtain ⟨Ao, co, rfl, hRo⟩ := ho.reads; have HRo := Lib.hid hRo; clear hb1 ho hRo k3)
    cases hrk : rightK k with
    | false =>
      have HP := Lib.hid (show putS k x = (k, 2) by unfold putS; rw [hrk]; rfl)
      go_wp2_with (go_at_call 27; refine (keepRight_w _ A c k HR1.out hrk).mono ?_; rintro e W2 ⟨rfl, hb2⟩; have k3b := blk_below k3a hb2; have HO2 := Lib.hid (HO1.out.below hb2); have HB2 := Lib.hid (below_step HB1.out hb2); have HRo2 := Lib.hid (HRo.out.below hb2); clear hb2 k3a HO1 HRo)
      go_step3; go_wp2
      exact ⟨rfl, _, _, by rw [HP.out]; exact HO2.out, by rw [HP.out], HB2.out, _, _, _, _, _, _, _, _, _, _, _, _, _, _, _, _, _, _, _, _, _, _, _, _, _, _, _, _, _, _, _, _, _, _, _, _, _, _, _, _, _, rfl⟩
    | true =>
      cases hp : pairS x with
      | false =>
        have HP := Lib.hid (show putS k x = (k, 2) by unfold putS; rw [hrk, hp]; rfl)
        go_wp2_with (first
          | (go_at_call 27; refine (keepRight_w _ A c k HR1.out hrk).mono ?_; rintro e W2 ⟨rfl, hb2⟩; have k3b := blk_below k3a hb2; have HO2 := Lib.hid (HO1.out.below hb2); have HB2 := Lib.hid (below_step HB1.out hb2); have HRo2 := Lib.hid (HRo.out.below hb2); clear hb2 k3a HO1 HRo)
          | (refine gate_ (.load 25 (.tmp 3)) rfl ?_; refine gate_guard (by rfl) ?_; refine wpList_load_blk 25 (.tmp 3) rfl rfl w.heap.size rfl k3b hu rfl itemSize ?_)
          | (go_at_call 70; refine (pair_w x _ hp).mono ?_; rintro e W3 ⟨rfl, hb3⟩; have k3c := blk_below k3b hb3; have HO3 := Lib.hid (HO2.out.below hb3); have HB3 := Lib.hid (below_step HB2.out hb3); have HRo3 := Lib.hid (HRo2.out.below hb3); clear hb3 k3b HO2 HRo2))
        go_step3; go_wp2
        exact ⟨rfl, _, _, by rw [HP.out]; exact HO3.out, by rw [HP.out], HB3.out, _, _, _, _, _, _, _, _, _, _, _, _, _, _, _, _, _, _, _, _, _, _, _, _, _, _, _, _, _, _, _, _, _, _, _, _, _, _, _, _, _, rfl⟩
      | true =>
        have HS := Lib.hid (rightK_sorted hrk)
        have hlen := rightK_len hrk
        go_upto_region 7 with (first
          | (go_at_call 27; refine (keepRight_w _ A c k HR1.out hrk).mono ?_; rintro e W2 ⟨rfl, hb2⟩; have k3b := blk_below k3a hb2; have HO2 := Lib.hid (HO1.out.below hb2); have HB2 := Lib.hid (below_step HB1.out hb2); have HRo2 := Lib.hid (HRo.out.below hb2); clear hb2 k3a HO1 HRo)
          | (refine gate_ (.load 25 (.tmp 3)) rfl ?_; refine gate_guard (by rfl) ?_; refine wpList_load_blk 25 (.tmp 3) rfl rfl w.heap.size rfl k3b hu rfl itemSize ?_)
          | (go_at_call 70; refine (pair_w x _ hp).mono ?_; rintro e W3 ⟨rfl, hb3⟩; have k3c := blk_below k3b hb3; have HO3 := Lib.hid (HO2.out.below hb3); have HB3 := Lib.hid (below_step HB2.out hb3); have HRo3 := Lib.hid (HRo2.out.below hb3); have q3 := cells_all k3c; clear hb3 k3b HO2 HRo2)
          | (go_at_call 56; refine (place_kc k x.key Ao co _ HRo3.out (by omega) HS.out).mono ?_; rintro e W4 ⟨rfl, hb4⟩; have k3d := blk_below k3c hb4; have HO4 := Lib.hid (HO3.out.below hb4); have HB4 := Lib.hid (below_step HB3.out hb4); have HRo4 := Lib.hid (HRo3.out.below hb4); clear hb4 q3 k3c HO3 HRo3))
        cases hf : foundS k x.key with
        | false =>
          by_cases h24 : k.length = 24
          · have HP := Lib.hid (show putS k x = (k, 200) by unfold putS; rw [hrk, hp, hf, if_pos (by rfl), if_neg (by simp), if_pos h24])
            have h24b : ((k.length : Int) == 24) = true := by rw [beq_iff_eq]; omega
            go_wp2
            go_step3; go_wp2
            exact ⟨rfl, _, _, by rw [HP.out]; exact HO4.out, by rw [HP.out], HB4.out, _, _, _, _, _, _, _, _, _, _, _, _, _, _, _, _, _, _, _, _, _, _, _, _, _, _, _, _, _, _, _, _, _, _, _, _, _, _, _, _, _, rfl⟩
          · have HP := Lib.hid (show putS k x = (k.take (posS k x.key) ++ x :: k.drop (posS k x.key), 0) by unfold putS; rw [hrk, hp, hf, if_pos (by rfl), if_neg (by simp), if_neg h24])
            have h24b : ((k.length : Int) == 24) = false := by rw [beq_eq_false_iff_ne]; omega
            go_wp2_with (first
              | (refine gate_ (.load 25 (.tmp 3)) rfl ?_; refine wpList_load_blk 25 (.tmp 3) rfl rfl w.heap.size rfl k3d hu rfl itemSize ?_)
              | (go_at_call 72; have k5 := blk_new W4 (.cells (ic x) 25); have hb5 := alloc_belowK W4 (.cells (ic x) 25); have HB5 := Lib.hid (below_step HB4.out hb5); refine (insert_c k x (posS k x.key) _ w.heap.size W4.heap.size _ (posS_le _ _) (by omega) (HO4.out.below hb5) k5 HO4.out.ne_top (Nat.le_trans HB4.out.size hb5.size)).mono ?_; rintro e W6 ⟨v6, rfl, hv6, hb6⟩; have HB6 := Lib.hid (HB5.out.trans hb6); have HO6 := Lib.hid hv6; clear hb6 hv6 k5 hb5))
            simp only [Exit.jump]
            go_ret2
            exact ⟨_, by rw [HP.out]; rfl, by rw [HP.out]; exact HO6.out, HB6.out⟩
        | true =>
          obtain ⟨hpl, hpk⟩ := foundS_at hf
          have hgd : k.getD (posS k x.key) Item.zero = k[posS k x.key] := pairAt_get hpl
          obtain ⟨_, hown⟩ := HO4.out.own
          obtain ⟨g, hown⟩ : ∃ g cap cur, Value.slice Ao k.length co = .slice (some ⟨g, 0, none⟩) k.length cap ∧ w.heap.size ≤ g ∧ W4.heap[g]? = some (.cells cur 25 (0, 0)) ∧ k.length ≤ cap ∧ cap ≤ maxLen ∧ cur.size = cap * 4 ∧ cur.toList.take (k.length * 4) = flatI k := by
            rcases hown with ⟨_, h0⟩ | h
            · omega
            · exact h
          obtain ⟨cap, cur, heq, h1, h2, h3, h4, h5, h6⟩ := hown
          obtain ⟨rfl, rfl⟩ : Ao = some ⟨g, 0, none⟩ ∧ co = cap := by
            injection heq with a1 a2 a3; exact ⟨a1, a3⟩
          clear heq
          have i0 : (0 : Int) ≤ (posS k x.key : Int) := by omega
          have i1 : (posS k x.key : Int) < (k.length : Int) := by omega
          have sk : Below W4.heap.size W4 W4.drew := below_drewN (Below.refl _ _) 1
          have hadd : (⟨g, 0, none⟩ : Addr).add (posS k x.key * 4) = ⟨g, posS k x.key * 4, none⟩ := by unfold Addr.add; split <;> simp_all
          have b4 : ∀ W1, Below W4.heap.size W4 W1 → ∀ j v, (ic k[posS k x.key])[j]? = some v → W1.cell? ((⟨g, posS k x.key * 4, none⟩ : Addr).add j) = some v := fun W1 h => by rw [← hadd]; exact (HRo4.out.below h).at4 hpl
          clear hadd
          have k4 : ∀ W1, Below W4.heap.size W4 W1 → W1.heap[w.heap.size]? = some (.cells (ic x) 25 (0, 0)) := fun W1 h => blk_below k3d h
          have H2 := Lib.hid h2
          have HD := Lib.hid (show putS k x = (if newerS x k[posS k x.key] = true then k.set (posS k x.key) x else k, 0) by unfold putS; rw [hrk, hp, hf, if_pos (by rfl), if_pos rfl, hgd])
          clear hgd h2 h5 h6 h3
          go_upto_region 8 with fail
          try simp only [List.append_eq, List.cons_append, List.nil_append]
          refine region_ord (Below W4.heap.size W4) [(0, false), (1, false), (2, false), (3, false), (4, false), (5, true)] (by kernel_rfl) (by kernel_rfl) rfl (by kernel_rfl) sk ?_
          iterate 6 ((first | (refine ord_skip rfl rfl ?_; (try simp only [Act.put, List.setIfInBounds_toArray, List.set_cons_zero, List.set_cons_succ])) | ((first | refine ord_load_blk 25 (.tmp 3) rfl rfl rfl w.heap.size rfl k4 hu rfl itemSize ?_ | refine ord_load_addr 25 (.tmp 29) rfl rfl rfl ⟨g, posS k x.key * 4, none⟩ rfl (cs := ic k[posS k x.key]) b4 hu rfl itemSize ?_ | (with_reducible refine ord_callB 71 rfl rfl rfl (newer_c x k[posS k x.key] _) (fun w' hb => below_step sk hb) ?_ ?_; (· (go_simp; done)); intro wn sk)); (try simp only [Act.put, List.setIfInBounds_toArray, List.set_cons_zero, List.set_cons_succ])) | (refine ord_val (v := ?_) rfl rfl (fun W1 hW1 => ?_) ?_; rotate_left; (· (go_simp; try with_reducible rfl)); (try simp only [Act.put, List.setIfInBounds_toArray, List.set_cons_zero, List.set_cons_succ]))))
          refine ord_nil ?_
          clear b4
          have HBn := Lib.hid (below_step HB4.out sk)
          have k3e := k4 _ sk
          clear k4
          cases hnw : newerS x k[posS k x.key] with
          | false =>
            have HOn := Lib.hid (HO4.out.below sk)
            have HP := Lib.hid (show putS k x = (k, 0) by rw [HD.out, hnw]; rfl)
            go_wp2
            simp only [Exit.jump]
            go_ret2
            exact ⟨_, by rw [HP.out]; rfl, by rw [HP.out]; exact HOn.out, HBn.out⟩
          | true =>
            have HP := Lib.hid (show putS k x = (k.set (posS k x.key) x, 0) by rw [HD.out, hnw]; rfl)
            have hown4 := (HO4.out.below sk).own.2
            obtain ⟨cur4, k6, m3, m5, m6⟩ : ∃ cur, wn.heap[g]? = some (.cells cur 25 (0, 0)) ∧ k.length ≤ co ∧ cur.size = co * 4 ∧ cur.toList.take (k.length * 4) = flatI k := by
              rcases hown4 with ⟨he, _⟩ | ⟨g', c', cur', he, _, a2, a3, _, a5, a6⟩
              · injection he with a1 _ _; cases a1
              · injection he with a1 a2' a3'
                have a1' := congrArg Addr.block (Option.some.inj a1)
                simp only at a1'
                subst a1' a3'
                exact ⟨cur', a2, a3, a5, a6⟩
            clear hown4
            have hxl : (ic x).toList.length = 4 := rfl
            have hfit : posS k x.key * 4 + (ic x).toList.length ≤ cur4.size := by rw [hxl, m5]; omega
            obtain ⟨cs', hcs⟩ : ∃ cs' : Array Value, cs'.toList = cur4.toList.take (posS k x.key * 4) ++ (ic x).toList ++ cur4.toList.drop (posS k x.key * 4 + (ic x).toList.length) := ⟨_, List.toList_toArray ..⟩
            have HCS := Lib.hid hcs
            have M := Lib.hid (And.intro h1 (And.intro m3 (And.intro h4 (And.intro m5 m6))))
            clear m3 m5 m6 hcs hxl
            go_wp2_with (first
              | (refine gate_ (.load 25 (.tmp 3)) rfl ?_; refine wpList_load_blk 25 (.tmp 3) rfl rfl w.heap.size rfl k3e hu rfl itemSize ?_)
              | (refine gate_ (.store 25 (.tmp 35) (.tmp 34)) rfl ?_; refine wpList_store_at 25 (.tmp 35) (.tmp 34) rfl rfl rfl g (posS k x.key * 4) rfl (v := .agg (ic x)) rfl k6 itemSize hfit (ic_one x) HCS.out ?_; intro W7 k7 hg7; have HB7 := Lib.hid (HBn.out.grown hg7 HBn.out.size (fun k e => by have := Option.some.inj e; omega)); clear hg7))
            simp only [Exit.jump]
            go_ret2
            exact ⟨_, by rw [HP.out]; rfl, by rw [HP.out]; exact own_set hpl M.out.1 k7 M.out.2.1 M.out.2.2.1 M.out.2.2.2.1 M.out.2.2.2.2 HCS.out, HB7.out⟩
  · rintro a' w' ⟨o, z, HO, hz, HBz, u6, u7, u8, u9, u10, u11, u12, u13, u14, u15, u16, u17, u18, u19, u20, u21, u22, u23, u24, u25, u26, u27, u28, u29, u30, u31, u32, u33, u34, u35, u36, u37, u38, u39, u40, u41, u42, u43, u44, u45, u46, rfl⟩
    go_wp2
    simp only [Exit.jump]
    go_ret2
    exact ⟨_, by rw [hz]; rfl, HO, HBz⟩

end Go.Proofs.Yteadkghffdiaoab
