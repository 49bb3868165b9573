/- keep.pairs: the iterator over a keep's pairs. -/
import Derived.Test.YteadkghffdiaoabKeepD
import Derived.Test.YteadkghffdiaoabPreIn
set_option linter.unusedVariables false
set_option linter.unusedSimpArgs false
set_option maxRecDepth 100000
namespace Go.Proofs.Yteadkghffdiaoab
open Go.RowKit Go.Shelf Go.Proofs.YteadkghffdiaoabW.PrintWords
attribute [local go_sem] Oper.semAt_some

def pairAt (l : List Item) (k : Nat) : Item × Bool := (l.getD k Item.zero, pairS (l.getD k Item.zero) && (decide (k = 0) || ltS (l.getD (k - 1) Item.zero).key (l.getD k Item.zero).key))
def pairsTo (l : List Item) (k : Nat) : List (Item × Bool) := (List.range k).map (pairAt l)
theorem pairsTo_succ (l : List Item) (k : Nat) : pairsTo l (k + 1) = pairsTo l k ++ [pairAt l k] := by simp [pairsTo, List.range_succ]
theorem pairsTo_length (l : List Item) (k : Nat) : (pairsTo l k).length = k := by simp [pairsTo]
theorem pairAt_get {l : List Item} {k : Nat} (hk : k < l.length) : l.getD k Item.zero = l[k] := by rw [List.getD_eq_getElem?_getD, List.getElem?_eq_getElem hk]; rfl

theorem ri_cells4 {w : World} {ad : Addr} {c : Nat} {l : List Item} (h : RI w (some ad) c l) {k : Nat} (hk : k < l.length) : w.cell? (ad.add (k * 4)) = some (.string l[k].key) ∧ w.cell? ⟨(ad.add (k * 4)).block, (ad.add (k * 4)).off + 1, none⟩ = some (.int .i64 l[k].value) ∧
    w.cell? ⟨(ad.add (k * 4)).block, (ad.add (k * 4)).off + 2, none⟩ = some (.int .i64 l[k].version) ∧ w.cell? ⟨(ad.add (k * 4)).block, (ad.add (k * 4)).off + 3, none⟩ = some (.bool l[k].gone) := by
  obtain ⟨ad', e, hc⟩ := h.get hk
  cases e
  refine ⟨hc 0 _ rfl, ?_, ?_, ?_⟩
  · rw [← add_field _ _ 1 (by omega)]; exact hc 1 _ rfl
  · rw [← add_field _ _ 2 (by omega)]; exact hc 2 _ rfl
  · rw [← add_field _ _ 3 (by omega)]; exact hc 3 _ rfl
/-- What a body keeps: what is older, and every block of cells. -/
def KeepB (w A B : World) : Prop := Below w.heap.size A B ∧ ∀ (g : Nat) (cs : Array Value) (t : TypeId), w.heap.size ≤ g → A.heap[g]? = some (.cells cs t (0, 0)) → B.heap[g]? = some (.cells cs t (0, 0))
theorem KeepB.trans {w A B C : World} (h : KeepB w A B) (k : KeepB w B C) : KeepB w A C := ⟨h.1.trans k.1, fun g cs t hg hA => k.2 g cs t hg (h.2 g cs t hg hA)⟩

set_option maxHeartbeats 400000 in
theorem pairs_c (A : Option Addr) (n c : Nat) (w : World) : Calls Try.prog 55 #[.slice A n c] w fun e w' => e = .returned (.func (.func 74) #[] #[.pointer (some ⟨w.heap.size, 0, none⟩)]) ∧ w' = w.alloc (.cells #[.slice A n c] 48) := by
  go_enter Try.func55, Try.ntmps55
  go_wp2
  go_ret
  exact ⟨rfl, rfl⟩

structure PS (x : Item) (g : Nat) (w : World) (w' : World) : Prop where
  k4 : w'.heap[g]? = some (.cells (ic x) 25 (0, 0))
  below : Below w.heap.size w w'
theorem PS.step {x : Item} {g : Nat} {w w1 w2 : World} (h : PS x g w w1) (hb : Below w1.heap.size w1 w2) : PS x g w w2 := ⟨blk_below h.k4 hb, below_step h.below hb⟩
theorem PS.kept {x : Item} {g : Nat} {w w1 w2 : World} (h : PS x g w w1) (hk : KeepB w w1 w2) (hg : w.heap.size ≤ g) : PS x g w w2 := ⟨hk.2 g _ _ hg h.k4, h.below.trans hk.1⟩
theorem pair_w (x : Item) (w : World) {b : Bool} (hb : pairS x = b) : Calls Try.prog 70 #[.agg (ic x)] w fun e w' => e = .returned (.bool b) ∧ Below w.heap.size w w' := by subst hb; exact pair_c x w

set_option maxHeartbeats 4000000 in
theorem pairs1_in (n : Nat) (hn : 1 ≤ n) (w : World) (B1 : Nat) (A : Option Addr) (c : Nat) (l : List Item)
    (h1 : w.cell? ⟨B1, 0, none⟩ = some (.slice A l.length c)) (hr : RI w A c l) :
    SeqR Fence.wide n Try.prog 74 #[.pointer (some ⟨B1, 0, none⟩)] (fun x : Item × Bool => #[.agg (ic x.1), .bool x.2]) none (fun pre x _ => x = pairAt l pre.length) (KeepB w)
      (fun xs => xs = pairsTo l l.length) (fun pre => ∃ k, k ≤ l.length ∧ pre = pairsTo l k) w := by
  intro lp J Jx W hW hJ hY h0
  have hm := hr.max
  have hle := hr.le
  have hu := Try.underlying25
  have HR := Lib.hid hr; clear hr
  have hro : Fence.wide.round = none := rfl
  have wf : Fence.wide.fn 70 := trivial
  refine callsIn_of_wp Try.func74 rfl trivial ?_ hro
  simp only [Try.ntmps74, List.size_toArray, List.length_cons, List.length_nil, Nat.reduceAdd, Nat.reduceSub, Array.replicate_succ, Array.replicate_zero, List.push_toArray, List.append_toArray, List.nil_append, List.cons_append]
  have c1 := (hW.cell (p := ⟨B1, 0, none⟩) (World.block_lt_of_cell? w _ h1)).trans h1
  gi_wp2
  gi_loopw [7] (fun i wr => ∃ k : Nat, k ≤ l.length ∧ i = .int .i64 k ∧ J (pairsTo l k) wr ∧ Hid (Below w.heap.size w wr)) (fun i _ => l.length - (intOf i).toNat)
  case atStart => exact ⟨0, Nat.zero_le _, rfl, h0, Lib.hid hW⟩
  case round =>
    obtain ⟨k, hk, rfl, hJs, hB⟩ := hrel
    clear c1
    by_cases hlt : k < l.length
    · obtain ⟨ad, rfl⟩ := HR.out.some hlt
      have i0 : (0 : Int) ≤ (k : Int) := by omega
      have i1 : (k : Int) < (l.length : Int) := by omega
      have i2 : (k : Int) ≤ (c : Int) := by omega
      obtain ⟨f0, f1, f2, f3⟩ := ri_cells4 (HR.out.below hB.out) hlt
      gi_wp2
      have hJ4 := hJ _ _ _ hJs (World.grownBy_alloc wr (.cells (ic l[k]) 25) none)
      have k4 := blk_new wr (.cells (ic l[k]) 25)
      have hB4 := below_step hB.out (alloc_belowK wr (.cells (ic l[k]) 25))
      have hg : w.heap.size ≤ wr.heap.size := hB.out.size
      generalize World.alloc _ _ = W4 at hJ4 k4 hB4 ⊢
      generalize wr.heap.size = g at k4 hg ⊢
      clear f0 f1 f2 f3 hJs hB
      have sk : PS l[k] g w W4.drew := ⟨k4, below_drewN hB4 1⟩
      have b4 : ∀ W1, PS l[k] g w W1 → _ := fun W1 h => h.k4
      have e1 : ∀ W1, PS l[k] g w W1 → W1.cell? ⟨B1, 0, none⟩ = some (.slice (some ad) l.length c) := fun W1 h => (h.below.cell (p := ⟨B1, 0, none⟩) (World.block_lt_of_cell? w _ h1)).trans h1
      have e2 : ∀ W1, PS l[k] g w W1 → W1.cell? ⟨g, 0, none⟩ = some (.string l[k].key) := fun W1 h => cells_all h.k4 0
      have hJd : J (pairsTo l k) W4.drew := hJ _ _ _ hJ4 (grown_of_below (below_drewN (Below.refl _ _) 1) none)
      clear hJ4 k4 hB4
      cases hp : pairS l[k] with
      | false =>
        have HV := Lib.hid (show pairAt l k = (l[k], false) by unfold pairAt; rw [pairAt_get hlt, hp]; rfl)
        refine region_ordP (PS l[k] g w) 20 19 [(0, false), (1, false), (2, false), (3, true), (4, false), (5, false), (6, false), (7, false), (8, false), (9, false), (10, false), (11, false), (12, false), (13, false), (14, false), (15, false), (16, false), (17, false), (18, false)] rfl (by kernel_rfl) (by kernel_rfl) rfl (by kernel_rfl) (by kernel_rfl) sk ?_
        iterate 3 ((first | (refine ordP_skip rfl rfl (fun _ => rfl) ?_; (try simp only [Act.put, List.setIfInBounds_toArray, List.set_cons_zero, List.set_cons_succ])) | ((refine ordP_load_blk 25 (.tmp 4) rfl rfl rfl (fun _ => rfl) g rfl b4 hu rfl itemSize ?_); (try simp only [Act.put, List.setIfInBounds_toArray, List.set_cons_zero, List.set_cons_succ])) | (refine ordP_val (v := ?_) rfl rfl (fun _ => rfl) (fun W1 hW1 => ?_) ?_; rotate_left; (· (go_simp; try with_reducible rfl)); (try simp only [Act.put, List.setIfInBounds_toArray, List.set_cons_zero, List.set_cons_succ]))))
        refine ordP_callR 70 rfl rfl rfl rfl (fun _ _ => trivial) (fun h => by cases h) (callsIn_wide.2 (pair_w l[k] _ hp)) (by go_simp; done) ?_
        intro W5 hb5
        have sk := sk.step hb5
        have hJ5 := hJ _ _ _ hJd (grown_of_below hb5 none)
        refine ⟨sk, ?_⟩
        (try simp only [Act.put, List.setIfInBounds_toArray, List.set_cons_zero, List.set_cons_succ])
        clear hJd hb5
        iterate 15 ((first | (refine ordP_skip rfl rfl (fun _ => rfl) ?_; (try simp only [Act.put, List.setIfInBounds_toArray, List.set_cons_zero, List.set_cons_succ])) | ((fail); (try simp only [Act.put, List.setIfInBounds_toArray, List.set_cons_zero, List.set_cons_succ])) | (refine ordP_val (v := ?_) rfl rfl (fun _ => rfl) (fun W1 hW1 => ?_) ?_; rotate_left; (· (go_simp; try with_reducible rfl)); (try simp only [Act.put, List.setIfInBounds_toArray, List.set_cons_zero, List.set_cons_succ]))))
        obtain ⟨fn, tmps, assign, body, hy, hR⟩ := hY _ (pairAt l (k)) W5 hJ5 (by rw [pairsTo_length])
        rw [HV.out] at hy
        have hy2 : (Instr.yield lp #[.agg (ic l[k]), .bool false]).run Try.prog W5 = .ok (.round lp fn tmps assign body) W5 := hy
        clear hy
        refine ordP_yield rfl rfl rfl (fun _ _ => trivial) (fun h => by cases h) (by go_simp; done) hR rfl ?_
        rintro e W6 (⟨rfl, hJ6, hk6⟩ | ⟨rfl, hJx6⟩)
        · refine ⟨_, .bool false, rfl, rfl, (fun _ _ => trivial), (by go_simp; done), ?_⟩
          refine NoPanic.normal ?_
          have HB6 := Lib.hid (sk.below.trans hk6.1)
          (try simp only [Act.put, List.setIfInBounds_toArray, List.set_cons_zero, List.set_cons_succ])
          clear hR hy2 b4 e1 e2 hk6
          gi_wp2
          go_roundw
          case rel => exact ⟨k + 1, by omega, by go_num, by rw [pairsTo_succ]; exact hJ6, HB6⟩
          case measure => simp [intOf]; omega
        · refine ⟨_, .bool true, rfl, rfl, (fun _ _ => trivial), (by go_simp; done), ?_⟩
          refine NoPanic.normal ?_
          (try simp only [Act.put, List.setIfInBounds_toArray, List.set_cons_zero, List.set_cons_succ])
          clear hR hy2 b4 e1 e2
          gi_wp2
          refine bodyPost_ret (results_none rfl _ _ _) rfl ?_
          exact ⟨⟨_, rfl⟩, .inr ⟨_, ⟨k + 1, by omega, (pairsTo_succ _ _).symm⟩, hJx6⟩⟩
      | true =>
        by_cases hk0 : k = 0
        · have HV := Lib.hid (show pairAt l k = (l[k], true) by unfold pairAt; rw [pairAt_get hlt, hp, decide_eq_true hk0]; rfl)
          have hkb : ((k : Int) == 0) = true := by simp [hk0]
          clear hk0
          refine region_ordP (PS l[k] g w) 20 19 [(0, false), (1, false), (2, false), (3, true), (4, false), (5, false), (6, false), (7, false), (8, false), (9, false), (10, false), (11, false), (12, false), (13, false), (14, false), (15, false), (16, false), (17, false), (18, false)] rfl (by kernel_rfl) (by kernel_rfl) rfl (by kernel_rfl) (by kernel_rfl) sk ?_
          iterate 3 ((first | (refine ordP_skip rfl rfl (fun _ => rfl) ?_; (try simp only [Act.put, List.setIfInBounds_toArray, List.set_cons_zero, List.set_cons_succ])) | ((refine ordP_load_blk 25 (.tmp 4) rfl rfl rfl (fun _ => rfl) g rfl b4 hu rfl itemSize ?_); (try simp only [Act.put, List.setIfInBounds_toArray, List.set_cons_zero, List.set_cons_succ])) | (refine ordP_val (v := ?_) rfl rfl (fun _ => rfl) (fun W1 hW1 => ?_) ?_; rotate_left; (· (go_simp; try with_reducible rfl)); (try simp only [Act.put, List.setIfInBounds_toArray, List.set_cons_zero, List.set_cons_succ]))))
          refine ordP_callR 70 rfl rfl rfl rfl (fun _ _ => trivial) (fun h => by cases h) (callsIn_wide.2 (pair_w l[k] _ hp)) (by go_simp; done) ?_
          intro W5 hb5
          have sk := sk.step hb5
          have hJ5 := hJ _ _ _ hJd (grown_of_below hb5 none)
          refine ⟨sk, ?_⟩
          (try simp only [Act.put, List.setIfInBounds_toArray, List.set_cons_zero, List.set_cons_succ])
          clear hJd hb5
          iterate 15 ((first | (refine ordP_skip rfl rfl (fun _ => rfl) ?_; (try simp only [Act.put, List.setIfInBounds_toArray, List.set_cons_zero, List.set_cons_succ])) | ((fail); (try simp only [Act.put, List.setIfInBounds_toArray, List.set_cons_zero, List.set_cons_succ])) | (refine ordP_val (v := ?_) rfl rfl (fun _ => rfl) (fun W1 hW1 => ?_) ?_; rotate_left; (· (go_simp; try with_reducible rfl)); (try simp only [Act.put, List.setIfInBounds_toArray, List.set_cons_zero, List.set_cons_succ]))))
          obtain ⟨fn, tmps, assign, body, hy, hR⟩ := hY _ (pairAt l (k)) W5 hJ5 (by rw [pairsTo_length])
          rw [HV.out] at hy
          have hy2 : (Instr.yield lp #[.agg (ic l[k]), .bool true]).run Try.prog W5 = .ok (.round lp fn tmps assign body) W5 := hy
          clear hy
          refine ordP_yield rfl rfl rfl (fun _ _ => trivial) (fun h => by cases h) (by go_simp; done) hR rfl ?_
          rintro e W6 (⟨rfl, hJ6, hk6⟩ | ⟨rfl, hJx6⟩)
          · refine ⟨_, .bool false, rfl, rfl, (fun _ _ => trivial), (by go_simp; done), ?_⟩
            refine NoPanic.normal ?_
            have HB6 := Lib.hid (sk.below.trans hk6.1)
            (try simp only [Act.put, List.setIfInBounds_toArray, List.set_cons_zero, List.set_cons_succ])
            clear hR hy2 b4 e1 e2 hk6
            gi_wp2
            go_roundw
            case rel => exact ⟨k + 1, by omega, by go_num, by rw [pairsTo_succ]; exact hJ6, HB6⟩
            case measure => simp [intOf]; omega
          · refine ⟨_, .bool true, rfl, rfl, (fun _ _ => trivial), (by go_simp; done), ?_⟩
            refine NoPanic.normal ?_
            (try simp only [Act.put, List.setIfInBounds_toArray, List.set_cons_zero, List.set_cons_succ])
            clear hR hy2 b4 e1 e2
            gi_wp2
            refine bodyPost_ret (results_none rfl _ _ _) rfl ?_
            exact ⟨⟨_, rfl⟩, .inr ⟨_, ⟨k + 1, by omega, (pairsTo_succ _ _).symm⟩, hJx6⟩⟩
        · obtain ⟨j, hj⟩ : ∃ j, j = k - 1 := ⟨_, rfl⟩
          have ej : (k : Int) - 1 = (j : Int) := by omega
          have hjl : j < l.length := by omega
          have j0 : (0 : Int) ≤ (j : Int) := by omega
          have j1 : (j : Int) < (l.length : Int) := by omega
          have hkb : ((k : Int) == 0) = false := by simp [hk0]
          have ewj : IntKind.i64.wrap (j : Int) = (j : Int) := IntWalk.i64_in _ (by omega)
          have e3 : ∀ W1, PS l[k] g w W1 → W1.cell? (ad.add (j * 4)) = some (.string l[j].key) := fun W1 h => (ri_cells4 (HR.out.below h.below) hjl).1
          have hv : pairAt l k = (l[k], Op.bytesLess l[j].key.toList l[k].key.toList) := by
            unfold pairAt
            rw [pairAt_get hlt, hp, decide_eq_false hk0, ← hj, pairAt_get hjl]; rfl
          clear hj
          cases hq : Op.bytesLess l[j].key.toList l[k].key.toList with
          | false =>
            rw [hq] at hv
            have HV := Lib.hid hv; clear hv
            refine region_ordP (PS l[k] g w) 20 19 [(0, false), (1, false), (2, false), (3, true), (4, false), (5, false), (6, false), (7, false), (8, false), (9, false), (10, false), (11, false), (12, false), (13, false), (14, false), (15, false), (16, false), (17, false), (18, false)] rfl (by kernel_rfl) (by kernel_rfl) rfl (by kernel_rfl) (by kernel_rfl) sk ?_
            iterate 3 ((first | (refine ordP_skip rfl rfl (fun _ => rfl) ?_; (try simp only [Act.put, List.setIfInBounds_toArray, List.set_cons_zero, List.set_cons_succ])) | ((refine ordP_load_blk 25 (.tmp 4) rfl rfl rfl (fun _ => rfl) g rfl b4 hu rfl itemSize ?_); (try simp only [Act.put, List.setIfInBounds_toArray, List.set_cons_zero, List.set_cons_succ])) | (refine ordP_val (v := ?_) rfl rfl (fun _ => rfl) (fun W1 hW1 => ?_) ?_; rotate_left; (· (go_simp; try with_reducible rfl)); (try simp only [Act.put, List.setIfInBounds_toArray, List.set_cons_zero, List.set_cons_succ]))))
            refine ordP_callR 70 rfl rfl rfl rfl (fun _ _ => trivial) (fun h => by cases h) (callsIn_wide.2 (pair_w l[k] _ hp)) (by go_simp; done) ?_
            intro W5 hb5
            have sk := sk.step hb5
            have hJ5 := hJ _ _ _ hJd (grown_of_below hb5 none)
            refine ⟨sk, ?_⟩
            (try simp only [Act.put, List.setIfInBounds_toArray, List.set_cons_zero, List.set_cons_succ])
            clear hJd hb5
            iterate 15 ((first | (refine ordP_skip rfl rfl (fun _ => rfl) ?_; (try simp only [Act.put, List.setIfInBounds_toArray, List.set_cons_zero, List.set_cons_succ])) | ((fail); (try simp only [Act.put, List.setIfInBounds_toArray, List.set_cons_zero, List.set_cons_succ])) | (refine ordP_val (v := ?_) rfl rfl (fun _ => rfl) (fun W1 hW1 => ?_) ?_; rotate_left; (· (go_simp; try with_reducible rfl)); (try simp only [Act.put, List.setIfInBounds_toArray, List.set_cons_zero, List.set_cons_succ]))))
            obtain ⟨fn, tmps, assign, body, hy, hR⟩ := hY _ (pairAt l (k)) W5 hJ5 (by rw [pairsTo_length])
            rw [HV.out] at hy
            have hy2 : (Instr.yield lp #[.agg (ic l[k]), .bool false]).run Try.prog W5 = .ok (.round lp fn tmps assign body) W5 := hy
            clear hy
            refine ordP_yield rfl rfl rfl (fun _ _ => trivial) (fun h => by cases h) (by go_simp; done) hR rfl ?_
            rintro e W6 (⟨rfl, hJ6, hk6⟩ | ⟨rfl, hJx6⟩)
            · refine ⟨_, .bool false, rfl, rfl, (fun _ _ => trivial), (by go_simp; done), ?_⟩
              refine NoPanic.normal ?_
              have HB6 := Lib.hid (sk.below.trans hk6.1)
              (try simp only [Act.put, List.setIfInBounds_toArray, List.set_cons_zero, List.set_cons_succ])
              clear hR hy2 b4 e1 e2 hk6
              gi_wp2
              go_roundw
              case rel => exact ⟨k + 1, by omega, by go_num, by rw [pairsTo_succ]; exact hJ6, HB6⟩
              case measure => simp [intOf]; omega
            · refine ⟨_, .bool true, rfl, rfl, (fun _ _ => trivial), (by go_simp; done), ?_⟩
              refine NoPanic.normal ?_
              (try simp only [Act.put, List.setIfInBounds_toArray, List.set_cons_zero, List.set_cons_succ])
              clear hR hy2 b4 e1 e2
              gi_wp2
              refine bodyPost_ret (results_none rfl _ _ _) rfl ?_
              exact ⟨⟨_, rfl⟩, .inr ⟨_, ⟨k + 1, by omega, (pairsTo_succ _ _).symm⟩, hJx6⟩⟩
          | true =>
            rw [hq] at hv
            have HV := Lib.hid hv; clear hv
            refine region_ordP (PS l[k] g w) 20 19 [(0, false), (1, false), (2, false), (3, true), (4, false), (5, false), (6, false), (7, false), (8, false), (9, false), (10, false), (11, false), (12, false), (13, false), (14, false), (15, false), (16, false), (17, false), (18, false)] rfl (by kernel_rfl) (by kernel_rfl) rfl (by kernel_rfl) (by kernel_rfl) sk ?_
            iterate 3 ((first | (refine ordP_skip rfl rfl (fun _ => rfl) ?_; (try simp only [Act.put, List.setIfInBounds_toArray, List.set_cons_zero, List.set_cons_succ])) | ((refine ordP_load_blk 25 (.tmp 4) rfl rfl rfl (fun _ => rfl) g rfl b4 hu rfl itemSize ?_); (try simp only [Act.put, List.setIfInBounds_toArray, List.set_cons_zero, List.set_cons_succ])) | (refine ordP_val (v := ?_) rfl rfl (fun _ => rfl) (fun W1 hW1 => ?_) ?_; rotate_left; (· (go_simp; try with_reducible rfl)); (try simp only [Act.put, List.setIfInBounds_toArray, List.set_cons_zero, List.set_cons_succ]))))
            refine ordP_callR 70 rfl rfl rfl rfl (fun _ _ => trivial) (fun h => by cases h) (callsIn_wide.2 (pair_w l[k] _ hp)) (by go_simp; done) ?_
            intro W5 hb5
            have sk := sk.step hb5
            have hJ5 := hJ _ _ _ hJd (grown_of_below hb5 none)
            refine ⟨sk, ?_⟩
            (try simp only [Act.put, List.setIfInBounds_toArray, List.set_cons_zero, List.set_cons_succ])
            clear hJd hb5
            iterate 15 ((first | (refine ordP_skip rfl rfl (fun _ => rfl) ?_; (try simp only [Act.put, List.setIfInBounds_toArray, List.set_cons_zero, List.set_cons_succ])) | ((fail); (try simp only [Act.put, List.setIfInBounds_toArray, List.set_cons_zero, List.set_cons_succ])) | (refine ordP_val (v := ?_) rfl rfl (fun _ => rfl) (fun W1 hW1 => ?_) ?_; rotate_left; (· (go_simp; try with_reducible rfl)); (try simp only [Act.put, List.setIfInBounds_toArray, List.set_cons_zero, List.set_cons_succ]))))
            obtain ⟨fn, tmps, assign, body, hy, hR⟩ := hY _ (pairAt l (k)) W5 hJ5 (by rw [pairsTo_length])
            rw [HV.out] at hy
            have hy2 : (Instr.yield lp #[.agg (ic l[k]), .bool true]).run Try.prog W5 = .ok (.round lp fn tmps assign body) W5 := hy
            clear hy
            refine ordP_yield rfl rfl rfl (fun _ _ => trivial) (fun h => by cases h) (by go_simp; done) hR rfl ?_
            rintro e W6 (⟨rfl, hJ6, hk6⟩ | ⟨rfl, hJx6⟩)
            · refine ⟨_, .bool false, rfl, rfl, (fun _ _ => trivial), (by go_simp; done), ?_⟩
              refine NoPanic.normal ?_
              have HB6 := Lib.hid (sk.below.trans hk6.1)
              (try simp only [Act.put, List.setIfInBounds_toArray, List.set_cons_zero, List.set_cons_succ])
              clear hR hy2 b4 e1 e2 hk6
              gi_wp2
              go_roundw
              case rel => exact ⟨k + 1, by omega, by go_num, by rw [pairsTo_succ]; exact hJ6, HB6⟩
              case measure => simp [intOf]; omega
            · refine ⟨_, .bool true, rfl, rfl, (fun _ _ => trivial), (by go_simp; done), ?_⟩
              refine NoPanic.normal ?_
              (try simp only [Act.put, List.setIfInBounds_toArray, List.set_cons_zero, List.set_cons_succ])
              clear hR hy2 b4 e1 e2
              gi_wp2
              refine bodyPost_ret (results_none rfl _ _ _) rfl ?_
              exact ⟨⟨_, rfl⟩, .inr ⟨_, ⟨k + 1, by omega, (pairsTo_succ _ _).symm⟩, hJx6⟩⟩
    · obtain rfl : k = l.length := by omega
      gi_wp2
      go_end0
      exact ⟨⟨_, rfl⟩, .inl ⟨_, rfl, hJs⟩⟩

end Go.Proofs.Yteadkghffdiaoab
