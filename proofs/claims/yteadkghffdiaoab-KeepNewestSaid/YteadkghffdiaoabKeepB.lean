/- Which of two pairs is newer: item.Cmp, item.Newer, and the reference's. -/
import Derived.Test.YteadkghffdiaoabKeepA
import Derived.Test.YteadkghffdiaoabMsgC
import Derived.Test.YteadkghffdiaoabOrdT
set_option linter.unusedVariables false
set_option linter.unusedSimpArgs false
set_option maxRecDepth 100000
namespace Go.Proofs.Yteadkghffdiaoab
open Go.RowKit Go.Proofs.YteadkghffdiaoabW.PrintWords

def icmpS (a b : Int) : Int := if a < b then -1 else if b < a then 1 else 0
def goneS (x : Item) : Int := if x.gone = true then 1 else 0
def orS (l : List Int) : Int := (l.find? fun x => x != 0).getD 0
def itemCmpS (a b : Item) : Int := orS [icmpS a.version b.version, icmpS a.value b.value, icmpS (goneS a) (goneS b)]
def newerS (a b : Item) : Bool := decide (0 < itemCmpS a b)

theorem isnan_c (a : Int) (w : World) : Calls Try.prog 96 #[.int .i64 a] w fun e w' => e = .returned (.bool false) ∧ w = w' := by
  go_enter Try.func96, Try.ntmps96
  go_wp2
  go_ret
  exact ⟨rfl, rfl⟩
theorem icmp_c (a b : Int) (w : World) : Calls Try.prog 90 #[.int .i64 a, .int .i64 b] w fun e w' => e = .returned (.int .i64 (icmpS a b)) ∧ w = w' := by
  have h0 : icmpS a b = if a < b then -1 else if b < a then 1 else 0 := rfl
  have H0 := Lib.hid h0; clear h0
  go_enter Try.func90, Try.ntmps90
  go_wp2_with (go_at_call 96; refine (isnan_c _ _).mono ?_; rintro e w' ⟨rfl, rfl⟩)
  all_goals
    go_ret
    exact ⟨ret_i (by rw [H0.out]; first | rw [if_pos (by omega)] | (rw [if_neg (by omega), if_pos (by omega)]) | (rw [if_neg (by omega), if_neg (by omega)])), rfl⟩
theorem icmp_b (a b : Int) (w : World) : Calls Try.prog 90 #[.int .i64 a, .int .i64 b] w fun e w' => e = .returned (.int .i64 (icmpS a b)) ∧ Below w.heap.size w w' := (icmp_c a b w).mono fun _ _ ⟨h, e⟩ => ⟨h, e ▸ Below.refl _ _⟩
theorem gone_c (x : Item) (w : World) : Calls Try.prog 91 #[.agg (ic x)] w fun e w' => e = .returned (.int .i64 (goneS x)) ∧ Below w.heap.size w w' := by
  have hu := Try.underlying25
  have h0 : goneS x = if x.gone = true then 1 else 0 := rfl
  cases hg : x.gone
  all_goals
    rw [hg] at h0
    simp at h0
    have H0 := Lib.hid h0
    go_enter Try.func91, Try.ntmps91
    go_wp2
    go_ret
    exact ⟨ret_i H0.out.symm, (Below.refl _ _).alloc (Nat.le_refl _) _⟩
theorem orS_no {l : List Int} (h : ∀ x, x ∈ l → x = 0) : orS l = 0 := by
  unfold orS
  rw [List.find?_eq_none.2 (fun x hx => by simp [h x hx])]; rfl
theorem orS_at {l : List Int} {k : Nat} (hk : k < l.length) (h : ∀ x, x ∈ l.take k → x = 0) (hn : l[k] ≠ 0) : orS l = l[k] := by
  unfold orS
  have e : l = l.take k ++ (l[k] :: l.drop (k + 1)) := by rw [← List.drop_eq_getElem_cons hk, List.take_append_drop]
  have : l.find? (fun x => x != 0) = some l[k] := by
    conv => lhs; rw [e]
    rw [List.find?_append, List.find?_eq_none.2 (fun x hx => by simp [h x hx])]
    rw [Option.none_or, List.find?_cons_of_pos (by simpa using hn)]
  rw [this]; rfl
set_option maxHeartbeats 400000 in
theorem or_c (l : List Int) (A : Option Addr) (c : Nat) (w : World) (hr : RL w A c l) : Calls Try.prog 89 #[.slice A l.length c] w fun e w' => e = .returned (.int .i64 (orS l)) ∧ w = w' := by
  have hm := hr.max
  have HR := Lib.hid hr; clear hr
  go_enter Try.func89, Try.ntmps89
  go_wp2
  go_loop [8] (fun i => ∃ k : Nat, k ≤ l.length ∧ i = .int .i64 k ∧ Hid (∀ x, x ∈ l.take k → x = 0)) (fun i => l.length - (intOf i).toNat)
  case atStart => exact ⟨0, by omega, rfl, Lib.hid (by simp)⟩
  case round =>
    obtain ⟨k, hk, rfl, hn⟩ := hrel
    by_cases hlt : k < l.length
    · obtain ⟨ad, rfl, hc⟩ := HR.out.get hlt
      by_cases he : l[k] = 0
      · have b : (l[k] != 0) = false := by simpa using he
        have HE := Lib.hid he; clear he
        go_wp2
        go_round
        case rel => exact ⟨k + 1, by omega, by go_num, Lib.hid (fun x hx => by
          rcases mem_take_succ hlt |>.1 hx with h | h
          · exact hn.out x h
          · rw [h]; exact HE.out)⟩
        case measure => simp [intOf]; omega
      · have b : (l[k] != 0) = true := by simpa using he
        have HE := Lib.hid (orS_at hlt hn.out he); clear he
        go_wp2
        go_ret
        exact ⟨ret_i HE.out.symm, rfl⟩
    · have hkl : k = l.length := by omega
      subst hkl
      have HE := Lib.hid (orS_no (l := l) (fun x hx => hn.out x (by simpa using hx)))
      go_wp2
      go_ret
      exact ⟨ret_i HE.out.symm, rfl⟩

theorem RL_blk {w : World} {b : Nat} {t : TypeId} {l : List Int} (h : w.heap[b]? = some (.cells (l.map (Value.int .i64)).toArray t (0, 0))) (hl : l.length ≤ 9223372036854775807) : RL w (some ⟨b, 0, none⟩) l.length l := by
  refine ⟨Kd.C_of_reads (d := (0 : Int)) ⟨rfl, by omega, fun _ => ⟨_, rfl, fun j hj => ?_⟩⟩, Nat.le_refl _⟩
  have e : (⟨b, 0, none⟩ : Addr).add j = ⟨b, j, none⟩ := by unfold Addr.add; split <;> simp_all
  rw [e, blk_cell h j]
  simp [hj]
theorem alloc_belowK (w : World) (o : Obj) : Below w.heap.size w (w.alloc o) := (Below.refl _ _).alloc (Nat.le_refl _) _
section
variable {P : Program} {Q : Exit → Act → World → Prop} {S : World → Prop} {i : Nat} {o : Oper} {rest : List (Nat × Bool)} {a : Act} {w : World} {l : List Oper}
/-- A deed that yields and makes memory. -/
theorem ord_run {v : Value} {w1 : World} (hi : l[i]? = some o) (hw : Region.wanted o (yielded l.toArray a.tmps) = true) (hy : (execOp a.eval o).run P w = .ok (.value v) w1) (h : S w1 ∧ wpOrd P l Q S rest (a.put o.dst v) w1) : wpOrd P l Q S ((i, true) :: rest) a w := by
  refine ⟨o, hi, .inl ⟨hw, ?_⟩⟩
  unfold Oper.wp
  rw [hy]
  exact h
end

theorem or_b (l : List Int) (A : Option Addr) (c : Nat) (w : World) (hr : RL w A c l) : Calls Try.prog 89 #[.slice A l.length c] w fun e w' => e = .returned (.int .i64 (orS l)) ∧ Below w.heap.size w w' := (or_c l A c w hr).mono fun _ _ ⟨h, e⟩ => ⟨h, e ▸ Below.refl _ _⟩
def bareI (a : Item) : Item := { a with key := ⟨#[]⟩ }
theorem bareI_eq {a b : Item} : itemEqB (bareI a) (bareI b) = true ↔ a.value = b.value ∧ a.version = b.version ∧ a.gone = b.gone := by
  simp [itemEqB, bareI]
theorem itemCmp_same {a b : Item} (h : itemEqB (bareI a) (bareI b) = true) : itemCmpS a b = 0 := by
  obtain ⟨h1, h2, h3⟩ := bareI_eq.1 h
  simp [itemCmpS, orS, icmpS, goneS, h1, h2, h3]
structure KC (a b : Item) (w : World) (w' : World) : Prop where
  k2 : w'.heap[w.heap.size]? = some (.cells (ic (bareI a)) 25 (0, 0))
  k3 : w'.heap[w.heap.size + 1]? = some (.cells (ic (bareI b)) 25 (0, 0))
  below : Below w.heap.size w w'
theorem KC.step {a b : Item} {w w1 w2 : World} (h : KC a b w w1) (hb : Below w1.heap.size w1 w2) : KC a b w w2 := ⟨blk_below h.k2 hb, blk_below h.k3 hb, below_step h.below hb⟩
theorem KC.drew {a b : Item} {w w1 : World} (h : KC a b w w1) : KC a b w w1.drew := ⟨h.k2, h.k3, below_drewN h.below 1⟩
theorem gone_bare (a : Item) (w : World) : Calls Try.prog 91 #[.agg (ic (bareI a))] w fun e w' => e = .returned (.int .i64 (goneS a)) ∧ Below w.heap.size w w' := gone_c (bareI a) w

set_option maxHeartbeats 4000000 in
theorem itemCmp_c (a b : Item) (w : World) : Calls Try.prog 84 #[.agg (ic a), .agg (ic b)] w fun e w' => e = .returned (.int .i64 (itemCmpS a b)) ∧ Below w.heap.size w w' := by
  have hu := Try.underlying25
  have qi := fun W => run_eql_item W (bareI a) (bareI b)
  go_enter Try.func84, Try.ntmps84
  go_upto_region 1 with fail
  obtain ⟨W, hW, hb, k2, k3, -⟩ := two_new w (.cells (ic a) 25) (.cells (ic b) 25)
  rw [← hW]; clear hW
  have HB := Lib.hid hb; clear hb
  go_upto_region 2 with (first
    | (refine gate_ (.store 9 (.tmp 5) (.const (.string ⟨#[]⟩))) rfl ?_; refine wpList_store_at 9 (.tmp 5) (.const (.string ⟨#[]⟩)) rfl rfl rfl w.heap.size 0 rfl (v := .string ⟨#[]⟩) rfl k2 (cs' := ic (bareI a)) (by kernel_rfl) (of_decide_eq_true rfl) (by simp [Value.cells, Value.oneCell']) rfl ?_; intro w1 k2b hg; have k3b := blk_grown k3 hg (by simp); have HB := Lib.hid (HB.out.grown hg HB.out.size (fun k e => by have := Option.some.inj e; omega)); clear hg k2 k3)
    | (refine gate_ (.store 9 (.tmp 6) (.const (.string ⟨#[]⟩))) rfl ?_; refine wpList_store_at 9 (.tmp 6) (.const (.string ⟨#[]⟩)) rfl rfl rfl (w.heap.size + 1) 0 rfl (v := .string ⟨#[]⟩) rfl k3b (cs' := ic (bareI b)) (by kernel_rfl) (of_decide_eq_true rfl) (by simp [Value.cells, Value.oneCell']) rfl ?_; intro w2 k3c hg; have k2c := blk_grown k2b hg (by simp); have HB := Lib.hid (HB.out.grown hg HB.out.size (fun k e => by have := Option.some.inj e; omega)); clear hg k2b k3b))
  have sk : KC a b w w2 := ⟨k2c, k3c, HB.out⟩
  clear k2c k3c HB
  cases he : itemEqB (bareI a) (bareI b) with
  | true =>
    have HE := Lib.hid (itemCmp_same he)
    rw [he] at qi
    go_wp2_with (first
      | (refine gate_ (.load 25 (.tmp 2)) rfl ?_; refine wpList_load_blk 25 (.tmp 2) rfl rfl w.heap.size rfl sk.k2 hu rfl itemSize ?_)
      | (refine gate_ (.load 25 (.tmp 3)) rfl ?_; refine wpList_load_blk 25 (.tmp 3) rfl rfl (w.heap.size + 1) rfl sk.k3 hu rfl itemSize ?_))
    go_ret
    exact ⟨ret_i HE.out.symm, sk.below⟩
  | false =>
    rw [he] at qi
    go_upto_region 4 with (first
      | (refine gate_ (.load 25 (.tmp 2)) rfl ?_; refine wpList_load_blk 25 (.tmp 2) rfl rfl w.heap.size rfl sk.k2 hu rfl itemSize ?_)
      | (refine gate_ (.load 25 (.tmp 3)) rfl ?_; refine wpList_load_blk 25 (.tmp 3) rfl rfl (w.heap.size + 1) rfl sk.k3 hu rfl itemSize ?_))
    clear qi he
    have sk := sk.drew
    have b2 : ∀ W1, KC a b w W1 → _ := fun W1 h => h.k2
    have b3 : ∀ W1, KC a b w W1 → _ := fun W1 h => h.k3
    have c21 : ∀ W1, KC a b w W1 → W1.cell? ⟨w.heap.size, 1, none⟩ = some (.int .i64 a.value) := fun W1 h => cells_all h.k2 1
    have c22 : ∀ W1, KC a b w W1 → W1.cell? ⟨w.heap.size, 2, none⟩ = some (.int .i64 a.version) := fun W1 h => cells_all h.k2 2
    have c31 : ∀ W1, KC a b w W1 → W1.cell? ⟨w.heap.size + 1, 1, none⟩ = some (.int .i64 b.value) := fun W1 h => cells_all h.k3 1
    have c32 : ∀ W1, KC a b w W1 → W1.cell? ⟨w.heap.size + 1, 2, none⟩ = some (.int .i64 b.version) := fun W1 h => cells_all h.k3 2
    try simp only [List.append_eq, List.cons_append, List.nil_append]
    refine region_ord (KC a b w) [(0, false), (1, false), (2, false), (3, false), (5, false), (6, false), (7, false), (8, false), (10, false), (12, false), (4, true), (9, true), (11, true), (13, true), (14, true), (15, true), (16, true), (17, false)] (by kernel_rfl) (by kernel_rfl) rfl (by kernel_rfl) sk ?_
    iterate 15 ((first | (refine ord_skip rfl rfl ?_; (try simp only [Act.put, List.setIfInBounds_toArray, List.set_cons_zero, List.set_cons_succ])) | ((first | refine ord_load_blk 25 (.tmp 2) rfl rfl rfl w.heap.size rfl b2 hu rfl itemSize ?_ | refine ord_load_blk 25 (.tmp 3) rfl rfl rfl (w.heap.size + 1) rfl b3 hu rfl itemSize ?_ | (with_reducible refine ord_callB 90 rfl rfl rfl (icmp_b a.version b.version _) (fun w' hb => KC.step sk hb) ?_ ?_; (· (go_simp; done)); intro wn sk) | (with_reducible refine ord_callB 90 rfl rfl rfl (icmp_b a.value b.value _) (fun w' hb => KC.step sk hb) ?_ ?_; (· (go_simp; done)); intro wn sk) | (with_reducible refine ord_callB 91 rfl rfl rfl (gone_bare a _) (fun w' hb => KC.step sk hb) ?_ ?_; (· (go_simp; done)); intro wn sk) | (with_reducible refine ord_callB 91 rfl rfl rfl (gone_bare b _) (fun w' hb => KC.step sk hb) ?_ ?_; (· (go_simp; done)); intro wn sk) | (with_reducible refine ord_callB 90 rfl rfl rfl (icmp_b (goneS a) (goneS b) _) (fun w' hb => KC.step sk hb) ?_ ?_; (· (go_simp; done)); intro wn sk)); (try simp only [Act.put, List.setIfInBounds_toArray, List.set_cons_zero, List.set_cons_succ])) | (refine ord_val (v := ?_) rfl rfl (fun W1 hW1 => ?_) ?_; rotate_left; (· (go_simp; try with_reducible rfl)); (try simp only [Act.put, List.setIfInBounds_toArray, List.set_cons_zero, List.set_cons_succ]))))
    have hrl : RL (wn.alloc (.cells (([icmpS a.version b.version, icmpS a.value b.value, icmpS (goneS a) (goneS b)] : List Int).map (Value.int .i64)).toArray 3)) (some ⟨wn.heap.size, 0, none⟩) 3 [icmpS a.version b.version, icmpS a.value b.value, icmpS (goneS a) (goneS b)] := RL_blk (blk_new wn _) (of_decide_eq_true rfl)
    refine ord_run (v := .slice (some ⟨wn.heap.size, 0, none⟩) 3 3) (w1 := wn.alloc (.cells (([icmpS a.version b.version, icmpS a.value b.value, icmpS (goneS a) (goneS b)] : List Int).map (Value.int .i64)).toArray 3)) rfl rfl (by go_simp; done) ⟨sk.step (alloc_belowK _ _), ?_⟩
    (try simp only [Act.put, List.setIfInBounds_toArray, List.set_cons_zero, List.set_cons_succ])
    have sk := sk.step (alloc_belowK wn (.cells (([icmpS a.version b.version, icmpS a.value b.value, icmpS (goneS a) (goneS b)] : List Int).map (Value.int .i64)).toArray 3))
    refine ord_callB 89 rfl rfl rfl (or_b _ _ _ _ hrl) (fun w' hb => KC.step sk hb) (by go_simp; done) ?_
    intro wm sk
    (try simp only [Act.put, List.setIfInBounds_toArray, List.set_cons_zero, List.set_cons_succ])
    iterate 1 ((first | (refine ord_skip rfl rfl ?_; (try simp only [Act.put, List.setIfInBounds_toArray, List.set_cons_zero, List.set_cons_succ])) | ((fail); (try simp only [Act.put, List.setIfInBounds_toArray, List.set_cons_zero, List.set_cons_succ])) | (refine ord_val (v := ?_) rfl rfl (fun W1 hW1 => ?_) ?_; rotate_left; (· (go_simp; try with_reducible rfl)); (try simp only [Act.put, List.setIfInBounds_toArray, List.set_cons_zero, List.set_cons_succ]))))
    refine ord_nil ?_
    clear b2 b3 c21 c22 c31 c32 hrl
    go_wp2
    go_ret
    exact ⟨rfl, sk.below⟩
set_option maxHeartbeats 1000000 in
theorem newer_c (a b : Item) (w : World) : Calls Try.prog 71 #[.agg (ic a), .agg (ic b)] w fun e w' => e = .returned (.bool (newerS a b)) ∧ Below w.heap.size w w' := by
  have hu := Try.underlying25
  go_enter Try.func71, Try.ntmps71
  go_upto_region 1 with fail
  obtain ⟨W, hW, hb, k2, k3, -⟩ := two_new w (.cells (ic a) 25) (.cells (ic b) 25)
  rw [← hW]; clear hW
  have HB := Lib.hid hb; clear hb
  go_wp2_with (first
    | (refine gate_ (.load 25 (.tmp 2)) rfl ?_; refine wpList_load_blk 25 (.tmp 2) rfl rfl w.heap.size rfl k2 hu rfl itemSize ?_)
    | (refine gate_ (.load 25 (.tmp 3)) rfl ?_; refine wpList_load_blk 25 (.tmp 3) rfl rfl (w.heap.size + 1) rfl k3 hu rfl itemSize ?_)
    | (go_at_call 84; refine (itemCmp_c _ _ _).mono ?_; rintro e w' ⟨rfl, hb2⟩; have HB := Lib.hid (below_step HB.out hb2); clear hb2))
  go_ret
  exact ⟨ret_b rfl, HB.out⟩

end Go.Proofs.Yteadkghffdiaoab
