/- keep.Next: the next pair. -/
import Derived.Test.YteadkghffdiaoabKeepR
import Derived.Test.YteadkghffdiaoabMsgList
set_option linter.unusedVariables false
set_option linter.unusedSimpArgs false
set_option maxRecDepth 100000
namespace Go.Proofs.Yteadkghffdiaoab
open Go.RowKit Go.Shelf Go.Proofs.YteadkghffdiaoabW.PrintWords
attribute [local go_sem] Oper.semAt_some

def gtS (a b : ByteArray) : Bool := !(Op.bytesLess a.toList b.toList || a.toList == b.toList)
theorem gtS_lt (a b : ByteArray) : gtS a b = ltS b a := by
  unfold gtS
  rw [Bool.eq_iff_iff]
  simp only [Bool.not_eq_true', Bool.or_eq_false_iff]
  rcases ltS_total a b with h | rfl | h
  · have h2 := ltS_asymm h
    constructor
    · rintro ⟨h3, _⟩; change ltS a b = false at h3; rw [h] at h3; cases h3
    · intro h3; rw [h2] at h3; cases h3
  · simp [ltS_irrefl]
  · refine ⟨fun _ => h, fun _ => ⟨ltS_asymm h, ?_⟩⟩
    rw [string_eq, decide_eq_false_iff_not]
    exact fun e => ltS_ne h e.symm
def nextS (l : List Item) (key : ByteArray) : Item × Bool :=
  if l.length = 0 ∨ rightK l = false then (Item.zero, false) else match (l.find? fun x => ltS key x.key) with | some y => (y, true) | none => (l.getD 0 Item.zero, true)

section
variable {P : Program} {tmps : Array Value} {w : World}
theorem results_two {fn : Func} {p1 p2 : Tmp} {ty1 ty2 : TypeId} {g1 : Nat} {t : TypeId} {cs : Array Value} {fr : Nat × Nat} {d : TypeDesc} {a2 : Addr} {v2 : Value} (h : fn.results = #[.cell p1 ty1, .cell p2 ty2]) (hp1 : tmps.getD p1 undef = .pointer (some ⟨g1, 0, none⟩)) (hg1 : w.heap[g1]? = some (.cells cs t fr))
    (hu : P.underlying ty1 = some d) (hd : (match d with | .struct _ | .array _ _ => true | _ => false) = true) (hi : (P.info? ty1).map (·.size) = some cs.size) (hp2 : tmps.getD p2 undef = .pointer (some a2)) (hl2 : (loadVar ty2 a2).run P w = .ok v2 w) : (results fn tmps).run P w = .ok (.tuple #[.agg cs, v2]) w := by
  unfold results
  rw [show fn.results = [ResultVar.cell p1 ty1, ResultVar.cell p2 ty2].toArray from h, List.mapM_toArray]
  simp only [Sem.run_bind, Sem.run_map]
  rw [Array.getD_eq_getD_getElem?] at hp1 hp2
  simp [List.mapM_cons, hp1, hp2, asAddr, run_loadVar_row w g1 t _ cs fr d hg1 hu hd hi, hl2]
end
theorem load_bool (w : World) (g : Nat) (b : Bool) (h : w.heap[g]? = some (.cells #[.bool b] 4 (0, 0))) : (loadVar 4 ⟨g, 0, none⟩).run Try.prog w = .ok (.bool b) w := by
  have c0 := cells_all h 0
  have hu := Try.underlying4
  simp [loadVar, go_sem, c0]

theorem keepRight_w (w : World) (A : Option Addr) (c : Nat) (l : List Item) (hr : RI w A c l) {b : Bool} (hb : rightK l = b) : Calls Try.prog 27 #[.slice A l.length c] w fun e w' => e = .returned (.bool b) ∧ Below w.heap.size w w' := by subst hb; exact keepRight_c w A c l hr

abbrev putI (W : World) (g : Nat) (y : Item) : World := (((W.setCell ⟨g, 0, none⟩ (.string y.key)).setCell ⟨g, 1, none⟩ (.int .i64 y.value)).setCell ⟨g, 2, none⟩ (.int .i64 y.version)).setCell ⟨g, 3, none⟩ (.bool y.gone)
theorem putI_at {W : World} {g : Nat} {z : Item} {t : TypeId} (h : W.heap[g]? = some (.cells (ic z) t (0, 0))) (y : Item) : (putI W g y).heap[g]? = some (.cells (ic y) t (0, 0)) := blk_set (blk_set (blk_set (blk_set h 0 _) 1 _) 2 _) 3 _
theorem putI_grown (W : World) (g : Nat) (y : Item) : W.grownBy (putI W g y) (some g) := (((grownBy_set1 W g 0 _).trans (grownBy_set1 _ g 1 _)).trans (grownBy_set1 _ g 2 _)).trans (grownBy_set1 _ g 3 _)
theorem next_end {w W : World} {y z : Item} {b0 : Bool} (b : Bool) (k2 : W.heap[w.heap.size + 1]? = some (.cells (ic z) 25 (0, 0))) (k3 : W.heap[w.heap.size + 2]? = some (.cells #[.bool b0] 4 (0, 0))) (hb : Below w.heap.size w W) :
    ((putI W (w.heap.size + 1) y).setCell ⟨w.heap.size + 1 + 1, 0, none⟩ (.bool b)).heap[w.heap.size + 1]? = some (.cells (ic y) 25 (0, 0)) ∧ ((putI W (w.heap.size + 1) y).setCell ⟨w.heap.size + 1 + 1, 0, none⟩ (.bool b)).heap[w.heap.size + 2]? = some (.cells #[.bool b] 4 (0, 0)) ∧
    Below w.heap.size w ((putI W (w.heap.size + 1) y).setCell ⟨w.heap.size + 1 + 1, 0, none⟩ (.bool b)) := by
  have h1 := putI_at k2 y
  have h2 := blk_grown k3 (putI_grown W (w.heap.size + 1) y) (by simp)
  have hg := grownBy_set1 (putI W (w.heap.size + 1) y) (w.heap.size + 1 + 1) 0 (.bool b)
  exact ⟨blk_grown h1 hg (by simp), blk_set h2 0 _, (hb.grown (putI_grown W _ y) hb.size (fun k e => by have := Option.some.inj e; omega)).grown hg (hb.grown (putI_grown W _ y) hb.size (fun k e => by have := Option.some.inj e; omega)).size (fun k e => by have := Option.some.inj e; omega)⟩

theorem find_none {l : List Item} {key : ByteArray} (h : ∀ y ∈ pairsTo l l.length, ltS key y.1.key = false) : (l.find? fun x => ltS key x.key) = none := by
  refine List.find?_eq_none.2 fun x hx => ?_
  obtain ⟨j, hj, rfl⟩ := List.mem_iff_getElem.1 hx
  have := h (pairAt l j) (List.mem_map.2 ⟨j, List.mem_range.2 hj, rfl⟩)
  have e : (pairAt l j).1 = l[j] := pairAt_get hj
  rw [e] at this
  rw [this]; decide
theorem find_some {l : List Item} {key : ByteArray} {k : Nat} {p0 : List (Item × Bool)} {x : Item × Bool} (hk : k ≤ l.length) (e1 : pairsTo l k = p0 ++ [x]) (e2 : ∀ y ∈ p0, ltS key y.1.key = false) (e3 : ltS key x.1.key = true) : (l.find? fun x => ltS key x.key) = some x.1 := by
  cases k with
  | zero => simp [pairsTo] at e1
  | succ j =>
    rw [pairsTo_succ] at e1
    obtain ⟨h1, h2⟩ := List.append_inj' e1 rfl
    obtain rfl : pairAt l j = x := by simpa using h2
    have hj : j < l.length := by omega
    have e : (pairAt l j).1 = l[j] := pairAt_get hj
    rw [e] at e3 ⊢
    have hl : l = l.take j ++ (l[j] :: l.drop (j + 1)) := by rw [← List.drop_eq_getElem_cons hj, List.take_append_drop]
    have hn : (l.take j).find? (fun x => ltS key x.key) = none := by
      refine List.find?_eq_none.2 fun y hy => ?_
      obtain ⟨i, hi, rfl⟩ := List.mem_iff_getElem.1 hy
      have hij : i < j := by rw [List.length_take] at hi; omega
      have hil : i < l.length := by omega
      have := e2 (pairAt l i) (by rw [← h1]; exact List.mem_map.2 ⟨i, List.mem_range.2 hij, rfl⟩)
      have ei : (pairAt l i).1 = l[i] := pairAt_get hil
      rw [ei] at this
      rw [List.getElem_take, this]; decide
    conv => lhs; rw [hl]
    rw [List.find?_append, hn, Option.none_or, List.find?_cons_of_pos (by simpa using e3)]

set_option maxHeartbeats 2000000 in
theorem keepNext_in (w : World) (A : Option Addr) (c : Nat) (l : List Item) (key : ByteArray) (hr : RI w A c l) :
    CallsIn Fence.wide 4 Try.prog 34 #[.slice A l.length c, .string key] w fun e w' => e = .returned (.tuple #[.agg (ic (nextS l key).1), .bool (nextS l key).2]) ∧ Below w.heap.size w w' := by
  have hm := hr.max
  have HR := Lib.hid hr; clear hr
  have hro : Fence.wide.round = none := rfl
  have wf1 : Fence.wide.fn 55 := trivial
  have wf2 : Fence.wide.fn 27 := trivial
  have hu := Try.underlying25
  refine callsIn_of_wp_marks Try.func34 rfl trivial ?_ hro
  simp only [Try.ntmps34, List.size_toArray, List.length_cons, List.length_nil, Nat.reduceAdd, Nat.reduceSub, Array.replicate_succ, Array.replicate_zero, List.push_toArray, List.append_toArray, List.nil_append, List.cons_append]
  by_cases hl0 : l.length = 0
  · have hN : nextS l key = (Item.zero, false) := by unfold nextS; rw [if_pos (.inl hl0)]
    have HN := Lib.hid hN; clear hN
    have hl0' : (l.length : Int) = 0 := by omega
    gi_wp2
    obtain ⟨W, hW, hb, k1, k2, k3, -⟩ := three_new w (.cells #[.string key] 9) (.cells (ic Item.zero) 25) (.cells #[.bool false] 4)
    have hW2 := hW.symm
    simp only [ic, Item.zero] at hW2
    rw [hW2]
    exact ⟨.tuple #[.agg (ic Item.zero), .bool false], results_two (g1 := w.heap.size + 1) rfl rfl k2 hu rfl itemSize rfl (load_bool W (w.heap.size + 2) false k3), by rw [HN.out], hb⟩
  · have hl0b : ((l.length : Int) == 0) = false := by rw [beq_eq_false_iff_ne]; omega
    cases hrk : rightK l with
    | false =>
      have hN : nextS l key = (Item.zero, false) := by unfold nextS; rw [if_pos (.inr hrk)]
      have HN := Lib.hid hN; clear hN
      gi_wp2_with (gi_at_call 27; obtain ⟨W, hW, hb, k1, k2, k3, -⟩ := three_new w (.cells #[.string key] 9) (.cells (ic Item.zero) 25) (.cells #[.bool false] 4); have hW2 := hW.symm; simp only [ic, Item.zero] at hW2; rw [hW2]; clear hW hW2; refine (callsIn_wide.2 (keepRight_w _ A c l (HR.out.below hb) hrk)).mono ?_; rintro e W2 ⟨rfl, hb2⟩; have k1 := blk_below k1 hb2; have k2 := blk_below k2 hb2; have k3 := blk_below k3 hb2; have HB := Lib.hid (below_step hb hb2); have q2 := cells_all k2; have z2 := frozen_all k2; have q3 := cells_all k3; have z3 := frozen_all k3; clear hb hb2)
      have hE := next_end (y := Item.zero) false k2 k3 HB.out
      exact ⟨.tuple #[.agg (ic Item.zero), .bool false], results_two (g1 := w.heap.size + 1) rfl rfl hE.1 hu rfl itemSize rfl (load_bool _ (w.heap.size + 2) false hE.2.1), by rw [HN.out], hE.2.2⟩
    | true =>
      have hN : nextS l key = (match (l.find? fun x => ltS key x.key) with | some y => (y, true) | none => (l.getD 0 Item.zero, true)) := by unfold nextS; rw [if_neg (fun h => h.elim hl0 (fun h => by rw [hrk] at h; cases h))]
      have HN := Lib.hid hN; clear hN
      gi_wp2_with (first
        | (gi_at_call 27; obtain ⟨W, hW, hb, k1, k2, k3, -⟩ := three_new w (.cells #[.string key] 9) (.cells (ic Item.zero) 25) (.cells #[.bool false] 4); have hW2 := hW.symm; simp only [ic, Item.zero] at hW2; rw [hW2]; clear hW hW2; refine (callsIn_wide.2 (keepRight_w _ A c l (HR.out.below hb) hrk)).mono ?_; rintro e W2 ⟨rfl, hb2⟩; have k1 := blk_below k1 hb2; have k2 := blk_below k2 hb2; have k3 := blk_below k3 hb2; have HB := Lib.hid (below_step hb hb2); have q2 := cells_all k2; have z2 := frozen_all k2; have q3 := cells_all k3; have z3 := frozen_all k3; clear hb hb2)
        | (gi_at_call 55; refine (callsIn_wide.2 (pairs_c _ _ _ _)).mono ?_; rintro e w' ⟨rfl, rfl⟩))
      have kP := blk_new W2 (.cells #[.slice A l.length c] 48)
      have hbP := alloc_belowK W2 (.cells #[.slice A l.length c] 48)
      have HB3 := Lib.hid (below_step HB.out hbP)
      have k1 := blk_below k1 hbP
      have k2 := blk_below k2 hbP
      have k3 := blk_below k3 hbP
      have hs3 : w.heap.size + 2 < (W2.alloc (.cells #[.slice A l.length c] 48)).heap.size := blk_lt k3
      clear q2 z2 q3 z3 HB hbP
      generalize World.alloc _ _ = W3 at kP HB3 k1 k2 k3 hs3 ⊢
      have HR3 := Lib.hid (HR.out.below HB3.out)
      refine wpIn_rangeR hro (by omega) (gf := 74) (lb := #[.pointer (some ⟨W2.heap.size, 0, none⟩)]) rfl trivial (enters_of Try.func74 (by kernel_rfl) rfl)
        (pairs1_in 3 (by omega) W3 W2.heap.size A c l ((cells_all kP 0).trans rfl) HR3.out) (fun r e => by cases e) (fun h k => h.trans k) (fun W l o o' hl h1 h2 h3 => kb_putObj _ W l o o' hl h1 h2 h3) (Below.refl _ _) (fun _ => rfl)
        (fun pre W => (∀ y ∈ pre, ltS key y.1.key = false) ∧ W3.heap.size ≤ W.heap.size ∧ W.heap[w.heap.size]? = some (.cells #[.string key] 9 (0, 0)) ∧ W.heap[w.heap.size + 1]? = some (.cells (ic Item.zero) 25 (0, 0)) ∧ W.heap[w.heap.size + 2]? = some (.cells #[.bool false] 4 (0, 0)) ∧ Below w.heap.size w W)
        (fun c pre W => c = .ret ∧ (∃ p0 x, pre = p0 ++ [x] ∧ (∀ y ∈ p0, ltS key y.1.key = false) ∧ ltS key x.1.key = true ∧ W.heap[w.heap.size + 1]? = some (.cells (ic x.1) 25 (0, 0)) ∧ W.heap[w.heap.size + 2]? = some (.cells #[.bool true] 4 (0, 0))) ∧ Below w.heap.size w W)
        ?hI ?hIg ?hIx ⟨by simp, Nat.le_refl _, k1, k2, k3, HB3.out⟩
        (fun pre x a' W => ∃ g6, a' = { tmps := #[.slice A l.length c, .string key, undef, .pointer (some ⟨w.heap.size, 0, none⟩), .pointer (some ⟨w.heap.size + 1, 0, none⟩), .pointer (some ⟨w.heap.size + 1 + 1, 0, none⟩), .pointer (some ⟨g6, 0, none⟩), .slice A l.length c, .int .i64 l.length, .bool false, .bool false, .slice A l.length c, .bool true, .bool false, .bool false, undef, .slice A l.length c, .func (.func 74) #[] #[.pointer (some ⟨W2.heap.size, 0, none⟩)], .agg (ic x.1), .bool x.2, undef, undef, undef, undef, undef, undef, undef, undef], defers := [] } ∧ W.heap[g6]? = some (.cells (ic x.1) 25 (0, 0)))
        ?hAx ?assign ?body ?done ?stop
      case hI => exact fun pre X Y row hs' hg hr => ⟨hs'.1, Nat.le_trans hs'.2.1 hg.size, cell_hI hs'.2.2.1 (by omega) hg hr, cell_hI hs'.2.2.2.1 (by omega) hg hr, cell_hI hs'.2.2.2.2.1 (by omega) hg hr, below_hI hs'.2.2.2.2.2 (by omega) hs'.2.2.2.2.2.size hg hr⟩
      case hIg => exact fun pre X Y hs' hg => ⟨hs'.1, Nat.le_trans hs'.2.1 hg.size, cell_hIg hs'.2.2.1 hg, cell_hIg hs'.2.2.2.1 hg, cell_hIg hs'.2.2.2.2.1 hg, below_hIg hs'.2.2.2.2.2 hs'.2.2.2.2.2.size hg⟩
      case hIx => exact fun c pre X Y row hs' hg hr => ⟨hs'.1, by obtain ⟨p0, x, e1, e2, e3, e4, e5⟩ := hs'.2.1; exact ⟨p0, x, e1, e2, e3, cell_hI e4 (by omega) hg hr, cell_hI e5 (by omega) hg hr⟩, below_hI hs'.2.2 (by omega) hs'.2.2.size hg hr⟩
      case hAx =>
        rintro pre x a' pre' X Y row ⟨g6, e, hk6⟩ hg hr
        refine ⟨g6, e, (hg.block g6 (blk_lt hk6) (fun er => ?_)).trans hk6⟩
        obtain ⟨_, o, ho, hoc⟩ := hr g6 er.symm
        rw [hk6] at ho
        have := Option.some.inj ho
        subst this
        simp [Obj.isCells] at hoc
      case assign =>
        intro lp pre x W K hi hrel hK
        clear hrel
        gi_wp2
        have hba := alloc_belowK W (.cells (ic x.1) 25)
        exact hK _ _ ((KeepsOthers.alloc _ _).from _) ⟨hba.mono hi.2.1, fun g cs t hg hA => blk_below hA hba⟩ ⟨hi.1, Nat.le_trans hi.2.1 hba.size, blk_below hi.2.2.1 hba, blk_below hi.2.2.2.1 hba, blk_below hi.2.2.2.2.1 hba, below_step hi.2.2.2.2.2 hba⟩ ⟨_, rfl, blk_new _ _⟩
      case body =>
        rintro lp pre x a' W _ _ ⟨hp, hsz, k1', k2', k3', hb'⟩ ⟨g6, rfl, k6⟩
        have HP := Lib.hid hp; clear hp
        have HB := Lib.hid hb'; clear hb'
        have q1 := cells_all k1' 0
        have q6 := cells_all k6
        have hgt := gtS_lt x.1.key key
        cases hx : ltS key x.1.key with
        | false =>
          rw [hx] at hgt
          have hgt2 : (!(Op.bytesLess x.1.key.toList key.toList || x.1.key.toList == key.toList)) = false := hgt
          clear hgt
          have HX := Lib.hid hx; clear hx
          gi_wp2
          exact ⟨KeepsFrom.refl _ _, kb_refl _ _, fun y hy => by
            rcases List.mem_append.1 hy with h | h
            · exact HP.out y h
            · rw [List.mem_singleton.1 h]; exact HX.out, hsz, k1', k2', k3', HB.out⟩
        | true =>
          rw [hx] at hgt
          have hgt2 : (!(Op.bytesLess x.1.key.toList key.toList || x.1.key.toList == key.toList)) = true := hgt
          clear hgt
          have HX := Lib.hid hx; clear hx
          have q2 := cells_all k2'
          have z2 := frozen_all k2'
          have q3 := cells_all k3'
          have z3 := frozen_all k3'
          gi_wp2
          have hE := next_end (y := x.1) true k2' k3' HB.out
          exact ⟨(((((KeepsOthers.setCell _ _ _).trans (KeepsOthers.setCell _ _ _)).trans (KeepsOthers.setCell _ _ _)).trans (KeepsOthers.setCell _ _ _)).trans (KeepsOthers.setCell _ _ _)).from _, rfl, ⟨pre, x, rfl, HP.out, HX.out, hE.1, hE.2.1⟩, hE.2.2⟩
      case done =>
        rintro D ys W hD rfl ⟨hp, hsz, k1', k2', k3', hb'⟩ hK
        have HN2 : Hid (nextS l key = (l.getD 0 Item.zero, true)) := Lib.hid (by rw [HN.out, find_none hp])
        have hl1 : 0 < l.length := by omega
        obtain ⟨ad, rfl⟩ := HR.out.some hl1
        obtain ⟨f0, f1, f2, f3⟩ := ri_cells4 (HR.out.below hb') hl1
        have ea : ad.add (0 * 4) = ad := rfl
        rw [ea] at f0 f1 f2 f3
        have e0 : l.getD 0 Item.zero = l[0] := pairAt_get hl1
        have E0 := Lib.hid e0; clear e0
        have q2 := cells_all k2'
        have z2 := frozen_all k2'
        have q3 := cells_all k3'
        have z3 := frozen_all k3'
        have hE := next_end (y := l[0]) true k2' k3' hb'
        have HE := Lib.hid hE
        have hsD : w.heap.size + 2 < D := by omega
        have HK := Lib.hid hK
        clear hp k1' k2' k3' hb' hE hK
        gi_wp2
        have HK4 : Hid (((putI W (w.heap.size + 1) l[0]).setCell ⟨w.heap.size + 1 + 1, 0, none⟩ (.bool true)).heap[D]? = some (.deferred (some []))) := Lib.hid ((((((KeepsOthers.setCell _ _ _).trans (KeepsOthers.setCell _ _ _)).trans (KeepsOthers.setCell _ _ _)).trans (KeepsOthers.setCell _ _ _)).trans (KeepsOthers.setCell _ _ _)).same D _ HK.out rfl)
        refine ⟨by simp, .inl ⟨_, _, rfl, run_takeDeferred HK4.out, ?_⟩⟩
        have c2 := (World.putObj_heap_other (r := D) (o := .deferred none) (k := w.heap.size + 1) (by omega)).trans HE.out.1
        have c3 := (World.putObj_heap_other (r := D) (o := .deferred none) (k := w.heap.size + 2) (by omega)).trans HE.out.2.1
        exact ⟨.tuple #[.agg (ic l[0]), .bool true], results_two (g1 := w.heap.size + 1) rfl rfl c2 hu rfl itemSize rfl (load_bool _ (w.heap.size + 2) true c3), by rw [HN2.out, E0.out], HE.out.2.2.grown (grownBy_putObj' _ D _) HE.out.2.2.size (fun k e => by have := Option.some.inj e; omega)⟩
      case stop =>
        rintro D c pre W hD ⟨k, hk, rfl⟩ ⟨rfl, ⟨p0, x, e1, e2, e3, k2', k3'⟩, hb'⟩ hK
        have HN2 : Hid (nextS l key = (x.1, true)) := Lib.hid (by rw [HN.out, find_some hk e1 e2 e3])
        have hsD : w.heap.size + 2 < D := by omega
        have K2 := Lib.hid k2'
        have K3 := Lib.hid k3'
        have HB4 := Lib.hid hb'
        have HK := Lib.hid hK
        clear hk e1 e2 e3 k2' k3' hb' hK
        gi_wp2
        refine ⟨by simp, .inl ⟨_, _, rfl, run_takeDeferred HK.out, ?_⟩⟩
        have c2 := (World.putObj_heap_other (r := D) (o := .deferred none) (k := w.heap.size + 1) (by omega)).trans K2.out
        have c3 := (World.putObj_heap_other (r := D) (o := .deferred none) (k := w.heap.size + 2) (by omega)).trans K3.out
        exact ⟨.tuple #[.agg (ic x.1), .bool true], results_two (g1 := w.heap.size + 1) rfl rfl c2 hu rfl itemSize rfl (load_bool _ (w.heap.size + 2) true c3), by rw [HN2.out], HB4.out.grown (grownBy_putObj' _ D _) HB4.out.size (fun k e => by have := Option.some.inj e; omega)⟩

theorem keepNext_c (w : World) (A : Option Addr) (c : Nat) (l : List Item) (key : ByteArray) (hr : RI w A c l) :
    Calls Try.prog 34 #[.slice A l.length c, .string key] w fun e w' => e = .returned (.tuple #[.agg (ic (nextS l key).1), .bool (nextS l key).2]) ∧ Below w.heap.size w w' := callsIn_wide.1 (keepNext_in w A c l key hr)

end Go.Proofs.Yteadkghffdiaoab
