/- wait.Plan at 10, and what the document says of a call from 10 on. -/
import Derived.Test.YteadkghffdiaoaaDoorWaits
set_option linter.unusedVariables false
namespace Go.Proofs.YteadkghffdiaoaaDoor
open Go.RowKit Go.Shelf
attribute [local go_sem] Oper.semAt_some

theorem blk_cell' {w : World} {g : Nat} {t : TypeId} {v : Value} (h : w.heap[g]? = some (.cells #[v] t (0, 0))) : w.cell? ⟨g, 0, none⟩ = some v := by simp [World.cell?, h]
theorem blk_frozen' {w : World} {g : Nat} {t : TypeId} {cs : Array Value} (h : w.heap[g]? = some (.cells cs t (0, 0))) : w.frozen? ⟨g, 0, none⟩ = false := by simp [World.frozen?, h]
theorem blk_set' {w : World} {g : Nat} {t : TypeId} {v : Value} (h : w.heap[g]? = some (.cells #[v] t (0, 0))) (u : Value) : (w.setCell ⟨g, 0, none⟩ u).heap[g]? = some (.cells #[u] t (0, 0)) := by
  simp [World.setCell, Array.getElem?_modify, h]
def seq10 : List (Nat × Int) := [(0, 10), (1, 11), (2, 13), (3, 17)]

set_option maxRecDepth 100000 in
set_option maxHeartbeats 2000000 in
theorem times1_in (F : Fence) (n : Nat) (hf : F.fn 69) (hro : F.round = none) (hn : 1 ≤ n) (w : World) (B : Nat) (hB : w.heap[B]? = some (.cells #[.int .i64 10] 3 (0, 0))) (hl : Laid w) (hB0 : B ≠ 0) :
    SeqR F n Tryd.prog 69 #[.pointer (some ⟨B, 0, none⟩)] (fun x : Nat × Int => #[.int .i64 (x.1 : Int), .int .i64 x.2]) (some B) (fun pre x _ => seq10[pre.length]? = some x) (fun W W' => W'.heap[B]? = W.heap[B]?) (fun xs => xs = seq10) (fun _ => True) w := by
  intro l J Jx W hW hJ hY h0
  have hBl : B < w.heap.size := (Array.getElem?_eq_some_iff.1 hB).1
  have hB1 : W.heap[B]? = some (.cells #[.int .i64 10] 3 (0, 0)) := (hW.block B hBl).trans hB
  obtain ⟨h0c, h1c, h2c, h3c⟩ := hl.below hW
  refine callsIn_of_wp Tryd.func69 rfl hf ?_ hro
  simp only [Tryd.ntmps69, List.size_toArray, List.length_cons, List.length_nil, Nat.reduceAdd, Nat.reduceSub, Array.replicate_succ, Array.replicate_zero, List.push_toArray, List.append_toArray, List.nil_append, List.cons_append]
  have i0 : ∀ w, (Instr.index 64 (.agg #[.int .i64 0, .int .i64 1, .int .i64 2, .int .i64 4]) (.int .i64 0)).run Tryd.prog w = .ok (.int .i64 0) w := fun _ => by kernel_rfl
  have i1 : ∀ w, (Instr.index 64 (.agg #[.int .i64 0, .int .i64 1, .int .i64 2, .int .i64 4]) (.int .i64 1)).run Tryd.prog w = .ok (.int .i64 1) w := fun _ => by kernel_rfl
  have i2 : ∀ w, (Instr.index 64 (.agg #[.int .i64 0, .int .i64 1, .int .i64 2, .int .i64 4]) (.int .i64 2)).run Tryd.prog w = .ok (.int .i64 2) w := fun _ => by kernel_rfl
  have i3 : ∀ w, (Instr.index 64 (.agg #[.int .i64 0, .int .i64 1, .int .i64 2, .int .i64 4]) (.int .i64 3)).run Tryd.prog w = .ok (.int .i64 4) w := fun _ => by kernel_rfl
  gi_wp2
  gi_loopw [6] (fun i wr => ∃ a : Int, wr.heap[B]? = some (.cells #[.int .i64 a] 3 (0, 0)) ∧ ((i = .int .i64 0 ∧ a = 10 ∧ J [] wr) ∨ (i = .int .i64 1 ∧ a = 10 ∧ J [(0, 10)] wr) ∨ (i = .int .i64 2 ∧ a = 11 ∧ J [(0, 10), (1, 11)] wr) ∨ (i = .int .i64 3 ∧ a = 13 ∧ J [(0, 10), (1, 11), (2, 13)] wr) ∨ (i = .int .i64 4 ∧ J seq10 wr)))
    (fun i _ => 4 - (intOf i).toNat)
  case atStart => exact ⟨_, hB1, .inl ⟨rfl, rfl, h0⟩⟩
  case round =>
    obtain ⟨a, hBk, ⟨rfl, rfl, hJs⟩ | ⟨rfl, rfl, hJs⟩ | ⟨rfl, rfl, hJs⟩ | ⟨rfl, rfl, hJs⟩ | ⟨rfl, hJs⟩⟩ := hrel
    · have hc := blk_cell' hBk
      have hz := blk_frozen' hBk
      have hg := grownBy_setCell' wr B (.int .i64 10)
      have hB2 := Lib.hid (blk_set' hBk (.int .i64 10))
      obtain ⟨fn, tmps, assign, body, hy, hR⟩ := hY _ (0, 10) _ (hJ _ _ _ hJs hg) rfl
      have hy2 : (Instr.yield l #[.int .i64 0, .int .i64 10]).run Tryd.prog (wr.setCell ⟨B, 0, none⟩ (.int .i64 10)) = .ok (.round l fn tmps assign body) (wr.setCell ⟨B, 0, none⟩ (.int .i64 10)) := hy
      clear hy hg hBk
      gi_wp2
      refine hR.mono ?_
      rintro e W3 (⟨rfl, hJ3, hk3⟩ | ⟨rfl, hJx3⟩)
      · gi_wp2
        go_roundw
        case rel => exact ⟨_, hk3.trans hB2.out, .inr (.inl ⟨rfl, rfl, hJ3⟩)⟩
        case measure => simp [intOf]
      · gi_wp2
        refine bodyPost_ret (results_none rfl _ _ _) rfl ?_
        exact ⟨⟨_, rfl⟩, .inr ⟨_, trivial, hJx3⟩⟩
    · have hc := blk_cell' hBk
      have hz := blk_frozen' hBk
      have hg := grownBy_setCell' wr B (.int .i64 11)
      have hB2 := Lib.hid (blk_set' hBk (.int .i64 11))
      obtain ⟨fn, tmps, assign, body, hy, hR⟩ := hY _ (1, 11) _ (hJ _ _ _ hJs hg) rfl
      have hy2 : (Instr.yield l #[.int .i64 1, .int .i64 11]).run Tryd.prog (wr.setCell ⟨B, 0, none⟩ (.int .i64 11)) = .ok (.round l fn tmps assign body) (wr.setCell ⟨B, 0, none⟩ (.int .i64 11)) := hy
      clear hy hg hBk
      gi_wp2
      refine hR.mono ?_
      rintro e W3 (⟨rfl, hJ3, hk3⟩ | ⟨rfl, hJx3⟩)
      · gi_wp2
        go_roundw
        case rel => exact ⟨_, hk3.trans hB2.out, .inr (.inr (.inl ⟨rfl, rfl, hJ3⟩))⟩
        case measure => simp [intOf]
      · gi_wp2
        refine bodyPost_ret (results_none rfl _ _ _) rfl ?_
        exact ⟨⟨_, rfl⟩, .inr ⟨_, trivial, hJx3⟩⟩
    · have hc := blk_cell' hBk
      have hz := blk_frozen' hBk
      have hg := grownBy_setCell' wr B (.int .i64 13)
      have hB2 := Lib.hid (blk_set' hBk (.int .i64 13))
      obtain ⟨fn, tmps, assign, body, hy, hR⟩ := hY _ (2, 13) _ (hJ _ _ _ hJs hg) rfl
      have hy2 : (Instr.yield l #[.int .i64 2, .int .i64 13]).run Tryd.prog (wr.setCell ⟨B, 0, none⟩ (.int .i64 13)) = .ok (.round l fn tmps assign body) (wr.setCell ⟨B, 0, none⟩ (.int .i64 13)) := hy
      clear hy hg hBk
      gi_wp2
      refine hR.mono ?_
      rintro e W3 (⟨rfl, hJ3, hk3⟩ | ⟨rfl, hJx3⟩)
      · gi_wp2
        go_roundw
        case rel => exact ⟨_, hk3.trans hB2.out, .inr (.inr (.inr (.inl ⟨rfl, rfl, hJ3⟩)))⟩
        case measure => simp [intOf]
      · gi_wp2
        refine bodyPost_ret (results_none rfl _ _ _) rfl ?_
        exact ⟨⟨_, rfl⟩, .inr ⟨_, trivial, hJx3⟩⟩
    · have hc := blk_cell' hBk
      have hz := blk_frozen' hBk
      have hg := grownBy_setCell' wr B (.int .i64 17)
      have hB2 := Lib.hid (blk_set' hBk (.int .i64 17))
      obtain ⟨fn, tmps, assign, body, hy, hR⟩ := hY _ (3, 17) _ (hJ _ _ _ hJs hg) rfl
      have hy2 : (Instr.yield l #[.int .i64 3, .int .i64 17]).run Tryd.prog (wr.setCell ⟨B, 0, none⟩ (.int .i64 17)) = .ok (.round l fn tmps assign body) (wr.setCell ⟨B, 0, none⟩ (.int .i64 17)) := hy
      clear hy hg hBk
      gi_wp2
      refine hR.mono ?_
      rintro e W3 (⟨rfl, hJ3, hk3⟩ | ⟨rfl, hJx3⟩)
      · gi_wp2
        go_roundw
        case rel => exact ⟨_, hk3.trans hB2.out, .inr (.inr (.inr (.inr ⟨rfl, hJ3⟩)))⟩
        case measure => simp [intOf]
      · gi_wp2
        refine bodyPost_ret (results_none rfl _ _ _) rfl ?_
        exact ⟨⟨_, rfl⟩, .inr ⟨_, trivial, hJx3⟩⟩
    · gi_wp2
      go_end0
      exact ⟨⟨_, rfl⟩, .inl ⟨_, rfl, hJs⟩⟩

set_option maxHeartbeats 400000 in
theorem times_c (b : Int) (w : World) : Calls Tryd.prog 55 #[.int .i64 b] w fun e w' => e = .returned (.func (.func 69) #[] #[.pointer (some ⟨w.heap.size, 0, none⟩)]) ∧ w' = w.alloc (.cells #[.int .i64 b] 3) := by
  go_enter Tryd.func55, Tryd.ntmps55
  go_wp2
  go_ret
  exact ⟨rfl, rfl⟩

def planCells (pre : List (Nat × Int)) : Array Value := pre.foldl (fun c x => c.setIfInBounds x.1 (.int .i64 x.2)) #[.int .i64 0, .int .i64 0, .int .i64 0, .int .i64 0]
theorem planCells_snoc (pre : List (Nat × Int)) (x : Nat × Int) : planCells (pre ++ [x]) = (planCells pre).setIfInBounds x.1 (.int .i64 x.2) := by simp [planCells]
theorem planCells_size (pre : List (Nat × Int)) : (planCells pre).size = 4 := by
  have h : ∀ (pre : List (Nat × Int)) (c : Array Value), (pre.foldl (fun c x => c.setIfInBounds x.1 (.int .i64 x.2)) c).size = c.size := by
    intro pre
    induction pre with
    | nil => intro c; rfl
    | cons x l ih => intro c; rw [List.foldl_cons, ih]; simp
  exact h pre _
theorem seq10_lt {k : Nat} {x : Nat × Int} (h : seq10[k]? = some x) : x.1 < 4 := by
  match k, h with
  | 0, h => cases h; decide
  | 1, h => cases h; decide
  | 2, h => cases h; decide
  | 3, h => cases h; decide
  | n + 4, h => simp [seq10] at h
theorem row_set {w : World} {g i : Nat} {t : TypeId} {cs : Array Value} (h : w.heap[g]? = some (.cells cs t (0, 0))) (u : Value) : (w.setCell ⟨g, i, none⟩ u).heap[g]? = some (.cells (cs.setIfInBounds i u) t (0, 0)) := by
  simp [World.setCell, Array.getElem?_modify, h]
theorem row_cell {w : World} {g : Nat} {t : TypeId} {cs : Array Value} (h : w.heap[g]? = some (.cells cs t (0, 0))) (i : Nat) : w.cell? ⟨g, i, none⟩ = cs[i]? := by simp [World.cell?, h]
theorem row_frozen {w : World} {g : Nat} {t : TypeId} {cs : Array Value} (h : w.heap[g]? = some (.cells cs t (0, 0))) (i : Nat) : w.frozen? ⟨g, i, none⟩ = false := by simp [World.frozen?, h]
theorem row_some {cs : Array Value} {i : Nat} (h : i < cs.size) : ∃ v, cs[i]? = some v := ⟨cs[i], by simp [h]⟩

set_option maxRecDepth 100000 in
set_option maxHeartbeats 2000000 in
theorem plan_in (w : World) (hl : Laid w) :
    CallsIn Fence.wide 3 Tryd.prog 33 #[.int .i64 10] w fun e w' => e = .returned (.agg #[.int .i64 10, .int .i64 11, .int .i64 13, .int .i64 17]) ∧ Below w.heap.size w w' := by
  have hro : Fence.wide.round = none := rfl
  have w1 : Fence.wide.fn 55 := trivial
  refine callsIn_of_wp_marks Tryd.func33 rfl trivial ?_ hro
  simp only [Tryd.ntmps33, List.size_toArray, List.length_cons, List.length_nil, Nat.reduceAdd, Nat.reduceSub, Array.replicate_succ, Array.replicate_zero, List.push_toArray, List.append_toArray, List.nil_append, List.cons_append]
  gi_wp2_with (gi_at_call 55; refine (callsIn_wide.2 (times_c _ _)).mono ?_; rintro e w' ⟨rfl, rfl⟩)
  obtain ⟨W2, hW2⟩ : ∃ W2, (w.alloc (.cells #[.int .i64 0, .int .i64 0, .int .i64 0, .int .i64 0] 64)).alloc (.cells #[.int .i64 10] 3) = W2 := ⟨_, rfl⟩
  have hbW : Below w.heap.size w W2 := by rw [← hW2]; exact ((Below.refl _ w).alloc (Nat.le_refl _) _).alloc (by simp) _
  have hsz : W2.heap.size = w.heap.size + 2 := by rw [← hW2]; simp
  have hP : W2.heap[w.heap.size]? = some (.cells (planCells []) 64 (0, 0)) := by rw [← hW2]; exact (Below.heap_alloc _ _ _ (by simp)).trans (World.alloc_heap_new w _)
  have hBx : W2.heap[w.heap.size + 1]? = some (.cells #[.int .i64 10] 3 (0, 0)) := by
    rw [← hW2]; have := World.alloc_heap_new (w.alloc (.cells #[.int .i64 0, .int .i64 0, .int .i64 0, .int .i64 0] 64)) (.cells #[.int .i64 10] 3); rwa [World.size_alloc] at this
  rw [hW2]
  have hpos := hl.pos
  have h2 := hl.below hbW
  clear hW2
  refine wpIn_rangeR hro (by omega) (gf := 69) (lb := #[.pointer (some ⟨w.heap.size + 1, 0, none⟩)]) rfl trivial (enters_of Tryd.func69 (by kernel_rfl) rfl)
    (times1_in Fence.wide 2 trivial hro (by omega) W2 (w.heap.size + 1) hBx h2 (by omega)) (fun r e => by have := Option.some.inj e; omega) (fun h k => k.trans h) (fun W l o o' hl' _ _ _ => World.putObj_heap_other (by omega)) (Below.refl _ _) (fun _ => rfl)
    (fun pre W => W.heap[w.heap.size]? = some (.cells (planCells pre) 64 (0, 0)) ∧ Below w.heap.size w W) (fun _ _ _ => False)
    ?hI ?hIg (fun _ _ _ _ _ hs _ _ => hs) ⟨hP, hbW⟩
    (fun pre x a' _ => seq10[pre.length]? = some x ∧ a' = { tmps := #[.int .i64 10, undef, .pointer (some ⟨w.heap.size, 0, none⟩), .int .i64 (x.1 : Int), .int .i64 x.2, .int .i64 10, .func (.func 69) #[] #[.pointer (some ⟨w.heap.size + 1, 0, none⟩)], .int .i64 (x.1 : Int), .int .i64 x.2, undef, undef, undef, undef], defers := [] })
    (fun _ _ _ _ _ _ _ hs _ _ => hs) ?assign ?body ?done ?stop
  case hI =>
    intro pre A B row hs hg hr
    exact ⟨(hg.block _ (Array.getElem?_eq_some_iff.1 hs.1).1 (fun e => by have := (hr _ e.symm).1; omega)).trans hs.1, hs.2.grown hg hs.2.size (fun k e => by have := (hr _ e).1; omega)⟩
  case hIg =>
    intro pre A B hs hg
    exact ⟨(hg.block _ (Array.getElem?_eq_some_iff.1 hs.1).1 (fun e => by have := Option.some.inj e; omega)).trans hs.1, hs.2.grown hg hs.2.size (fun k e => by have := Option.some.inj e; omega)⟩
  case assign =>
    intro l pre x W K hi hrel hK
    gi_wp2
    exact hK _ _ (KeepsFrom.refl _ _) rfl hi ⟨hrel, rfl⟩
  case body =>
    rintro l pre x a' W _ _ ⟨hp, hb⟩ ⟨hx, rfl⟩
    have hlt := seq10_lt hx
    obtain ⟨v, hv⟩ := row_some (cs := planCells pre) (i := x.1) (by rw [planCells_size]; exact hlt)
    have hc := (row_cell hp x.1).trans hv
    have hz := row_frozen hp x.1
    have h4 : (x.1 : Int) < 4 := by omega
    gi_wp2
    exact ⟨(KeepsOthers.setCell _ _ _).from _, Below.heap_setCell _ _ _ _ (by simp), by rw [planCells_snoc]; exact row_set hp _, hb.setCell (Nat.le_refl _) _⟩
  case done =>
    rintro D ys W hD rfl ⟨hp, hb⟩ hK
    replace hp : W.heap[w.heap.size]? = some (.cells #[.int .i64 10, .int .i64 11, .int .i64 13, .int .i64 17] 64 (0, 0)) := hp
    have c0 := row_cell hp 0
    have c1 := row_cell hp 1
    have c2 := row_cell hp 2
    have c3 := row_cell hp 3
    have z0 := row_frozen hp
    gi_wp2
    have hp3 := row_set (i := 3) (row_set (i := 2) (row_set (i := 1) (row_set (i := 0) hp (.int .i64 10)) (.int .i64 11)) (.int .i64 13)) (.int .i64 17)
    have hb3 := (((hb.setCell (p := ⟨w.heap.size, 0, none⟩) (Nat.le_refl _) (.int .i64 10)).setCell (p := ⟨w.heap.size, 1, none⟩) (Nat.le_refl _) (.int .i64 11)).setCell (p := ⟨w.heap.size, 2, none⟩) (Nat.le_refl _) (.int .i64 13)).setCell (p := ⟨w.heap.size, 3, none⟩) (Nat.le_refl _) (.int .i64 17)
    have hK3 := ((((KeepsOthers.setCell W ⟨w.heap.size, 0, none⟩ (.int .i64 10)).trans (KeepsOthers.setCell _ ⟨w.heap.size, 1, none⟩ (.int .i64 11))).trans (KeepsOthers.setCell _ ⟨w.heap.size, 2, none⟩ (.int .i64 13))).trans (KeepsOthers.setCell _ ⟨w.heap.size, 3, none⟩ (.int .i64 17))).same D _ hK rfl
    refine ⟨by simp, .inl ⟨_, _, rfl, run_takeDeferred hK3, ?_⟩⟩
    have hp4 := (World.putObj_heap_other (r := D) (o := .deferred none) (k := w.heap.size) (by omega)).trans hp3
    have c0 := row_cell hp4 0
    have c1 := row_cell hp4 1
    have c2 := row_cell hp4 2
    have c3 := row_cell hp4 3
    refine ⟨_, by simp [results, Tryd.results33, go_sem, c0, c1, c2, c3], rfl, hb3.grown (grownBy_putObj' _ D _) hb3.size (fun k e => by have := Option.some.inj e; omega)⟩
  case stop =>
    rintro D c pre W _ _ h _
    exact h.elim

theorem plan_c (w : World) (hl : Laid w) : Calls Tryd.prog 33 #[.int .i64 10] w fun e w' => e = .returned (.agg #[.int .i64 10, .int .i64 11, .int .i64 13, .int .i64 17]) ∧ Below w.heap.size w w' :=
  callsIn_wide.1 (plan_in w hl)

end Go.Proofs.YteadkghffdiaoaaDoor
