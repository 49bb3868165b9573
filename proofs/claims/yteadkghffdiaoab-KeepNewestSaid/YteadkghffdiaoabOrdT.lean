/- A region that draws its order, walked by a tree of orders: two deeds that may come up in either order are both walked. -/
import Derived.Test.YteadkghffdiaoabStore
set_option linter.unusedVariables false
set_option maxRecDepth 100000
namespace Go.Proofs.Yteadkghffdiaoab
open Go.RowKit Go.Proofs.YteadkghffdiaoabW.PrintWords

inductive OrdT where
  | done
  | take (i : Nat) (t : OrdT)
  | one (i : Nat) (t : OrdT)
  | two (i j : Nat) (t1 t2 : OrdT)
def OrdT.len : OrdT → Nat
  | .done => 0
  | .take _ t => t.len + 1
  | .one _ t => t.len + 1
  | .two _ _ t1 _ => t1.len + 1

section
variable {P : Program} {md : Region.Mode} {Q : Exit → Act → World → Prop} {S : World → Prop}
def ordTB (md : Region.Mode) (ops : Array Oper) : OrdT → Array Bool → Bool
  | .done, listed => (Region.ready md ops listed).isEmpty
  | .take i t, listed => Region.free md ops listed i && (Region.ready md ops listed).contains i && ordTB md ops t (listed.setIfInBounds i true)
  | .one i t, listed => (Region.ready md ops listed == [i]) && ordTB md ops t (listed.setIfInBounds i true)
  | .two i j t1 t2, listed => (Region.ready md ops listed == [i, j]) && (t1.len == t2.len) && ordTB md ops t1 (listed.setIfInBounds i true) && ordTB md ops t2 (listed.setIfInBounds j true)
/-- One deed: what it does, to a world of S. -/
def wpDeed (P : Program) (l : List Oper) (Q : Exit → Act → World → Prop) (S : World → Prop) (i : Nat) (K : Act → World → Prop) (a : Act) (w : World) : Prop :=
  ∃ o, l[i]? = some o ∧ Region.wanted o (yielded l.toArray a.tmps) = true ∧ o.wp P a w (fun a' w' => S w' ∧ K a' w') Q
def wpOrdT (P : Program) (l : List Oper) (Q : Exit → Act → World → Prop) (S : World → Prop) : OrdT → Act → World → Prop
  | .done, a, w => Q .normal a w
  | .take i t, a, w => ∃ o v, l[i]? = some o ∧ YieldsIf P l.toArray S o v a ∧ wpOrdT P l Q S t (a.put o.dst v) w
  | .one i t, a, w => wpDeed P l Q S i (wpOrdT P l Q S t) a w
  | .two i j t1 t2, a, w => wpDeed P l Q S i (wpOrdT P l Q S t1) a w ∧ wpDeed P l Q S j (wpOrdT P l Q S t2) a w

theorem op_of_deed {l : List Oper} {i : Nat} {K K' : Act → World → Prop} {a : Act} {w : World} (h : wpDeed P l Q S i K a w) (hK : ∀ a' w', S w' → K a' w' → S w' ∧ K' a' w') : wpOp P l.toArray Q i (fun a' w' => S w' ∧ K' a' w') a w := by
  obtain ⟨o, ho, hw, h⟩ := h
  refine wpOp_step (by simpa using ho) (fun K2 hK2 => ?_)
  rw [if_pos hw]
  exact Oper.wp_mono (fun a' w' h' => hK2 a' w' (hK a' w' h'.1 h'.2)) h

theorem held_of_ordT {l : List Oper} (hs : Region.noSelect l.toArray = true) (hQ : ∀ c a d v w, Q (.panic c) (Act.put a d v) w → Q (.panic c) a w) : ∀ (t : OrdT) (listed : Array Bool) (a : Act) (w : World),
    ordTB md l.toArray t listed = true → S w → wpOrdT P l Q S t a w → wpAnyH P md l.toArray Q S t.len listed a w
  | .done, _, _, _, hb, _, h => wpAnyH_done (by simpa [ordTB] using hb) h _
  | .take i t, listed, a, w, hb, hS, h => by
    obtain ⟨o, v, ho, hy, hK⟩ := h
    simp only [ordTB, Bool.and_eq_true] at hb
    exact wpAnyH_take (by simpa using ho) hs hb.1.1 hb.1.2 (fun c a w => hQ c a _ _ w) hy hS (held_of_ordT hs hQ t _ _ _ hb.2 hS hK)
  | .one i t, listed, a, w, hb, hS, h => by
    simp only [ordTB, Bool.and_eq_true, beq_iff_eq] at hb
    refine wpAnyH_all hb.1 (by simp) fun j hj => ?_
    obtain rfl := List.mem_singleton.1 hj
    exact op_of_deed h fun a' w' h1 h2 => ⟨h1, held_of_ordT hs hQ t _ _ _ hb.2 h1 h2⟩
  | .two i j t1 t2, listed, a, w, hb, hS, h => by
    simp only [ordTB, Bool.and_eq_true, beq_iff_eq] at hb
    obtain ⟨⟨⟨h1, h2⟩, h3⟩, h4⟩ := hb
    refine wpAnyH_all h1 (by simp) fun x hx => ?_
    rcases List.mem_cons.1 hx with rfl | hx
    · exact op_of_deed h.1 fun a' w' k1 k2 => ⟨k1, held_of_ordT hs hQ t1 _ _ _ h3 k1 k2⟩
    · obtain rfl := List.mem_singleton.1 hx
      refine op_of_deed h.2 fun a' w' k1 k2 => ⟨k1, ?_⟩
      rw [h2]
      exact held_of_ordT hs hQ t2 _ _ _ h4 k1 k2

theorem region_ordT {id : Nat} {a : Act} {w : World} {l : List Oper} (S : World → Prop) (t : OrdT) (hm : P.follows .mixedOrders = true) (hs : Region.noSelect l.toArray = true) (hl : t.len = l.length)
    (hB : ordTB .any l.toArray t (Array.replicate l.length false) = true) (hS : S w.drew) (h : wpOrdT P l (NoPanic Q) S t a w.drew) : (Code.region id l.toArray true).wp P Q a w := by
  refine wp_region_noPanic (wp_region_held (S := S) hm ?_)
  have := held_of_ordT (S := S) hs (fun _ _ _ _ _ h => h) t _ a w.drew hB hS h
  rw [hl] at this
  simpa using this

variable {i : Nat} {o : Oper} {t : OrdT} {a : Act} {w : World} {l : List Oper} {K : Act → World → Prop}
theorem ordT_load_blk (ty : TypeId) (x : Operand) (hi : l[i]? = some o) (ho : o.op = .load ty x) (hw : Region.wanted o (yielded l.toArray a.tmps) = true) (g : Nat) (hx : a.eval x = .pointer (some ⟨g, 0, none⟩))
    {u : TypeId} {cs : Array Value} {d : TypeDesc} (hg : ∀ w, S w → w.heap[g]? = some (.cells cs u (0, 0))) (hu : P.underlying ty = some d) (hd : d.isRow = true) (hz : (P.info? ty).map (·.size) = some cs.size)
    (h : wpOrdT P l Q S t (a.put o.dst (.agg cs)) w) : wpOrdT P l Q S (.take i t) a w := by
  refine ⟨o, .agg cs, hi, .inl ⟨hw, fun w hc => ?_⟩, h⟩
  have hr : w.rangeAt g 0 cs.toList := by
    intro j v hj
    rw [Nat.zero_add, blk_cell (hg w hc)]
    simpa using hj
  have := run_loadAt_mid w g 0 ty cs.toList d hr hu hd (by simpa using hz)
  unfold execOp
  simp only [ho, hx, Sem.run_bind, this, Result.andThen_ok, Sem.run_pure]
/-- A deed that yields: a new block. -/
theorem deed_run {v : Value} {w1 : World} (hi : l[i]? = some o) (hw : Region.wanted o (yielded l.toArray a.tmps) = true) (hy : (execOp a.eval o).run P w = .ok (.value v) w1) (h : S w1 ∧ K (a.put o.dst v) w1) : wpDeed P l Q S i K a w := by
  refine ⟨o, hi, hw, ?_⟩
  unfold Oper.wp
  rw [hy]
  exact h
theorem deed_store {e : TypeId} {cur cs' : Array Value} (ty : TypeId) (p x : Operand) (hi : l[i]? = some o) (ho : o.op = .store ty p x) (hdst : o.dst = none) (hw : Region.wanted o (yielded l.toArray a.tmps) = true) (g off : Nat) (hp : a.eval p = .pointer (some ⟨g, off, none⟩))
    {v : Value} (hx : a.eval x = v) (hg : w.heap[g]? = some (.cells cur e (0, 0))) (hz : (P.info? ty).map (·.size) = some v.cells.toList.length) (hfit : off + v.cells.toList.length ≤ cur.size) (h1 : ∀ q ∈ v.cells.toList, q.oneCell' = true)
    (hcs : cs'.toList = cur.toList.take off ++ v.cells.toList ++ cur.toList.drop (off + v.cells.toList.length)) (h : ∀ w1, w1.heap[g]? = some (.cells cs' e (0, 0)) → w.grownBy w1 (some g) → S w1 ∧ K a w1) : wpDeed P l Q S i K a w := by
  have hrun := run_store_run ty v v.cells.toList hg rfl hz hfit h1
  obtain ⟨cur', k1, k2, k3⟩ := setCells_row v.cells.toList off w cur hg hfit
  have hgr := (setCells_shape v.cells.toList off w cur hg).2
  have : cur' = cs' := Array.toList_inj.1 (k3.trans hcs.symm)
  subst this
  refine ⟨o, hi, hw, ?_⟩
  unfold Oper.wp execOp
  simp only [ho, hp, hx, Sem.run_bind, hrun, Result.andThen_ok]
  have := h _ k1 hgr
  simpa [hdst, Act.put, go_sem] using this
end
end Go.Proofs.Yteadkghffdiaoab
