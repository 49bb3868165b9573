/- A region that draws its order, walked in one order that the prover names: what only reads is taken first; a call alone may come up when it does. -/
import Derived.Test.YteadkghffdiaoabQuiet
import Derived.OrdersHeld
set_option linter.unusedVariables false
set_option maxRecDepth 100000
namespace Go.Proofs.Yteadkghffdiaoab
open Go.RowKit Go.Proofs.YteadkghffdiaoabW.PrintWords

section
variable {P : Program} {ops : Array Oper} {md : Region.Mode} {Q : Exit → Act → World → Prop} {S : World → Prop}

/-- May the region be walked in this order? (true: a call, which comes up alone.) -/
def ordB (md : Region.Mode) (ops : Array Oper) : List (Nat × Bool) → Array Bool → Bool
  | [], listed => (Region.ready md ops listed).isEmpty
  | (i, false) :: rest, listed => Region.free md ops listed i && (Region.ready md ops listed).contains i && ordB md ops rest (listed.setIfInBounds i true)
  | (i, true) :: rest, listed => (Region.ready md ops listed == [i]) && ordB md ops rest (listed.setIfInBounds i true)

def wpOrd (P : Program) (l : List Oper) (Q : Exit → Act → World → Prop) (S : World → Prop) : List (Nat × Bool) → Act → World → Prop
  | [], a, w => Q .normal a w
  | (i, false) :: rest, a, w => ∃ o v, l[i]? = some o ∧ YieldsIf P l.toArray S o v a ∧ wpOrd P l Q S rest (a.put o.dst v) w
  | (i, true) :: rest, a, w => ∃ o, l[i]? = some o ∧ ((Region.wanted o (yielded l.toArray a.tmps) = true ∧ o.wp P a w (fun a' w' => S w' ∧ wpOrd P l Q S rest a' w') Q) ∨ (Region.wanted o (yielded l.toArray a.tmps) = false ∧ wpOrd P l Q S rest (a.put o.dst undef) w))

theorem held_of_ord {l : List Oper} (hs : Region.noSelect l.toArray = true) (hQ : ∀ c a d v w, Q (.panic c) (Act.put a d v) w → Q (.panic c) a w) : ∀ (ord : List (Nat × Bool)) (listed : Array Bool) (a : Act) (w : World),
    ordB md l.toArray ord listed = true → S w → wpOrd P l Q S ord a w → wpAnyH P md l.toArray Q S ord.length listed a w
  | [], _, _, _, hb, _, h => wpAnyH_done (by simpa [ordB] using hb) h _
  | (i, false) :: rest, listed, a, w, hb, hS, h => by
    obtain ⟨o, v, ho, hy, hK⟩ := h
    simp only [ordB, Bool.and_eq_true] at hb
    exact wpAnyH_take (by simpa using ho) hs hb.1.1 hb.1.2 (fun c a w => hQ c a _ _ w) hy hS (held_of_ord hs hQ rest _ _ _ hb.2 hS hK)
  | (i, true) :: rest, listed, a, w, hb, hS, h => by
    obtain ⟨o, ho, hK⟩ := h
    simp only [ordB, Bool.and_eq_true, beq_iff_eq] at hb
    refine wpAnyH_all hb.1 (by simp) fun j hj => ?_
    obtain rfl := List.mem_singleton.1 hj
    rcases hK with ⟨hw, hK⟩ | ⟨hw, hK⟩
    · refine wpOp_step (by simpa using ho) (fun K' hK' => ?_)
      rw [if_pos hw]
      exact Oper.wp_mono (fun a' w' h' => hK' a' w' ⟨h'.1, held_of_ord hs hQ rest _ _ _ hb.2 h'.1 h'.2⟩) hK
    · refine wpOp_step (by simpa using ho) (fun K' hK' => ?_)
      rw [if_neg (by rw [hw]; decide)]
      exact hK' _ _ ⟨hS, held_of_ord hs hQ rest _ _ _ hb.2 hS hK⟩

theorem region_ord {id : Nat} {a : Act} {w : World} {l : List Oper} (S : World → Prop) (ord : List (Nat × Bool)) (hm : P.follows .mixedOrders = true) (hs : Region.noSelect l.toArray = true) (hl : ord.length = l.length)
    (hB : ordB .any l.toArray ord (Array.replicate l.length false) = true) (hS : S w.drew) (h : wpOrd P l (NoPanic Q) S ord a w.drew) : (Code.region id l.toArray true).wp P Q a w := by
  refine wp_region_noPanic (wp_region_held (S := S) hm ?_)
  have := held_of_ord (S := S) hs (fun _ _ _ _ _ h => h) ord _ a w.drew hB hS h
  rw [hl] at this
  simpa using this
theorem ord_nil {l : List Oper} {a : Act} {w : World} (h : Q .normal a w) : wpOrd P l (NoPanic Q) S [] a w := h

variable {i : Nat} {o : Oper} {rest : List (Nat × Bool)} {a : Act} {w : World} {l : List Oper}
theorem ord_val {v : Value} (hi : l[i]? = some o) (hw : Region.wanted o (yielded l.toArray a.tmps) = true) (hy : ∀ w, S w → (execOp a.eval o).run P w = .ok (.value v) w) (h : wpOrd P l Q S rest (a.put o.dst v) w) : wpOrd P l Q S ((i, false) :: rest) a w :=
  ⟨o, v, hi, .inl ⟨hw, hy⟩, h⟩
theorem ord_skip {b : Bool} (hi : l[i]? = some o) (hw : Region.wanted o (yielded l.toArray a.tmps) = false) (h : wpOrd P l Q S rest (a.put o.dst undef) w) : wpOrd P l Q S ((i, b) :: rest) a w := by
  cases b
  · exact ⟨o, undef, hi, .inr ⟨hw, rfl⟩, h⟩
  · exact ⟨o, hi, .inr ⟨hw, h⟩⟩
theorem ord_load_blk (ty : TypeId) (x : Operand) (hi : l[i]? = some o) (ho : o.op = .load ty x) (hw : Region.wanted o (yielded l.toArray a.tmps) = true) (g : Nat) (hx : a.eval x = .pointer (some ⟨g, 0, none⟩))
    {t : TypeId} {cs : Array Value} {d : TypeDesc} (hg : ∀ w, S w → w.heap[g]? = some (.cells cs t (0, 0))) (hu : P.underlying ty = some d) (hd : d.isRow = true) (hz : (P.info? ty).map (·.size) = some cs.size)
    (h : wpOrd P l Q S rest (a.put o.dst (.agg cs)) w) : wpOrd P l Q S ((i, false) :: rest) a w := by
  refine ord_val (v := .agg cs) hi hw (fun w hc => ?_) h
  have hr : w.rangeAt g 0 cs.toList := by
    intro j v hj
    rw [Nat.zero_add, blk_cell (hg w hc)]
    simpa using hj
  have := run_loadAt_mid w g 0 ty cs.toList d hr hu hd (by simpa using hz)
  unfold execOp
  simp only [ho, hx, Sem.run_bind, this, Result.andThen_ok, Sem.run_pure]
theorem ord_call {f : FuncId} {args : Array Value} {R : Value → World → Prop} (n : FuncId) (hi : l[i]? = some o) (hn : Oper.isCall o n = true) (hw : Region.wanted o (yielded l.toArray a.tmps) = true) (hc : Calls P f args w (fun e w' => ∃ v, e = .returned v ∧ R v w'))
    (hy : (execOp a.eval o).run P w = .ok (.enter f args) w) (h : ∀ v w', R v w' → S w' ∧ wpOrd P l Q S rest (a.put o.dst v) w') : wpOrd P l Q S ((i, true) :: rest) a w := by
  refine ⟨o, hi, .inl ⟨hw, ?_⟩⟩
  unfold Oper.wp
  rw [hy]
  exact hc.mono fun e w' ⟨v, he, hr⟩ => by subst he; exact h v w' hr
theorem ord_callB {f : FuncId} {args : Array Value} {v : Value} (n : FuncId) (hi : l[i]? = some o) (hn : Oper.isCall o n = true) (hw : Region.wanted o (yielded l.toArray a.tmps) = true) (hc : Calls P f args w (fun e w' => e = .returned v ∧ Below w.heap.size w w'))
    (hS : ∀ w', Below w.heap.size w w' → S w') (hy : (execOp a.eval o).run P w = .ok (.enter f args) w) (h : ∀ w', S w' → wpOrd P l Q S rest (a.put o.dst v) w') : wpOrd P l Q S ((i, true) :: rest) a w :=
  ord_call (R := fun u w' => u = v ∧ Below w.heap.size w w') n hi hn hw (hc.mono fun e w' ⟨he, hb⟩ => ⟨v, he, rfl, hb⟩) hy (fun u w' ⟨hu, hb⟩ => by subst hu; exact ⟨hS w' hb, h w' (hS w' hb)⟩)
end
end Go.Proofs.Yteadkghffdiaoab
