/- A region that draws its order, whose calls only make memory: one walk, at the class of worlds 'made out of W'. -/
import Derived.Test.YteadkghffdiaoabBase
import Derived.IntWalk
set_option linter.unusedVariables false
set_option maxRecDepth 100000
namespace Go.Proofs.Yteadkghffdiaoab
open Go.RowKit Go.Proofs.YteadkghffdiaoabW.PrintWords

def Oper.isCall (o : Oper) (f : FuncId) : Bool := match o.op with | .call c => (match c.callee with | .value (.func g) => g == f | _ => false) | _ => false

section
variable {P : Program} {ops : Array Oper} {C : World → Prop} {Q : Act → Prop} {rest : List Oper} {a : Act} {o : Oper}

theorem quiet_skip (hw : Region.wanted o (yielded ops a.tmps) = false) (h : wpQuiet P ops C Q rest (a.put o.dst undef)) : wpQuiet P ops C Q (o :: rest) a := by
  unfold wpQuiet
  rw [if_neg (by rw [hw]; decide)]
  exact h
theorem quiet_val {v : Value} (hw : Region.wanted o (yielded ops a.tmps) = true) (hy : ∀ w, C w → (execOp a.eval o).run P w = .ok (.value v) w) (h : wpQuiet P ops C Q rest (a.put o.dst v)) : wpQuiet P ops C Q (o :: rest) a := by
  unfold wpQuiet
  rw [if_pos hw]
  exact ⟨v, fun w hc => by unfold Oper.quietAt; rw [hy w hc]; exact ⟨rfl, rfl⟩, h⟩
theorem quiet_call {v : Value} {f : FuncId} {args : Array Value} (hw : Region.wanted o (yielded ops a.tmps) = true) (hy : ∀ w, C w → (execOp a.eval o).run P w = .ok (.enter f args) w)
    (hc : ∀ w, C w → Calls P f args w (fun e w' => e = .returned v ∧ C w')) (h : wpQuiet P ops C Q rest (a.put o.dst v)) : wpQuiet P ops C Q (o :: rest) a := by
  unfold wpQuiet
  rw [if_pos hw]
  exact ⟨v, fun w hw1 => by unfold Oper.quietAt; rw [hy w hw1]; exact ⟨rfl, hc w hw1⟩, h⟩
theorem quiet_callB {W : World} {v : Value} {f : FuncId} {args : Array Value} (n : FuncId) (hn : Oper.isCall o n = true) (hw : Region.wanted o (yielded ops a.tmps) = true)
    (hc : ∀ w, Below W.heap.size W w → Calls P f args w (fun e w' => e = .returned v ∧ Below w.heap.size w w')) (hy : ∀ w, Below W.heap.size W w → (execOp a.eval o).run P w = .ok (.enter f args) w) (h : wpQuiet P ops (Below W.heap.size W) Q rest (a.put o.dst v)) : wpQuiet P ops (Below W.heap.size W) Q (o :: rest) a :=
  quiet_call hw hy (fun w hW => (hc w hW).mono fun _ _ ⟨e, hb⟩ => ⟨e, below_step hW hb⟩) h
theorem quiet_callS {v : Value} {f : FuncId} {args : Array Value} (n : FuncId) (hn : Oper.isCall o n = true) (hw : Region.wanted o (yielded ops a.tmps) = true)
    (hc : ∀ w, C w → Calls P f args w (fun e w' => e = .returned v ∧ w = w')) (hy : ∀ w, C w → (execOp a.eval o).run P w = .ok (.enter f args) w) (h : wpQuiet P ops C Q rest (a.put o.dst v)) : wpQuiet P ops C Q (o :: rest) a :=
  quiet_call hw hy (fun w hW => (hc w hW).mono fun _ _ ⟨e, hb⟩ => ⟨e, hb ▸ hW⟩) h
theorem quiet_load_blk (ty : TypeId) (x : Operand) (ho : o.op = .load ty x) (hw : Region.wanted o (yielded ops a.tmps) = true) (g : Nat) (hx : a.eval x = .pointer (some ⟨g, 0, none⟩))
    {t : TypeId} {cs : Array Value} {d : TypeDesc} (hg : ∀ w, C w → w.heap[g]? = some (.cells cs t (0, 0))) (hu : P.underlying ty = some d) (hd : d.isRow = true) (hi : (P.info? ty).map (·.size) = some cs.size)
    (h : wpQuiet P ops C Q rest (a.put o.dst (.agg cs))) : wpQuiet P ops C Q (o :: rest) a := by
  refine quiet_val (v := .agg cs) hw (fun w hc => ?_) h
  have hr : w.rangeAt g 0 cs.toList := by
    intro j v hj
    rw [Nat.zero_add, blk_cell (hg w hc)]
    simpa using hj
  have := run_loadAt_mid w g 0 ty cs.toList d hr hu hd (by simpa using hi)
  unfold execOp
  simp only [ho, hx, Sem.run_bind, this, Result.andThen_ok, Sem.run_pure]

theorem region_below {id : Nat} {Q : Exit → Act → World → Prop} {a : Act} {W : World} {l : List Oper} (hm : P.follows .mixedOrders = true) (hB : Region.lexB .any l.toArray = true)
    (h : wpQuiet P l.toArray (Below W.heap.size W) (fun a' => ∀ w', Below W.heap.size W w' → Q .normal a' w') l a) : (Code.region id l.toArray true).wp P Q a W :=
  wp_region_quiet (C := Below W.heap.size W) hm hB (⟨rfl, rfl, rfl, Nat.le_refl _, fun _ _ => rfl⟩) (by simpa using h)
end

end Go.Proofs.Yteadkghffdiaoab
