/- Stores of some cells of a block that is known whole. -/
import Derived.Test.YteadkghffdiaoabHeld
set_option linter.unusedVariables false
set_option maxRecDepth 100000
namespace Go.Proofs.Yteadkghffdiaoab
open Go.RowKit Go.Proofs.YteadkghffdiaoabW.PrintWords

section
variable {P : Program} {Q : Exit → Act → World → Prop} {S : World → Prop} {i : Nat} {o : Oper} {rest : List (Nat × Bool)} {a : Act} {w : World} {l : List Oper}
/-- Cells of a block, written from an offset on. -/
theorem ord_store {e : TypeId} {cur cs' : Array Value} (ty : TypeId) (p x : Operand) (hi : l[i]? = some o) (ho : o.op = .store ty p x) (hdst : o.dst = none) (hw : Region.wanted o (yielded l.toArray a.tmps) = true) (g off : Nat) (hp : a.eval p = .pointer (some ⟨g, off, none⟩))
    {v : Value} (hx : a.eval x = v) (hg : w.heap[g]? = some (.cells cur e (0, 0))) (hz : (P.info? ty).map (·.size) = some v.cells.toList.length) (hfit : off + v.cells.toList.length ≤ cur.size) (h1 : ∀ q ∈ v.cells.toList, q.oneCell' = true)
    (hcs : cs'.toList = cur.toList.take off ++ v.cells.toList ++ cur.toList.drop (off + v.cells.toList.length)) (h : ∀ w1, w1.heap[g]? = some (.cells cs' e (0, 0)) → w.grownBy w1 (some g) → S w1 ∧ wpOrd P l Q S rest a w1) : wpOrd P l Q S ((i, true) :: rest) a w := by
  have hrun := run_store_run ty v v.cells.toList hg rfl hz hfit h1
  obtain ⟨cur', k1, k2, k3⟩ := setCells_row v.cells.toList off w cur hg hfit
  have hgr := (setCells_shape v.cells.toList off w cur hg).2
  have : cur' = cs' := Array.toList_inj.1 (k3.trans hcs.symm)
  subst this
  refine ⟨o, hi, .inl ⟨hw, ?_⟩⟩
  unfold Oper.wp execOp
  simp only [ho, hp, hx, Sem.run_bind, hrun, Result.andThen_ok]
  have := h _ k1 hgr
  simpa [hdst, Act.put, go_sem] using this
end
section
variable {P : Program} {ops : Array Oper} {rest : List Oper} {o : Oper} {a : Act} {Q : Exit → Act → World → Prop} {w : World}
theorem wpList_store_at {e : TypeId} {cur cs' : Array Value} (ty : TypeId) (p x : Operand) (ho : o.op = .store ty p x) (hgd : o.guard = none) (hdst : o.dst = none) (g off : Nat) (hp : a.eval p = .pointer (some ⟨g, off, none⟩))
    {v : Value} (hx : a.eval x = v) (hg : w.heap[g]? = some (.cells cur e (0, 0))) (hz : (P.info? ty).map (·.size) = some v.cells.toList.length) (hfit : off + v.cells.toList.length ≤ cur.size) (h1 : ∀ q ∈ v.cells.toList, q.oneCell' = true)
    (hcs : cs'.toList = cur.toList.take off ++ v.cells.toList ++ cur.toList.drop (off + v.cells.toList.length)) (h : ∀ w1, w1.heap[g]? = some (.cells cs' e (0, 0)) → w.grownBy w1 (some g) → wpList P ops Q rest a w1) : wpList P ops Q (o :: rest) a w := by
  have hrun := run_store_run ty v v.cells.toList hg rfl hz hfit h1
  obtain ⟨cur', k1, k2, k3⟩ := setCells_row v.cells.toList off w cur hg hfit
  have hgr := (setCells_shape v.cells.toList off w cur hg).2
  have : cur' = cs' := Array.toList_inj.1 (k3.trans hcs.symm)
  subst this
  refine wpList_plain hgd fun K hK => ?_
  unfold Oper.wp execOp
  simp only [ho, hp, hx, Sem.run_bind, hrun, Result.andThen_ok]
  have := hK _ _ (h _ k1 hgr)
  simpa [hdst, Act.put, go_sem] using this
end
end Go.Proofs.Yteadkghffdiaoab
