/- A region that draws its order, inside a fence, walked in one order that the prover names (XHeld's law, every machine fenced). -/
import Derived.Test.YteadkghffdiaoabHeld
import Derived.Test.YteadkghffdiaoabRange
import Derived.OrdersIn
set_option linter.unusedVariables false
set_option maxRecDepth 100000
namespace Go.Proofs.Yteadkghffdiaoab
open Go.RowKit Go.Proofs.YteadkghffdiaoabW.PrintWords

section
variable {F : Fence} {n : Nat} {P : Program} {ops : Array Oper} {Q : Exit → Act → World → Prop} {md : Region.Mode} {S : World → Prop}

def YieldsIfF (P : Program) (ops : Array Oper) (S : World → Prop) (o : Oper) (v : Value) (a : Act) : Prop := YieldsIf P ops S o v a ∧ ∀ w, o.about P w a.eval = none
theorem YieldsIfF.wpOpIn {i : Nat} {o : Oper} {v : Value} {a : Act} (hro : F.round = none) (hi : ops[i]? = some o) (hy : YieldsIfF P ops S o v a) {K : Act → World → Prop} {w : World} (hS : S w) (h : K (a.put o.dst v) w) : wpOpIn F n P ops Q i K a w := by
  unfold Go.wpOpIn
  simp only [hi]
  have hab : ∀ f, o.about P w a.eval = some f → F.fn f := fun f hf => by rw [hy.2 w] at hf; cases hf
  rcases hy.1 with ⟨hw, hv⟩ | ⟨hw, rfl⟩
  · simp only [hw, if_true, Oper.wpIn, hro, Oper.semAt_none, hv w hS, Oper.uponIn]; exact ⟨hab, h⟩
  · simp only [hw, Bool.false_eq_true, if_false]; exact ⟨hab, h⟩
theorem YieldsIfF.same {o : Oper} {v : Value} {a a' : Act} (hy : YieldsIfF P ops S o v a) (he : execOp a'.eval o = execOp a.eval o) (hw : Region.wanted o (yielded ops a'.tmps) = Region.wanted o (yielded ops a.tmps)) (hb : ∀ w, o.about P w a'.eval = o.about P w a.eval) : YieldsIfF P ops S o v a' :=
  ⟨hy.1.of_same he hw, fun w => by rw [hb w]; exact hy.2 w⟩

theorem opIn_putIf {j : Nat} {oi oj : Oper} {v : Value} (hro : F.round = none) (hj : ops[j]? = some oj) (hap : oi.apart ops oj = true) (hsi : ∀ cs b, oi.op ≠ .select cs b) (hsj : ∀ cs b, oj.op ≠ .select cs b)
    (hQ : ∀ c a w, Q (.panic c) (a.put oi.dst v) w → Q (.panic c) a w) {K : Act → World → Prop} {a : Act} {w : World} (hy : YieldsIfF P ops S oi v a) (h : wpOpIn F n P ops Q j K (a.put oi.dst v) w) :
    wpOpIn F n P ops Q j (fun a' w' => YieldsIfF P ops S oi v a' ∧ K (a'.put oi.dst v) w') a w := by
  obtain ⟨h1, h2, h3⟩ := Oper.apart_spec hap
  have keep : ∀ (a : Act), YieldsIfF P ops S oi v a → ∀ u, YieldsIfF P ops S oi v (a.put oj.dst u) := fun a hy u => hy.same (execOp_put oi hsi a oj.dst u h3) (wanted_put oi a oj.dst u h3) (fun w => about_put oi w a oj.dst u h3)
  have keepD : ∀ d, YieldsIfF P ops S oi v { a with defers := d :: a.defers } := fun d => hy.same rfl rfl (fun _ => rfl)
  unfold wpOpIn at *
  simp only [hj] at *
  rw [wanted_put oj a oi.dst v h1, about_put oj w a oi.dst v h1] at h
  split
  · rename_i hw
    simp only [hw, if_true] at h
    unfold Oper.wpIn at *
    rw [about_put oj w a oi.dst v h1] at h
    refine ⟨h.1, ?_⟩
    have h := h.2
    rw [hro, Oper.semAt_none, execOp_put oj hsj a oi.dst v h1] at h
    rw [hro, Oper.semAt_none]
    generalize (execOp a.eval oj).run P w = r at *
    cases r with
    | ok x w' =>
      cases x <;> simp only [Oper.uponIn] at h ⊢
      case value u => exact ⟨keep a hy u, by rw [← Act.put_comm a v u h2]; exact h⟩
      case skip => exact ⟨keep a hy _, by rw [← Act.put_comm a v undef h2]; exact h⟩
      case defer d =>
        refine ⟨keep _ (keepD d) _, ?_⟩
        rw [← Act.put_comm _ v undef h2, ← Act.put_defers]
        exact h
      case enter f args =>
        refine ⟨h.1, CallsIn.mono h.2 fun e w'' he => ?_⟩
        cases e with
        | returned u => exact ⟨keep a hy u, by rw [← Act.put_comm a v u h2]; exact he⟩
        | panicked c => exact hQ _ _ _ he
        | outgrown => exact he
      case row row args => exact ⟨h.1, RowsIn.mono h.2 fun u w'' he => ⟨keep a hy u, by rw [← Act.put_comm a v u h2]; exact he⟩⟩
      case round l f tmps assign body =>
        refine ⟨h.1, RoundIn.mono h.2 fun e w'' he => ?_⟩
        cases e with
        | returned u => exact ⟨keep a hy u, by rw [← Act.put_comm a v u h2]; exact he⟩
        | panicked c => exact hQ _ _ _ he
        | outgrown => exact he
    | halt x w' =>
      cases x <;> simp only [Oper.uponIn] at h ⊢
      case panic u => exact hQ _ _ _ h
  · rename_i hw
    simp only [hw] at h
    exact ⟨h.1, keep a hy _, by rw [← Act.put_comm a v undef h2]; exact h.2⟩

/-- Whatever order is picked, fenced, and S holds behind each operation. -/
def wpAnyHIn (F : Fence) (n : Nat) (P : Program) (md : Region.Mode) (ops : Array Oper) (Q : Exit → Act → World → Prop) (S : World → Prop) : Nat → Array Bool → Act → World → Prop
  | 0, listed, a, w => Region.ready md ops listed = [] ∧ Q .normal a w
  | fuel + 1, listed, a, w =>
    (Region.ready md ops listed = [] → Q .normal a w) ∧
    ∀ i ∈ Region.ready md ops listed, wpOpIn F n P ops Q i (fun a' w' => S w' ∧ wpAnyHIn F n P md ops Q S fuel (listed.setIfInBounds i true) a' w') a w
theorem anyIn_of_held : ∀ (fuel : Nat) (listed : Array Bool) (a : Act) (w : World), wpAnyHIn F n P md ops Q S fuel listed a w → wpAnyIn F n P md ops Q fuel listed a w
  | 0, _, _, _, h => h
  | fuel + 1, _, _, _, h => ⟨h.1, fun i hi => wpOpIn_mono (fun a' w' h' => anyIn_of_held fuel _ a' w' h'.2) (h.2 i hi)⟩
theorem anyHIn_first {i : Nat} {oi : Oper} {v : Value} (hro : F.round = none) (hi : ops[i]? = some oi) (hsel : ∀ (j : Nat) (o : Oper) cs b, ops[j]? = some o → o.op ≠ .select cs b) (hQ : ∀ c a w, Q (.panic c) (a.put oi.dst v) w → Q (.panic c) a w) :
    ∀ (fuel : Nat) (listed : Array Bool) (a : Act) (w : World),
      (∀ j oj, ops[j]? = some oj → j ≠ i → listed.getD j true = false → (∀ e ∈ oj.after, Region.binds md e = true → e.on ≠ i) → oi.apart ops oj = true) →
      i ∈ Region.ready md ops listed → YieldsIfF P ops S oi v a → S w → wpAnyHIn F n P md ops Q S fuel (listed.setIfInBounds i true) (a.put oi.dst v) w → wpAnyHIn F n P md ops Q S (fuel + 1) listed a w := by
  intro fuel
  induction fuel with
  | zero =>
    intro listed a w _ hr hy hS H
    refine ⟨fun h => (by rw [h] at hr; cases hr), fun j hj => ?_⟩
    by_cases hji : j = i
    · subst hji; exact hy.wpOpIn hro hi hS ⟨hS, H⟩
    · have := ready_mono hj hji
      rw [H.1] at this
      cases this
  | succ fuel ih =>
    intro listed a w hfree hr hy hS H
    refine ⟨fun h => (by rw [h] at hr; cases hr), fun j hj => ?_⟩
    by_cases hji : j = i
    · subst hji; exact hy.wpOpIn hro hi hS ⟨hS, H⟩
    · have h1 := H.2 j (ready_mono hj hji)
      obtain ⟨hjun, oj, hoj, hall⟩ := mem_ready.1 hj
      have hnot : ∀ e ∈ oj.after, Region.binds md e = true → e.on ≠ i := fun e he hb heq => by
        have h1 := hall e he hb
        have h0 := (mem_ready.1 hr).1
        rw [heq] at h1
        rcases Nat.lt_or_ge i listed.size with h' | h'
        · simp [h'] at h0 h1; rw [h0] at h1; cases h1
        · simp [Array.getElem?_eq_none h'] at h1
      have h2 := opIn_putIf hro hoj (hfree j oj hoj hji hjun hnot) (fun cs b => hsel i oi cs b hi) (fun cs b => hsel j oj cs b hoj) hQ hy h1
      have hfree' : ∀ k ok, ops[k]? = some ok → k ≠ i → (listed.setIfInBounds j true).getD k true = false → (∀ e ∈ ok.after, Region.binds md e = true → e.on ≠ i) → oi.apart ops ok = true := fun k ok hk hki hun hno => by
        refine hfree k ok hk hki ?_ hno
        by_cases hjk : j = k
        · subst hjk; exact hjun
        · rw [getD_set_ne true hjk] at hun; exact hun
      refine wpOpIn_mono (fun a' w' h3 => ⟨h3.2.1, ih (listed.setIfInBounds j true) a' w' hfree' (ready_mono hr (Ne.symm hji)) h3.1 h3.2.1 ?_⟩) h2
      rw [Array.setIfInBounds_comm _ _ hji]
      exact h3.2.2

/-- The walk in a named order. -/
def wpOrdIn (F : Fence) (n : Nat) (P : Program) (l : List Oper) (Q : Exit → Act → World → Prop) (S : World → Prop) : List (Nat × Bool) → Act → World → Prop
  | [], a, w => Q .normal a w
  | (i, false) :: rest, a, w => ∃ o v, l[i]? = some o ∧ YieldsIfF P l.toArray S o v a ∧ wpOrdIn F n P l Q S rest (a.put o.dst v) w
  | (i, true) :: rest, a, w => ∃ o, l[i]? = some o ∧ Region.wanted o (yielded l.toArray a.tmps) = true ∧ o.wpIn F n P a w (fun a' w' => S w' ∧ wpOrdIn F n P l Q S rest a' w') Q

theorem heldIn_of_ord {l : List Oper} (hro : F.round = none) (hs : Region.noSelect l.toArray = true) (hQ : ∀ c a d v w, Q (.panic c) (Act.put a d v) w → Q (.panic c) a w) : ∀ (ord : List (Nat × Bool)) (listed : Array Bool) (a : Act) (w : World),
    ordB md l.toArray ord listed = true → S w → wpOrdIn F n P l Q S ord a w → wpAnyHIn F n P md l.toArray Q S ord.length listed a w
  | [], listed, a, w, hb, _, h => ⟨by simpa [ordB] using hb, h⟩
  | (i, false) :: rest, listed, a, w, hb, hS, h => by
    obtain ⟨o, v, ho, hy, hK⟩ := h
    simp only [ordB, Bool.and_eq_true] at hb
    have ho' : l.toArray[i]? = some o := by simpa using ho
    exact anyHIn_first hro ho' (Region.noSelect_spec hs) (fun c a w => hQ c a _ _ w) _ _ _ _ (Region.free_spec ho' hb.1.1) (by simpa using hb.1.2) hy hS (heldIn_of_ord hro hs hQ rest _ _ _ hb.2 hS hK)
  | (i, true) :: rest, listed, a, w, hb, hS, h => by
    obtain ⟨o, ho, hw, hK⟩ := h
    simp only [ordB, Bool.and_eq_true, beq_iff_eq] at hb
    refine ⟨fun h0 => absurd (hb.1 ▸ h0) (by simp), fun j hj => ?_⟩
    rw [hb.1] at hj
    obtain rfl := List.mem_singleton.1 hj
    refine wpOpIn_step (by simpa using ho) (fun K' hK' => ?_)
    rw [if_pos hw]
    exact Oper.wpIn_mono (fun a' w' h' => hK' a' w' ⟨h'.1, heldIn_of_ord hro hs hQ rest _ _ _ hb.2 h'.1 h'.2⟩) hK
theorem region_ordIn {id : Nat} {a : Act} {w : World} {l : List Oper} (S : World → Prop) (ord : List (Nat × Bool)) (hro : F.round = none) (hm : P.follows .mixedOrders = true) (hs : Region.noSelect l.toArray = true) (hl : ord.length = l.length)
    (hB : ordB .any l.toArray ord (Array.replicate l.length false) = true) (hS : S w.drew) (h : wpOrdIn F n P l (NoPanic Q) S ord a w.drew) : (Code.region id l.toArray true).wpIn F n P Q a w := by
  refine Code.wpIn_mono NoPanic.imp (wpIn_region_any hm (anyIn_of_held (S := S) _ _ _ _ ?_))
  have := heldIn_of_ord (S := S) (n := n) hro hs (fun _ _ _ _ _ h => h) ord _ a w.drew hB hS h
  rw [hl] at this
  simpa using this

variable {i : Nat} {o : Oper} {rest : List (Nat × Bool)} {a : Act} {w : World} {l : List Oper}
theorem ordIn_val {v : Value} (hi : l[i]? = some o) (hw : Region.wanted o (yielded l.toArray a.tmps) = true) (hab : ∀ w, o.about P w a.eval = none) (hy : ∀ w, S w → (execOp a.eval o).run P w = .ok (.value v) w) (h : wpOrdIn F n P l Q S rest (a.put o.dst v) w) : wpOrdIn F n P l Q S ((i, false) :: rest) a w :=
  ⟨o, v, hi, ⟨.inl ⟨hw, hy⟩, hab⟩, h⟩
theorem ordIn_skip (hi : l[i]? = some o) (hw : Region.wanted o (yielded l.toArray a.tmps) = false) (hab : ∀ w, o.about P w a.eval = none) (h : wpOrdIn F n P l Q S rest (a.put o.dst undef) w) : wpOrdIn F n P l Q S ((i, false) :: rest) a w :=
  ⟨o, undef, hi, ⟨.inr ⟨hw, rfl⟩, hab⟩, h⟩
theorem ordIn_load_blk (ty : TypeId) (x : Operand) (hi : l[i]? = some o) (ho : o.op = .load ty x) (hw : Region.wanted o (yielded l.toArray a.tmps) = true) (hab : ∀ w, o.about P w a.eval = none) (g : Nat) (hx : a.eval x = .pointer (some ⟨g, 0, none⟩))
    {t : TypeId} {cs : Array Value} {d : TypeDesc} (hg : ∀ w, S w → w.heap[g]? = some (.cells cs t (0, 0))) (hu : P.underlying ty = some d) (hd : d.isRow = true) (hz : (P.info? ty).map (·.size) = some cs.size)
    (h : wpOrdIn F n P l Q S rest (a.put o.dst (.agg cs)) w) : wpOrdIn F n P l Q S ((i, false) :: rest) a w := by
  refine ordIn_val (v := .agg cs) hi hw hab (fun w hc => ?_) h
  have hr : w.rangeAt g 0 cs.toList := by
    intro j v hj
    rw [Nat.zero_add, blk_cell (hg w hc)]
    simpa using hj
  have := run_loadAt_mid w g 0 ty cs.toList d hr hu hd (by simpa using hz)
  unfold execOp
  simp only [ho, hx, Sem.run_bind, this, Result.andThen_ok, Sem.run_pure]
theorem ordIn_callB {f : FuncId} {args : Array Value} {v : Value} (c : FuncId) (hro : F.round = none) (hi : l[i]? = some o) (hn : Oper.isCall o c = true) (hw : Region.wanted o (yielded l.toArray a.tmps) = true) (hab : ∀ w f', o.about P w a.eval = some f' → F.fn f') (hd : F.depth.isSome = true → 1 ≤ n) (hc : CallsIn F (n - 1) P f args w (fun e w' => e = .returned v ∧ Below w.heap.size w w'))
    (hS : ∀ w', Below w.heap.size w w' → S w') (hy : (execOp a.eval o).run P w = .ok (.enter f args) w) (h : ∀ w', S w' → wpOrdIn F n P l Q S rest (a.put o.dst v) w') : wpOrdIn F n P l Q S ((i, true) :: rest) a w := by
  refine ⟨o, hi, hw, ?_⟩
  unfold Oper.wpIn
  refine ⟨fun f' hf' => hab w f' hf', ?_⟩
  rw [hro, Oper.semAt_none, hy]
  exact ⟨hd, hc.mono fun e w' ⟨he, hb⟩ => by subst he; exact ⟨hS w' hb, h w' (hS w' hb)⟩⟩
theorem ordIn_callR {f : FuncId} {args : Array Value} {v : Value} {R : World → Prop} (c : FuncId) (hro : F.round = none) (hi : l[i]? = some o) (hn : Oper.isCall o c = true) (hw : Region.wanted o (yielded l.toArray a.tmps) = true) (hab : ∀ f', o.about P w a.eval = some f' → F.fn f') (hd : F.depth.isSome = true → 1 ≤ n) (hc : CallsIn F (n - 1) P f args w (fun e w' => e = .returned v ∧ R w'))
    (hy : (execOp a.eval o).run P w = .ok (.enter f args) w) (h : ∀ w', R w' → S w' ∧ wpOrdIn F n P l Q S rest (a.put o.dst v) w') : wpOrdIn F n P l Q S ((i, true) :: rest) a w := by
  refine ⟨o, hi, hw, ?_⟩
  unfold Oper.wpIn
  refine ⟨fun f' hf' => hab f' hf', ?_⟩
  rw [hro, Oper.semAt_none, hy]
  exact ⟨hd, hc.mono fun e w' ⟨he, hb⟩ => by subst he; exact h w' hb⟩
end
end Go.Proofs.Yteadkghffdiaoab
