/- A drawn region inside a fence whose last two operations wait for all others: the first ones are walked in a named order, under a condition on the world that need not hold behind the last ones. -/
import Derived.Test.YteadkghffdiaoabHeldIn
set_option linter.unusedVariables false
set_option maxRecDepth 100000
namespace Go.Proofs.Yteadkghffdiaoab
open Go.RowKit Go.Proofs.YteadkghffdiaoabW.PrintWords

section
variable {F : Fence} {n : Nat} {P : Program} {ops : Array Oper} {Q : Exit → Act → World → Prop} {md : Region.Mode} {S : World → Prop}

/-- What is listed holds all it waited for. -/
def ClosedL (md : Region.Mode) (ops : Array Oper) (listed : Array Bool) : Prop := ∀ j o, ops[j]? = some o → listed.getD j false = true → ∀ e ∈ o.after, Region.binds md e = true → listed.getD e.on false = true
theorem ClosedL.start (md : Region.Mode) (ops : Array Oper) (k : Nat) : ClosedL md ops (Array.replicate k false) := by
  intro j o _ h
  rw [Array.getD_eq_getD_getElem?, Array.getElem?_replicate] at h
  split at h <;> simp at h
theorem getD_keep {listed : Array Bool} {i j : Nat} (h : listed.getD j false = true) : (listed.setIfInBounds i true).getD j false = true := by
  rw [Array.getD_eq_getD_getElem?] at h ⊢
  rw [Array.getElem?_setIfInBounds]
  split
  · rename_i e
    split
    · rfl
    · rename_i h2
      rw [Array.getElem?_eq_none (by omega)] at h; exact h
  · exact h
theorem ClosedL.step {listed : Array Bool} {i : Nat} (h : ClosedL md ops listed) (hi : i ∈ Region.ready md ops listed) : ClosedL md ops (listed.setIfInBounds i true) := by
  intro j o ho hj e he hb
  by_cases hji : j = i
  · subst hji
    obtain ⟨_, o', ho', hall⟩ := mem_ready.1 hi
    obtain rfl := Option.some.inj (ho.symm.trans ho')
    exact getD_keep (hall e he hb)
  · refine getD_keep (h j o ho ?_ e he hb)
    rw [Array.getD_eq_getD_getElem?] at hj ⊢
    rw [Array.getElem?_setIfInBounds, if_neg (fun e => hji e.symm)] at hj
    exact hj
/-- Who is waited for, so many steps back. -/
def ancB (md : Region.Mode) (ops : Array Oper) : Nat → Nat → Nat → Bool
  | 0, f, i => f == i
  | k + 1, f, i => f == i || (match ops[f]? with | none => false | some o => o.after.any fun e => Region.binds md e && ancB md ops k e.on i)
theorem anc_listed {listed : Array Bool} (hc : ClosedL md ops listed) : ∀ (k f i : Nat), ancB md ops k f i = true → listed.getD f false = true → listed.getD i false = true
  | 0, f, i, h, hf => by
    have : f = i := by simpa [ancB] using h
    rw [← this]; exact hf
  | k + 1, f, i, h, hf => by
    simp only [ancB, Bool.or_eq_true, beq_iff_eq] at h
    rcases h with rfl | h
    · exact hf
    · cases ho : ops[f]? with
      | none => rw [ho] at h; cases h
      | some o =>
        rw [ho] at h
        simp only [Array.any_eq_true, Bool.and_eq_true] at h
        obtain ⟨x, hx, hb, ha⟩ := h
        exact anc_listed hc k _ i ha (hc f o ho hf _ (Array.getElem_mem hx) hb)
/-- All below f are waited for by f; behind f comes f + 1 alone, which waits for f. -/
def tailB (md : Region.Mode) (ops : Array Oper) (k f : Nat) : Bool := (ops.size == f + 2) && ((List.range f).all fun i => ancB md ops k f i) && ancB md ops 1 (f + 1) f

theorem tail_ready {listed : Array Bool} {k f : Nat} (ht : tailB md ops k f = true) (hc : ClosedL md ops listed) {i j : Nat} (hi : i < f) (hun : listed.getD i true = false) (hj : j ∈ Region.ready md ops listed) : j < f := by
  simp only [tailB, Bool.and_eq_true, beq_iff_eq, List.all_eq_true, List.mem_range] at ht
  obtain ⟨⟨hs, ha⟩, hb⟩ := ht
  obtain ⟨hju, o, ho, hall⟩ := mem_ready.1 hj
  have hjs : j < ops.size := (Array.getElem?_eq_some_iff.1 ho).1
  rcases Nat.lt_or_ge j f with h | h
  · exact h
  · exfalso
    have no : listed.getD i false = true → False := fun h2 => by
      rw [Array.getD_eq_getD_getElem?] at hun h2
      cases hq : listed[i]? with
      | none => rw [hq] at h2; cases h2
      | some b => rw [hq] at hun h2; simp at hun h2; rw [hun] at h2; cases h2
    have hc2 := hc.step hj
    have hlj : ∀ e ∈ o.after, Region.binds md e = true → listed.getD e.on false = true := hall
    -- what j waits for, is listed: so is i
    have key : ∀ m, ancB md ops (m + 1) j i = true → j ≠ i → False := fun m hm hne => by
      simp only [ancB, Bool.or_eq_true, beq_iff_eq] at hm
      rcases hm with rfl | hm
      · exact hne rfl
      · rw [ho] at hm
        simp only [Array.any_eq_true, Bool.and_eq_true] at hm
        obtain ⟨x, hx, hb2, ha2⟩ := hm
        exact no (anc_listed hc m _ i ha2 (hlj _ (Array.getElem_mem hx) hb2))
    rcases Nat.lt_or_ge j (f + 1) with h2 | h2
    · obtain rfl : j = f := by omega
      cases k with
      | zero => have := ha i hi; simp [ancB] at this; omega
      | succ m => exact key m (ha i hi) (by omega)
    · obtain rfl : j = f + 1 := by omega
      simp only [ancB, Bool.or_eq_true, beq_iff_eq] at hb
      rcases hb with hb | hb
      · omega
      · rw [ho] at hb
        simp only [Array.any_eq_true, Bool.and_eq_true, beq_iff_eq] at hb
        obtain ⟨x, hx, hb2, ha2⟩ := hb
        have hf := hlj _ (Array.getElem_mem hx) hb2
        rw [ha2] at hf
        exact no (anc_listed hc k f i (ha i hi) hf)

def wpPre (F : Fence) (n : Nat) (P : Program) (md : Region.Mode) (ops : Array Oper) (Q : Exit → Act → World → Prop) (S : World → Prop) (f : Nat) : Nat → Array Bool → Act → World → Prop
  | 0, listed, a, w => (∀ j, j < f → listed.getD j true = true) ∧ wpAnyIn F n P md ops Q 2 listed a w
  | fuel + 1, listed, a, w => Region.ready md ops listed ≠ [] ∧ ∀ i ∈ Region.ready md ops listed, wpOpIn F n P ops Q i (fun a' w' => S w' ∧ wpPre F n P md ops Q S f fuel (listed.setIfInBounds i true) a' w') a w
theorem any_of_pre {f : Nat} : ∀ (fuel : Nat) (listed : Array Bool) (a : Act) (w : World), wpPre F n P md ops Q S f fuel listed a w → wpAnyIn F n P md ops Q (fuel + 2) listed a w
  | 0, _, _, _, h => h.2
  | fuel + 1, _, _, _, h => ⟨fun h0 => absurd h0 h.1, fun i hi => wpOpIn_mono (fun a' w' h' => any_of_pre fuel _ a' w' h'.2) (h.2 i hi)⟩
theorem pre_first {k f i : Nat} {oi : Oper} {v : Value} (ht : tailB md ops k f = true) (hif : i < f) (hro : F.round = none) (hi : ops[i]? = some oi) (hsel : ∀ (j : Nat) (o : Oper) cs b, ops[j]? = some o → o.op ≠ .select cs b) (hQ : ∀ c a w, Q (.panic c) (a.put oi.dst v) w → Q (.panic c) a w) :
    ∀ (fuel : Nat) (listed : Array Bool) (a : Act) (w : World), ClosedL md ops listed →
      (∀ j oj, ops[j]? = some oj → j ≠ i → listed.getD j true = false → (∀ e ∈ oj.after, Region.binds md e = true → e.on ≠ i) → oi.apart ops oj = true) →
      i ∈ Region.ready md ops listed → YieldsIfF P ops S oi v a → S w → wpPre F n P md ops Q S f fuel (listed.setIfInBounds i true) (a.put oi.dst v) w → wpPre F n P md ops Q S f (fuel + 1) listed a w := by
  intro fuel
  induction fuel with
  | zero =>
    intro listed a w hc _ hr hy hS H
    refine ⟨fun h => (by rw [h] at hr; cases hr), fun j hj => ?_⟩
    by_cases hji : j = i
    · subst hji; exact hy.wpOpIn hro hi hS ⟨hS, H⟩
    · exfalso
      have hjf := tail_ready ht hc hif (mem_ready.1 hr).1 hj
      have h1 := H.1 j hjf
      rw [getD_set_ne true (Ne.symm hji)] at h1
      have := (mem_ready.1 hj).1
      rw [this] at h1; cases h1
  | succ fuel ih =>
    intro listed a w hc hfree hr hy hS H
    refine ⟨fun h => (by rw [h] at hr; cases hr), fun j hj => ?_⟩
    by_cases hji : j = i
    · subst hji; exact hy.wpOpIn hro hi hS ⟨hS, H⟩
    · have h1 := H.2 j (ready_mono hj hji)
      obtain ⟨hjun, oj, hoj, hall⟩ := mem_ready.1 hj
      have hnot : ∀ e ∈ oj.after, Region.binds md e = true → e.on ≠ i := fun e he hb heq => by
        have h1 := hall e he hb
        have h0 := (mem_ready.1 hr).1
        rw [heq] at h1
        rcases Nat.lt_or_ge i listed.size with h' | h'
        · simp [h'] at h0 h1; rw [h0] at h1; cases h1
        · simp [Array.getElem?_eq_none h'] at h1
      have h2 := opIn_putIf hro hoj (hfree j oj hoj hji hjun hnot) (fun cs b => hsel i oi cs b hi) (fun cs b => hsel j oj cs b hoj) hQ hy h1
      have hfree' : ∀ k ok, ops[k]? = some ok → k ≠ i → (listed.setIfInBounds j true).getD k true = false → (∀ e ∈ ok.after, Region.binds md e = true → e.on ≠ i) → oi.apart ops ok = true := fun k ok hk hki hun hno => by
        refine hfree k ok hk hki ?_ hno
        by_cases hjk : j = k
        · subst hjk; exact hjun
        · rw [getD_set_ne true hjk] at hun; exact hun
      refine wpOpIn_mono (fun a' w' h3 => ⟨h3.2.1, ih (listed.setIfInBounds j true) a' w' (hc.step hj) hfree' (ready_mono hr (Ne.symm hji)) h3.1 h3.2.1 ?_⟩) h2
      rw [Array.setIfInBounds_comm _ _ hji]
      exact h3.2.2

/-- The order's first part, and what is left. -/
def ordPB (md : Region.Mode) (ops : Array Oper) (f : Nat) : List (Nat × Bool) → Array Bool → Bool
  | [], listed => ((List.range f).all fun j => listed.getD j true) && (Region.ready md ops listed == [f]) && (Region.ready md ops (listed.setIfInBounds f true) == [f + 1]) && (Region.ready md ops ((listed.setIfInBounds f true).setIfInBounds (f + 1) true)).isEmpty
  | (i, false) :: rest, listed => decide (i < f) && Region.free md ops listed i && (Region.ready md ops listed).contains i && ordPB md ops f rest (listed.setIfInBounds i true)
  | (i, true) :: rest, listed => (Region.ready md ops listed == [i]) && ordPB md ops f rest (listed.setIfInBounds i true)
/-- The walk: the last two by what they do. -/
def wpOrdP (F : Fence) (n : Nat) (P : Program) (l : List Oper) (Q : Exit → Act → World → Prop) (S : World → Prop) (f : Nat) : List (Nat × Bool) → Act → World → Prop
  | [], a, w => ∃ o, l[f]? = some o ∧ Region.wanted o (yielded l.toArray a.tmps) = true ∧ o.wpIn F n P a w (fun a' w' => ∃ o', l[f + 1]? = some o' ∧ Region.wanted o' (yielded l.toArray a'.tmps) = true ∧ o'.wpIn F n P a' w' (fun a2 w2 => Q .normal a2 w2) Q) Q
  | (i, false) :: rest, a, w => ∃ o v, l[i]? = some o ∧ YieldsIfF P l.toArray S o v a ∧ wpOrdP F n P l Q S f rest (a.put o.dst v) w
  | (i, true) :: rest, a, w => ∃ o, l[i]? = some o ∧ Region.wanted o (yielded l.toArray a.tmps) = true ∧ o.wpIn F n P a w (fun a' w' => S w' ∧ wpOrdP F n P l Q S f rest a' w') Q

theorem pre_of_ord {k f : Nat} {l : List Oper} (ht : tailB md l.toArray k f = true) (hro : F.round = none) (hs : Region.noSelect l.toArray = true) (hQ : ∀ c a d v w, Q (.panic c) (Act.put a d v) w → Q (.panic c) a w) : ∀ (ord : List (Nat × Bool)) (listed : Array Bool) (a : Act) (w : World),
    ClosedL md l.toArray listed → ordPB md l.toArray f ord listed = true → S w → wpOrdP F n P l Q S f ord a w → wpPre F n P md l.toArray Q S f ord.length listed a w
  | [], listed, a, w, hc, hb, _, h => by
    simp only [ordPB, Bool.and_eq_true, beq_iff_eq, List.all_eq_true, List.mem_range] at hb
    obtain ⟨⟨⟨h1, h2⟩, h3⟩, h4⟩ := hb
    obtain ⟨o, ho, hw, hK⟩ := h
    refine ⟨h1, ⟨fun h0 => (by rw [h2] at h0; cases h0), fun j hj => ?_⟩⟩
    rw [h2] at hj
    obtain rfl := List.mem_singleton.1 hj
    refine wpOpIn_step (by simpa using ho) (fun K' hK' => ?_)
    rw [if_pos hw]
    refine Oper.wpIn_mono (fun a' w' h' => hK' a' w' ?_) hK
    obtain ⟨o', ho', hw', hK2⟩ := h'
    refine ⟨fun h0 => (by rw [h3] at h0; cases h0), fun j hj => ?_⟩
    rw [h3] at hj
    obtain rfl := List.mem_singleton.1 hj
    refine wpOpIn_step (by simpa using ho') (fun K2 hK2' => ?_)
    rw [if_pos hw']
    exact Oper.wpIn_mono (fun a2 w2 h2' => hK2' a2 w2 ⟨by simpa using h4, h2'⟩) hK2
  | (i, false) :: rest, listed, a, w, hc, hb, hS, h => by
    obtain ⟨o, v, ho, hy, hK⟩ := h
    simp only [ordPB, Bool.and_eq_true, decide_eq_true_eq] at hb
    have ho' : l.toArray[i]? = some o := by simpa using ho
    have hr : i ∈ Region.ready md l.toArray listed := by simpa using hb.1.2
    exact pre_first ht hb.1.1.1 hro ho' (Region.noSelect_spec hs) (fun c a w => hQ c a _ _ w) _ _ _ _ hc (Region.free_spec ho' hb.1.1.2) hr hy hS (pre_of_ord ht hro hs hQ rest _ _ _ (hc.step hr) hb.2 hS hK)
  | (i, true) :: rest, listed, a, w, hc, hb, hS, h => by
    obtain ⟨o, ho, hw, hK⟩ := h
    simp only [ordPB, Bool.and_eq_true, beq_iff_eq] at hb
    refine ⟨fun h0 => (by rw [hb.1] at h0; cases h0), fun j hj => ?_⟩
    have hr := hj
    rw [hb.1] at hj
    obtain rfl := List.mem_singleton.1 hj
    refine wpOpIn_step (by simpa using ho) (fun K' hK' => ?_)
    rw [if_pos hw]
    exact Oper.wpIn_mono (fun a' w' h' => hK' a' w' ⟨h'.1, pre_of_ord ht hro hs hQ rest _ _ _ (hc.step hr) hb.2 h'.1 h'.2⟩) hK
theorem region_ordP {id : Nat} {a : Act} {w : World} {l : List Oper} (S : World → Prop) (k f : Nat) (ord : List (Nat × Bool)) (hro : F.round = none) (hm : P.follows .mixedOrders = true) (hs : Region.noSelect l.toArray = true) (hl : ord.length + 2 = l.length)
    (ht : tailB .any l.toArray k f = true) (hB : ordPB .any l.toArray f ord (Array.replicate l.length false) = true) (hS : S w.drew) (h : wpOrdP F n P l (NoPanic Q) S f ord a w.drew) : (Code.region id l.toArray true).wpIn F n P Q a w := by
  refine Code.wpIn_mono NoPanic.imp (wpIn_region_any hm ?_)
  have := any_of_pre _ _ _ _ (pre_of_ord (S := S) (n := n) ht hro hs (fun _ _ _ _ _ h => h) ord _ a w.drew (ClosedL.start _ _ _) hB hS h)
  rw [hl] at this
  simpa using this

variable {i f : Nat} {o : Oper} {rest : List (Nat × Bool)} {a : Act} {w : World} {l : List Oper}
theorem ordP_val {v : Value} (hi : l[i]? = some o) (hw : Region.wanted o (yielded l.toArray a.tmps) = true) (hab : ∀ w, o.about P w a.eval = none) (hy : ∀ w, S w → (execOp a.eval o).run P w = .ok (.value v) w) (h : wpOrdP F n P l Q S f rest (a.put o.dst v) w) : wpOrdP F n P l Q S f ((i, false) :: rest) a w :=
  ⟨o, v, hi, ⟨.inl ⟨hw, hy⟩, hab⟩, h⟩
theorem ordP_skip (hi : l[i]? = some o) (hw : Region.wanted o (yielded l.toArray a.tmps) = false) (hab : ∀ w, o.about P w a.eval = none) (h : wpOrdP F n P l Q S f rest (a.put o.dst undef) w) : wpOrdP F n P l Q S f ((i, false) :: rest) a w :=
  ⟨o, undef, hi, ⟨.inr ⟨hw, rfl⟩, hab⟩, h⟩
theorem ordP_load_blk (ty : TypeId) (x : Operand) (hi : l[i]? = some o) (ho : o.op = .load ty x) (hw : Region.wanted o (yielded l.toArray a.tmps) = true) (hab : ∀ w, o.about P w a.eval = none) (g : Nat) (hx : a.eval x = .pointer (some ⟨g, 0, none⟩))
    {t : TypeId} {cs : Array Value} {d : TypeDesc} (hg : ∀ w, S w → w.heap[g]? = some (.cells cs t (0, 0))) (hu : P.underlying ty = some d) (hd : d.isRow = true) (hz : (P.info? ty).map (·.size) = some cs.size)
    (h : wpOrdP F n P l Q S f rest (a.put o.dst (.agg cs)) w) : wpOrdP F n P l Q S f ((i, false) :: rest) a w := by
  refine ordP_val (v := .agg cs) hi hw hab (fun w hc => ?_) h
  have hr : w.rangeAt g 0 cs.toList := by
    intro j v hj
    rw [Nat.zero_add, blk_cell (hg w hc)]
    simpa using hj
  have := run_loadAt_mid w g 0 ty cs.toList d hr hu hd (by simpa using hz)
  unfold execOp
  simp only [ho, hx, Sem.run_bind, this, Result.andThen_ok, Sem.run_pure]
theorem ordP_callR {g : FuncId} {args : Array Value} {v : Value} {R : World → Prop} (c : FuncId) (hro : F.round = none) (hi : l[i]? = some o) (hn : Oper.isCall o c = true) (hw : Region.wanted o (yielded l.toArray a.tmps) = true) (hab : ∀ f', o.about P w a.eval = some f' → F.fn f') (hd : F.depth.isSome = true → 1 ≤ n) (hc : CallsIn F (n - 1) P g args w (fun e w' => e = .returned v ∧ R w'))
    (hy : (execOp a.eval o).run P w = .ok (.enter g args) w) (h : ∀ w', R w' → S w' ∧ wpOrdP F n P l Q S f rest (a.put o.dst v) w') : wpOrdP F n P l Q S f ((i, true) :: rest) a w := by
  refine ⟨o, hi, hw, ?_⟩
  unfold Oper.wpIn
  refine ⟨fun f' hf' => hab f' hf', ?_⟩
  rw [hro, Oper.semAt_none, hy]
  exact ⟨hd, hc.mono fun e w' ⟨he, hb⟩ => by subst he; exact h w' hb⟩
/-- The last two: a yield, and what is made of its answer. -/
theorem ordP_yield {o' : Oper} {lp : Nat} {fn : FuncId} {tmps : Array Value} {assign body : Code} {R : Ending → World → Prop} (hro : F.round = none) (hi : l[f]? = some o) (hw : Region.wanted o (yielded l.toArray a.tmps) = true) (hab : ∀ f', o.about P w a.eval = some f' → F.fn f') (hd : F.depth.isSome = true → 1 ≤ n)
    (hy : (execOp a.eval o).run P w = .ok (.round lp fn tmps assign body) w) (hR : RoundIn F (n - 1) P lp fn tmps assign body w R) (hi' : l[f + 1]? = some o') (h : ∀ e w', R e w' → ∃ u v, e = .returned u ∧ Region.wanted o' (yielded l.toArray (a.put o.dst u).tmps) = true ∧ (∀ f', o'.about P w' (a.put o.dst u).eval = some f' → F.fn f') ∧
      (execOp (a.put o.dst u).eval o').run P w' = .ok (.value v) w' ∧ Q .normal ((a.put o.dst u).put o'.dst v) w') : wpOrdP F n P l Q S f [] a w := by
  refine ⟨o, hi, hw, ?_⟩
  unfold Oper.wpIn
  refine ⟨fun f' hf' => hab f' hf', ?_⟩
  rw [hro, Oper.semAt_none, hy]
  refine ⟨hd, hR.mono fun e w' he => ?_⟩
  obtain ⟨u, v, rfl, hw', hab', hy', hq⟩ := h e w' he
  refine ⟨o', hi', hw', ?_⟩
  refine ⟨fun f' hf' => hab' f' hf', ?_⟩
  rw [Oper.semAt_none, hy']
  exact hq
end
end Go.Proofs.Yteadkghffdiaoab
