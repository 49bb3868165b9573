/- A region that draws its order: what only reads first, in one order that the prover names; what is left comes up in whatever order it may. -/
import Derived.Test.YteadkghffdiaoabHeld
set_option linter.unusedVariables false
set_option maxRecDepth 100000
namespace Go.Proofs.Yteadkghffdiaoab
open Go.RowKit Go.Proofs.YteadkghffdiaoabW.PrintWords

section
variable {P : Program} {ops : Array Oper} {md : Region.Mode} {Q : Exit → Act → World → Prop} {S : World → Prop} {K : Act → World → Prop}

def fstB (md : Region.Mode) (ops : Array Oper) : List Nat → Array Bool → Bool
  | [], _ => true
  | i :: rest, listed => Region.free md ops listed i && (Region.ready md ops listed).contains i && fstB md ops rest (listed.setIfInBounds i true)
def fstEnd : List Nat → Array Bool → Array Bool
  | [], listed => listed
  | i :: rest, listed => fstEnd rest (listed.setIfInBounds i true)
def wpFst (P : Program) (l : List Oper) (S : World → Prop) (K : Act → World → Prop) : List Nat → Act → World → Prop
  | [], a, w => K a w
  | i :: rest, a, w => ∃ o v, l[i]? = some o ∧ YieldsIf P l.toArray S o v a ∧ wpFst P l S K rest (a.put o.dst v) w

theorem held_of_fst {l : List Oper} (hs : Region.noSelect l.toArray = true) (hQ : ∀ c a d v w, Q (.panic c) (Act.put a d v) w → Q (.panic c) a w) (n : Nat) (e : Array Bool) : ∀ (ord : List Nat) (listed : Array Bool) (a : Act) (w : World),
    fstB md l.toArray ord listed = true → fstEnd ord listed = e → S w → wpFst P l S (wpAnyH P md l.toArray Q S n e) ord a w → wpAnyH P md l.toArray Q S (ord.length + n) listed a w
  | [], listed, a, w, _, he, _, h => by
    simp only [fstEnd] at he
    subst he
    simpa [wpFst] using h
  | i :: rest, listed, a, w, hb, he, hS, h => by
    obtain ⟨o, v, ho, hy, hK⟩ := h
    simp only [fstB, Bool.and_eq_true] at hb
    rw [List.length_cons, Nat.add_right_comm]
    exact wpAnyH_take (by simpa using ho) hs hb.1.1 hb.1.2 (fun c a w => hQ c a _ _ w) hy hS (held_of_fst hs hQ n e rest _ _ _ hb.2 he hS hK)

theorem region_fst {id : Nat} {a : Act} {w : World} {l : List Oper} (S : World → Prop) (ord : List Nat) (n : Nat) (e : Array Bool) (hm : P.follows .mixedOrders = true) (hs : Region.noSelect l.toArray = true) (hl : ord.length + n = l.length)
    (hB : fstB .any l.toArray ord (Array.replicate l.length false) = true) (he : fstEnd ord (Array.replicate l.length false) = e) (hS : S w.drew) (h : wpFst P l S (wpAnyH P .any l.toArray (NoPanic Q) S n e) ord a w.drew) : (Code.region id l.toArray true).wp P Q a w := by
  refine wp_region_noPanic (wp_region_held (S := S) hm ?_)
  have := held_of_fst (S := S) hs (fun _ _ _ _ _ h => h) n e ord _ a w.drew hB he hS h
  rw [hl] at this
  simpa using this

theorem any_one {i : Nat} {fuel : Nat} {listed : Array Bool} {a : Act} {w : World} (hr : Region.ready md ops listed = [i]) (h1 : wpOp P ops Q i (fun a' w' => S w' ∧ wpAnyH P md ops Q S fuel (listed.setIfInBounds i true) a' w') a w) : wpAnyH P md ops Q S (fuel + 1) listed a w :=
  wpAnyH_all hr (by simp) (fun k hk => by rw [List.mem_singleton] at hk; subst hk; exact h1)
theorem any_two {i j : Nat} {fuel : Nat} {listed : Array Bool} {a : Act} {w : World} (hr : Region.ready md ops listed = [i, j]) (h1 : wpOp P ops Q i (fun a' w' => S w' ∧ wpAnyH P md ops Q S fuel (listed.setIfInBounds i true) a' w') a w)
    (h2 : wpOp P ops Q j (fun a' w' => S w' ∧ wpAnyH P md ops Q S fuel (listed.setIfInBounds j true) a' w') a w) : wpAnyH P md ops Q S (fuel + 1) listed a w :=
  wpAnyH_all hr (by simp) (fun k hk => by
    rcases List.mem_cons.1 hk with rfl | hk
    · exact h1
    · rw [List.mem_singleton] at hk; subst hk; exact h2)
theorem any_done {fuel : Nat} {listed : Array Bool} {a : Act} {w : World} (hr : Region.ready md ops listed = []) (h : Q .normal a w) : wpAnyH P md ops (NoPanic Q) S fuel listed a w := wpAnyH_done (Q := NoPanic Q) hr h fuel

variable {i : Nat} {o : Oper} {rest : List Nat} {a : Act} {w : World} {l : List Oper}
theorem fst_nil (h : K a w) : wpFst P l S K [] a w := h
theorem fst_val {v : Value} (hi : l[i]? = some o) (hw : Region.wanted o (yielded l.toArray a.tmps) = true) (hy : ∀ w, S w → (execOp a.eval o).run P w = .ok (.value v) w) (h : wpFst P l S K rest (a.put o.dst v) w) : wpFst P l S K (i :: rest) a w :=
  ⟨o, v, hi, .inl ⟨hw, hy⟩, h⟩
theorem fst_skip (hi : l[i]? = some o) (hw : Region.wanted o (yielded l.toArray a.tmps) = false) (h : wpFst P l S K rest (a.put o.dst undef) w) : wpFst P l S K (i :: rest) a w :=
  ⟨o, undef, hi, .inr ⟨hw, rfl⟩, h⟩
end
end Go.Proofs.Yteadkghffdiaoab
