/- Law 20: wakes, the facts. -/
import Derived.Test.YteadkghffdiaoabKeepQ
set_option linter.unusedVariables false
set_option linter.unusedSimpArgs false
set_option maxRecDepth 100000
namespace Go.Proofs.Yteadkghffdiaoab
open Go.RowKit Go.Proofs.YteadkghffdiaoabW.PrintWords

theorem RI_blk {w : World} {b : Nat} {l : List Item} (h : w.heap[b]? = some (.cells (flatI l).toArray 25 (0, 0))) (hl : l.length ≤ maxLen) : RI w (some ⟨b, 0, none⟩) l.length l := by
  obtain ⟨A, c, e, hr⟩ := (OwnI.of (base := 0) (v := .slice (some ⟨b, 0, none⟩) l.length l.length) ⟨by rw [flatI_len], .inr ⟨b, l.length, (flatI l).toArray, rfl, Nat.zero_le _, h, Nat.le_refl _, hl, by rw [List.size_toArray, flatI_len], by rw [List.toList_toArray, ← flatI_len, List.take_length]⟩⟩).reads
  injection e with e1 _ e3
  subst e1 e3
  exact hr
theorem ri_new (w : World) (l : List Item) (hl : l.length ≤ maxLen) : RI (w.alloc (.cells (flatI l).toArray 25)) (some ⟨w.heap.size, 0, none⟩) l.length l := RI_blk (blk_new w _) hl
/-- A store of a whole struct into the block just made. -/
theorem wpList_store_new {P : Program} {ops : Array Oper} {rest : List Oper} {o : Oper} {a : Act} {Q : Exit → Act → World → Prop} {W : World} (ty : TypeId) (p x : Operand) (ho : o.op = .store ty p x) (hgd : o.guard = none) (hdst : o.dst = none)
    (hp : a.eval p = .pointer (some ⟨W.heap.size, 0, none⟩)) {e : TypeId} {cur cs : Array Value} (hx : a.eval x = .agg cs)
    (hi : (P.info? ty).map (·.size) = some cs.size) (hsz : cs.size = cur.size) (h1 : ∀ q ∈ cs.toList, q.oneCell' = true)
    (h : ∀ w1, w1.heap[W.heap.size]? = some (.cells cs e (0, 0)) → Below W.heap.size W w1 → wpList P ops Q rest a w1) : wpList P ops Q (o :: rest) a (W.alloc (.cells cur e)) := by
  refine wpList_store_blk ty p x ho hgd hdst W.heap.size hp (blk_new W _) hx hi hsz h1 ?_
  intro w1 k hg
  refine h w1 k ?_
  have h0 := (Below.refl W.heap.size W).alloc (Nat.le_refl _) (.cells cur e)
  exact h0.grown hg h0.size (fun k e => by have := Option.some.inj e; omega)

def kA : ByteArray := ⟨#[97]⟩
def kB : ByteArray := ⟨#[98]⟩
def kC : ByteArray := ⟨#[99]⟩
def wB1 : Item := ⟨kB, 5, 1, false⟩
def wA : Item := ⟨kA, 7, 1, false⟩
def wB2 : Item := ⟨kB, 4, 1, false⟩
def wB3 : Item := ⟨kB, 1, 2, false⟩
theorem wk1 : allS [] [wB1, wA, wB2, wB3] = ([wA, wB3], 0) := by decide +kernel
theorem wk2 : getS [wA, wB3] kB = (wB3, 0) := by decide +kernel
theorem wk3 : getS [wA, wB3] kC = (Item.zero, 201) := by decide +kernel
theorem wk4 : nextS [wA, wB3] kA = (wB3, true) := by decide +kernel
theorem wk5 : nextS [wA, wB3] kB = (wA, true) := by decide +kernel
theorem wk6 : nextS [] ⟨#[]⟩ = (Item.zero, false) := by decide +kernel
theorem wk7 : (putS [wA, wB3] Item.zero).2 = 2 := by decide +kernel
theorem wk8 : rightK [wA, wB3] = true := by decide +kernel
theorem wk9 : rightK [Item.zero] = false := by decide +kernel

theorem of_w1 (w : World) : Calls Try.prog 52 #[.string ⟨#[98]⟩, .int .i64 1, .int .i64 5] w fun e w' => e = .returned (.agg (ic wB1)) ∧ Below w.heap.size w w' := of_c kB 1 5 w
theorem of_w2 (w : World) : Calls Try.prog 52 #[.string ⟨#[97]⟩, .int .i64 1, .int .i64 7] w fun e w' => e = .returned (.agg (ic wA)) ∧ Below w.heap.size w w' := of_c kA 1 7 w
theorem of_w3 (w : World) : Calls Try.prog 52 #[.string ⟨#[98]⟩, .int .i64 1, .int .i64 4] w fun e w' => e = .returned (.agg (ic wB2)) ∧ Below w.heap.size w w' := of_c kB 1 4 w
theorem of_w4 (w : World) : Calls Try.prog 52 #[.string ⟨#[98]⟩, .int .i64 2, .int .i64 1] w fun e w' => e = .returned (.agg (ic wB3)) ∧ Below w.heap.size w w' := of_c kB 2 1 w
theorem all_wk (w : World) (g : Nat) (hr : RI w (some ⟨g, 0, none⟩) 4 [wB1, wA, wB2, wB3]) : Calls Try.prog 26 #[.slice none 0 0, .slice (some ⟨g, 0, none⟩) 4 4] w fun e w' => ∃ A c, e = .returned (.tuple #[.slice A 2 c, .int .i64 0]) ∧ RI w' A c [wA, wB3] ∧ Below w.heap.size w w' := by
  refine (keepAll_c [] [wB1, wA, wB2, wB3] none (some ⟨g, 0, none⟩) 0 4 w (RI.nil w) hr (by decide) (by decide)).mono ?_
  rintro e w' ⟨v, rfl, hv, hb⟩
  rw [wk1] at hv ⊢
  obtain ⟨A, c, rfl, hR⟩ := hv.reads
  exact ⟨A, c, rfl, hR, hb⟩
theorem get_wk (w : World) (A : Option Addr) (c : Nat) (hr : RI w A c [wA, wB3]) : Calls Try.prog 28 #[.slice A 2 c, .string ⟨#[98]⟩] w fun e w' => e = .returned (.tuple #[.agg (ic wB3), .int .i64 0]) ∧ Below w.heap.size w w' := by
  have := keepGet_c w A c [wA, wB3] kB hr; rwa [wk2] at this
theorem get_wc (w : World) (A : Option Addr) (c : Nat) (hr : RI w A c [wA, wB3]) : Calls Try.prog 28 #[.slice A 2 c, .string ⟨#[99]⟩] w fun e w' => e = .returned (.tuple #[.agg (ic Item.zero), .int .i64 201]) ∧ Below w.heap.size w w' := by
  have := keepGet_c w A c [wA, wB3] kC hr; rwa [wk3] at this
theorem next_wa (w : World) (A : Option Addr) (c : Nat) (hr : RI w A c [wA, wB3]) : Calls Try.prog 34 #[.slice A 2 c, .string ⟨#[97]⟩] w fun e w' => e = .returned (.tuple #[.agg (ic wB3), .bool true]) ∧ Below w.heap.size w w' := by
  have := keepNext_c w A c [wA, wB3] kA hr; rwa [wk4] at this
theorem next_wb (w : World) (A : Option Addr) (c : Nat) (hr : RI w A c [wA, wB3]) : Calls Try.prog 34 #[.slice A 2 c, .string ⟨#[98]⟩] w fun e w' => e = .returned (.tuple #[.agg (ic wA), .bool true]) ∧ Below w.heap.size w w' := by
  have := keepNext_c w A c [wA, wB3] kB hr; rwa [wk5] at this
theorem next_w0 (w : World) : Calls Try.prog 34 #[.slice none 0 0, .string ⟨#[]⟩] w fun e w' => e = .returned (.tuple #[.agg (ic Item.zero), .bool false]) ∧ Below w.heap.size w w' := by
  have := keepNext_c w none 0 [] ⟨#[]⟩ (RI.nil w); rwa [wk6] at this
theorem put_wk (w : World) (A : Option Addr) (c : Nat) (hr : RI w A c [wA, wB3]) : Calls Try.prog 53 #[.slice A 2 c, .agg #[.string ⟨#[]⟩, .int .i64 0, .int .i64 0, .bool false]] w fun e w' => ∃ v, e = .returned (.tuple #[v, .int .i64 2]) ∧ Below w.heap.size w w' := by
  refine (put_c [wA, wB3] Item.zero A c w hr (by decide)).mono ?_
  rintro e w' ⟨v, rfl, _, hb⟩
  rw [wk7]
  exact ⟨v, rfl, hb⟩
theorem items_b (a b : List Item) (A B : Option Addr) (c d : Nat) (w : World) (ha : RI w A c a) (hb : RI w B d b) {r : Bool} (hr : decide (a = b) = r) :
    Calls Try.prog 31 #[.slice A a.length c, .slice B b.length d] w fun e w' => e = .returned (.bool r) ∧ Below w.heap.size w w' := by
  subst hr
  exact items_c a b A B c d w ha hb
theorem items_wk (w : World) (A : Option Addr) (c g : Nat) (hr : RI w A c [wA, wB3]) (hg : RI w (some ⟨g, 0, none⟩) 2 [wA, wB3]) : Calls Try.prog 31 #[.slice A 2 c, .slice (some ⟨g, 0, none⟩) 2 2] w fun e w' => e = .returned (.bool true) ∧ Below w.heap.size w w' := items_b [wA, wB3] [wA, wB3] A _ c 2 w hr hg (by decide +kernel)
theorem right_wk (w : World) (A : Option Addr) (c : Nat) (hr : RI w A c [wA, wB3]) : Calls Try.prog 27 #[.slice A 2 c] w fun e w' => e = .returned (.bool true) ∧ Below w.heap.size w w' := keepRight_w w A c [wA, wB3] hr wk8
theorem right_wz (w : World) (g : Nat) (hr : RI w (some ⟨g, 0, none⟩) 1 [Item.zero]) : Calls Try.prog 27 #[.slice (some ⟨g, 0, none⟩) 1 1] w fun e w' => e = .returned (.bool false) ∧ Below w.heap.size w w' := keepRight_w w _ 1 [Item.zero] hr wk9
theorem own_wk (w : World) (A : Option Addr) (c : Nat) (hr : RI w A c [wA, wB3]) : Calls Try.prog 54 #[.slice A 2 c] w fun e w' => ∃ A' c', e = .returned (.slice A' 2 c') ∧ Below w.heap.size w w' := by
  refine (keepOwn_c [wA, wB3] A c w hr (by decide)).mono ?_
  rintro e w' ⟨v, rfl, hv, hb⟩
  obtain ⟨A', c', rfl, _⟩ := hv.reads
  exact ⟨A', c', rfl, hb⟩

end Go.Proofs.Yteadkghffdiaoab
