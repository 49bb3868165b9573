/- Pairs and messages: as Lean structures, as values, and as they are read in memory; small facts on worlds. -/
import Derived.Test.YteadkghffdiaoabProg
import Derived.WalkKit
import Derived.KernelRfl
import Derived.Outline
import Derived.Lib.Hide
import Derived.WalkSpells
import Derived.WalkLawsBesides
import Derived.Deep.DeepCutAuto
import Derived.Deep.CutBlock
import Derived.Deep.QuietTactic
import Derived.BigQuiet
import Derived.Deep.RegionHeld3
import Derived.Deep.MidRow
import Derived.Test.YteadkghffdiaoabWWords
import Derived.Test.YteadkghffdiaoabWGuard
set_option linter.unusedVariables false
set_option maxRecDepth 100000
namespace Go.Proofs.Yteadkghffdiaoab
open Go.RowKit Go.Proofs.YteadkghffdiaoabW.PrintWords

structure Item where
  key : ByteArray
  value : Int
  version : Int
  gone : Bool
deriving DecidableEq
structure Msg where
  kind : Int
  call : Int
  frm : Int
  dst : Int
  key : Int
  slow : Bool
  done : Bool
  place : Int
  pred : Int
  list : List Int
  item : Item
  code : Int
deriving DecidableEq
def Item.zero : Item := ⟨⟨#[]⟩, 0, 0, false⟩
def Msg.zero : Msg := ⟨0, 0, 0, 0, 0, false, false, 0, 0, [], Item.zero, 0⟩

abbrev ic (x : Item) : Array Value := #[.string x.key, .int .i64 x.value, .int .i64 x.version, .bool x.gone]
abbrev mcv (m : Msg) (v : Value) : Array Value := #[.int .u8 m.kind, .int .i64 m.call, .int .i64 m.frm, .int .i64 m.dst, .int .i64 m.key, .bool m.slow, .bool m.done, .int .i64 m.place, .int .i64 m.pred, v, .string m.item.key, .int .i64 m.item.value, .int .i64 m.item.version, .bool m.item.gone, .int .i64 m.code]
abbrev mc (m : Msg) (A : Option Addr) (c : Nat) : Array Value := mcv m (.slice A m.list.length c)

theorem string_eq {a b : ByteArray} : (a.toList == b.toList) = decide (a = b) := by
  have h : a.toList = b.toList ↔ a = b := by
    rw [ByteArray.toList_eq, ByteArray.toList_eq]
    exact ⟨fun h => by cases a; cases b; simp at h; rw [h], fun h => by rw [h]⟩
  by_cases e : a = b
  · simp [e]
  · simp [e, h]

/-- A list of whole numbers that is read. -/
structure RL (w : World) (A : Option Addr) (c : Nat) (l : List Int) : Prop where
  r : (Kd.int .i64).C w A l.length l
  le : l.length ≤ c
theorem RL.below {w w1 : World} {A : Option Addr} {c : Nat} {l : List Int} (h : RL w A c l) (hb : Below w.heap.size w w1) : RL w1 A c l := ⟨Kd.C_below h.r hb, h.le⟩

theorem below_un {w w1 : World} (h : Below w.drew.heap.size w.drew w1) : Below w.heap.size w w1 := ⟨h.os, h.tape, h.output, h.size, h.block⟩
theorem ret_i {k : IntKind} {a b : Int} (h : a = b) : Ending.returned (.int k a) = .returned (.int k b) := by rw [h]
theorem ret_b {a b : Bool} (h : a = b) : Ending.returned (.bool a) = .returned (.bool b) := by rw [h]
theorem cells_all {w : World} {g : Nat} {t : TypeId} {cs : Array Value} (h : w.heap[g]? = some (.cells cs t (0, 0))) : ∀ j, w.cell? ⟨g, j, none⟩ = cs[j]? := fun j => blk_cell h j
theorem frozen_all {w : World} {g : Nat} {t : TypeId} {cs : Array Value} (h : w.heap[g]? = some (.cells cs t (0, 0))) : ∀ j, w.frozen? ⟨g, j, none⟩ = false := fun j => blk_frozen h j
theorem blk_below {w w1 : World} {g : Nat} {o : Obj} (h : w.heap[g]? = some o) (hb : Below w.heap.size w w1) : w1.heap[g]? = some o := (hb.block g (blk_lt h)).trans h

theorem grownBy_set1 (W : World) (b j : Nat) (v : Value) : W.grownBy (W.setCell ⟨b, j, none⟩ v) (some b) :=
  ⟨rfl, rfl, rfl, by simp [World.setCell], fun k _ hk => Below.heap_setCell _ _ _ k (fun e => hk (by rw [e]))⟩

/-! ### Laws for a struct in a block that is known whole -/
section
variable {P : Program} {ops : Array Oper} {rest : List Oper} {o : Oper} {a : Act} {Q : Exit → Act → World → Prop}

theorem setCells_shape {g : Nat} {e : TypeId} : ∀ (vs : List Value) (o : Nat) (w : World) (cur : Array Value), w.heap[g]? = some (.cells cur e (0, 0)) →
    (∃ arr, (w.setCells g o vs).heap[g]? = some (.cells arr e (0, 0)) ∧ arr.size = cur.size) ∧ w.grownBy (w.setCells g o vs) (some g)
  | [], o, w, cur, h => ⟨⟨cur, h, rfl⟩, World.grownBy.refl w _⟩
  | v :: vs, o, w, cur, h => by
    have h1 : (w.setCell ⟨g, o, none⟩ v).heap[g]? = some (.cells (cur.setIfInBounds o v) e (0, 0)) := blk_set h o v
    obtain ⟨⟨arr, h2, h3⟩, h4⟩ := setCells_shape vs (o + 1) _ _ h1
    exact ⟨⟨arr, h2, by rw [h3]; simp⟩, (grownBy_set1 w g o v).trans h4⟩

/-- The whole struct is read. -/
theorem wpList_load_blk {w : World} (ty : TypeId) (x : Operand) (hg_ : o.op = .load ty x) (hgd : o.guard = none)
    (g : Nat) (hx : a.eval x = .pointer (some ⟨g, 0, none⟩)) {t : TypeId} {cs : Array Value} {d : TypeDesc} (hg : w.heap[g]? = some (.cells cs t (0, 0)))
    (hu : P.underlying ty = some d) (hd : (match d with | .struct _ | .array _ _ => true | _ => false) = true) (hi : (P.info? ty).map (·.size) = some cs.size)
    (h : wpList P ops Q rest (a.put o.dst (.agg cs)) w) : wpList P ops Q (o :: rest) a w :=
  wpList_load_row hgd ty x hg_ g hx t cs (0, 0) d hg hu hd hi h

/-- A struct inside a struct is read. -/
theorem wpList_load_sub {w : World} (ty : TypeId) (x : Operand) (ho : o.op = .load ty x) (hgd : o.guard = none)
    (g off : Nat) (hx : a.eval x = .pointer (some ⟨g, off, none⟩)) {cs : Array Value} {d : TypeDesc} (hc : ∀ j v, cs[j]? = some v → w.cell? ⟨g, off + j, none⟩ = some v)
    (hu : P.underlying ty = some d) (hd : d.isRow = true) (hi : (P.info? ty).map (·.size) = some cs.size)
    (h : wpList P ops Q rest (a.put o.dst (.agg cs)) w) : wpList P ops Q (o :: rest) a w :=
  wpList_load_mid hgd ty x ho g off hx cs.toList d (fun j v hv => hc j v (by simpa using hv)) hu hd (by simpa using hi) (by simpa using h)

/-- The whole struct is written. -/
theorem wpList_store_blk {w : World} (ty : TypeId) (p x : Operand) (ho : o.op = .store ty p x) (hgd : o.guard = none) (hdst : o.dst = none)
    (g : Nat) (hp : a.eval p = .pointer (some ⟨g, 0, none⟩)) {e : TypeId} {cur cs : Array Value} (hg : w.heap[g]? = some (.cells cur e (0, 0))) (hx : a.eval x = .agg cs)
    (hi : (P.info? ty).map (·.size) = some cs.size) (hsz : cs.size = cur.size) (h1 : ∀ q ∈ cs.toList, q.oneCell' = true)
    (h : ∀ w1, w1.heap[g]? = some (.cells cs e (0, 0)) → w.grownBy w1 (some g) → wpList P ops Q rest a w1) : wpList P ops Q (o :: rest) a w := by
  have hrun : (Instr.storeAt ty (.pointer (some ⟨g, 0, none⟩)) (.agg cs)).run P w = .ok () (w.setCells g 0 cs.toList) :=
    run_store_run ty (.agg cs) cs.toList hg rfl (by simpa using hi) (by simp [hsz]) h1
  obtain ⟨⟨arr, ha, hasz⟩, hgr⟩ := setCells_shape cs.toList 0 w cur hg
  have hcs : arr = cs := by
    apply Array.ext
    · rw [hasz, hsz]
    · intro i hi1 hi2
      have h2 := World.rangeAt_setCells_same w g 0 cs.toList (fun j hj => ⟨by rw [blk_cell hg]; simp at hj ⊢; omega, blk_frozen hg _⟩) i cs[i] (by simp [hi2])
      rw [Nat.zero_add, blk_cell ha] at h2
      simpa [hi1] using h2
  subst hcs
  refine wpList_plain hgd fun K hK => ?_
  unfold Oper.wp execOp
  simp only [ho, hp, hx, Sem.run_bind, hrun, Result.andThen_ok]
  have := hK _ _ (h _ ha hgr)
  simpa [hdst, Act.put, go_sem] using this
end

theorem msgSize : (Try.prog.info? 28).map (·.size) = some 15 := by kernel_rfl
theorem itemSize : (Try.prog.info? 25).map (·.size) = some 4 := by kernel_rfl
theorem item_range {w : World} {g : Nat} {m : Msg} {v : Value} (hg : ∀ j, w.cell? ⟨g, j, none⟩ = (mcv m v)[j]?) : ∀ j u, (ic m.item)[j]? = some u → w.cell? ⟨g, 10 + j, none⟩ = some u := by
  intro j u hj
  rw [hg]
  match j, hj with
  | 0, hj => exact hj
  | 1, hj => exact hj
  | 2, hj => exact hj
  | 3, hj => exact hj
  | n + 4, hj => simp at hj
theorem mcv_one {m : Msg} {v : Value} (h : v.oneCell' = true) : ∀ q ∈ (mcv m v).toList, q.oneCell' = true := by
  intro q hq
  simp at hq
  rcases hq with rfl | rfl | rfl | rfl | rfl | rfl | rfl | rfl | rfl | rfl | rfl | rfl | rfl | rfl | rfl <;> first | rfl | exact h

/-- The cells of no message. -/
abbrev zmc : Array Value := #[.int .u8 0, .int .i64 0, .int .i64 0, .int .i64 0, .int .i64 0, .bool false, .bool false, .int .i64 0, .int .i64 0, .slice none 0 0, .string ⟨#[]⟩, .int .i64 0, .int .i64 0, .bool false, .int .i64 0]
theorem two_new (w : World) (o1 o2 : Obj) : ∃ W, W = (w.alloc o1).alloc o2 ∧ Below w.heap.size w W ∧ W.heap[w.heap.size]? = some o1 ∧ W.heap[w.heap.size + 1]? = some o2 ∧ W.heap.size = w.heap.size + 2 := by
  refine ⟨_, rfl, ((Below.refl _ w).alloc (Nat.le_refl _) _).alloc (by simp) _, ?_, ?_, by simp⟩
  · exact (Below.heap_alloc _ _ _ (by simp)).trans (blk_new w o1)
  · have := blk_new (w.alloc o1) o2; rwa [World.size_alloc] at this

theorem R_keepFrom {α : Type} {d : Kd α} {e : Nat} {w1 w3 : World} {B base : Nat} {v : Value} {xs : List α} (h : d.R e w1 B (fun _ => True) v xs) (hb : base ≤ B) (hm : ∀ k, B ≤ k → k < w1.heap.size → w3.heap[k]? = w1.heap[k]?) : d.R e w3 base (fun _ => True) v xs :=
  Kd.R_mono (Kd.R_move (Kd.R_lower (Kd.R_bound h) hb) (fun k hk => hm k hk.2.1 hk.2.2.1)) (fun _ _ => trivial)

end Go.Proofs.Yteadkghffdiaoab
