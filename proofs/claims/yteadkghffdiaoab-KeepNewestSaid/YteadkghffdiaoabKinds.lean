/- Kinds of the program's own structs: pairs, messages; how their cells lie. -/
import Derived.Test.YteadkghffdiaoabBase
set_option linter.unusedVariables false
set_option maxRecDepth 100000
namespace Go.Proofs.Yteadkghffdiaoab
open Go.RowKit Go.Proofs.YteadkghffdiaoabW.PrintWords

def kI : Kd Item := Kd.iso (Kd.pair Kd.string (Kd.pair (Kd.int .i64) (Kd.pair (Kd.int .i64) Kd.bool))) (fun x => (x.key, x.value, x.version, x.gone))
theorem kI_open {w : World} {x : Item} {cs : List Value} (h : kI.K w x cs) : cs = (ic x).toList := by
  obtain ⟨_, _, rfl, rfl, _, _, rfl, rfl, _, _, rfl, rfl, rfl⟩ := h
  rfl
theorem kI_mk (w : World) (x : Item) : kI.K w x (ic x).toList := ⟨[_], [_, _, _], rfl, rfl, [_], [_, _], rfl, rfl, [_], [_], rfl, rfl, rfl⟩
theorem kI_openM {w : World} {base : Nat} {ok : Nat → Prop} {x : Item} {cs : List Value} (h : kI.M w base ok x cs) : cs = (ic x).toList := by
  obtain ⟨_, _, rfl, rfl, _, _, rfl, rfl, _, _, rfl, rfl, rfl⟩ := h
  rfl
theorem kI_mkM (w : World) (base : Nat) (ok : Nat → Prop) (x : Item) : kI.M w base ok x (ic x).toList := ⟨[_], [_, _, _], rfl, rfl, [_], [_, _], rfl, rfl, [_], [_], rfl, rfl, rfl⟩

def kL : Kd (List Int) := Kd.slice 3 (Kd.int .i64)
def kM : Kd Msg := Kd.iso (Kd.pair (Kd.int .u8) (Kd.pair (Kd.int .i64) (Kd.pair (Kd.int .i64) (Kd.pair (Kd.int .i64) (Kd.pair (Kd.int .i64) (Kd.pair Kd.bool (Kd.pair Kd.bool (Kd.pair (Kd.int .i64) (Kd.pair (Kd.int .i64) (Kd.pair kL (Kd.pair kI (Kd.int .i64))))))))))))
  (fun m => (m.kind, m.call, m.frm, m.dst, m.key, m.slow, m.done, m.place, m.pred, m.list, m.item, m.code))
theorem kM_open {w : World} {m : Msg} {cs : List Value} (h : kM.K w m cs) : ∃ A c, cs = (mc m A c).toList ∧ RL w A c m.list := by
  obtain ⟨_, _, rfl, rfl, _, _, rfl, rfl, _, _, rfl, rfl, _, _, rfl, rfl, _, _, rfl, rfl, _, _, rfl, rfl, _, _, rfl, rfl, _, _, rfl, rfl, _, _, rfl, rfl, _, _, rfl, ⟨A, c, rfl, hl, hc⟩, _, _, rfl, hI, rfl⟩ := h
  have := kI_open hI
  subst this
  exact ⟨A, c, rfl, ⟨hc, hl⟩⟩
theorem kM_mk {w : World} {m : Msg} {A : Option Addr} {c : Nat} (h : RL w A c m.list) : kM.K w m (mc m A c).toList :=
  ⟨[_], [_, _, _, _, _, _, _, _, _, _, _, _, _, _], rfl, rfl, [_], [_, _, _, _, _, _, _, _, _, _, _, _, _], rfl, rfl, [_], [_, _, _, _, _, _, _, _, _, _, _, _], rfl, rfl, [_], [_, _, _, _, _, _, _, _, _, _, _], rfl, rfl, [_], [_, _, _, _, _, _, _, _, _, _], rfl, rfl,
    [_], [_, _, _, _, _, _, _, _, _], rfl, rfl, [_], [_, _, _, _, _, _, _, _], rfl, rfl, [_], [_, _, _, _, _, _, _], rfl, rfl, [_], [_, _, _, _, _, _], rfl, rfl, [_], [_, _, _, _, _], rfl, ⟨A, c, rfl, h.le, h.r⟩, [_, _, _, _], [_], rfl, kI_mk w m.item, rfl⟩

/-- A row of pairs that is read. -/
structure RI (w : World) (A : Option Addr) (c : Nat) (l : List Item) : Prop where
  r : kI.C w A l.length l
  le : l.length ≤ c
theorem RI.below {w w1 : World} {A : Option Addr} {c : Nat} {l : List Item} (h : RI w A c l) (hb : Below w.heap.size w w1) : RI w1 A c l := ⟨Kd.C_below h.r hb, h.le⟩
theorem RI.drew {w : World} {A : Option Addr} {c : Nat} {l : List Item} (h : RI w A c l) : RI w.drew A c l := ⟨h.r, h.le⟩
theorem RI.max {w : World} {A : Option Addr} {c : Nat} {l : List Item} (h : RI w A c l) : l.length ≤ 9223372036854775807 := h.r.2.1
theorem RI.nil (w : World) : RI w none 0 [] := ⟨⟨rfl, by simp, fun h => absurd h (Nat.lt_irrefl 0)⟩, Nat.le_refl _⟩
theorem RI.get {w : World} {A : Option Addr} {c : Nat} {l : List Item} (h : RI w A c l) {k : Nat} (hk : k < l.length) : ∃ ad, A = some ad ∧ ∀ j u, (ic l[k])[j]? = some u → w.cell? (ad.add (k * 4 + j)) = some u := by
  obtain ⟨ad, e, hc⟩ := h.r.2.2 (by omega)
  obtain ⟨c, hl, hK, hj⟩ := hc k _ (List.getElem?_eq_getElem hk)
  have := kI_open hK
  subst this
  exact ⟨ad, e, fun j u hu => hj j u (by simpa using hu)⟩
/-- A row of messages that is read. -/
structure RM (w : World) (A : Option Addr) (c : Nat) (l : List Msg) : Prop where
  r : kM.C w A l.length l
  le : l.length ≤ c
theorem RM.below {w w1 : World} {A : Option Addr} {c : Nat} {l : List Msg} (h : RM w A c l) (hb : Below w.heap.size w w1) : RM w1 A c l := ⟨Kd.C_below h.r hb, h.le⟩
theorem RM.drew {w : World} {A : Option Addr} {c : Nat} {l : List Msg} (h : RM w A c l) : RM w.drew A c l := ⟨h.r, h.le⟩
theorem RM.max {w : World} {A : Option Addr} {c : Nat} {l : List Msg} (h : RM w A c l) : l.length ≤ 9223372036854775807 := h.r.2.1

end Go.Proofs.Yteadkghffdiaoab
