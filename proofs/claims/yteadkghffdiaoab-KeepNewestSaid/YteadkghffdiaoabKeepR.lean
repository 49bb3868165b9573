/- keep.Right: may a row of pairs be a keep? -/
import Derived.Test.YteadkghffdiaoabPairs
set_option linter.unusedVariables false
set_option linter.unusedSimpArgs false
set_option maxRecDepth 100000
namespace Go.Proofs.Yteadkghffdiaoab
open Go.RowKit Go.Shelf Go.Proofs.YteadkghffdiaoabW.PrintWords
attribute [local go_sem] Oper.semAt_some

def rightK (l : List Item) : Bool := (pairsTo l l.length).all (fun x => x.2) && decide ((l.length : Int) ≤ 24)
theorem rightK_yes {l : List Item} (h : ∀ x ∈ pairsTo l l.length, x.2 = true) : rightK l = decide ((l.length : Int) ≤ 24) := by
  unfold rightK; rw [List.all_eq_true.2 h]; rfl
theorem rightK_no {l : List Item} {k : Nat} (hk : k ≤ l.length) {x : Item × Bool} (hx : x ∈ pairsTo l k) (h : x.2 = false) : rightK l = false := by
  have hm : x ∈ pairsTo l l.length := by
    unfold pairsTo at hx ⊢
    obtain ⟨j, hj, rfl⟩ := List.mem_map.1 hx
    exact List.mem_map.2 ⟨j, by simp at hj ⊢; omega, rfl⟩
  unfold rightK
  have : (pairsTo l l.length).all (fun x => x.2) = false := by
    rw [List.all_eq_false]
    exact ⟨x, hm, by rw [h]; decide⟩
  rw [this]; rfl
theorem kb_refl (w A : World) : KeepB w A A := ⟨Below.refl _ _, fun _ _ _ _ h => h⟩
theorem kb_putObj (w W : World) (l : Nat) (o o' : Obj) (hl : w.heap.size ≤ l) (h : W.heap[l]? = some o) (hc : o.isCells = false) (hw : o.isWalk = false) : KeepB w W (W.putObj l o') := by
  refine ⟨kp_putObj W l o o' hl h hc hw, fun g cs t hg hA => ?_⟩
  have hne : g ≠ l := by
    rintro rfl
    rw [h] at hA
    have := Option.some.inj hA
    subst this
    simp [Obj.isCells] at hc
  exact (World.putObj_heap_other (r := l) (o := o') hne).trans hA

set_option maxHeartbeats 2000000 in
theorem keepRight_in (w : World) (A : Option Addr) (c : Nat) (l : List Item) (hr : RI w A c l) :
    CallsIn Fence.wide 3 Try.prog 27 #[.slice A l.length c] w fun e w' => e = .returned (.bool (rightK l)) ∧ Below w.heap.size w w' := by
  have hm := hr.max
  have HR := Lib.hid hr; clear hr
  have hro : Fence.wide.round = none := rfl
  have wf1 : Fence.wide.fn 55 := trivial
  refine callsIn_of_wp_marks Try.func27 rfl trivial ?_ hro
  simp only [Try.ntmps27, List.size_toArray, List.length_cons, List.length_nil, Nat.reduceAdd, Nat.reduceSub, Array.replicate_succ, Array.replicate_zero, List.push_toArray, List.append_toArray, List.nil_append, List.cons_append]
  gi_wp2_with (gi_at_call 55; refine (callsIn_wide.2 (pairs_c _ _ _ _)).mono ?_; rintro e w' ⟨rfl, rfl⟩)
  obtain ⟨W2, hW2, hb, k1, k2, hs⟩ := two_new w (.cells #[.bool false] 4) (.cells #[.slice A l.length c] 48)
  rw [← hW2]
  clear hW2
  have HRb := Lib.hid (HR.out.below hb)
  refine wpIn_rangeR hro (by omega) (gf := 74) (lb := #[.pointer (some ⟨w.heap.size + 1, 0, none⟩)]) rfl trivial (enters_of Try.func74 (by kernel_rfl) rfl)
    (pairs1_in 2 (by omega) W2 (w.heap.size + 1) A c l ((cells_all k2 0).trans rfl) HRb.out) (fun r e => by cases e) (fun h k => h.trans k) (fun W l o o' hl h1 h2 h3 => kb_putObj _ W l o o' hl h1 h2 h3) (Below.refl _ _) (fun _ => rfl)
    (fun pre W => (∀ x ∈ pre, x.2 = true) ∧ W.heap[w.heap.size]? = some (.cells #[.bool false] 4 (0, 0)) ∧ Below w.heap.size w W)
    (fun c pre W => c = .ret ∧ (∃ x ∈ pre, x.2 = false) ∧ W.heap[w.heap.size]? = some (.cells #[.bool false] 4 (0, 0)) ∧ Below w.heap.size w W)
    ?hI ?hIg ?hIx ⟨by simp, k1, hb⟩
    (fun pre x a' _ => a' = { tmps := #[.slice A l.length c, undef, .pointer (some ⟨w.heap.size, 0, none⟩), undef, .bool x.2, .slice A l.length c, .func (.func 74) #[] #[.pointer (some ⟨w.heap.size + 1, 0, none⟩)], .agg (ic x.1), .bool x.2, undef, undef, undef, undef, undef], defers := [] })
    (fun _ _ _ _ _ _ _ hs _ _ => hs) ?assign ?body ?done ?stop
  case hI => exact fun pre X Y row hs' hg hr => ⟨hs'.1, cell_hI hs'.2.1 (by omega) hg hr, below_hI hs'.2.2 (by omega) hs'.2.2.size hg hr⟩
  case hIg => exact fun pre X Y hs' hg => ⟨hs'.1, cell_hIg hs'.2.1 hg, below_hIg hs'.2.2 hs'.2.2.size hg⟩
  case hIx => exact fun c pre X Y row hs' hg hr => ⟨hs'.1, hs'.2.1, cell_hI hs'.2.2.1 (by omega) hg hr, below_hI hs'.2.2.2 (by omega) hs'.2.2.2.size hg hr⟩
  case assign =>
    intro lp pre x W K hi hrel hK
    clear hrel
    gi_wp2
    exact hK _ _ (KeepsFrom.refl _ _) (kb_refl _ _) hi rfl
  case body =>
    rintro lp pre x a' W _ _ ⟨hp, hk, hb'⟩ rfl
    have HP := Lib.hid hp; clear hp
    have HK := Lib.hid hk; clear hk
    have HB := Lib.hid hb'; clear hb'
    have hc := cells_all HK.out 0
    have hz := frozen_all HK.out 0
    have all_snoc : x.2 = true → ∀ y ∈ pre ++ [x], y.2 = true := fun h y hy => by
      rcases List.mem_append.1 hy with h1 | h1
      · exact HP.out y h1
      · rw [List.mem_singleton.1 h1]; exact h
    have ALL := Lib.hid all_snoc; clear all_snoc
    cases hx2 : x.2
    · have ho : Hid (x.2 = false) := Lib.hid hx2
      gi_wp2
      exact ⟨(KeepsOthers.setCell _ _ _).from _, rfl, ⟨x, by simp, ho.out⟩, blk_set HK.out 0 _, HB.out.setCell (Nat.le_refl _) _⟩
    · have ho : Hid (x.2 = true) := Lib.hid hx2
      gi_wp2
      exact ⟨KeepsFrom.refl _ _, kb_refl _ _, ALL.out ho.out, HK.out, HB.out⟩
  case done =>
    rintro D ys W hD rfl ⟨hp, hk, hb'⟩ hK
    have HP : Hid (rightK l = decide ((l.length : Int) ≤ 24)) := Lib.hid (rightK_yes hp)
    clear hp
    have hc := cells_all hk 0
    have hz := frozen_all hk 0
    have hk3 : (W.setCell ⟨w.heap.size, 0, none⟩ (.bool (decide ((l.length : Int) ≤ 24)))).heap[w.heap.size]? = some (.cells #[.bool (decide ((l.length : Int) ≤ 24))] 4 (0, 0)) := blk_set hk 0 _
    have HB3 := Lib.hid (hb'.setCell (p := ⟨w.heap.size, 0, none⟩) (Nat.le_refl _) (.bool (decide ((l.length : Int) ≤ 24))))
    have HK3 := Lib.hid ((KeepsOthers.setCell W ⟨w.heap.size, 0, none⟩ (.bool (decide ((l.length : Int) ≤ 24)))).same D _ hK rfl)
    have K3 := Lib.hid hk3
    clear hk hb' hK hk3
    gi_wp2
    refine ⟨by simp, .inl ⟨_, _, rfl, run_takeDeferred HK3.out, ?_⟩⟩
    have c0 := cells_all ((World.putObj_heap_other (r := D) (o := .deferred none) (k := w.heap.size) (by omega)).trans K3.out) 0
    exact ⟨.bool (decide ((l.length : Int) ≤ 24)), by simp [results, Try.results27, go_sem, c0], by rw [HP.out], HB3.out.grown (grownBy_putObj' _ D _) HB3.out.size (fun k e => by have := Option.some.inj e; omega)⟩
  case stop =>
    rintro D c pre W hD ⟨k, hk, rfl⟩ ⟨rfl, ⟨x, hx, hxo⟩, hk', hb'⟩ hK
    have HP := Lib.hid (rightK_no hk hx hxo)
    have K3 := Lib.hid hk'
    have HK3 := Lib.hid hK
    have HB3 := Lib.hid hb'
    clear hk hx hxo hk' hb' hK
    gi_wp2
    refine ⟨by simp, .inl ⟨_, _, rfl, run_takeDeferred HK3.out, ?_⟩⟩
    have c0 := cells_all ((World.putObj_heap_other (r := D) (o := .deferred none) (k := w.heap.size) (by omega)).trans K3.out) 0
    exact ⟨.bool false, by simp [results, Try.results27, go_sem, c0], by rw [HP.out], HB3.out.grown (grownBy_putObj' _ D _) HB3.out.size (fun k e => by have := Option.some.inj e; omega)⟩
theorem keepRight_c (w : World) (A : Option Addr) (c : Nat) (l : List Item) (hr : RI w A c l) : Calls Try.prog 27 #[.slice A l.length c] w fun e w' => e = .returned (.bool (rightK l)) ∧ Below w.heap.size w w' := callsIn_wide.1 (keepRight_in w A c l hr)

end Go.Proofs.Yteadkghffdiaoab
