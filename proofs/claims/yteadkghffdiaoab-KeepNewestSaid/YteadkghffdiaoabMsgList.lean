/- msg.list: a range over the function that msg.others hands back. -/
import Derived.Test.YteadkghffdiaoabMsgB
import Derived.Test.YteadkghffdiaoabRange
set_option linter.unusedVariables false
set_option linter.unusedSimpArgs false
set_option maxRecDepth 100000
namespace Go.Proofs.Yteadkghffdiaoab
open Go.RowKit Go.Shelf Go.Proofs.YteadkghffdiaoabW.PrintWords
attribute [local go_sem] Oper.semAt_some

theorem RL.take {w : World} {A : Option Addr} {c : Nat} {l : List Int} (h : RL w A c l) (k : Nat) (hk : k ≤ l.length) : RL w A c (l.take k) :=
  ⟨Kd.C_take h.r hk, by rw [List.length_take]; have := h.le; omega⟩
theorem contains_take (l : List Int) (k : Nat) (hk : k ≤ l.length) (v : Int) (A : Option Addr) (c : Nat) (w : World) (hr : RL w A c l) : Calls Try.prog 95 #[.slice A k c, .int .i64 v] w fun e w' => e = .returned (.bool (decide (v ∈ l.take k))) ∧ w = w' := by
  have h := contains_c (l.take k) v A c w (hr.take k hk)
  rwa [List.length_take, Nat.min_eq_left hk] at h

def otherAt (l : List Int) (frm : Int) (k : Nat) : Int × Bool := (l[k]?.getD 0, decide (l[k]?.getD 0 ≠ frm) && !decide (l[k]?.getD 0 ∈ l.take k))
def othersTo (l : List Int) (frm : Int) (k : Nat) : List (Int × Bool) := (List.range k).map (otherAt l frm)
theorem othersTo_succ (l : List Int) (frm : Int) (k : Nat) : othersTo l frm (k + 1) = othersTo l frm k ++ [otherAt l frm k] := by simp [othersTo, List.range_succ]
theorem othersTo_length (l : List Int) (frm : Int) (k : Nat) : (othersTo l frm k).length = k := by simp [othersTo]

set_option maxHeartbeats 400000 in
theorem others_c (A : Option Addr) (n c : Nat) (frm : Int) (w : World) : Calls Try.prog 88 #[.slice A n c, .int .i64 frm] w fun e w' => e = .returned (.func (.func 94) #[] #[.pointer (some ⟨w.heap.size, 0, none⟩), .pointer (some ⟨w.heap.size + 1, 0, none⟩)]) ∧ w' = (w.alloc (.cells #[.slice A n c] 23)).alloc (.cells #[.int .i64 frm] 3) := by
  go_enter Try.func88, Try.ntmps88
  go_wp2
  go_ret
  exact ⟨rfl, rfl⟩

set_option maxRecDepth 100000 in
set_option maxHeartbeats 2000000 in
theorem others1_in (n : Nat) (hn : 1 ≤ n) (w : World) (B1 B2 : Nat) (A : Option Addr) (c : Nat) (l : List Int) (frm : Int)
    (h1 : w.cell? ⟨B1, 0, none⟩ = some (.slice A l.length c)) (h2 : w.cell? ⟨B2, 0, none⟩ = some (.int .i64 frm)) (hr : RL w A c l) :
    SeqR Fence.wide n Try.prog 94 #[.pointer (some ⟨B1, 0, none⟩), .pointer (some ⟨B2, 0, none⟩)] (fun x : Int × Bool => #[.int .i64 x.1, .bool x.2]) none (fun pre x _ => x = otherAt l frm pre.length) (Below w.heap.size)
      (fun xs => xs = othersTo l frm l.length) (fun pre => ∃ k, k ≤ l.length ∧ pre = othersTo l frm k) w := by
  intro lp J Jx W hW hJ hY h0
  have hm := hr.max
  have hle := hr.le
  have HR := Lib.hid hr; clear hr
  have hro : Fence.wide.round = none := rfl
  have wf : Fence.wide.fn 95 := trivial
  refine callsIn_of_wp Try.func94 rfl trivial ?_ hro
  simp only [Try.ntmps94, List.size_toArray, List.length_cons, List.length_nil, Nat.reduceAdd, Nat.reduceSub, Array.replicate_succ, Array.replicate_zero, List.push_toArray, List.append_toArray, List.nil_append, List.cons_append]
  have c1 := (hW.cell (p := ⟨B1, 0, none⟩) (World.block_lt_of_cell? w _ h1)).trans h1
  gi_wp2
  gi_loopw [8] (fun i wr => ∃ k : Nat, k ≤ l.length ∧ i = .int .i64 k ∧ J (othersTo l frm k) wr ∧ Hid (Below w.heap.size w wr)) (fun i _ => l.length - (intOf i).toNat)
  case atStart => exact ⟨0, Nat.zero_le _, rfl, h0, Lib.hid hW⟩
  case round =>
    obtain ⟨k, hk, rfl, hJs, hB⟩ := hrel
    clear c1
    have d1 := (hB.out.cell (p := ⟨B1, 0, none⟩) (World.block_lt_of_cell? w _ h1)).trans h1
    have d2 := (hB.out.cell (p := ⟨B2, 0, none⟩) (World.block_lt_of_cell? w _ h2)).trans h2
    by_cases hlt : k < l.length
    · obtain ⟨ad, rfl, hc⟩ := (HR.out.below hB.out).get hlt
      have i0 : (0 : Int) ≤ (k : Int) := by omega
      have i1 : (k : Int) ≤ (c : Int) := by omega
      obtain ⟨fn, tmps, assign, body, hy, hR⟩ := hY _ (otherAt l frm k) wr hJs (by rw [othersTo_length])
      by_cases he : l[k] = frm
      · have b : (l[k] != frm) = false := by simpa using he
        have hy2 : (Instr.yield lp #[.int .i64 l[k], .bool false]).run Try.prog wr = .ok (.round lp fn tmps assign body) wr := by
          have : otherAt l frm k = (l[k], false) := by simp [otherAt, hlt, he]
          rw [this] at hy; exact hy
        clear hy
        have HE := Lib.hid he; clear he
        gi_wp2
        refine hR.mono ?_
        rintro e W3 (⟨rfl, hJ3, hk3⟩ | ⟨rfl, hJx3⟩)
        · have HB3 := Lib.hid (hB.out.trans hk3)
          gi_wp2
          go_roundw
          case rel => exact ⟨k + 1, by omega, by simp, by rw [othersTo_succ]; exact hJ3, HB3⟩
          case measure => simp [intOf]; omega
        · gi_wp2
          refine bodyPost_ret (results_none rfl _ _ _) rfl ?_
          exact ⟨⟨_, rfl⟩, .inr ⟨_, ⟨k + 1, by omega, (othersTo_succ _ _ _).symm⟩, hJx3⟩⟩
      · have b : (l[k] != frm) = true := by simpa using he
        have hy2 : (Instr.yield lp #[.int .i64 l[k], .bool (!decide (l[k] ∈ l.take k))]).run Try.prog wr = .ok (.round lp fn tmps assign body) wr := by
          have : otherAt l frm k = (l[k], !decide (l[k] ∈ l.take k)) := by simp [otherAt, hlt, he]
          rw [this] at hy; exact hy
        clear hy
        have HE := Lib.hid he; clear he
        gi_wp2_with (gi_at_call 95; refine (callsIn_wide.2 (contains_take l k (by omega) _ _ _ _ (HR.out.below hB.out))).mono ?_; rintro e w' ⟨rfl, rfl⟩)
        refine hR.mono ?_
        rintro e W3 (⟨rfl, hJ3, hk3⟩ | ⟨rfl, hJx3⟩)
        · have HB3 := Lib.hid (hB.out.trans hk3)
          gi_wp2
          go_roundw
          case rel => exact ⟨k + 1, by omega, by simp, by rw [othersTo_succ]; exact hJ3, HB3⟩
          case measure => simp [intOf]; omega
        · gi_wp2
          refine bodyPost_ret (results_none rfl _ _ _) rfl ?_
          exact ⟨⟨_, rfl⟩, .inr ⟨_, ⟨k + 1, by omega, (othersTo_succ _ _ _).symm⟩, hJx3⟩⟩
    · obtain rfl : k = l.length := by omega
      gi_wp2
      go_end0
      exact ⟨⟨_, rfl⟩, .inl ⟨_, rfl, hJs⟩⟩

def okS (x : Int × Bool) : Bool := x.2 && placeS x.1
def listS (l : List Int) (frm : Int) : Bool := (othersTo l frm l.length).all okS && decide (l.length ≤ 3)
theorem listS_yes {l : List Int} {frm : Int} (h : ∀ x ∈ othersTo l frm l.length, okS x = true) : listS l frm = decide (l.length ≤ 3) := by
  unfold listS; rw [List.all_eq_true.2 h]; simp
theorem listS_no {l : List Int} {frm : Int} {k : Nat} (hk : k ≤ l.length) {x : Int × Bool} (hx : x ∈ othersTo l frm k) (h : okS x = false) : listS l frm = false := by
  have hm : x ∈ othersTo l frm l.length := by
    unfold othersTo at hx ⊢
    obtain ⟨j, hj, rfl⟩ := List.mem_map.1 hx
    exact List.mem_map.2 ⟨j, by simp at hj ⊢; omega, rfl⟩
  unfold listS
  have : (othersTo l frm l.length).all okS = false := by
    rw [List.all_eq_false]
    exact ⟨x, hm, by rw [h]; decide⟩
  rw [this]; rfl

theorem three_new (w : World) (o1 o2 o3 : Obj) : ∃ W, W = ((w.alloc o1).alloc o2).alloc o3 ∧ Below w.heap.size w W ∧ W.heap[w.heap.size]? = some o1 ∧ W.heap[w.heap.size + 1]? = some o2 ∧ W.heap[w.heap.size + 2]? = some o3 ∧ W.heap.size = w.heap.size + 3 := by
  obtain ⟨W, hW, hb, k1, k2, hs⟩ := two_new w o1 o2
  rw [← hW]
  refine ⟨_, rfl, hb.alloc hb.size _, (Below.heap_alloc _ _ _ (by omega)).trans k1, (Below.heap_alloc _ _ _ (by omega)).trans k2, ?_, by simp [hs]⟩
  rw [← hs]; exact blk_new W o3

theorem row_set' {w : World} {g : Nat} {t : TypeId} {v : Value} (h : w.heap[g]? = some (.cells #[v] t (0, 0))) (u : Value) : (w.setCell ⟨g, 0, none⟩ u).heap[g]? = some (.cells #[u] t (0, 0)) := blk_set h 0 u
theorem keepsFrom_refl (B : Nat) (W : World) : KeepsFrom B W W := KeepsFrom.refl B W

set_option maxRecDepth 100000 in
set_option maxHeartbeats 2000000 in
theorem list_in (w : World) (A : Option Addr) (c : Nat) (l : List Int) (frm : Int) (hr : RL w A c l) :
    CallsIn Fence.wide 3 Try.prog 82 #[.slice A l.length c, .int .i64 frm] w fun e w' => e = .returned (.bool (listS l frm)) ∧ Below w.heap.size w w' := by
  have hm := hr.max
  have HR := Lib.hid hr; clear hr
  have hro : Fence.wide.round = none := rfl
  have w1 : Fence.wide.fn 88 := trivial
  have w2 : Fence.wide.fn 64 := trivial
  refine callsIn_of_wp_marks Try.func82 rfl trivial ?_ hro
  simp only [Try.ntmps82, List.size_toArray, List.length_cons, List.length_nil, Nat.reduceAdd, Nat.reduceSub, Array.replicate_succ, Array.replicate_zero, List.push_toArray, List.append_toArray, List.nil_append, List.cons_append]
  gi_wp2_with (gi_at_call 88; refine (callsIn_wide.2 (others_c _ _ _ _ _)).mono ?_; rintro e w' ⟨rfl, rfl⟩)
  obtain ⟨W2, hW2, hb, k1, k2, k3, hs⟩ := three_new w (.cells #[.bool false] 4) (.cells #[.slice A l.length c] 23) (.cells #[.int .i64 frm] 3)
  rw [← hW2]
  clear hW2
  have HRb := Lib.hid (HR.out.below hb)
  refine wpIn_rangeR hro (by omega) (gf := 94) (lb := #[.pointer (some ⟨w.heap.size + 1, 0, none⟩), .pointer (some ⟨w.heap.size + 2, 0, none⟩)]) rfl trivial (enters_of Try.func94 (by kernel_rfl) rfl)
    (others1_in 2 (by omega) W2 (w.heap.size + 1) (w.heap.size + 2) A c l frm ((cells_all k2 0).trans rfl) ((cells_all k3 0).trans rfl) HRb.out) (fun r e => by cases e) (fun h k => h.trans k) kp_putObj (Below.refl _ _) (fun _ => rfl)
    (fun pre W => (∀ x ∈ pre, okS x = true) ∧ W.heap[w.heap.size]? = some (.cells #[.bool false] 4 (0, 0)) ∧ Below w.heap.size w W)
    (fun c pre W => c = .ret ∧ (∃ x ∈ pre, okS x = false) ∧ W.heap[w.heap.size]? = some (.cells #[.bool false] 4 (0, 0)) ∧ Below w.heap.size w W)
    ?hI ?hIg ?hIx ⟨by simp, k1, hb⟩
    (fun pre x a' _ => a' = { tmps := #[.slice A l.length c, .int .i64 frm, undef, undef, .pointer (some ⟨w.heap.size, 0, none⟩), .int .i64 x.1, .bool x.2, .slice A l.length c, .int .i64 frm, .func (.func 94) #[] #[.pointer (some ⟨w.heap.size + 1, 0, none⟩), .pointer (some ⟨w.heap.size + 2, 0, none⟩)], .int .i64 x.1, .bool x.2, undef, undef, undef, undef, undef, undef, undef, undef, undef, undef], defers := [] })
    (fun _ _ _ _ _ _ _ hs _ _ => hs) ?assign ?body ?done ?stop
  case hI => exact fun pre X Y row hs' hg hr => ⟨hs'.1, cell_hI hs'.2.1 (by omega) hg hr, below_hI hs'.2.2 (by omega) hs'.2.2.size hg hr⟩
  case hIg => exact fun pre X Y hs' hg => ⟨hs'.1, cell_hIg hs'.2.1 hg, below_hIg hs'.2.2 hs'.2.2.size hg⟩
  case hIx => exact fun c pre X Y row hs' hg hr => ⟨hs'.1, hs'.2.1, cell_hI hs'.2.2.1 (by omega) hg hr, below_hI hs'.2.2.2 (by omega) hs'.2.2.2.size hg hr⟩
  case assign =>
    intro lp pre x W K hi hrel hK
    clear hrel
    gi_wp2
    exact hK _ _ (KeepsFrom.refl _ _) (Below.refl _ _) hi rfl
  case body =>
    rintro lp pre x a' W _ _ ⟨hp, hk, hb'⟩ rfl
    have HP := Lib.hid hp; clear hp
    have HK := Lib.hid hk; clear hk
    have HB := Lib.hid hb'; clear hb'
    have hc := cells_all HK.out 0
    have hz := frozen_all HK.out 0
    have all_snoc : okS x = true → ∀ y ∈ pre ++ [x], okS y = true := fun h y hy => by
      rcases List.mem_append.1 hy with h1 | h1
      · exact HP.out y h1
      · rw [List.mem_singleton.1 h1]; exact h
    have ALL := Lib.hid all_snoc; clear all_snoc
    cases hx2 : x.2
    · have ho : Hid (okS x = false) := Lib.hid (by simp [okS, hx2])
      gi_wp2_with (gi_at_call 64; refine (callsIn_wide.2 (place_c _ _)).mono ?_; rintro e w' ⟨rfl, rfl⟩)
      exact ⟨(KeepsOthers.setCell _ _ _).from _, rfl, ⟨x, by simp, ho.out⟩, row_set' HK.out _, HB.out.setCell (Nat.le_refl _) _⟩
    · cases hx1 : placeS x.1
      · have ho : Hid (okS x = false) := Lib.hid (by simp [okS, hx1])
        gi_wp2_with (gi_at_call 64; refine (callsIn_wide.2 (place_c _ _)).mono ?_; rintro e w' ⟨rfl, rfl⟩)
        exact ⟨(KeepsOthers.setCell _ _ _).from _, rfl, ⟨x, by simp, ho.out⟩, row_set' HK.out _, HB.out.setCell (Nat.le_refl _) _⟩
      · have ho : Hid (okS x = true) := Lib.hid (by simp [okS, hx1, hx2])
        gi_wp2_with (gi_at_call 64; refine (callsIn_wide.2 (place_c _ _)).mono ?_; rintro e w' ⟨rfl, rfl⟩)
        exact ⟨KeepsFrom.refl _ _, Below.refl _ _, ALL.out ho.out, HK.out, HB.out⟩
  case done =>
    rintro D ys W hD rfl ⟨hp, hk, hb'⟩ hK
    have HP : Hid (listS l frm = decide ((l.length : Int) ≤ 3)) := Lib.hid (by rw [listS_yes hp, decide_eq_decide]; omega)
    clear hp
    have hc := cells_all hk 0
    have hz := frozen_all hk 0
    have hk3 := row_set' hk (.bool (decide ((l.length : Int) ≤ 3)))
    have HB3 := Lib.hid (hb'.setCell (p := ⟨w.heap.size, 0, none⟩) (Nat.le_refl _) (.bool (decide ((l.length : Int) ≤ 3))))
    have HK3 := Lib.hid ((KeepsOthers.setCell W ⟨w.heap.size, 0, none⟩ (.bool (decide ((l.length : Int) ≤ 3)))).same D _ hK rfl)
    have K3 := Lib.hid hk3
    clear hk hb' hK hk3
    gi_wp2
    refine ⟨by simp, .inl ⟨_, _, rfl, run_takeDeferred HK3.out, ?_⟩⟩
    have c0 := cells_all ((World.putObj_heap_other (r := D) (o := .deferred none) (k := w.heap.size) (by omega)).trans K3.out) 0
    exact ⟨.bool (decide ((l.length : Int) ≤ 3)), by simp [results, Try.results82, go_sem, c0], by rw [HP.out], HB3.out.grown (grownBy_putObj' _ D _) HB3.out.size (fun k e => by have := Option.some.inj e; omega)⟩
  case stop =>
    rintro D c pre W hD ⟨k, hk, rfl⟩ ⟨rfl, ⟨x, hx, hxo⟩, hk', hb'⟩ hK
    have HP := Lib.hid (listS_no hk hx hxo)
    have K3 := Lib.hid hk'
    have HK3 := Lib.hid hK
    have HB3 := Lib.hid hb'
    clear hk hx hxo hk' hb' hK
    gi_wp2
    refine ⟨by simp, .inl ⟨_, _, rfl, run_takeDeferred HK3.out, ?_⟩⟩
    have c0 := cells_all ((World.putObj_heap_other (r := D) (o := .deferred none) (k := w.heap.size) (by omega)).trans K3.out) 0
    exact ⟨.bool false, by simp [results, Try.results82, go_sem, c0], by rw [HP.out], HB3.out.grown (grownBy_putObj' _ D _) HB3.out.size (fun k e => by have := Option.some.inj e; omega)⟩

theorem list_c (w : World) (A : Option Addr) (c : Nat) (l : List Int) (frm : Int) (hr : RL w A c l) :
    Calls Try.prog 82 #[.slice A l.length c, .int .i64 frm] w fun e w' => e = .returned (.bool (listS l frm)) ∧ Below w.heap.size w w' := callsIn_wide.1 (list_in w A c l frm hr)

end Go.Proofs.Yteadkghffdiaoab
