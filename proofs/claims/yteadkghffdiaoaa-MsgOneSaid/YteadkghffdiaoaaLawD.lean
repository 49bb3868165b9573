/- Law 06: MsgOne, walked. -/
import Derived.Test.YteadkghffdiaoaaLawC
set_option linter.unusedVariables false
set_option linter.unusedSimpArgs false
namespace Go.Proofs.Yteadkghffdiaoaa
open Go.RowKit Go.Proofs.YteadkghffdiaoaaW.PrintWords

section
variable {P : Program} {Q : Exit → Act → World → Prop} {S : World → Prop} {i : Nat} {o : Oper} {rest : List (Nat × Bool)} {a : Act} {w : World} {l : List Oper}
theorem ord_load_sub (ty : TypeId) (x : Operand) (hi : l[i]? = some o) (ho : o.op = .load ty x) (hw : Region.wanted o (yielded l.toArray a.tmps) = true) (g off : Nat) (hx : a.eval x = .pointer (some ⟨g, off, none⟩))
    {cs : Array Value} {d : TypeDesc} (hg : ∀ w, S w → ∀ j v, cs[j]? = some v → w.cell? ⟨g, off + j, none⟩ = some v) (hu : P.underlying ty = some d) (hd : d.isRow = true) (hz : (P.info? ty).map (·.size) = some cs.size)
    (h : wpOrd P l Q S rest (a.put o.dst (.agg cs)) w) : wpOrd P l Q S ((i, false) :: rest) a w := by
  refine ord_val (v := .agg cs) hi hw (fun w hc => ?_) h
  have hr : w.rangeAt g off cs.toList := fun j v hj => hg w hc j v (by simpa using hj)
  have := run_loadAt_mid w g off ty cs.toList d hr hu hd (by simpa using hz)
  unfold execOp
  simp only [ho, hx, Sem.run_bind, this, Result.andThen_ok, Sem.run_pure]
end
theorem zero9 (W : World) : Sem.run Try.prog (zeroValue 38) W = .ok (.agg (rowsA (List.replicate 9 zmc.toList))) W := by kernel_rfl
/-- The row behind k rounds. -/
def lk (m : Msg) (A : Option Addr) (c : Nat) (k : Nat) : List (List Value) := List.replicate k (mc m A c).toList ++ List.replicate (9 - k) zmc.toList
theorem lk_len (m : Msg) (A : Option Addr) (c : Nat) (k : Nat) : ∀ x, x ∈ lk m A c k → x.length = 15 := by
  intro x hx
  unfold lk at hx
  rcases List.mem_append.1 hx with h | h
  · rw [(List.mem_replicate.1 h).2]; rfl
  · rw [(List.mem_replicate.1 h).2]; rfl
theorem lk_length (m : Msg) (A : Option Addr) (c : Nat) {k : Nat} (hk : k ≤ 9) : (lk m A c k).length = 9 := by
  unfold lk; rw [List.length_append, List.length_replicate, List.length_replicate]; omega
theorem lk_size (m : Msg) (A : Option Addr) (c : Nat) {k : Nat} (hk : k ≤ 9) : (rowsA (lk m A c k)).size = 135 := by
  show (lk m A c k).flatten.toArray.size = 135
  rw [List.size_toArray, flat_len 15 _ (lk_len m A c k), lk_length m A c hk]
theorem lk_set (m : Msg) (A : Option Addr) (c : Nat) {k : Nat} (hk : k < 9) : (lk m A c k).set k (mc m A c).toList = lk m A c (k + 1) := by
  unfold lk
  rw [List.set_append_right _ _ (by simp), List.length_replicate, Nat.sub_self, List.replicate_succ', show 9 - k = (9 - (k + 1)) + 1 by omega, List.replicate_succ, List.set_cons_zero, List.append_assoc]
  rfl
/-- Nine rows of fifteen cells. -/
structure Rows9 (L : List (List Value)) : Prop where
  nine : L.length = 9
  each : ∀ x, x ∈ L → x.length = 15
def put9 (L : List (List Value)) (i off : Nat) (v : Value) : List (List Value) := L.set i ((L.getD i []).set off v)
theorem Rows9.put {L : List (List Value)} (h : Rows9 L) {i : Nat} (off : Nat) (v : Value) (hi : i < 9) : Rows9 (put9 L i off v) := by
  refine ⟨by unfold put9; rw [List.length_set]; exact h.nine, fun x hx => ?_⟩
  unfold put9 at hx
  rcases List.mem_or_eq_of_mem_set hx with e | e
  · exact h.each x e
  · rw [e, List.length_set]
    have hi' : i < L.length := by rw [h.nine]; exact hi
    rw [List.getD_eq_getElem?_getD, List.getElem?_eq_getElem hi', Option.getD_some]
    exact h.each _ (List.getElem_mem hi')
theorem Rows9.size {L : List (List Value)} (h : Rows9 L) : (rowsA L).size = 135 := by
  show L.flatten.toArray.size = 135
  rw [List.size_toArray, flat_len 15 _ h.each, h.nine]
theorem Rows9.cells {L : List (List Value)} (h : Rows9 L) {i off : Nat} {v : Value} (hi : i < 9) (ho : off < 15) : (rowsA (put9 L i off v)).toList = (rowsA L).toList.take (i * 15 + off) ++ [v] ++ (rowsA L).toList.drop (i * 15 + off + 1) := by
  have hi' : i < L.length := by rw [h.nine]; exact hi
  refine rowsA_put (z := 15) (vs := [v]) h.each hi' (by show off + 1 ≤ 15; omega) ?_
  have e : L.getD i [] = L[i] := by rw [List.getD_eq_getElem?_getD, List.getElem?_eq_getElem hi', Option.getD_some]
  have hl := h.each _ (List.getElem_mem hi')
  rw [e, List.set_eq_take_append_cons_drop, if_pos (by omega)]
  simp
section
variable {P : Program} {ops : Array Oper} {rest : List Oper} {o : Oper} {a : Act} {Q : Exit → Act → World → Prop} {w : World}
theorem store9 {e : TypeId} {L : List (List Value)} (ty : TypeId) (p x : Operand) (ho : o.op = .store ty p x) (hgd : o.guard = none) (hdst : o.dst = none) (g i off : Nat) (hp : a.eval p = .pointer (some ⟨g, i * 15 + off, none⟩))
    {v : Value} (hx : a.eval x = v) (hv : v.cells = #[v]) (h1 : v.oneCell' = true) (hz : (P.info? ty).map (·.size) = some 1) (hg : w.heap[g]? = some (.cells (rowsA L) e (0, 0))) (hr : Rows9 L) (hi : i < 9) (hf : off < 15)
    (h : ∀ w1, w1.heap[g]? = some (.cells (rowsA (put9 L i off v)) e (0, 0)) → w.grownBy w1 (some g) → Rows9 (put9 L i off v) → wpList P ops Q rest a w1) : wpList P ops Q (o :: rest) a w := by
  have hvl : v.cells.toList = [v] := by rw [hv]
  refine wpList_store_at ty p x ho hgd hdst g (i * 15 + off) hp hx hg (by rw [hvl]; exact hz) (by rw [hvl, hr.size]; show i * 15 + off + 1 ≤ 135; omega) (by rw [hvl]; intro q hq; rw [List.mem_singleton.1 hq]; exact h1) (cs' := rowsA (put9 L i off v)) (by rw [hvl]; exact hr.cells hi hf) ?_
  intro w1 k1 k2
  exact h w1 k1 k2 (hr.put off v hi)
end
theorem call_le {m : Msg} (hr : rightS m = true) : 1 ≤ m.call ∧ m.call ≤ 68719476736 := by
  obtain ⟨⟨k1, k2, p1, p2, hne⟩, ⟨c1, c2⟩, hf, ho⟩ := (rightS_iff m).1 hr
  rw [placeS_iff] at p1 p2
  have q1 : askerS m = if asksS m = true then m.frm else m.dst := rfl
  constructor
  · exact c1
  · split at q1 <;> omega
theorem great_t (m : Msg) (A : Option Addr) (c : Nat) (w : World) {b : Bool} (hb : greatS m = b) : Calls Try.prog 8 #[.agg (mc m A c)] w fun e w' => e = .returned (.bool b) ∧ Below w.heap.size w w' := great_w m A c w hb

/-- What lies in memory while MsgOne is done. -/
structure TO (m : Msg) (A : Option Addr) (c : Nat) (w : World) (w' : World) : Prop where
  k2 : w'.heap[w.heap.size]? = some (.cells (mc m A c) 27 (0, 0))
  rm : RL w A c m.list
  below : Below w.heap.size w w'
theorem TO.rl {m : Msg} {A : Option Addr} {c : Nat} {w w1 : World} (h : TO m A c w w1) : RL w1 A c m.list := h.rm.below h.below
theorem TO.step {m : Msg} {A : Option Addr} {c : Nat} {w w1 w2 : World} (h : TO m A c w w1) (hb : Below w1.heap.size w1 w2) : TO m A c w w2 := ⟨blk_below h.k2 hb, h.rm, below_step h.below hb⟩
theorem TO.drew {m : Msg} {A : Option Addr} {c : Nat} {w w1 : World} (h : TO m A c w w1) : TO m A c w w1.drew := ⟨h.k2, h.rm, below_drewN h.below 1⟩
theorem TO.grown {m : Msg} {A : Option Addr} {c g : Nat} {w w1 w2 : World} (h : TO m A c w w1) (hg : w1.grownBy w2 (some g)) (hne : w.heap.size < g) : TO m A c w w2 :=
  ⟨blk_grown h.k2 hg (by simp; omega), h.rm, h.below.grown hg h.below.size (fun k e => by have := Option.some.inj e; omega)⟩
/-- .. and the row's own block. -/
structure TA (m : Msg) (A : Option Addr) (c : Nat) (w : World) (g : Nat) (L : List (List Value)) (w' : World) : Prop extends TO m A c w w' where
  k5 : w'.heap[g]? = some (.cells (rowsA L) 38 (0, 0))

/-- .. the row turned. -/
structure TB (m : Msg) (A : Option Addr) (c : Nat) (n : Int) (w : World) (g : Nat) (w' : World) : Prop extends TO m A c w w' where
  k5 : w'.heap[g]? = some (.cells (rowsA ((oneL m n).map fun t => (mcv t (.slice A m.list.length c)).toList)) 38 (0, 0))
theorem TB.step {m : Msg} {A : Option Addr} {c g : Nat} {n : Int} {w w1 w2 : World} (h : TB m A c n w g w1) (hb : Below w1.heap.size w1 w2) : TB m A c n w g w2 := ⟨h.1.step hb, blk_below h.k5 hb⟩
theorem TB.drew {m : Msg} {A : Option Addr} {c g : Nat} {n : Int} {w w1 : World} (h : TB m A c n w g w1) : TB m A c n w g w1.drew := ⟨h.1.drew, h.k5⟩
theorem TB.elem {m t : Msg} {A : Option Addr} {c g k : Nat} {n : Int} {w w1 : World} (h : TB m A c n w g w1) (ht : (oneL m n)[k]? = some t) : ∀ j v, (mcv t (.slice A m.list.length c))[j]? = some v → w1.cell? ⟨g, k * 15 + j, none⟩ = some v := by
  intro j v hv
  rw [blk_cell h.k5]
  have hk : k < ((oneL m n).map fun t => (mcv t (.slice A m.list.length c)).toList).length := by
    rw [List.length_map]; exact (List.getElem?_eq_some_iff.1 ht).1
  refine rowsA_get (z := 15) (fun x hx => ?_) hk ?_
  · obtain ⟨t', _, rfl⟩ := List.mem_map.1 hx; rfl
  · have e : ((oneL m n).map fun t => (mcv t (.slice A m.list.length c)).toList)[k] = (mcv t (.slice A m.list.length c)).toList := by
      have := (List.getElem?_eq_some_iff.1 ht).2
      rw [List.getElem_map, this]
    rw [e]; simpa using hv
theorem right_o (t m : Msg) (A : Option Addr) (c : Nat) (w : World) (hr : RL w A c m.list) (hl : t.list = m.list) (hc : t.call ≤ 9223372036854775807) (hb : rightS t = false) : Calls Try.prog 14 #[.agg (mcv t (.slice A m.list.length c))] w fun e w' => e = .returned (.bool false) ∧ Below w.heap.size w w' := by
  have e : mc t A c = mcv t (.slice A m.list.length c) := by unfold mc; rw [hl]
  have := right_t t A c w (by rw [hl]; exact hr) hc hb
  rwa [e] at this
theorem same_o (t m : Msg) (A : Option Addr) (c : Nat) (w : World) (hr : RL w A c m.list) (hl : t.list = m.list) (hne : t ≠ m) : Calls Try.prog 23 #[.agg (mcv t (.slice A m.list.length c)), .agg (mc m A c)] w fun e w' => e = .returned (.bool false) ∧ Below w.heap.size w w' := by
  have h1 : RL w A c t.list := by rw [hl]; exact hr
  have := same_c t m A A c c w h1 hr
  have e : mc t A c = mcv t (.slice A m.list.length c) := by unfold mc; rw [hl]
  rwa [decide_eq_false hne, e] at this
theorem same_self (m : Msg) (A : Option Addr) (c : Nat) (w : World) (hr : RL w A c m.list) : Calls Try.prog 23 #[.agg (mc m A c), .agg (mc m A c)] w fun e w' => e = .returned (.bool true) ∧ Below w.heap.size w w' := by
  have := same_c m m A A c c w hr hr; rwa [decide_eq_true rfl] at this

set_option maxHeartbeats 4000000 in
set_option maxRecDepth 100000 in
theorem msgOne_c (m : Msg) (A : Option Addr) (c : Nat) (n : Int) (w : World) (hr : RL w A c m.list) (hc : m.call ≤ 9223372036854775807) :
    Calls Try.prog 5 #[.agg (mc m A c), .int .i64 n] w fun e w' => e = .returned (.bool true) ∧ Below w.heap.size w w' := by
  have hu := Try.underlying27
  go_enter Try.func5, Try.ntmps5
  go_upto_region 1 with fail
  generalize hW : World.alloc _ _ = W
  have k2 : W.heap[w.heap.size]? = some (.cells (mc m A c) 27 (0, 0)) := by rw [← hW]; exact blk_new _ _
  have hb : Below w.heap.size w W := by rw [← hW]; exact (Below.refl _ _).alloc (Nat.le_refl _) _
  clear hW
  have sf := Lib.hid (⟨k2, hr, hb⟩ : TO m A c w W); clear k2 hb hr
  cases h1 : greatS m with
  | true =>
    go_wp2_with (first
      | (refine gate_ (.load 27 (.tmp 2)) rfl ?_; (try refine gate_guard (by rfl) ?_); refine wpList_load_blk 27 (.tmp 2) rfl rfl w.heap.size rfl sf.out.k2 hu rfl msgSize ?_)
      | (go_at_call 8; refine (great_w m A c _ h1).mono ?_; rintro e w1 ⟨rfl, hb1⟩; have sf := Lib.hid (sf.out.step hb1); clear hb1)
      | (go_at_call 9; refine (wakes_c _).mono ?_; rintro e w2 ⟨rfl, hb1⟩; have sf := Lib.hid (sf.out.step hb1); clear hb1)
      | (go_at_call 15; refine (rright_w m A c _ sf.out.rl h4).mono ?_; rintro e w2 ⟨rfl, hb1⟩; have sf := Lib.hid (sf.out.step hb1); clear hb1))
    go_ret
    exact ⟨rfl, sf.out.below⟩
  | false =>
  cases h4 : rightS m with
  | false =>
    go_wp2_with (first
      | (refine gate_ (.load 27 (.tmp 2)) rfl ?_; (try refine gate_guard (by rfl) ?_); refine wpList_load_blk 27 (.tmp 2) rfl rfl w.heap.size rfl sf.out.k2 hu rfl msgSize ?_)
      | (go_at_call 8; refine (great_w m A c _ h1).mono ?_; rintro e w1 ⟨rfl, hb1⟩; have sf := Lib.hid (sf.out.step hb1); clear hb1)
      | (go_at_call 9; refine (wakes_c _).mono ?_; rintro e w2 ⟨rfl, hb1⟩; have sf := Lib.hid (sf.out.step hb1); clear hb1)
      | (go_at_call 15; refine (rright_w m A c _ sf.out.rl h4).mono ?_; rintro e w2 ⟨rfl, hb1⟩; have sf := Lib.hid (sf.out.step hb1); clear hb1))
    go_ret
    exact ⟨rfl, sf.out.below⟩
  | true =>
  by_cases hn1 : n < 1
  · have hb1 : decide (n < 1) = true := by simpa using hn1
    go_wp2_with (first
      | (refine gate_ (.load 27 (.tmp 2)) rfl ?_; (try refine gate_guard (by rfl) ?_); refine wpList_load_blk 27 (.tmp 2) rfl rfl w.heap.size rfl sf.out.k2 hu rfl msgSize ?_)
      | (go_at_call 8; refine (great_w m A c _ h1).mono ?_; rintro e w1 ⟨rfl, hb1⟩; have sf := Lib.hid (sf.out.step hb1); clear hb1)
      | (go_at_call 9; refine (wakes_c _).mono ?_; rintro e w2 ⟨rfl, hb1⟩; have sf := Lib.hid (sf.out.step hb1); clear hb1)
      | (go_at_call 15; refine (rright_w m A c _ sf.out.rl h4).mono ?_; rintro e w2 ⟨rfl, hb1⟩; have sf := Lib.hid (sf.out.step hb1); clear hb1))
    go_ret
    exact ⟨rfl, sf.out.below⟩
  have hb1 : decide (n < 1) = false := by simpa using hn1
  by_cases hn2 : 60000 < n
  · have hb2 : decide (60000 < n) = true := by simpa using hn2
    go_wp2_with (first
      | (refine gate_ (.load 27 (.tmp 2)) rfl ?_; (try refine gate_guard (by rfl) ?_); refine wpList_load_blk 27 (.tmp 2) rfl rfl w.heap.size rfl sf.out.k2 hu rfl msgSize ?_)
      | (go_at_call 8; refine (great_w m A c _ h1).mono ?_; rintro e w1 ⟨rfl, hb1⟩; have sf := Lib.hid (sf.out.step hb1); clear hb1)
      | (go_at_call 9; refine (wakes_c _).mono ?_; rintro e w2 ⟨rfl, hb1⟩; have sf := Lib.hid (sf.out.step hb1); clear hb1)
      | (go_at_call 15; refine (rright_w m A c _ sf.out.rl h4).mono ?_; rintro e w2 ⟨rfl, hb1⟩; have sf := Lib.hid (sf.out.step hb1); clear hb1))
    go_ret
    exact ⟨rfl, sf.out.below⟩
  have hb2 : decide (60000 < n) = false := by simpa using hn2
  go_upto_region 4 with (first
      | (refine gate_ (.load 27 (.tmp 2)) rfl ?_; (try refine gate_guard (by rfl) ?_); refine wpList_load_blk 27 (.tmp 2) rfl rfl w.heap.size rfl sf.out.k2 hu rfl msgSize ?_)
      | (go_at_call 8; refine (great_w m A c _ h1).mono ?_; rintro e w1 ⟨rfl, hb1⟩; have sf := Lib.hid (sf.out.step hb1); clear hb1)
      | (go_at_call 9; refine (wakes_c _).mono ?_; rintro e w2 ⟨rfl, hb1⟩; have sf := Lib.hid (sf.out.step hb1); clear hb1)
      | (go_at_call 15; refine (rright_w m A c _ sf.out.rl h4).mono ?_; rintro e w2 ⟨rfl, hb1⟩; have sf := Lib.hid (sf.out.step hb1); clear hb1))
  rw [zero9]
  simp only [Result.andThen]
  rw [Oper.upon_value]
  have k5 := blk_new w2 (.cells (rowsA (List.replicate 9 zmc.toList)) 38)
  have hb5 : Below w2.heap.size w2 (w2.alloc (.cells (rowsA (List.replicate 9 zmc.toList)) 38)) := (Below.refl _ _).alloc (Nat.le_refl _) _
  have hlt : w.heap.size < w2.heap.size := blk_lt sf.out.k2
  have sa : TA m A c w w2.heap.size (List.replicate 9 zmc.toList) (w2.alloc (.cells (rowsA (List.replicate 9 zmc.toList)) 38)) := ⟨sf.out.step hb5, k5⟩
  clear sf k5 hb5
  generalize World.alloc _ _ = W5 at sa ⊢
  generalize w2.heap.size = g at *
  go_wp2
  go_loopw [6] (fun i wr => ∃ k : Nat, k ≤ 9 ∧ i = .int .i64 k ∧ TA m A c w g (lk m A c k) wr) (fun i _ => 9 - (intOf i).toNat)
  case atStart => exact ⟨0, by omega, rfl, sa⟩
  case round =>
    obtain ⟨k, hk, rfl, sk⟩ := hrel
    by_cases hlt9 : k < 9
    · have i0 : (0 : Int) ≤ (k : Int) := by omega
      have i1 : (k : Int) < 9 := by omega
      have hz := lk_len m A c k
      have hfit : k * 15 + (Value.agg (mc m A c)).cells.toList.length ≤ (rowsA (lk m A c k)).size := by rw [lk_size m A c hk]; show k * 15 + 15 ≤ 135; omega
      have hput := rowsA_put (off := 0) (vs := (mc m A c).toList) (c := (mc m A c).toList) hz (i := k) (by rw [lk_length m A c hk]; exact hlt9) (by show 0 + 15 ≤ 15; omega) (by
        have h15 : ((lk m A c k)[k]'(by rw [lk_length m A c hk]; exact hlt9)).length = 15 := hz _ (List.getElem_mem _)
        rw [List.drop_eq_nil_of_le (by rw [h15]; show 15 ≤ 0 + 15; omega)]; simp)
      rw [lk_set m A c hlt9] at hput
      go_wp2_with (first
        | (refine gate_ (.load 27 (.tmp 2)) rfl ?_; refine wpList_load_blk 27 (.tmp 2) rfl rfl w.heap.size rfl sk.1.k2 hu rfl msgSize ?_)
        | (refine gate_ (.store 27 (.tmp 30) (.tmp 29)) rfl ?_; refine wpList_store_at 27 (.tmp 30) (.tmp 29) rfl rfl rfl g (k * 15) rfl (v := .agg (mc m A c)) rfl sk.k5 (cs' := rowsA (lk m A c (k + 1))) (by kernel_rfl) hfit (mcv_one rfl) hput ?_; intro w7 k5 hg; have sk1 : TA m A c w g (lk m A c (k + 1)) w7 := ⟨sk.1.grown hg hlt, k5⟩; clear hg))
      go_roundw
      case rel => exact ⟨k + 1, by omega, by simp, sk1⟩
      case measure => simp [intOf]; omega
    · obtain rfl : k = 9 := by omega
      have st := Lib.hid sk.1
      have k5 := sk.k5
      have r5 : Rows9 (lk m A c 9) := ⟨lk_length m A c (by omega), lk_len m A c 9⟩
      have c2 := cells_all st.out.k2
      clear sk
      have hcb := call_le h4
      go_upto_region 14 with (first
        | (refine gate_ (.store 3 (.tmp 34) (.tmp 32)) rfl ?_; refine store9 3 (.tmp 34) (.tmp 32) rfl rfl rfl g 0 3 rfl (v := .int .i64 m.frm) rfl rfl rfl (by kernel_rfl) k5 r5 (by decide) (by decide) ?_; intro w7 k5 hg r5; have st := Lib.hid (st.out.grown hg hlt); have c2 := cells_all st.out.k2; clear hg)
        | (refine gate_ (.store 3 (.tmp 41) (.tmp 39)) rfl ?_; refine store9 3 (.tmp 41) (.tmp 39) rfl rfl rfl g 1 1 rfl (v := .int .i64 (m.call + 1048576 * n)) rfl rfl rfl (by kernel_rfl) k5 r5 (by decide) (by decide) ?_; intro w7 k5 hg r5; have st := Lib.hid (st.out.grown hg hlt); have c2 := cells_all st.out.k2; clear hg)
        | (refine gate_ (.store 5 (.tmp 43) (.const (.int .u8 0))) rfl ?_; refine store9 5 (.tmp 43) (.const (.int .u8 0)) rfl rfl rfl g 2 0 rfl (v := .int .u8 0) rfl rfl rfl (by kernel_rfl) k5 r5 (by decide) (by decide) ?_; intro w7 k5 hg r5; have st := Lib.hid (st.out.grown hg hlt); have c2 := cells_all st.out.k2; clear hg)
        | (refine gate_ (.store 3 (.tmp 47) (.tmp 45)) rfl ?_; refine store9 3 (.tmp 47) (.tmp 45) rfl rfl rfl g 3 2 rfl (v := .int .i64 (65536 + n)) rfl rfl rfl (by kernel_rfl) k5 r5 (by decide) (by decide) ?_; intro w7 k5 hg r5; have st := Lib.hid (st.out.grown hg hlt); have c2 := cells_all st.out.k2; clear hg)
        | (refine gate_ (.store 25 (.tmp 49) (.const (.int .i64 5))) rfl ?_; refine store9 25 (.tmp 49) (.const (.int .i64 5)) rfl rfl rfl g 4 14 rfl (v := .int .i64 5) rfl rfl rfl (by kernel_rfl) k5 r5 (by decide) (by decide) ?_; intro w7 k5 hg r5; have st := Lib.hid (st.out.grown hg hlt); have c2 := cells_all st.out.k2; clear hg)
        | (refine gate_ (.store 3 (.tmp 59) (.tmp 51)) rfl ?_; refine store9 3 (.tmp 59) (.tmp 51) rfl rfl rfl g 5 4 rfl (v := .int .i64 (-n)) rfl rfl rfl (by kernel_rfl) k5 r5 (by decide) (by decide) ?_; intro w7 k5 hg r5; have st := Lib.hid (st.out.grown hg hlt); have c2 := cells_all st.out.k2; clear hg)
        | (refine gate_ (.store 3 (.tmp 61) (.tmp 53)) rfl ?_; refine store9 3 (.tmp 61) (.tmp 53) rfl rfl rfl g 6 7 rfl (v := .int .i64 (-n)) rfl rfl rfl (by kernel_rfl) k5 r5 (by decide) (by decide) ?_; intro w7 k5 hg r5; have st := Lib.hid (st.out.grown hg hlt); have c2 := cells_all st.out.k2; clear hg)
        | (refine gate_ (.store 3 (.tmp 63) (.tmp 55)) rfl ?_; refine store9 3 (.tmp 63) (.tmp 55) rfl rfl rfl g 7 8 rfl (v := .int .i64 (-1 - n)) rfl rfl rfl (by kernel_rfl) k5 r5 (by decide) (by decide) ?_; intro w7 k5 hg r5; have st := Lib.hid (st.out.grown hg hlt); have c2 := cells_all st.out.k2; clear hg)
        | (refine gate_ (.store 3 (.tmp 66) (.tmp 57)) rfl ?_; refine store9 3 (.tmp 66) (.tmp 57) rfl rfl rfl g 8 11 rfl (v := .int .i64 (-n)) rfl rfl rfl (by kernel_rfl) k5 r5 (by decide) (by decide) ?_; intro w7 k5 hg r5; have st := Lib.hid (st.out.grown hg hlt); have c2 := cells_all st.out.k2; clear hg))
      have L9 : put9 (put9 (put9 (put9 (put9 (put9 (put9 (put9 (put9 (lk m A c 9) 0 3 (.int .i64 m.frm)) 1 1 (.int .i64 (m.call + 1048576 * n))) 2 0 (.int .u8 0)) 3 2 (.int .i64 (65536 + n))) 4 14 (.int .i64 5)) 5 4 (.int .i64 (-n))) 6 7 (.int .i64 (-n))) 7 8 (.int .i64 (-1 - n))) 8 11 (.int .i64 (-n)) = (oneL m n).map fun t => (mcv t (.slice A m.list.length c)).toList := rfl
      rw [L9] at k5
      clear L9 r5 hcb
      have sb : TB m A c n w g w7 := ⟨st.out, k5⟩
      clear st k5 c2
      go_wp2
      go_loopw [7] (fun i wr => ∃ k : Nat, k ≤ 9 ∧ i = .int .i64 k ∧ TB m A c n w g wr) (fun i _ => 9 - (intOf i).toNat)
      case atStart => exact ⟨0, by omega, rfl, sb⟩
      case round =>
        obtain ⟨k, hk, rfl, sk⟩ := hrel
        by_cases hlt9 : k < 9
        · have i0 : (0 : Int) ≤ (k : Int) := by omega
          have i1 : (k : Int) < 9 := by omega
          obtain ⟨t, ht, htm⟩ : ∃ t, (oneL m n)[k]? = some t ∧ t ∈ oneL m n := ⟨(oneL m n)[k]'(by exact hlt9), List.getElem?_eq_getElem (by exact hlt9), List.getElem_mem _⟩
          obtain ⟨hbad, hne⟩ := one_bad h4 (by omega) (by omega) t htm
          obtain ⟨htc, htl⟩ := one_call h4 (by omega) (by omega) t htm
          have sk := sk.drew
          have b2 : ∀ W1, TB m A c n w g W1 → _ := fun W1 h => h.1.k2
          have b5 : ∀ W1, TB m A c n w g W1 → _ := fun W1 h => h.elem ht
          go_upto_region 17 with fail
          try simp only [List.append_eq, List.cons_append, List.nil_append]
          refine region_ord (TB m A c n w g) [(0, false), (1, false), (2, false), (3, true), (4, false), (5, false), (6, false), (7, false), (8, false), (9, true), (10, false)] (by kernel_rfl) (by kernel_rfl) rfl (by kernel_rfl) sk ?_
          iterate 11 ((first | (refine ord_skip rfl rfl ?_; (try simp only [Act.put, List.setIfInBounds_toArray, List.set_cons_zero, List.set_cons_succ])) | ((first | refine ord_load_blk 27 (.tmp 2) rfl rfl rfl w.heap.size rfl b2 hu rfl msgSize ?_ | refine ord_load_sub 27 (.tmp 72) rfl rfl rfl g (k * 15) rfl (cs := mcv t (.slice A m.list.length c)) b5 hu rfl msgSize ?_ | refine ord_load_sub 27 (.tmp 77) rfl rfl rfl g (k * 15) rfl (cs := mcv t (.slice A m.list.length c)) b5 hu rfl msgSize ?_ | (with_reducible refine ord_callB 14 rfl rfl rfl (right_o t m A c _ sk.1.rl htl htc hbad) (fun w' hb => TB.step sk hb) ?_ ?_; (· (go_simp; done)); intro wn sk) | (with_reducible refine ord_callB 23 rfl rfl rfl (same_o t m A c _ sk.1.rl htl hne) (fun w' hb => TB.step sk hb) ?_ ?_; (· (go_simp; done)); intro wn sk)); (try simp only [Act.put, List.setIfInBounds_toArray, List.set_cons_zero, List.set_cons_succ])) | (refine ord_val (v := ?_) rfl rfl (fun W1 hW1 => ?_) ?_; rotate_left; (· (go_simp; try with_reducible rfl)); (try simp only [Act.put, List.setIfInBounds_toArray, List.set_cons_zero, List.set_cons_succ]))))
          refine ord_nil ?_
          clear b2 b5 hbad hne htc htl ht htm
          go_wp2
          go_roundw
          case rel => exact ⟨k + 1, by omega, by simp, sk⟩
          case measure => simp [intOf]; omega
        · obtain rfl : k = 9 := by omega
          have sf := Lib.hid sk.1; clear sk
          go_wp2_with (first
            | (refine gate_ (.load 27 (.tmp 2)) rfl ?_; (try refine gate_guard (by rfl) ?_); refine wpList_load_blk 27 (.tmp 2) rfl rfl w.heap.size rfl sf.out.k2 hu rfl msgSize ?_)
            | (go_at_call 14; refine (right_t m A c _ sf.out.rl hc h4).mono ?_; rintro e w1 ⟨rfl, hb1⟩; have sf := Lib.hid (sf.out.step hb1); clear hb1)
            | (go_at_call 23; refine (same_self m A c _ sf.out.rl).mono ?_; rintro e w1 ⟨rfl, hb1⟩; have sf := Lib.hid (sf.out.step hb1); clear hb1)
            | (go_at_call 9; refine (wakes_c _).mono ?_; rintro e w2 ⟨rfl, hb1⟩; have sf := Lib.hid (sf.out.step hb1); clear hb1))
          go_ret
          exact ⟨rfl, sf.out.below⟩

end Go.Proofs.Yteadkghffdiaoaa
