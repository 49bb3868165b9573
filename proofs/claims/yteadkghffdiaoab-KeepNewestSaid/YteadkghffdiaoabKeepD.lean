/- keep.place: where a key stands in a sorted row. -/
import Derived.Test.YteadkghffdiaoabKeepC
set_option linter.unusedVariables false
set_option linter.unusedSimpArgs false
set_option maxRecDepth 100000
namespace Go.Proofs.Yteadkghffdiaoab
open Go.RowKit Go.Proofs.YteadkghffdiaoabW.PrintWords

/-! ### A struct, loaded from any address -/
section
variable {P : Program}
theorem run_loadAt_addr (w : World) (p : Addr) (ty : TypeId) (cs : Array Value) (d : TypeDesc) (hc : ∀ j v, cs[j]? = some v → w.cell? (p.add j) = some v) (hu : P.underlying ty = some d) (hd : d.isRow = true) (hi : (P.info? ty).map (·.size) = some cs.size) :
    (Instr.loadAt ty (.pointer (some p))).run P w = .ok (.agg cs) w := by
  have hl : (loadCells p cs.toList.length).run P w = .ok cs w := by
    have := run_loadCells_list (P := P) (w := w) p cs.toList (fun j v hv => hc j v (by simpa using hv))
    simpa using this
  have hv : (loadVar ty p).run P w = .ok (.agg cs) w := by
    cases hq : P.info? ty with
    | none => simp [hq] at hi
    | some i =>
      have hs : i.size = cs.toList.length := by simpa [hq] using hi
      have hagg : (isAgg ty).run P w = .ok true w := by
        unfold isAgg
        rw [Sem.run_bind, run_underlying hu w]
        cases d <;> simp_all
      simp [loadVar, Sem.run_bind, hagg, sizeOf, typeInfo, hq, hs, hl]
      have : (loadCells p cs.size).run P w = .ok cs w := by simpa using hl
      simp [this]
  simp only [Instr.loadAt, Instr.sureAddr, Sem.run_bind, Sem.run_pure, Result.andThen_ok, hv]
theorem wpList_load_addr {ops : Array Oper} {rest : List Oper} {o : Oper} {a : Act} {Q : Exit → Act → World → Prop} {w : World} (ty : TypeId) (x : Operand) (ho : o.op = .load ty x) (hgd : o.guard = none) (p : Addr) (hx : a.eval x = .pointer (some p))
    {cs : Array Value} {d : TypeDesc} (hc : ∀ j v, cs[j]? = some v → w.cell? (p.add j) = some v) (hu : P.underlying ty = some d) (hd : d.isRow = true) (hi : (P.info? ty).map (·.size) = some cs.size)
    (h : wpList P ops Q rest (a.put o.dst (.agg cs)) w) : wpList P ops Q (o :: rest) a w := by
  refine wpList_plain hgd fun K hK => ?_
  unfold Oper.wp execOp
  simp only [ho, hx, run_loadAt_addr w p ty cs d hc hu hd hi, Sem.run_bind, Sem.run_pure, Result.andThen_ok]
  exact hK _ _ h
theorem ord_load_addr {Q : Exit → Act → World → Prop} {S : World → Prop} {i : Nat} {o : Oper} {rest : List (Nat × Bool)} {a : Act} {w : World} {l : List Oper} (ty : TypeId) (x : Operand) (hi : l[i]? = some o) (ho : o.op = .load ty x) (hw : Region.wanted o (yielded l.toArray a.tmps) = true) (p : Addr) (hx : a.eval x = .pointer (some p))
    {cs : Array Value} {d : TypeDesc} (hc : ∀ w, S w → ∀ j v, cs[j]? = some v → w.cell? (p.add j) = some v) (hu : P.underlying ty = some d) (hd : d.isRow = true) (hz : (P.info? ty).map (·.size) = some cs.size)
    (h : wpOrd P l Q S rest (a.put o.dst (.agg cs)) w) : wpOrd P l Q S ((i, false) :: rest) a w := by
  refine ord_val (v := .agg cs) hi hw (fun w hS => ?_) h
  unfold execOp
  simp only [ho, hx, run_loadAt_addr w p ty cs d (hc w hS) hu hd hz, Sem.run_bind, Sem.run_pure, Result.andThen_ok]
end
theorem RI.at4 {w : World} {ad : Addr} {c : Nat} {l : List Item} (h : RI w (some ad) c l) {k : Nat} (hk : k < l.length) : ∀ j v, (ic l[k])[j]? = some v → w.cell? ((ad.add (k * 4)).add j) = some v := by
  obtain ⟨ad', e, hc⟩ := h.get hk
  cases e
  intro j v hv
  rw [add_add]
  exact hc j v hv
theorem RI.some {w : World} {A : Option Addr} {c : Nat} {l : List Item} (h : RI w A c l) {k : Nat} (hk : k < l.length) : ∃ ad, A = some ad := by
  obtain ⟨ad, e, _⟩ := h.get hk; exact ⟨ad, e⟩

/-! ### Sorted rows -/
def sortedI (l : List Item) : Prop := ∀ p q, (hp : p < q) → (hq : q < l.length) → ltS (l[p]'(by omega)).key l[q].key = true
def posS (l : List Item) (key : ByteArray) : Nat := (l.takeWhile fun x => ltS x.key key).length
def foundS (l : List Item) (key : ByteArray) : Bool := decide (l[posS l key]?.map (·.key) = some key)
theorem posS_le (l : List Item) (key : ByteArray) : posS l key ≤ l.length := (List.takeWhile_prefix _).length_le
theorem takeWhile_len {p : Item → Bool} : ∀ (l : List Item) (i : Nat), i ≤ l.length → (∀ j, (hj : j < l.length) → j < i → p l[j] = true) → (∀ h : i < l.length, p l[i] = false) → (l.takeWhile p).length = i
  | [], i, hi, _, _ => by simp at hi; subst hi; rfl
  | x :: l, 0, _, _, h2 => by
    have := h2 (by simp)
    simp at this
    rw [List.takeWhile_cons, this]; rfl
  | x :: l, i + 1, hi, h1, h2 => by
    have hx := h1 0 (by simp) (by omega)
    simp at hx
    rw [List.takeWhile_cons, hx]
    simp only [if_true, List.length_cons]
    rw [takeWhile_len l i (Nat.le_of_succ_le_succ hi) (fun j hj hji => h1 (j + 1) (Nat.succ_lt_succ hj) (by omega)) (fun h => h2 (Nat.succ_lt_succ h))]
theorem posS_eq {l : List Item} {key : ByteArray} {i : Nat} (hi : i ≤ l.length) (h1 : ∀ j, (hj : j < l.length) → j < i → ltS l[j].key key = true) (h2 : ∀ h : i < l.length, ltS l[i].key key = false) : posS l key = i :=
  takeWhile_len l i hi h1 h2
/-- What the search knows. -/
def MidS (l : List Item) (key : ByteArray) (a b : Nat) : Prop := (∀ j, (hj : j < l.length) → j < a → ltS l[j].key key = true) ∧ (∀ j, (hj : j < l.length) → b ≤ j → ltS l[j].key key = false)
theorem MidS.up {l : List Item} {key : ByteArray} {a b h : Nat} (hs : sortedI l) (hm : MidS l key a b) (hh : h < l.length) (hl : ltS l[h].key key = true) : MidS l key (h + 1) b := by
  refine ⟨fun j hj hja => ?_, hm.2⟩
  rcases Nat.lt_or_ge j h with h1 | h1
  · exact ltS_trans (hs j h h1 hh) hl
  · obtain rfl : j = h := by omega
    exact hl
theorem MidS.down {l : List Item} {key : ByteArray} {a b h : Nat} (hs : sortedI l) (hm : MidS l key a b) (hh : h < l.length) (hl : ltS l[h].key key = false) : MidS l key a h := by
  refine ⟨hm.1, fun j hj hja => ?_⟩
  rcases Nat.lt_or_ge h j with h1 | h1
  · rw [Bool.eq_false_iff]; intro hh2
    have := ltS_trans (hs h j h1 hj) hh2
    rw [hl] at this; cases this
  · obtain rfl : j = h := by omega
    exact hl
theorem MidS.pos {l : List Item} {key : ByteArray} {a : Nat} (ha : a ≤ l.length) (hm : MidS l key a a) : posS l key = a := posS_eq ha hm.1 (fun h => hm.2 a h (Nat.le_refl _))

set_option maxHeartbeats 1600000 in
theorem search_c (l : List Item) (key : ByteArray) (A : Option Addr) (c : Nat) (w : World) (hr : RI w A c l) (hl : l.length ≤ 1000000) (hs : sortedI l) :
    Calls Try.prog 75 #[.slice A l.length c, .string key, .func (.func 76) #[] #[]] w fun e w' => e = .returned (.tuple #[.int .i64 (posS l key), .bool (foundS l key)]) ∧ Below w.heap.size w w' := by
  have hu := Try.underlying25
  have HR := Lib.hid hr; clear hr
  have HS := Lib.hid hs; clear hs
  go_enter Try.func75, Try.ntmps75
  go_wp2
  go_loopw [9, 10] (fun i j wr => ∃ a b : Nat, a ≤ b ∧ b ≤ l.length ∧ i = .int .i64 a ∧ j = .int .i64 b ∧ Hid (MidS l key a b) ∧ Hid (Below w.heap.size w wr)) (fun i j _ => (intOf j).toNat - (intOf i).toNat)
  case atStart => exact ⟨0, l.length, by omega, by omega, rfl, rfl, Lib.hid ⟨fun _ _ h => absurd h (by omega), fun _ _ h => absurd h (by omega)⟩, Lib.hid (Below.refl _ _)⟩
  case round =>
    obtain ⟨a, b, hab, hb, rfl, rfl, hm, HB⟩ := hrel
    by_cases hlt : a < b
    · obtain ⟨h, hh⟩ : ∃ h, h = (a + b) / 2 := ⟨_, rfl⟩
      have hhl : h < l.length := by omega
      obtain ⟨ad, rfl⟩ := HR.out.some hhl
      have e2 : ((a : Int) + (b : Int)) / 2 = (h : Int) := by omega
      have E2 := Lib.hid e2; clear e2
      have HH := Lib.hid hh; clear hh
      have hb1 : a ≤ h ∧ h < b := by have := HH.out; omega
      have i0 : (0 : Int) ≤ (h : Int) := by omega
      have i1 : (h : Int) < (l.length : Int) := by omega
      go_upto_region 5 with fail
      rw [E2.out]
      have HC := Lib.hid ((HR.out.below HB.out).at4 hhl)
      cases hlts : ltS l[h].key key with
      | true =>
        have bq : decide (cmpS l[h].key key < 0) = true := by rw [decide_eq_true_eq]; exact (cmpS_lt _ _).2 hlts
        have HM := Lib.hid (MidS.up HS.out hm.out hhl hlts); clear hlts
        go_wp2_with (first
          | (refine gate_ (.load 25 (.tmp 27)) rfl ?_; refine wpList_load_addr 25 (.tmp 27) rfl rfl (ad.add (h * 4)) rfl (cs := ic l[h]) HC.out hu rfl itemSize ?_)
          | (go_at_call 76; refine (placeF_c l[h] key _).mono ?_; rintro e w1 ⟨rfl, hb1⟩; have HB := Lib.hid (below_step HB.out hb1); clear hb1))
        go_roundw
        case rel => exact ⟨h + 1, b, by omega, by omega, by go_num, rfl, HM, HB⟩
        case measure => simp [intOf]; omega
      | false =>
        have bq : decide (cmpS l[h].key key < 0) = false := by
          rw [decide_eq_false_iff_not, cmpS_lt, hlts]; simp
        have HM := Lib.hid (MidS.down HS.out hm.out hhl hlts); clear hlts
        go_wp2_with (first
          | (refine gate_ (.load 25 (.tmp 27)) rfl ?_; refine wpList_load_addr 25 (.tmp 27) rfl rfl (ad.add (h * 4)) rfl (cs := ic l[h]) HC.out hu rfl itemSize ?_)
          | (go_at_call 76; refine (placeF_c l[h] key _).mono ?_; rintro e w1 ⟨rfl, hb1⟩; have HB := Lib.hid (below_step HB.out hb1); clear hb1))
        go_roundw
        case rel => exact ⟨a, h, by omega, by omega, rfl, rfl, HM, HB⟩
        case measure => simp [intOf]; omega
    · obtain rfl : a = b := by omega
      have HP := Lib.hid (hm.out.pos hb)
      by_cases hal : a < l.length
      · obtain ⟨ad, rfl⟩ := HR.out.some hal
        have i0 : (0 : Int) ≤ (a : Int) := by omega
        have i1 : (a : Int) < (l.length : Int) := by omega
        have HC := Lib.hid ((HR.out.below HB.out).at4 hal)
        have hf : foundS l key = decide (l[a].key = key) := by
          unfold foundS; rw [HP.out, List.getElem?_eq_getElem hal]; simp
        have HF := Lib.hid hf; clear hf
        go_wp2_with (first
          | (refine gate_ (.load 25 (.tmp 43)) rfl ?_; refine gate_guard (by rfl) ?_; refine wpList_load_addr 25 (.tmp 43) rfl rfl (ad.add (a * 4)) rfl (cs := ic l[a]) HC.out hu rfl itemSize ?_)
          | (go_at_call 76; refine (placeF_c l[a] key _).mono ?_; rintro e w1 ⟨rfl, hb1⟩; have HB := Lib.hid (below_step HB.out hb1); clear hb1))
        go_ret2
        exact ⟨by
          rw [HP.out, HF.out]
          have : (cmpS l[a].key key == 0) = decide (l[a].key = key) := by
            rw [Bool.eq_iff_iff, beq_iff_eq, decide_eq_true_eq]; exact cmpS_eq _ _
          first | (rw [this]; rfl) | rfl, HB.out⟩
      · have hf : foundS l key = false := by
          unfold foundS; rw [HP.out, List.getElem?_eq_none (by omega)]; simp
        have HF := Lib.hid hf; clear hf
        go_wp2
        go_ret2
        exact ⟨by rw [HP.out, HF.out]; rfl, HB.out⟩
set_option maxHeartbeats 400000 in
theorem place_kc (l : List Item) (key : ByteArray) (A : Option Addr) (c : Nat) (w : World) (hr : RI w A c l) (hl : l.length ≤ 1000000) (hs : sortedI l) :
    Calls Try.prog 56 #[.slice A l.length c, .string key] w fun e w' => e = .returned (.tuple #[.int .i64 (posS l key), .bool (foundS l key)]) ∧ Below w.heap.size w w' := by
  go_enter Try.func56, Try.ntmps56
  go_wp2_with (go_at_call 75; refine (search_c l key A c _ hr hl hs).mono ?_; rintro e w1 ⟨rfl, hb1⟩)
  go_ret2
  exact ⟨rfl, hb1⟩

end Go.Proofs.Yteadkghffdiaoab
