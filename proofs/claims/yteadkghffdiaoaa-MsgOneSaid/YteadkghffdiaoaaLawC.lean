/- Law 06: MsgOne: a message that may be, turned in one place, may not be. -/
import Derived.Test.YteadkghffdiaoaaLawB
set_option linter.unusedVariables false
set_option linter.unusedSimpArgs false
namespace Go.Proofs.Yteadkghffdiaoaa
open Go.RowKit Go.Proofs.YteadkghffdiaoaaW.PrintWords

/-! ### A row of elements, each of so many cells, in one block -/
def rowsA (L : List (List Value)) : Array Value := L.flatten.toArray
theorem flat_split (z : Nat) : ∀ (L : List (List Value)) (i : Nat) (hi : i < L.length), (∀ x, x ∈ L → x.length = z) → L.flatten = (L.take i).flatten ++ (L[i] ++ (L.drop (i + 1)).flatten) ∧ (L.take i).flatten.length = i * z
  | [], i, hi, _ => by simp at hi
  | x :: L, 0, _, hz => by simp
  | x :: L, i + 1, hi, hz => by
    have hi' : i < L.length := by simpa using hi
    obtain ⟨h1, h2⟩ := flat_split z L i hi' (fun y hy => hz y (List.mem_cons_of_mem _ hy))
    constructor
    · simp only [List.flatten_cons, List.take_succ_cons, List.drop_succ_cons, List.getElem_cons_succ, List.append_assoc]
      exact congrArg (x ++ ·) h1
    · simp only [List.take_succ_cons, List.flatten_cons, List.length_append, h2, hz x List.mem_cons_self]
      rw [Nat.add_mul]; omega
theorem flat_len (z : Nat) (L : List (List Value)) (hz : ∀ x, x ∈ L → x.length = z) : L.flatten.length = L.length * z := by
  induction L with
  | nil => simp
  | cons x L ih => simp only [List.flatten_cons, List.length_append, List.length_cons, ih (fun y hy => hz y (List.mem_cons_of_mem _ hy)), hz x List.mem_cons_self]; rw [Nat.add_mul]; omega
theorem rowsA_get {z : Nat} {L : List (List Value)} (hz : ∀ x, x ∈ L → x.length = z) {i j : Nat} (hi : i < L.length) {v : Value} (hv : L[i][j]? = some v) : (rowsA L)[i * z + j]? = some v := by
  obtain ⟨h1, h2⟩ := flat_split z L i hi hz
  have hj : j < L[i].length := (List.getElem?_eq_some_iff.1 hv).1
  simp only [rowsA, List.getElem?_toArray]
  rw [h1, ← h2, List.getElem?_append_right (by omega), List.getElem?_append_left (by omega)]
  simpa using hv
/-- Cells written inside element i. -/
theorem rowsA_put {z : Nat} {L : List (List Value)} (hz : ∀ x, x ∈ L → x.length = z) {i off : Nat} (hi : i < L.length) {vs c : List Value} (hf : off + vs.length ≤ z) (hc : c = L[i].take off ++ vs ++ L[i].drop (off + vs.length)) :
    (rowsA (L.set i c)).toList = (rowsA L).toList.take (i * z + off) ++ vs ++ (rowsA L).toList.drop (i * z + off + vs.length) := by
  obtain ⟨h1, h2⟩ := flat_split z L i hi hz
  have hLi := hz L[i] (List.getElem_mem hi)
  have hcl : c.length = z := by rw [hc]; simp; omega
  have hz2 : ∀ x, x ∈ L.set i c → x.length = z := fun x hx => by
    rcases List.mem_or_eq_of_mem_set hx with h | h
    · exact hz x h
    · rw [h]; exact hcl
  obtain ⟨k1, k2⟩ := flat_split z (L.set i c) i (by simpa using hi) hz2
  have e1 : (L.set i c).flatten = (L.take i).flatten ++ (c ++ (L.drop (i + 1)).flatten) := by
    rw [k1]
    simp only [List.getElem_set_self, List.take_set_of_le (Nat.le_refl i), List.drop_set_of_lt (Nat.lt_succ_self i)]
  show (L.set i c).flatten = L.flatten.take (i * z + off) ++ vs ++ L.flatten.drop (i * z + off + vs.length)
  rw [e1, h1, hc]
  generalize (L.take i).flatten = X at h2
  generalize (L.drop (i + 1)).flatten = Y
  generalize L[i] = E at hLi
  rw [← h2]
  have a1 : (X ++ (E ++ Y)).take (X.length + off) = X ++ E.take off := by
    rw [List.take_length_add_append, List.take_append_of_le_length (by omega)]
  have a2 : (X ++ (E ++ Y)).drop (X.length + off + vs.length) = E.drop (off + vs.length) ++ Y := by
    rw [Nat.add_assoc, List.drop_length_add_append, List.drop_append_of_le_length (by omega)]
  rw [a1, a2]
  simp [List.append_assoc]

/-! ### What is turned -/
def oneL (m : Msg) (n : Int) : List Msg :=
  [{ m with dst := m.frm }, { m with call := m.call + 1048576 * n }, { m with kind := 0 }, { m with frm := 65536 + n }, { m with code := 5 }, { m with key := -n }, { m with place := -n }, { m with pred := -1 - n }, { m with item := { m.item with value := -n } }]
theorem fine_key {m : Msg} (h : fineS m = true) (ho : offS m = bareS m) : (m.kind = 4 → placeS m.key = true) ∧ (m.kind ≠ 4 → m.key = 0) := by
  refine ⟨fun e => by unfold fineS at h; rwa [if_pos e] at h, fun e => ?_⟩
  have := congrArg Msg.key ho
  unfold offS bareS at this
  repeat' split at this
  all_goals first | contradiction | exact this
theorem fine_place {m : Msg} (h : fineS m = true) (ho : offS m = bareS m) : (m.kind = 10 → placeS m.place = true) ∧ (m.kind ≠ 10 → m.place = 0) := by
  refine ⟨fun e => by unfold fineS at h; simpa [e] using h, fun e => ?_⟩
  have := congrArg Msg.place ho
  unfold offS bareS at this
  repeat' split at this
  all_goals first | contradiction | exact this
theorem fine_pred {m : Msg} (h : fineS m = true) (ho : offS m = bareS m) : (m.kind = 7 → m.pred = -1 ∨ placeS m.pred = true) ∧ (m.kind ≠ 7 → m.pred = 0) := by
  refine ⟨fun e => ?_, fun e => ?_⟩
  · unfold fineS at h
    simp [e] at h
    exact h.1
  · have := congrArg Msg.pred ho
    unfold offS bareS at this
    repeat' split at this
    all_goals first | contradiction | exact this
theorem fine_code {m : Msg} (h : fineS m = true) (ho : offS m = bareS m) : (m.kind = 11 → m.code = 0 ∨ m.code = 200) ∧ (m.kind = 12 → m.code = 0 ∨ m.code = 201) ∧ (m.kind ≠ 11 → m.kind ≠ 12 → m.code = 0) := by
  refine ⟨fun e => ?_, fun e => ?_, fun e1 e2 => ?_⟩
  · unfold fineS at h
    simpa [e] using h
  · unfold fineS at h
    simp [e] at h
    rcases h with h | h
    · exact .inl h.1
    · exact .inr h.1
  · have := congrArg Msg.code ho
    unfold offS bareS at this
    repeat' split at this
    all_goals first | contradiction | exact this
theorem fine_value {m : Msg} (h : fineS m = true) (ho : offS m = bareS m) : 0 ≤ m.item.value := by
  by_cases e5 : m.kind = 5
  · have h2 : pairS m.item = true := by unfold fineS at h; simpa [e5] using h
    have := ((pairS_iff _).1 h2).2.1
    simp [withinS] at this; omega
  · by_cases e12 : m.kind = 12
    · unfold fineS at h
      simp [e12] at h
      rcases h with ⟨_, h⟩ | ⟨_, h⟩
      · have := ((pairS_iff _).1 h).2.1
        simp [withinS] at this; omega
      · have : m.item = Item.zero := by simpa [itemEqB] using h
        rw [this]; decide
    · have e1 : (offS m).item.value = 0 := by rw [ho]; rfl
      unfold offS at e1
      repeat' split at e1
      all_goals first | contradiction | (have e2 : m.item.value = 0 := e1; omega)
theorem one_bad {m : Msg} {n : Int} (hr : rightS m = true) (h1 : 1 ≤ n) (h2 : n ≤ 60000) : ∀ t, t ∈ oneL m n → rightS t = false ∧ t ≠ m := by
  obtain ⟨⟨k1, k2, p1, p2, hne⟩, ⟨c1, c2⟩, hf, ho⟩ := (rightS_iff m).1 hr
  have key : ∀ t, rightS t = false → rightS t = false ∧ t ≠ m := fun t h => ⟨h, fun e => by rw [e, hr] at h; cases h⟩
  have no : ∀ t : Msg, ¬ rightS t = true → rightS t = false := fun t h => by simpa using h
  have q1 : askerS m = if asksS m = true then m.frm else m.dst := rfl
  rw [placeS_iff] at p1 p2
  intro t ht
  simp only [oneL, List.mem_cons, List.not_mem_nil, or_false] at ht
  refine key t (no t fun hh => ?_)
  obtain ⟨⟨k1', k2', p1', p2', hne'⟩, ⟨c1', c2'⟩, hf', ho'⟩ := (rightS_iff t).1 hh
  rcases ht with rfl | rfl | rfl | rfl | rfl | rfl | rfl | rfl | rfl
  · exact hne' rfl
  · have e : askerS { m with call := m.call + 1048576 * n } = askerS m := rfl
    rw [e] at c2'
    change (m.call + 1048576 * n - 1) / 1048576 = askerS m at c2'
    omega
  · change (1 : Int) ≤ 0 at k1'; omega
  · rw [placeS_iff] at p1'
    change 0 ≤ 65536 + n ∧ 65536 + n < 65536 at p1'; omega
  · obtain ⟨a, b, c⟩ := fine_code hf' ho'
    change (m.kind = 11 → (5 : Int) = 0 ∨ (5 : Int) = 200) at a
    change (m.kind = 12 → (5 : Int) = 0 ∨ (5 : Int) = 201) at b
    change (m.kind ≠ 11 → m.kind ≠ 12 → (5 : Int) = 0) at c
    by_cases e1 : m.kind = 11
    · have := a e1; omega
    · by_cases e2 : m.kind = 12
      · have := b e2; omega
      · have := c e1 e2; omega
  · obtain ⟨a, b⟩ := fine_key hf' ho'
    rw [placeS_iff] at a
    change (m.kind = 4 → 0 ≤ -n ∧ -n < 65536) at a
    change (m.kind ≠ 4 → -n = 0) at b
    by_cases e : m.kind = 4
    · have := a e; omega
    · have := b e; omega
  · obtain ⟨a, b⟩ := fine_place hf' ho'
    rw [placeS_iff] at a
    change (m.kind = 10 → 0 ≤ -n ∧ -n < 65536) at a
    change (m.kind ≠ 10 → -n = 0) at b
    by_cases e : m.kind = 10
    · have := a e; omega
    · have := b e; omega
  · obtain ⟨a, b⟩ := fine_pred hf' ho'
    rw [placeS_iff] at a
    change (m.kind = 7 → -1 - n = -1 ∨ (0 ≤ -1 - n ∧ -1 - n < 65536)) at a
    change (m.kind ≠ 7 → -1 - n = 0) at b
    by_cases e : m.kind = 7
    · have := a e; omega
    · have := b e; omega
  · have := fine_value hf' ho'
    change 0 ≤ -n at this
    omega
theorem one_call {m : Msg} {n : Int} (hr : rightS m = true) (h1 : 1 ≤ n) (h2 : n ≤ 60000) : ∀ t, t ∈ oneL m n → t.call ≤ 9223372036854775807 ∧ t.list = m.list := by
  obtain ⟨⟨k1, k2, p1, p2, hne⟩, ⟨c1, c2⟩, hf, ho⟩ := (rightS_iff m).1 hr
  rw [placeS_iff] at p1 p2
  have q1 : askerS m = if asksS m = true then m.frm else m.dst := rfl
  have hb : m.call ≤ 68719476736 := by
    split at q1 <;> omega
  intro t ht
  simp only [oneL, List.mem_cons, List.not_mem_nil, or_false] at ht
  rcases ht with rfl | rfl | rfl | rfl | rfl | rfl | rfl | rfl | rfl
  all_goals first | exact ⟨by show m.call ≤ _; omega, rfl⟩ | exact ⟨by show m.call + 1048576 * n ≤ _; omega, rfl⟩

end Go.Proofs.Yteadkghffdiaoaa
