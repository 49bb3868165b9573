/- Keeps, plain: what a put leaves; the round. -/
import Derived.Test.YteadkghffdiaoabKeepQ
set_option linter.unusedVariables false
set_option linter.unusedSimpArgs false
set_option maxRecDepth 100000
namespace Go.Proofs.Yteadkghffdiaoab
open Go.RowKit Go.Proofs.YteadkghffdiaoabW.PrintWords

/-! ### The given words -/
theorem greatI_w (l : List Item) (A : Option Addr) (c : Nat) (w : World) (hr : RI w A c l) {b : Bool} (hb : greatI l = b) : Calls Try.prog 23 #[.slice A l.length c] w fun e w' => e = .returned (.bool b) ∧ w = w' := by subst hb; exact greatI_c l A c w hr
theorem rrightK_w (l : List Item) (A : Option Addr) (c : Nat) (w : World) (hr : RI w A c l) {b : Bool} (hb : rightK l = b) : Calls Try.prog 33 #[.slice A l.length c] w fun e w' => e = .returned (.bool b) ∧ Below w.heap.size w w' := by subst hb; exact rrightK_c l A c w hr

/-! ### Which is newer -/
theorem newerS_iff (a b : Item) : newerS a b = true ↔ b.version < a.version ∨ (b.version = a.version ∧ (b.value < a.value ∨ (b.value = a.value ∧ goneS b < goneS a))) := by
  unfold newerS
  rw [decide_eq_true_eq, itemCmp_ifs]
  unfold icmpS
  generalize goneS a = ga
  generalize goneS b = gb
  repeat' split
  all_goals omega
theorem newerS_no (a b : Item) : newerS a b = false ↔ ¬ (b.version < a.version ∨ (b.version = a.version ∧ (b.value < a.value ∨ (b.value = a.value ∧ goneS b < goneS a)))) := by
  rw [← newerS_iff, Bool.not_eq_true]
theorem newerS_self (a : Item) : newerS a a = false := by rw [newerS_no]; omega
theorem newerS_asymm {a b : Item} (h : newerS a b = true) : newerS b a = false := by rw [newerS_no]; rw [newerS_iff] at h; omega
theorem newerS_trans {a b c : Item} (h : newerS a b = false) (k : newerS b c = false) : newerS a c = false := by rw [newerS_no] at *; omega
theorem newerS_eq {a b : Item} (h : newerS a b = false) (k : newerS b a = false) (e : a.key = b.key) : a = b := by
  rw [newerS_no] at h k
  have h1 : a.version = b.version := by omega
  have h2 : a.value = b.value := by omega
  have h3 : goneS a = goneS b := by omega
  obtain ⟨ak, av, an, ag⟩ := a
  obtain ⟨bk, bv, bn, bg⟩ := b
  simp only at h1 h2 e
  subst h1 h2 e
  cases ag <;> cases bg <;> simp_all [goneS]

/-! ### Keeps -/
theorem rightK_keys (l : List Item) : rightK l = true ↔ (∀ x ∈ l, pairS x = true) ∧ (l.map (·.key)).Pairwise (fun a b => ltS a b = true) ∧ l.length ≤ 24 := by
  constructor
  · intro h
    have hs := rightK_sorted h
    obtain ⟨h1, _, h3⟩ := (rightK_iff l).1 h
    refine ⟨fun x hx => ?_, ?_, h3⟩
    · obtain ⟨j, hj, rfl⟩ := List.mem_iff_getElem.1 hx
      exact h1 j hj
    · rw [List.pairwise_map, List.pairwise_iff_getElem]
      exact fun i j hi hj hij => hs i j hij hj
  · rintro ⟨h1, h2, h3⟩
    rw [List.pairwise_map, List.pairwise_iff_getElem] at h2
    exact (rightK_iff l).2 ⟨fun k hk => h1 _ (List.getElem_mem hk), fun k hk => h2 k (k + 1) (by omega) hk (by omega), h3⟩
theorem tw_all {α : Type} (p : α → Bool) : ∀ (l : List α) (x : α), x ∈ l.takeWhile p → p x = true
  | [], x, h => by simp at h
  | y :: l, x, h => by
    rw [List.takeWhile_cons] at h
    cases hy : p y with
    | true =>
      rw [hy] at h
      rcases List.mem_cons.1 h with rfl | h
      · exact hy
      · exact tw_all p l x h
    | false => rw [hy] at h; simp at h
theorem dw_head {α : Type} (p : α → Bool) : ∀ (l : List α) (b : α) (t : List α), l.dropWhile p = b :: t → p b = false
  | [], b, t, h => by simp at h
  | y :: l, b, t, h => by
    rw [List.dropWhile_cons] at h
    cases hy : p y with
    | true => rw [hy] at h; exact dw_head p l b t h
    | false => rw [hy] at h; simp at h; rw [← h.1]; exact hy
theorem take_tw {α : Type} (p : α → Bool) : ∀ l : List α, l.take (l.takeWhile p).length = l.takeWhile p
  | [] => rfl
  | y :: l => by
    rw [List.takeWhile_cons]
    cases hy : p y with
    | true => simp [take_tw p l]
    | false => simp
theorem drop_tw {α : Type} (p : α → Bool) : ∀ l : List α, l.drop (l.takeWhile p).length = l.dropWhile p
  | [] => rfl
  | y :: l => by
    rw [List.takeWhile_cons, List.dropWhile_cons]
    cases hy : p y with
    | true => simp [drop_tw p l]
    | false => simp
theorem pos_lt {l : List Item} {key : ByteArray} {j : Nat} (hl : j < l.length) (hj : j < posS l key) : ltS l[j].key key = true := by
  have hp : (l.takeWhile fun x => ltS x.key key) <+: l := List.takeWhile_prefix _
  have e : (l.takeWhile fun x => ltS x.key key)[j]'hj = l[j] := hp.getElem hj
  have := tw_all (fun x : Item => ltS x.key key) l _ (List.getElem_mem (l := l.takeWhile fun x => ltS x.key key) hj)
  rw [e] at this
  exact this
theorem pos_at {l : List Item} {key : ByteArray} (hl : posS l key < l.length) : ltS l[posS l key].key key = false := by
  have hd := drop_tw (fun x : Item => ltS x.key key) l
  rw [show (l.takeWhile fun x => ltS x.key key).length = posS l key from rfl, List.drop_eq_getElem_cons hl] at hd
  exact dw_head (fun x : Item => ltS x.key key) l _ _ hd.symm
theorem pos_ge {l : List Item} {key : ByteArray} (hs : sortedI l) {j : Nat} (hl : j < l.length) (hj : posS l key ≤ j) : ltS l[j].key key = false := by
  rcases Nat.lt_or_ge (posS l key) j with h | h
  · rw [Bool.eq_false_iff]; intro h2
    have h3 := hs (posS l key) j h hl
    have := ltS_trans h3 h2
    rw [pos_at (by omega)] at this; cases this
  · obtain rfl : j = posS l key := by omega
    exact pos_at hl
theorem found_of {l : List Item} (hs : sortedI l) {j : Nat} (hl : j < l.length) {key : ByteArray} (h : l[j].key = key) : foundS l key = true ∧ posS l key = j := by
  have e : posS l key = j := by
    rcases Nat.lt_trichotomy (posS l key) j with h1 | h1 | h1
    · have h2 := hs (posS l key) j h1 hl
      rw [h] at h2
      rw [pos_at (by omega)] at h2; cases h2
    · exact h1
    · have := pos_lt hl h1
      rw [h, ltS_irrefl] at this; cases this
  refine ⟨?_, e⟩
  unfold foundS
  rw [e, List.getElem?_eq_getElem hl, decide_eq_true_eq]
  simp [h]
theorem found_mem {l : List Item} (hs : sortedI l) {y : Item} (hy : y ∈ l) : foundS l y.key = true := by
  obtain ⟨j, hj, rfl⟩ := List.mem_iff_getElem.1 hy
  exact (found_of hs hj rfl).1
theorem getS_mem {l : List Item} (hr : rightK l = true) {y : Item} (hy : y ∈ l) : getS l y.key = (y, 0) := by
  obtain ⟨j, hj, rfl⟩ := List.mem_iff_getElem.1 hy
  have h := found_of (rightK_sorted hr) hj rfl
  unfold getS
  rw [if_pos ⟨hr, h.1⟩, h.2, pairAt_get hj]

theorem putS_bad {k : List Item} {x : Item} (hr : rightK k = true) (hp : pairS x = false) : putS k x = (k, 2) := by unfold putS; rw [hr, hp]; rfl
theorem putS_old {k : List Item} {x : Item} (hr : rightK k = true) (hp : pairS x = true) (hf : foundS k x.key = true) : putS k x = (if newerS x (k.getD (posS k x.key) Item.zero) = true then k.set (posS k x.key) x else k, 0) := by
  unfold putS; rw [hr, hp, hf]; simp
theorem putS_full {k : List Item} {x : Item} (hr : rightK k = true) (hp : pairS x = true) (hf : foundS k x.key = false) (h24 : k.length = 24) : putS k x = (k, 200) := by
  unfold putS; rw [hr, hp, hf, if_pos h24]; simp
theorem putS_new {k : List Item} {x : Item} (hr : rightK k = true) (hp : pairS x = true) (hf : foundS k x.key = false) (h24 : k.length ≠ 24) : putS k x = (k.take (posS k x.key) ++ x :: k.drop (posS k x.key), 0) := by
  unfold putS; rw [hr, hp, hf, if_neg h24]; simp
theorem notFound {k : List Item} (hr : rightK k = true) {key : ByteArray} (hf : foundS k key = false) {y : Item} (hy : y ∈ k) : y.key ≠ key := by
  rintro rfl
  rw [found_mem (rightK_sorted hr) hy] at hf; cases hf

theorem putS_right {k : List Item} (x : Item) (hr : rightK k = true) : rightK (putS k x).1 = true := by
  cases hp : pairS x with
  | false => rw [putS_bad hr hp]; exact hr
  | true =>
    cases hf : foundS k x.key with
    | true =>
      rw [putS_old hr hp hf]
      obtain ⟨hj, hkey⟩ := foundS_at hf
      obtain ⟨h1, h2, h3⟩ := (rightK_keys k).1 hr
      by_cases hn : newerS x (k.getD (posS k x.key) Item.zero) = true
      · rw [if_pos hn]
        refine (rightK_keys _).2 ⟨fun y hy => ?_, ?_, by rw [List.length_set]; exact h3⟩
        · rcases List.mem_or_eq_of_mem_set hy with h | rfl
          · exact h1 y h
          · exact hp
        · rw [List.map_set]
          have : (k.map (·.key)).set (posS k x.key) x.key = k.map (·.key) := by
            refine List.ext_getElem (by simp) fun j h4 h5 => ?_
            rw [List.getElem_set]
            split
            · rename_i e; subst e; rw [List.getElem_map, hkey]
            · rfl
          rw [this]; exact h2
      · rw [if_neg hn]; exact hr
    | false =>
      by_cases h24 : k.length = 24
      · rw [putS_full hr hp hf h24]; exact hr
      · rw [putS_new hr hp hf h24]
        obtain ⟨h1, h2, h3⟩ := (rightK_keys k).1 hr
        have hs := rightK_sorted hr
        refine (rightK_keys _).2 ⟨fun y hy => ?_, ?_, ?_⟩
        · rcases List.mem_append.1 hy with h | h
          · exact h1 y (List.mem_of_mem_take h)
          · rcases List.mem_cons.1 h with rfl | h
            · exact hp
            · exact h1 y (List.mem_of_mem_drop h)
        · have hsp : ((k.take (posS k x.key)).map (·.key) ++ (k.drop (posS k x.key)).map (·.key)).Pairwise (fun a b => ltS a b = true) := by
            rw [← List.map_append, List.take_append_drop]; exact h2
          obtain ⟨g1, g2, g3⟩ := List.pairwise_append.1 hsp
          rw [List.map_append, List.map_cons]
          have q1 : ∀ a ∈ (k.take (posS k x.key)).map (·.key), ltS a x.key = true := by
            intro a ha
            obtain ⟨y, hy, rfl⟩ := List.mem_map.1 ha
            obtain ⟨j, hj, rfl⟩ := List.mem_iff_getElem.1 hy
            rw [List.length_take] at hj
            rw [List.getElem_take]
            exact pos_lt (by omega) (by omega)
          have q2 : ∀ b ∈ (k.drop (posS k x.key)).map (·.key), ltS x.key b = true := by
            intro b hb
            obtain ⟨y, hy, rfl⟩ := List.mem_map.1 hb
            obtain ⟨j, hj, rfl⟩ := List.mem_iff_getElem.1 hy
            rw [List.length_drop] at hj
            rw [List.getElem_drop]
            have hj2 : posS k x.key + j < k.length := by omega
            rcases ltS_total (k[posS k x.key + j]).key x.key with h | h | h
            · rw [pos_ge hs hj2 (by omega)] at h; cases h
            · exact absurd h (notFound hr hf (List.getElem_mem hj2))
            · exact h
          refine List.pairwise_append.2 ⟨g1, List.pairwise_cons.2 ⟨q2, g2⟩, fun a ha b hb => ?_⟩
          rcases List.mem_cons.1 hb with rfl | hb
          · exact q1 a ha
          · exact g3 a ha b hb
        · rw [List.length_append, List.length_cons, List.length_take, List.length_drop]; omega

theorem putS_keep {k : List Item} (x : Item) (hr : rightK k = true) {y : Item} (hy : y ∈ k) : ∃ z ∈ (putS k x).1, z.key = y.key ∧ newerS y z = false := by
  cases hp : pairS x with
  | false => rw [putS_bad hr hp]; exact ⟨y, hy, rfl, newerS_self y⟩
  | true =>
    cases hf : foundS k x.key with
    | true =>
      rw [putS_old hr hp hf]
      obtain ⟨hj, hkey⟩ := foundS_at hf
      by_cases hn : newerS x (k.getD (posS k x.key) Item.zero) = true
      · rw [if_pos hn]
        obtain ⟨j, hjl, rfl⟩ := List.mem_iff_getElem.1 hy
        by_cases he : j = posS k x.key
        · subst he
          rw [pairAt_get hj] at hn
          exact ⟨x, List.mem_set hj x, hkey.symm, newerS_asymm hn⟩
        · refine ⟨k[j], ?_, rfl, newerS_self _⟩
          have : (k.set (posS k x.key) x)[j]'(by rw [List.length_set]; exact hjl) = k[j] := List.getElem_set_ne (Ne.symm he) _
          rw [← this]; exact List.getElem_mem _
      · rw [if_neg hn]; exact ⟨y, hy, rfl, newerS_self y⟩
    | false =>
      by_cases h24 : k.length = 24
      · rw [putS_full hr hp hf h24]; exact ⟨y, hy, rfl, newerS_self y⟩
      · rw [putS_new hr hp hf h24]
        refine ⟨y, ?_, rfl, newerS_self y⟩
        rw [← List.take_append_drop (posS k x.key) k] at hy
        rcases List.mem_append.1 hy with h | h
        · exact List.mem_append_left _ h
        · exact List.mem_append_right _ (List.mem_cons_of_mem _ h)
theorem putS_size {k : List Item} (x : Item) : k.length ≤ (putS k x).1.length ∧ (putS k x).1.length ≤ k.length + 1 := by
  have := posS_le k x.key
  unfold putS
  repeat' split
  all_goals simp only [List.length_set, List.length_append, List.length_cons, List.length_take, List.length_drop]
  all_goals omega

/-! ### The round -/
theorem pairS_key {x : Item} (h : pairS x = true) : 1 ≤ x.key.size := by
  unfold pairS keyS at h
  simp only [Bool.and_eq_true, decide_eq_true_eq] at h
  exact h.1.1.1
theorem ltS_nil {key : ByteArray} (h : 1 ≤ key.size) : ltS ⟨#[]⟩ key = true := by
  rcases ltS_total ⟨#[]⟩ key with h1 | rfl | h1
  · exact h1
  · exact absurd h (by decide)
  · unfold ltS at h1
    rw [show (⟨#[]⟩ : ByteArray).toList = [] by rw [ByteArray.toList_eq]] at h1
    cases hk : key.toList <;> rw [hk] at h1 <;> simp [Op.bytesLess] at h1
theorem next_find {l : List Item} (hr : rightK l = true) {key : ByteArray} {i : Nat} (hi : i < l.length) (h1 : ∀ j, (hj : j < l.length) → j < i → ltS key l[j].key = false) (h2 : ltS key l[i].key = true) : nextS l key = (l[i], true) := by
  unfold nextS
  rw [if_neg (by rw [hr]; rintro (h | h); omega; cases h)]
  have : (l.find? fun x => ltS key x.key) = some l[i] := by
    rw [List.find?_eq_some_iff_getElem]
    exact ⟨h2, i, hi, rfl, fun j hj => by rw [h1 j (by omega) hj]; rfl⟩
  rw [this]
theorem next_first {l : List Item} (hr : rightK l = true) {key : ByteArray} (hl : 0 < l.length) (h1 : ∀ j, (hj : j < l.length) → ltS key l[j].key = false) : nextS l key = (l[0], true) := by
  unfold nextS
  rw [if_neg (by rw [hr]; rintro (h | h); omega; cases h)]
  have : (l.find? fun x => ltS key x.key) = none := by
    rw [List.find?_eq_none]
    intro x hx
    obtain ⟨j, hj, rfl⟩ := List.mem_iff_getElem.1 hx
    rw [h1 j hj]; decide
  rw [this]
  simp only [pairAt_get hl]
theorem next_nil {l : List Item} {key : ByteArray} (hl : l.length = 0) : nextS l key = (Item.zero, false) := by
  unfold nextS; rw [if_pos (.inl hl)]
/-- Where the round is behind i pairs. -/
def atS (l : List Item) (i : Nat) : ByteArray := if i = 0 then ⟨#[]⟩ else (l.getD (i - 1) Item.zero).key
theorem atS_succ {l : List Item} {i : Nat} (hi : i < l.length) : atS l (i + 1) = l[i].key := by
  unfold atS; rw [if_neg (by omega), Nat.add_sub_cancel, pairAt_get hi]
theorem atS_up {l : List Item} (hr : rightK l = true) {i j : Nat} (hi : i ≤ l.length) (hj : j < l.length) : ltS (atS l i) l[j].key = decide (i ≤ j) := by
  have hs := rightK_sorted hr
  have h1 := ((rightK_iff l).1 hr).1
  rw [Bool.eq_iff_iff, decide_eq_true_eq]
  cases i with
  | zero =>
    unfold atS
    rw [if_pos rfl]
    exact ⟨fun _ => Nat.zero_le _, fun _ => ltS_nil (pairS_key (h1 j hj))⟩
  | succ i =>
    rw [atS_succ (by omega)]
    constructor
    · intro h
      rcases Nat.lt_trichotomy i j with h2 | rfl | h2
      · omega
      · rw [ltS_irrefl] at h; cases h
      · rw [ltS_asymm (hs j i h2 (by omega))] at h; cases h
    · intro h; exact hs i j (by omega) hj
theorem next_round {l : List Item} (hr : rightK l = true) {i : Nat} (hi : i < l.length) : nextS l (atS l i) = (l[i], true) :=
  next_find hr hi (fun j hj hji => by rw [atS_up hr (by omega) hj, decide_eq_false_iff_not]; omega) (by rw [atS_up hr (by omega) hi, decide_eq_true_eq]; omega)
theorem next_last {l : List Item} (hr : rightK l = true) (hl : 0 < l.length) : nextS l (atS l l.length) = (l[0], true) :=
  next_first hr hl (fun j hj => by rw [atS_up hr (Nat.le_refl _) hj, decide_eq_false_iff_not]; omega)
/-- The first above, or none is. -/
theorem next_or {l : List Item} (hr : rightK l = true) (hl : 0 < l.length) (key : ByteArray) :
    (nextS l key).2 = true ∧ ((ltS key (nextS l key).1.key = true ∧ ∀ j, (hj : j < l.length) → ltS key l[j].key = true → ltS l[j].key (nextS l key).1.key = false) ∨ ((nextS l key).1 = l[0] ∧ ∀ j, (hj : j < l.length) → ltS key l[j].key = false)) := by
  have hs := rightK_sorted hr
  by_cases h : ∀ j, (hj : j < l.length) → ltS key l[j].key = false
  · rw [next_first hr hl h]
    exact ⟨rfl, .inr ⟨rfl, h⟩⟩
  · have hex : ∃ j, ∃ hj : j < l.length, ltS key l[j].key = true := by
      refine Classical.byContradiction fun hn => h fun j hj => ?_
      rw [Bool.eq_false_iff]; exact fun hh => hn ⟨j, hj, hh⟩
    have hmin : ∃ i, ∃ hi : i < l.length, ltS key l[i].key = true ∧ ∀ j, (hj : j < l.length) → j < i → ltS key l[j].key = false := by
      have : ∀ n, (∃ j, ∃ hj : j < l.length, j < n ∧ ltS key l[j].key = true) → ∃ i, ∃ hi : i < l.length, ltS key l[i].key = true ∧ ∀ j, (hj : j < l.length) → j < i → ltS key l[j].key = false := by
        intro n
        induction n with
        | zero => rintro ⟨j, _, h0, _⟩; omega
        | succ n ih =>
          rintro ⟨j, hj, hjn, hjt⟩
          by_cases hsm : ∃ j, ∃ hj : j < l.length, j < n ∧ ltS key l[j].key = true
          · exact ih hsm
          · refine ⟨j, hj, hjt, fun i hi hij => ?_⟩
            rw [Bool.eq_false_iff]; exact fun hh => hsm ⟨i, hi, by omega, hh⟩
      obtain ⟨j, hj, hjt⟩ := hex
      exact this l.length ⟨j, hj, hj, hjt⟩
    obtain ⟨i, hi, h2, h1⟩ := hmin
    rw [next_find hr hi h1 h2]
    refine ⟨rfl, .inl ⟨h2, fun j hj hjt => ?_⟩⟩
    rcases Nat.lt_trichotomy i j with h3 | rfl | h3
    · exact ltS_asymm (hs i j h3 hj)
    · exact ltS_irrefl _
    · rw [h1 j hj h3] at hjt; cases hjt

end Go.Proofs.Yteadkghffdiaoab
