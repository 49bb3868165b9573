/- Keeps, plain: the newest of each key; two goes. -/
import Derived.Test.YteadkghffdiaoabKeepS
set_option linter.unusedVariables false
set_option linter.unusedSimpArgs false
set_option maxRecDepth 100000
namespace Go.Proofs.Yteadkghffdiaoab
open Go.RowKit Go.Proofs.YteadkghffdiaoabW.PrintWords

theorem pw_ext {α : Type} {R : α → α → Prop} (hR : ∀ a b, R a b → ¬ R b a) : ∀ {l m : List α}, l.Pairwise R → m.Pairwise R → (∀ x, x ∈ l ↔ x ∈ m) → l = m
  | [], [], _, _, _ => rfl
  | [], y :: m, _, _, h => by have := (h y).2 (by simp); simp at this
  | x :: l, [], _, _, h => by have := (h x).1 (by simp); simp at this
  | x :: l, y :: m, hl, hm, h => by
    obtain ⟨l1, l2⟩ := List.pairwise_cons.1 hl
    obtain ⟨m1, m2⟩ := List.pairwise_cons.1 hm
    have e : x = y := by
      rcases List.mem_cons.1 ((h x).1 (by simp)) with e | hx
      · exact e
      · rcases List.mem_cons.1 ((h y).2 (by simp)) with e | hy
        · exact e.symm
        · exact absurd (m1 x hx) (hR _ _ (l1 y hy))
    subst e
    rw [pw_ext hR l2 m2 fun z => ⟨fun hz => ?_, fun hz => ?_⟩]
    · rcases List.mem_cons.1 ((h z).1 (List.mem_cons_of_mem _ hz)) with rfl | h1
      · exact absurd (l1 z hz) (fun h => hR _ _ h h)
      · exact h1
    · rcases List.mem_cons.1 ((h z).2 (List.mem_cons_of_mem _ hz)) with rfl | h1
      · exact absurd (m1 z hz) (fun h => hR _ _ h h)
      · exact h1
theorem ltS_not (a b : ByteArray) (h : ltS a b = true) : ¬ ltS b a = true := by rw [ltS_asymm h]; decide
theorem nodup_sub {α : Type} [DecidableEq α] : ∀ (l m : List α), l.Pairwise (· ≠ ·) → (∀ x, x ∈ l → x ∈ m) → l.length ≤ m.length
  | [], _, _, _ => Nat.zero_le _
  | x :: l, m, h, hs => by
    obtain ⟨h1, h2⟩ := List.pairwise_cons.1 h
    have hx := hs x (by simp)
    have := nodup_sub l (m.erase x) h2 fun y hy => (List.mem_erase_of_ne (h1 y hy).symm).2 (hs y (List.mem_cons_of_mem _ hy))
    rw [List.length_erase_of_mem hx] at this
    have : 0 < m.length := List.length_pos_of_mem hx
    rw [List.length_cons]; omega

theorem putS_mem {k : List Item} {x : Item} (hr : rightK k = true) (hp : pairS x = true) {y : Item} (hy : y ∈ (putS k x).1) : (y ∈ k ∧ (y.key = x.key → newerS x y = false)) ∨ (y = x ∧ (putS k x).2 = 0 ∧ ∀ z ∈ k, z.key = x.key → newerS z x = false) := by
  have hs := rightK_sorted hr
  cases hf : foundS k x.key with
  | true =>
    obtain ⟨hj, hkey⟩ := foundS_at hf
    rw [putS_old hr hp hf] at hy ⊢
    have huniq : ∀ z ∈ k, z.key = x.key → z = k[posS k x.key] := by
      intro z hz hzk
      obtain ⟨j, hjl, rfl⟩ := List.mem_iff_getElem.1 hz
      have := (found_of hs hjl hzk).2
      subst this; rfl
    by_cases hn : newerS x (k.getD (posS k x.key) Item.zero) = true
    · rw [if_pos hn] at hy ⊢
      rw [pairAt_get hj] at hn
      obtain ⟨j, hjl, rfl⟩ := List.mem_iff_getElem.1 hy
      rw [List.length_set] at hjl
      rw [List.getElem_set]
      split
      · exact .inr ⟨rfl, rfl, fun z hz hzk => by rw [huniq z hz hzk]; exact newerS_asymm hn⟩
      · rename_i hne
        exact .inl ⟨List.getElem_mem _, fun e => absurd (found_of hs hjl e).2 hne⟩
    · rw [if_neg hn] at hy ⊢
      rw [pairAt_get hj, Bool.not_eq_true] at hn
      exact .inl ⟨hy, fun e => by rw [huniq y hy e]; exact hn⟩
  | false =>
    by_cases h24 : k.length = 24
    · rw [putS_full hr hp hf h24] at hy
      exact .inl ⟨hy, fun e => absurd e (notFound hr hf hy)⟩
    · rw [putS_new hr hp hf h24] at hy ⊢
      rcases List.mem_append.1 hy with h | h
      · have := List.mem_of_mem_take h
        exact .inl ⟨this, fun e => absurd e (notFound hr hf this)⟩
      · rcases List.mem_cons.1 h with h | h
        · exact .inr ⟨h, rfl, fun z hz e => absurd e (notFound hr hf hz)⟩
        · have := List.mem_of_mem_drop h
          exact .inl ⟨this, fun e => absurd e (notFound hr hf this)⟩
theorem putS_has {k : List Item} {x : Item} (hr : rightK k = true) (hp : pairS x = true) (he : (putS k x).2 = 0) : ∃ y ∈ (putS k x).1, y.key = x.key := by
  cases hf : foundS k x.key with
  | true =>
    obtain ⟨hj, hkey⟩ := foundS_at hf
    obtain ⟨z, hz, h, _⟩ := putS_keep x hr (List.getElem_mem hj)
    exact ⟨z, hz, h.trans hkey⟩
  | false =>
    by_cases h24 : k.length = 24
    · rw [putS_full hr hp hf h24] at he; cases he
    · rw [putS_new hr hp hf h24]
      exact ⟨x, List.mem_append_right _ (by simp), rfl⟩
theorem putS_err {k : List Item} (x : Item) (hr : rightK k = true) : (pairS x = true ∧ (putS k x).2 = 0) ∨ (pairS x = true ∧ (putS k x).2 = 200 ∧ k.length = 24 ∧ ∀ y ∈ k, y.key ≠ x.key) ∨ (pairS x = false ∧ (putS k x).2 = 2) := by
  cases hp : pairS x with
  | false => exact .inr (.inr ⟨rfl, by rw [putS_bad hr hp]⟩)
  | true =>
    cases hf : foundS k x.key with
    | true => exact .inl ⟨rfl, by rw [putS_old hr hp hf]⟩
    | false =>
      by_cases h24 : k.length = 24
      · exact .inr (.inl ⟨rfl, by rw [putS_full hr hp hf h24], h24, fun y hy => notFound hr hf hy⟩)
      · exact .inl ⟨rfl, by rw [putS_new hr hp hf h24]⟩

/-- A keep of what was put. -/
structure KInv (k L : List Item) : Prop where
  r : rightK k = true
  fr : ∀ y ∈ k, y ∈ L ∧ ∀ z ∈ L, z.key = y.key → newerS z y = false
  has : ∀ z ∈ L, ∃ y ∈ k, y.key = z.key
theorem KInv.nil : KInv [] [] := ⟨by decide +kernel, fun y hy => by simp at hy, fun y hy => by simp at hy⟩
theorem KInv.step {k L : List Item} (h : KInv k L) {x : Item} (hp : pairS x = true) (he : (putS k x).2 = 0) : KInv (putS k x).1 (L ++ [x]) := by
  refine ⟨putS_right x h.r, fun y hy => ?_, fun z hz => ?_⟩
  · rcases putS_mem h.r hp hy with ⟨h1, h2⟩ | ⟨rfl, _, h2⟩
    · refine ⟨List.mem_append_left _ (h.fr y h1).1, fun z hz e => ?_⟩
      rcases List.mem_append.1 hz with hz | hz
      · exact (h.fr y h1).2 z hz e
      · rw [List.mem_singleton] at hz
        subst hz
        exact h2 e.symm
    · refine ⟨List.mem_append_right _ (by simp), fun z hz e => ?_⟩
      rcases List.mem_append.1 hz with hz | hz
      · obtain ⟨q, hq, hqk⟩ := h.has z hz
        exact newerS_trans ((h.fr q hq).2 z hz hqk.symm) (h2 q hq (hqk.trans e))
      · rw [List.mem_singleton] at hz
        subst hz
        exact newerS_self z
  · rcases List.mem_append.1 hz with hz | hz
    · obtain ⟨q, hq, hqk⟩ := h.has z hz
      obtain ⟨y, hy, e, _⟩ := putS_keep x h.r hq
      exact ⟨y, hy, e.trans hqk⟩
    · rw [List.mem_singleton] at hz
      subst hz
      exact putS_has h.r hp he
theorem KInv.same {a b L M : List Item} (h : KInv a L) (k : KInv b M) (he : ∀ x, x ∈ L ↔ x ∈ M) : a = b := by
  have sub : ∀ {a b L M : List Item}, KInv a L → KInv b M → (∀ x, x ∈ L ↔ x ∈ M) → ∀ x, x ∈ a → x ∈ b := by
    intro a b L M h k he x hx
    obtain ⟨h1, h2⟩ := h.fr x hx
    obtain ⟨y, hy, e⟩ := k.has x ((he x).1 h1)
    obtain ⟨k1, k2⟩ := k.fr y hy
    rw [newerS_eq (k2 x ((he x).1 h1) e.symm) (h2 y ((he y).2 k1) e) e.symm]
    exact hy
  have h2 := ((rightK_keys a).1 h.r).2.1
  have k2 := ((rightK_keys b).1 k.r).2.1
  rw [List.pairwise_map] at h2 k2
  exact pw_ext (fun _ _ => ltS_not _ _) h2 k2 fun x => ⟨sub h k he x, sub k h (fun x => (he x).symm) x⟩
theorem KInv.len {k L : List Item} (h : KInv k L) : k.length ≤ L.length := by
  refine nodup_sub k L ?_ (fun x hx => (h.fr x hx).1)
  have h2 := ((rightK_keys k).1 h.r).2.1
  rw [List.pairwise_map] at h2
  exact h2.imp fun h e => by subst e; exact ltS_ne h rfl

theorem fold_err : ∀ (l : List Item) (o : List Item × Int), o.2 ≠ 0 → (l.foldl stepS o).2 = o.2
  | [], _, _ => rfl
  | x :: l, o, h => by
    rw [List.foldl_cons]
    have e : (stepS o x).2 = o.2 := by unfold stepS; simp only [if_neg h]
    rw [fold_err l _ (by rw [e]; exact h), e]
theorem fold_right : ∀ (l : List Item) (o : List Item × Int), rightK o.1 = true → rightK (l.foldl stepS o).1 = true
  | [], _, h => h
  | x :: l, o, h => fold_right l (stepS o x) (putS_right x h)
theorem fold_keep : ∀ (l : List Item) (o : List Item × Int), rightK o.1 = true → ∀ y ∈ o.1, ∃ z ∈ (l.foldl stepS o).1, z.key = y.key ∧ newerS y z = false
  | [], _, _, y, hy => ⟨y, hy, rfl, newerS_self y⟩
  | x :: l, o, h, y, hy => by
    obtain ⟨z, hz, e, hn⟩ := putS_keep x h hy
    obtain ⟨q, hq, e2, hn2⟩ := fold_keep l (stepS o x) (putS_right x h) z hz
    exact ⟨q, hq, e2.trans e, newerS_trans hn hn2⟩
theorem fold_size : ∀ (l : List Item) (o : List Item × Int), o.1.length ≤ (l.foldl stepS o).1.length
  | [], _ => Nat.le_refl _
  | x :: l, o => Nat.le_trans (putS_size x).1 (fold_size l (stepS o x))
theorem fold_two : ∀ (l : List Item) (k : List Item) (e : Int), l.foldl stepS (k, e) = ((allS k l).1, if e = 0 then (allS k l).2 else e)
  | [], k, e => by simp [allS]
  | x :: l, k, e => by
    unfold allS
    have e1 : stepS (k, e) x = ((putS k x).1, if e = 0 then (putS k x).2 else e) := rfl
    have e2 : stepS (k, 0) x = ((putS k x).1, (putS k x).2) := rfl
    rw [List.foldl_cons, List.foldl_cons, e1, e2, fold_two l (putS k x).1 (if e = 0 then (putS k x).2 else e), fold_two l (putS k x).1 (putS k x).2]
    by_cases h : e = 0 <;> simp [h]
theorem allS_append (k l m : List Item) : allS k (l ++ m) = ((allS (allS k l).1 m).1, if (allS k l).2 = 0 then (allS (allS k l).1 m).2 else (allS k l).2) := by
  conv => lhs; unfold allS
  rw [List.foldl_append]
  exact fold_two m _ _

theorem fold_spec : ∀ (l : List Item) (o : List Item × Int) (L : List Item), KInv o.1 L → o.2 = 0 →
    ((l.foldl stepS o).2 = 0 ∧ (∀ x ∈ l, pairS x = true) ∧ KInv (l.foldl stepS o).1 (L ++ l)) ∨
    ((l.foldl stepS o).2 = 200 ∧ ∃ p x s, l = p ++ x :: s ∧ (∀ y ∈ p, pairS y = true) ∧ pairS x = true ∧ ∃ k, KInv k (L ++ p) ∧ k.length = 24 ∧ ∀ y ∈ k, y.key ≠ x.key) ∨
    ((l.foldl stepS o).2 = 2 ∧ ∃ x ∈ l, pairS x = false)
  | [], o, L, h, he => .inl ⟨he, fun x hx => by simp at hx, by rw [List.append_nil]; exact h⟩
  | x :: l, o, L, h, he => by
    have e2 : (stepS o x).2 = (putS o.1 x).2 := by unfold stepS; simp only [if_pos he]
    rcases putS_err x h.r with ⟨hp, h0⟩ | ⟨hp, h0, h24, hk⟩ | ⟨hp, h0⟩
    · have hk : KInv (stepS o x).1 (L ++ [x]) := h.step hp h0
      rcases fold_spec l (stepS o x) (L ++ [x]) hk (e2.trans h0) with ⟨h1, h2, h3⟩ | ⟨h1, p, y, s, hl, hps, hy, k, hkk, hlen, hne⟩ | ⟨h1, y, hy, hyp⟩
      · refine .inl ⟨h1, fun y hy => ?_, by rw [List.append_assoc] at h3; exact h3⟩
        rcases List.mem_cons.1 hy with rfl | hy
        · exact hp
        · exact h2 y hy
      · refine .inr (.inl ⟨h1, x :: p, y, s, by rw [hl]; rfl, fun z hz => ?_, hy, k, by rw [List.append_assoc] at hkk; exact hkk, hlen, hne⟩)
        rcases List.mem_cons.1 hz with rfl | hz
        · exact hp
        · exact hps z hz
      · exact .inr (.inr ⟨h1, y, List.mem_cons_of_mem _ hy, hyp⟩)
    · refine .inr (.inl ⟨?_, [], x, l, rfl, fun y hy => by simp at hy, hp, o.1, by rw [List.append_nil]; exact h, h24, hk⟩)
      rw [List.foldl_cons, fold_err l _ (by rw [e2, h0]; decide), e2, h0]
    · refine .inr (.inr ⟨?_, x, by simp, hp⟩)
      rw [List.foldl_cons, fold_err l _ (by rw [e2, h0]; decide), e2, h0]
theorem all_spec (l : List Item) : ((allS [] l).2 = 0 ∧ (∀ x ∈ l, pairS x = true) ∧ KInv (allS [] l).1 l) ∨
    ((allS [] l).2 = 200 ∧ ∃ p x s, l = p ++ x :: s ∧ (∀ y ∈ p, pairS y = true) ∧ pairS x = true ∧ ∃ k, KInv k p ∧ k.length = 24 ∧ ∀ y ∈ k, y.key ≠ x.key) ∨
    ((allS [] l).2 = 2 ∧ ∃ x ∈ l, pairS x = false) := fold_spec l ([], 0) [] KInv.nil rfl
/-- All are pairs, and one go is refused: then more than 24 keys are there, and the other go is refused too. -/
theorem all_full {l m : List Item} (hm : ∀ x, x ∈ l ↔ x ∈ m) (hf : ∀ x ∈ l, pairS x = true) (he : (allS [] l).2 ≠ 0) : (allS [] l).2 = 200 ∧ (allS [] m).2 = 200 := by
  rcases all_spec l with ⟨h, _⟩ | ⟨h, p, x, s, hl, _, _, k, hk, h24, hne⟩ | ⟨_, x, hx, hp⟩
  · exact absurd h he
  · refine ⟨h, ?_⟩
    rcases all_spec m with ⟨_, _, km⟩ | ⟨h2, _⟩ | ⟨_, x, hx, hp⟩
    · exfalso
      have hkm : ∀ y ∈ x :: k, ∃ z ∈ (allS [] m).1, z.key = y.key := by
        intro y hy
        have hyl : y ∈ l := by
          rw [hl]
          rcases List.mem_cons.1 hy with rfl | hy
          · exact List.mem_append_right _ (by simp)
          · exact List.mem_append_left _ (hk.fr y hy).1
        exact km.has y ((hm y).1 hyl)
      have := nodup_sub ((x :: k).map (·.key)) ((allS [] m).1.map (·.key)) ?_ ?_
      · simp only [List.length_map, List.length_cons] at this
        have := rightK_len km.r
        omega
      · rw [List.map_cons, List.pairwise_cons]
        refine ⟨fun a ha => ?_, (((rightK_keys k).1 hk.r).2.1).imp fun h => ltS_ne h⟩
        obtain ⟨y, hy, rfl⟩ := List.mem_map.1 ha
        exact (hne y hy).symm
      · intro a ha
        obtain ⟨y, hy, rfl⟩ := List.mem_map.1 ha
        obtain ⟨z, hz, e⟩ := hkm y hy
        exact List.mem_map.2 ⟨z, hz, e⟩
    · exact h2
    · rw [hf x ((hm x).2 hx)] at hp; cases hp
  · rw [hf x hx] at hp; cases hp
/-- Refused for want of room: the first 25 are pairs. -/
theorem full_first {l : List Item} (he : (allS [] l).2 = 200) : 25 ≤ l.length ∧ ∀ j, (hj : j < l.length) → j < 25 → pairS l[j] = true := by
  rcases all_spec l with ⟨h, _⟩ | ⟨h, p, x, s, hl, hp, hx, k, hk, h24, hne⟩ | ⟨h, _⟩
  · rw [h] at he; cases he
  · have hlen := hk.len
    subst hl
    refine ⟨by simp; omega, fun j hj hj25 => ?_⟩
    rcases Nat.lt_or_ge j p.length with h1 | h1
    · rw [List.getElem_append_left h1]; exact hp _ (List.getElem_mem h1)
    · have : j = p.length := by omega
      subst this
      rw [List.getElem_append_right (Nat.le_refl _)]
      simpa using hx
  · rw [h] at he; cases he
theorem full_both {l : List Item} (hl : l.length ≤ 40) (h1 : (allS [] l).2 = 200) (h2 : (allS [] l.reverse).2 = 200) : ∀ x ∈ l, pairS x = true := by
  obtain ⟨a1, a2⟩ := full_first h1
  obtain ⟨b1, b2⟩ := full_first h2
  intro x hx
  obtain ⟨j, hj, rfl⟩ := List.mem_iff_getElem.1 hx
  rcases Nat.lt_or_ge j 25 with h | h
  · exact a2 j hj h
  · have := b2 (l.length - 1 - j) (by rw [List.length_reverse]; omega) (by omega)
    rw [List.getElem_reverse] at this
    have e : l.length - 1 - (l.length - 1 - j) = j := by omega
    simp only [e] at this
    exact this

/-! ### The newest; those of a key; the keys -/
def newStep (o : Item × Bool) (x : Item) : Item × Bool := if (pairS x && (!o.2 || newerS x o.1)) = true then (x, true) else o
def newestS (l : List Item) : Item × Bool := l.foldl newStep (Item.zero, false)
def ofS (key : ByteArray) (l : List Item) : List Item := l.filter fun x => decide (x.key = key)
def keyAt (out : List ByteArray) (key : ByteArray) : Nat := (out.takeWhile fun x => ltS x key).length
def keyIn (out : List ByteArray) (key : ByteArray) : List ByteArray := if out[keyAt out key]? = some key then out else out.take (keyAt out key) ++ key :: out.drop (keyAt out key)
def keysS (l : List Item) : List ByteArray := l.foldl (fun out x => keyIn out x.key) []

theorem newest_fold : ∀ (l : List Item) (o : Item × Bool), (∀ x ∈ l, pairS x = true) → (o.2 = true ∨ l ≠ []) → ((l.foldl newStep o).1 ∈ l ∨ (o.2 = true ∧ (l.foldl newStep o).1 = o.1)) ∧ (∀ y ∈ l, newerS y (l.foldl newStep o).1 = false) ∧ (o.2 = true → newerS o.1 (l.foldl newStep o).1 = false)
  | [], o, _, h => by
    have h := h.resolve_right (by simp)
    exact ⟨.inr ⟨h, rfl⟩, fun y hy => by simp at hy, fun _ => newerS_self _⟩
  | x :: l, o, hp, _ => by
    have hx := hp x (by simp)
    have hl : ∀ y ∈ l, pairS y = true := fun y hy => hp y (List.mem_cons_of_mem _ hy)
    rw [List.foldl_cons]
    by_cases hn : (pairS x && (!o.2 || newerS x o.1)) = true
    · have e : newStep o x = (x, true) := by unfold newStep; rw [if_pos hn]
      rw [e]
      obtain ⟨h1, h2, h3⟩ := newest_fold l (x, true) hl (.inl rfl)
      refine ⟨?_, fun y hy => ?_, fun ho => ?_⟩
      · rcases h1 with h1 | ⟨_, h1⟩
        · exact .inl (List.mem_cons_of_mem _ h1)
        · rw [h1]; exact .inl (by simp)
      · rcases List.mem_cons.1 hy with rfl | hy
        · exact h3 rfl
        · exact h2 y hy
      · rw [hx, ho] at hn
        simp at hn
        exact newerS_trans (newerS_asymm hn) (h3 rfl)
    · have e : newStep o x = o := by unfold newStep; rw [if_neg hn]
      rw [e]
      rw [hx] at hn
      have ho : o.2 = true := by
        cases h : o.2 with
        | true => rfl
        | false => rw [h] at hn; simp at hn
      rw [ho] at hn
      simp at hn
      obtain ⟨h1, h2, h3⟩ := newest_fold l o hl (.inl ho)
      refine ⟨?_, fun y hy => ?_, h3⟩
      · rcases h1 with h1 | h1
        · exact .inl (List.mem_cons_of_mem _ h1)
        · exact .inr h1
      · rcases List.mem_cons.1 hy with rfl | hy
        · exact newerS_trans hn (h3 ho)
        · exact h2 y hy
theorem newest_is {k L : List Item} (h : KInv k L) (hp : ∀ x ∈ L, pairS x = true) {x : Item} (hx : x ∈ L) : getS k x.key = ((newestS (ofS x.key L)).1, 0) := by
  have hm : ∀ {y : Item}, y ∈ ofS x.key L ↔ y ∈ L ∧ y.key = x.key := by
    intro y; unfold ofS; rw [List.mem_filter, decide_eq_true_eq]
  obtain ⟨h1, h2, _⟩ := newest_fold (ofS x.key L) (Item.zero, false) (fun y hy => hp y (hm.1 hy).1) (.inr (fun e => by have := hm.2 ⟨hx, rfl⟩; rw [e] at this; simp at this))
  obtain ⟨y, hy, e⟩ := h.has x hx
  obtain ⟨f1, f2⟩ := h.fr y hy
  have h1 := h1.resolve_right (by rintro ⟨h, _⟩; cases h)
  have e2 : y = (newestS (ofS x.key L)).1 := by
    have hq := hm.1 h1
    exact newerS_eq (h2 y (hm.2 ⟨f1, e⟩)) (f2 _ hq.1 (hq.2.trans e.symm)) (e.trans hq.2.symm)
  rw [← e2, ← e]
  exact getS_mem h.r hy

abbrev KS (l : List ByteArray) : Prop := l.Pairwise fun a b => ltS a b = true
theorem keyAt_lt {l : List ByteArray} {key a : ByteArray} (h : a ∈ l.take (keyAt l key)) : ltS a key = true := by
  unfold keyAt at h
  rw [take_tw] at h
  exact tw_all (fun x => ltS x key) l _ h
theorem keyAt_ge {l : List ByteArray} (hs : KS l) {key a : ByteArray} (h : a ∈ l.drop (keyAt l key)) : ltS a key = false := by
  have e : l.drop (keyAt l key) = l.dropWhile fun x => ltS x key := drop_tw _ l
  have hs2 : KS (l.dropWhile fun x => ltS x key) := by rw [← e]; exact hs.drop
  rw [e] at h
  cases hd : l.dropWhile fun x => ltS x key with
  | nil => rw [hd] at h; simp at h
  | cons b t =>
    rw [hd] at h hs2
    have hb : ltS b key = false := dw_head (fun x => ltS x key) l _ _ hd
    rcases List.mem_cons.1 h with rfl | h
    · exact hb
    · rw [Bool.eq_false_iff]; intro h3
      have := ltS_trans ((List.pairwise_cons.1 hs2).1 a h) h3
      rw [hb] at this; cases this
theorem keyIn_ok {l : List ByteArray} (hs : KS l) (key : ByteArray) : KS (keyIn l key) ∧ ∀ a, a ∈ keyIn l key ↔ a ∈ l ∨ a = key := by
  unfold keyIn
  split
  · rename_i h
    refine ⟨hs, fun a => ⟨.inl, fun h2 => h2.elim id fun e => ?_⟩⟩
    subst e
    exact List.mem_of_getElem? h
  · rename_i h
    have hnot : ∀ a ∈ l.drop (keyAt l key), ltS key a = true := by
      intro a ha
      rcases ltS_total a key with h1 | h1 | h1
      · rw [keyAt_ge hs ha] at h1; cases h1
      · exfalso
        subst h1
        obtain ⟨j, hj, e⟩ := List.mem_iff_getElem.1 ha
        rw [List.length_drop] at hj
        rw [List.getElem_drop] at e
        have h0 : keyAt l a < l.length := by omega
        cases j with
        | zero => exact h (by rw [List.getElem?_eq_getElem h0]; simpa using e)
        | succ j =>
          have h2 := (List.pairwise_iff_getElem.1 hs) (keyAt l a) (keyAt l a + (j + 1)) h0 (by omega) (by omega)
          rw [e] at h2
          have : l[keyAt l a] ∈ l.drop (keyAt l a) := List.mem_iff_getElem.2 ⟨0, by rw [List.length_drop]; omega, by rw [List.getElem_drop]; simp⟩
          rw [keyAt_ge hs this] at h2; cases h2
      · exact h1
    have hsp : KS (l.take (keyAt l key) ++ l.drop (keyAt l key)) := by rw [List.take_append_drop]; exact hs
    obtain ⟨g1, g2, g3⟩ := List.pairwise_append.1 hsp
    refine ⟨List.pairwise_append.2 ⟨g1, List.pairwise_cons.2 ⟨hnot, g2⟩, fun a ha b hb => ?_⟩, fun a => ?_⟩
    · rcases List.mem_cons.1 hb with rfl | hb
      · exact keyAt_lt ha
      · exact g3 a ha b hb
    · rw [List.mem_append, List.mem_cons]
      conv => rhs; rw [← List.take_append_drop (keyAt l key) l]
      rw [List.mem_append]
      constructor
      · rintro (h | h | h)
        · exact .inl (.inl h)
        · exact .inr h
        · exact .inl (.inr h)
      · rintro ((h | h) | h)
        · exact .inl h
        · exact .inr (.inr h)
        · exact .inr (.inl h)
theorem keys_fold : ∀ (l : List Item) (out : List ByteArray), KS out → KS (l.foldl (fun out x => keyIn out x.key) out) ∧ ∀ a, a ∈ l.foldl (fun out x => keyIn out x.key) out ↔ a ∈ out ∨ ∃ x ∈ l, x.key = a
  | [], out, h => ⟨h, fun a => by simp⟩
  | x :: l, out, h => by
    obtain ⟨h1, h2⟩ := keyIn_ok h x.key
    obtain ⟨h3, h4⟩ := keys_fold l (keyIn out x.key) h1
    refine ⟨h3, fun a => ?_⟩
    rw [List.foldl_cons, h4, h2]
    constructor
    · rintro ((h | rfl) | ⟨y, hy, e⟩)
      · exact .inl h
      · exact .inr ⟨x, by simp, rfl⟩
      · exact .inr ⟨y, List.mem_cons_of_mem _ hy, e⟩
    · rintro (h | ⟨y, hy, e⟩)
      · exact .inl (.inl h)
      · rcases List.mem_cons.1 hy with rfl | hy
        · exact .inl (.inr e.symm)
        · exact .inr ⟨y, hy, e⟩
theorem keys_len {k L : List Item} (h : KInv k L) : k.length = (keysS L).length := by
  obtain ⟨h1, h2⟩ := keys_fold L [] List.Pairwise.nil
  have : k.map (·.key) = keysS L := by
    refine pw_ext ltS_not ((rightK_keys k).1 h.r).2.1 h1 fun a => ?_
    refine Iff.trans ?_ (h2 a).symm
    constructor
    · intro ha
      obtain ⟨y, hy, rfl⟩ := List.mem_map.1 ha
      exact .inr ⟨y, (h.fr y hy).1, rfl⟩
    · rintro (h0 | ⟨x, hx, rfl⟩)
      · simp at h0
      · obtain ⟨y, hy, e⟩ := h.has x hx
        exact List.mem_map.2 ⟨y, hy, e⟩
  rw [← this, List.length_map]

end Go.Proofs.Yteadkghffdiaoab
