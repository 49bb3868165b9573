/- What is handed in reads as its kind says. -/
import Derived.Test.YteadkghffdiaoabKinds
import Derived.Deep.Slices
import Derived.OpenShut
import Derived.ProofKit
import Derived.Carry
set_option linter.unusedVariables false
set_option maxRecDepth 100000
namespace Go.Proofs.Yteadkghffdiaoab
open Go.RowKit Go.Proofs.YteadkghffdiaoabW.PrintWords

/-- What reads at type t is of kind d, and W holds of it. -/
def Rd {α : Type} (P : Program) (t : TypeId) (d : Kd α) (W : α → Prop) : Prop :=
  P.cellsOf t = d.sz ∧ ∀ {H : Type} {enc : TypeId × Value → H} {w : World} {spare : Nat → Bool} {held : Bool} {fuel : Nat} {cs : List Value} {x : DataW H × List MemPlace}, DataW.trod enc P w 0 spare held fuel t cs = some x → ∃ a, d.K w a cs ∧ W a

def In64 (n : Int) : Prop := -9223372036854775808 ≤ n ∧ n ≤ 9223372036854775807
def InU8 (n : Int) : Prop := 0 ≤ n ∧ n ≤ 255

section
variable {P : Program}
theorem rd_i64 {t : TypeId} (ht : P.underlying t = some (.int .i64)) (hs : P.cellsOf t = 1) : Rd P t (Kd.int .i64) In64 := by
  refine ⟨hs, fun h => ?_⟩
  obtain ⟨n, rfl, _, hw⟩ := DataW.trod_int ht h
  exact ⟨n, rfl, bounds_i64 hw⟩
theorem rd_u8 {t : TypeId} (ht : P.underlying t = some (.int .u8)) (hs : P.cellsOf t = 1) : Rd P t (Kd.int .u8) InU8 := by
  refine ⟨hs, fun h => ?_⟩
  obtain ⟨n, rfl, _, hw⟩ := DataW.trod_int ht h
  exact ⟨n, rfl, bounds_u8 hw⟩
theorem rd_bool {t : TypeId} (ht : P.underlying t = some .bool) (hs : P.cellsOf t = 1) : Rd P t Kd.bool (fun _ => True) := by
  refine ⟨hs, fun h => ?_⟩
  obtain ⟨b, rfl, _⟩ := DataW.trod_bool ht h
  exact ⟨b, rfl, trivial⟩
theorem rd_str {t : TypeId} (ht : P.underlying t = some .string) (hs : P.cellsOf t = 1) : Rd P t Kd.string (fun s => s.size ≤ 9223372036854775807) := by
  refine ⟨hs, fun h => ?_⟩
  obtain ⟨s, rfl, _, hl⟩ := DataW.trod_string ht h
  exact ⟨s, rfl, hl⟩

theorem cells?_at {w : World} {a : Addr} {n : Nat} {L : List Value} (h : w.cells? 0 a n = some L) : ∀ j u, L[j]? = some u → w.cell? (a.add j) = some u := by
  unfold World.cells? at h
  rw [if_pos (Nat.zero_le _)] at h
  intro j u hu
  have hl := mapM_some_length h
  have hj : j < n := by
    have := (List.getElem?_eq_some_iff.1 hu).1
    rw [hl] at this; simpa using this
  have := mapM_some_get h j j (by simp [hj])
  rw [this, hu]

theorem rd_slice {α : Type} {d : Kd α} {W : α → Prop} {t e : TypeId} (ht : P.underlying t = some (.slice e)) (hs : P.cellsOf t = 1) (he : Rd P e d W) : Rd P t (Kd.slice e d) (fun xs => ∀ a, a ∈ xs → W a) := by
  refine ⟨hs, fun {H enc w spare held fuel cs x} h => ?_⟩
  rcases Go.Deep.open_slice ht h with ⟨rfl, _⟩ | ⟨a, len, cap, m, n, D, Pl, rfl, _, hl, hm, hmm, _, hx⟩
  · exact ⟨[], ⟨none, 0, rfl, Nat.le_refl _, ⟨rfl, by simp, fun h => absurd h (Nat.lt_irrefl 0)⟩⟩, fun _ h => by cases h⟩
  · have hlm : len ≤ m := by rw [hmm]; split <;> omega
    have key : ∀ i, i < len → ∃ cs' y, w.cells? 0 (a.add (i * P.cellsOf e)) (P.cellsOf e) = some cs' ∧ d.K w y cs' ∧ W y := by
      intro i hi
      obtain ⟨cs', h1, h2⟩ := hx i (by omega)
      obtain ⟨y, h3, h4⟩ := he.2 h2
      exact ⟨cs', y, h1, h3, h4⟩
    have main : ∀ k, k ≤ len → ∃ xs : List α, xs.length = k ∧ (∀ y, y ∈ xs → W y) ∧ ∀ j p, xs[j]? = some p → ∃ c, c.length = d.sz ∧ d.K w p c ∧ ∀ i u, c[i]? = some u → w.cell? (a.add (j * d.sz + i)) = some u := by
      intro k
      induction k with
      | zero => intro _; exact ⟨[], rfl, fun _ h => (by cases h), fun j p h => (by simp at h)⟩
      | succ k ih =>
        intro hk
        obtain ⟨xs, h1, h2, h3⟩ := ih (by omega)
        obtain ⟨cs', y, h4, h5, h6⟩ := key k (by omega)
        refine ⟨xs ++ [y], by simp [h1], fun z hz => ?_, fun j p hj => ?_⟩
        · rcases List.mem_append.1 hz with hz | hz
          · exact h2 z hz
          · rw [List.mem_singleton.1 hz]; exact h6
        · rcases Nat.lt_or_ge j xs.length with hj' | hj'
          · rw [List.getElem?_append_left hj'] at hj
            exact h3 j p hj
          · rw [List.getElem?_append_right hj'] at hj
            obtain rfl : j = k := by
              have := (List.getElem?_eq_some_iff.1 hj).1
              simp at this; omega
            rw [h1, Nat.sub_self] at hj
            obtain rfl : y = p := by simpa using hj
            refine ⟨cs', d.K_len h5, h5, fun i u hu => ?_⟩
            have := cells?_at h4 i u hu
            rw [add_add, he.1] at this
            exact this
    obtain ⟨xs, h1, h2, h3⟩ := main len (Nat.le_refl _)
    refine ⟨xs, ⟨some a, cap, by rw [h1], by omega, ⟨rfl, by rw [h1]; have : maxLen = 9223372036854775807 := rfl; omega, fun _ => ⟨a, rfl, h3⟩⟩⟩, h2⟩

theorem pair_at {α β : Type} {a : Kd α} {b : Kd β} {w : World} {x : α} {y : β} {cs : List Value} (i s : Nat) (hs : a.sz = s) (h0 : a.K w x ((cs.drop i).take s)) (h1 : b.K w y (cs.drop (i + s))) : (Kd.pair a b).K w (x, y) (cs.drop i) :=
  ⟨_, _, (List.take_append_drop s _).symm, h0, by rw [List.drop_drop]; exact h1⟩
theorem last_at {α : Type} {a : Kd α} {w : World} {x : α} {cs : List Value} (i s : Nat) (hl : cs.length = i + s) (h0 : a.K w x ((cs.drop i).take s)) : a.K w x (cs.drop i) := by
  rwa [List.take_of_length_le (by simp; omega)] at h0

/-- A field, read. -/
theorem rd_field {α : Type} {d : Kd α} {W : α → Prop} {H : Type} {enc : TypeId × Value → H} {w : World} {spare : Nat → Bool} {held : Bool} {n off : Nat} {t : TypeId} {cs : List Value} {xs : List (DataW H × List MemPlace)} (i : Nat) (hd : Rd P t d W)
    (h : DataW.trod enc P w 0 spare held n t ((cs.drop off).take (P.cellsOf t)) = xs[i]?) (hi : i < xs.length) : ∃ a, d.K w a ((cs.drop off).take d.sz) ∧ W a := by
  rw [List.getElem?_eq_getElem hi] at h
  rw [← hd.1]
  exact hd.2 h
end

theorem u3 : Try.prog.cellsOf 3 = 1 := by kernel_rfl
theorem rdInt : Rd Try.prog 3 (Kd.int .i64) In64 := rd_i64 Try.underlying3 u3
theorem rdU8 : Rd Try.prog 5 (Kd.int .u8) InU8 := rd_u8 Try.underlying5 (by kernel_rfl)
theorem rdErr : Rd Try.prog 26 (Kd.int .i64) In64 := rd_i64 Try.underlying26 (by kernel_rfl)
theorem rdBool : Rd Try.prog 4 Kd.bool (fun _ => True) := rd_bool Try.underlying4 (by kernel_rfl)
theorem rdStr : Rd Try.prog 9 Kd.string (fun s => s.size ≤ 9223372036854775807) := rd_str Try.underlying9 (by kernel_rfl)
theorem rdInts : Rd Try.prog 23 kL (fun xs => ∀ a, a ∈ xs → In64 a) := rd_slice Try.underlying23 (by kernel_rfl) rdInt

structure WfI (x : Item) : Prop where
  key : x.key.size ≤ 9223372036854775807
  value : In64 x.value
  version : In64 x.version
theorem rdItem : Rd Try.prog 25 kI WfI := by
  refine ⟨by kernel_rfl, fun h => ?_⟩
  obtain ⟨xs, n, _, _, hl, hn, hf⟩ := DataW.trod_struct Try.underlying25 h
  have hl4 : Try.prog.cellsOf 25 = 4 := by kernel_rfl
  rw [hl4] at hl
  have hn4 : xs.length = 4 := hn
  obtain ⟨a0, k0, w0⟩ := rd_field 0 rdStr (hf 0 _ rfl) (by omega)
  obtain ⟨a1, k1, w1⟩ := rd_field 1 rdInt (hf 1 _ rfl) (by omega)
  obtain ⟨a2, k2, w2⟩ := rd_field 2 rdInt (hf 2 _ rfl) (by omega)
  obtain ⟨a3, k3, w3⟩ := rd_field 3 rdBool (hf 3 _ rfl) (by omega)
  exact ⟨⟨a0, a1, a2, a3⟩, pair_at (a := Kd.string) 0 1 rfl k0 (pair_at (a := Kd.int .i64) 1 1 rfl k1 (pair_at (a := Kd.int .i64) 2 1 rfl k2 (last_at (a := Kd.bool) 3 1 (by omega) k3))), w0, w1, w2⟩

structure WfM (m : Msg) : Prop where
  kind : InU8 m.kind
  call : In64 m.call
  frm : In64 m.frm
  dst : In64 m.dst
  key : In64 m.key
  place : In64 m.place
  pred : In64 m.pred
  list : ∀ a, a ∈ m.list → In64 a
  item : WfI m.item
  code : In64 m.code
set_option maxHeartbeats 1000000 in
theorem rdMsg : Rd Try.prog 28 kM WfM := by
  refine ⟨by kernel_rfl, fun h => ?_⟩
  obtain ⟨xs, n, _, _, hl, hn, hf⟩ := DataW.trod_struct Try.underlying28 h
  have hl15 : Try.prog.cellsOf 28 = 15 := by kernel_rfl
  rw [hl15] at hl
  have hn12 : xs.length = 12 := hn
  obtain ⟨a0, k0, w0⟩ := rd_field 0 rdU8 (hf 0 _ rfl) (by omega)
  obtain ⟨a1, k1, w1⟩ := rd_field 1 rdInt (hf 1 _ rfl) (by omega)
  obtain ⟨a2, k2, w2⟩ := rd_field 2 rdInt (hf 2 _ rfl) (by omega)
  obtain ⟨a3, k3, w3⟩ := rd_field 3 rdInt (hf 3 _ rfl) (by omega)
  obtain ⟨a4, k4, w4⟩ := rd_field 4 rdInt (hf 4 _ rfl) (by omega)
  obtain ⟨a5, k5, w5⟩ := rd_field 5 rdBool (hf 5 _ rfl) (by omega)
  obtain ⟨a6, k6, w6⟩ := rd_field 6 rdBool (hf 6 _ rfl) (by omega)
  obtain ⟨a7, k7, w7⟩ := rd_field 7 rdInt (hf 7 _ rfl) (by omega)
  obtain ⟨a8, k8, w8⟩ := rd_field 8 rdInt (hf 8 _ rfl) (by omega)
  obtain ⟨a9, k9, w9⟩ := rd_field 9 rdInts (hf 9 _ rfl) (by omega)
  obtain ⟨a10, k10, w10⟩ := rd_field 10 rdItem (hf 10 _ rfl) (by omega)
  obtain ⟨a11, k11, w11⟩ := rd_field 11 rdErr (hf 11 _ rfl) (by omega)
  exact ⟨⟨a0, a1, a2, a3, a4, a5, a6, a7, a8, a9, a10, a11⟩,
    pair_at (a := Kd.int .u8) 0 1 rfl k0 (pair_at (a := Kd.int .i64) 1 1 rfl k1 (pair_at (a := Kd.int .i64) 2 1 rfl k2 (pair_at (a := Kd.int .i64) 3 1 rfl k3 (pair_at (a := Kd.int .i64) 4 1 rfl k4 (pair_at (a := Kd.bool) 5 1 rfl k5 (pair_at (a := Kd.bool) 6 1 rfl k6
      (pair_at (a := Kd.int .i64) 7 1 rfl k7 (pair_at (a := Kd.int .i64) 8 1 rfl k8 (pair_at (a := kL) 9 1 rfl k9 (pair_at (a := kI) 10 4 rfl k10 (last_at (a := Kd.int .i64) 14 1 (by omega) k11))))))))))),
    w0, w1, w2, w3, w4, w7, w8, w9, w10, w11⟩

/-! ### Parameters -/
section
variable {H : Type} {enc : TypeId × Value → H} {W : World} {v : Value} {d : DataW H} {p : List MemPlace} {base : Nat} {spare : Nat → Bool} {held : Bool} {r : Reach}
theorem open_msg (hv : Value.okWide Try.prog W r base 28 v) (h : DataW.Trod enc Try.prog W 0 spare held 28 v d p) : ∃ m A c, v = .agg (mc m A c) ∧ RL W A c m.list ∧ WfM m := by
  obtain ⟨cs, rfl, hs⟩ := WideShapes.okWide_struct Try.underlying28 hv
  obtain ⟨fuel, hf⟩ := h
  obtain ⟨m, hK, hw⟩ := rdMsg.2 hf
  obtain ⟨A, c, he, hl⟩ := kM_open hK
  have : cs = mc m A c := by cases cs; simpa [Value.cells] using he
  subst this
  exact ⟨m, A, c, rfl, hl, hw⟩
theorem open_item (hv : Value.okWide Try.prog W r base 25 v) (h : DataW.Trod enc Try.prog W 0 spare held 25 v d p) : ∃ x, v = .agg (ic x) ∧ WfI x := by
  obtain ⟨cs, rfl, hs⟩ := WideShapes.okWide_struct Try.underlying25 hv
  obtain ⟨fuel, hf⟩ := h
  obtain ⟨x, hK, hw⟩ := rdItem.2 hf
  have he := kI_open hK
  have : cs = ic x := by cases cs; simpa [Value.cells] using he
  subst this
  exact ⟨x, rfl, hw⟩
theorem open_intsL (hv : Value.okWide Try.prog W r base 23 v) (h : DataW.Trod enc Try.prog W 0 spare held 23 v d p) : ∃ l A c, v = .slice A l.length c ∧ RL W A c l ∧ ∀ a, a ∈ l → In64 a := by
  obtain ⟨A, n, c, rfl⟩ := WideShapes.okWide_slice Try.underlying23 hv
  obtain ⟨fuel, hf⟩ := h
  obtain ⟨l, ⟨A', c', he, hle, hc⟩, hw⟩ := rdInts.2 hf
  have he' : Value.slice A n c = .slice A' l.length c' := by simpa [Value.cells] using he
  injection he' with e1 e2 e3
  subst e1 e2 e3
  exact ⟨l, _, _, rfl, ⟨hc, hle⟩, hw⟩
end
theorem laidOutA : laidOutB Try.prog = true := by kernel_rfl
theorem places_lt {H : Type} {enc : TypeId × Value → H} {W : World} {t : TypeId} {v : Value} {d : DataW H} {p : List MemPlace} {held : Bool} {spare : Nat → Bool} (h : DataW.Trod enc Try.prog W 0 spare held t v d p) : ∀ x ∈ p, x.block < W.heap.size := by
  obtain ⟨m, hm⟩ := h
  exact DataW.trod_lt m _ _ _ hm

end Go.Proofs.Yteadkghffdiaoab
