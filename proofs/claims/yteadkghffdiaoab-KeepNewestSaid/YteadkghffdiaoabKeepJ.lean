/- slices.Insert of one pair into a row of one's own. -/
import Derived.Test.YteadkghffdiaoabKeepI
import Derived.Lib.AppendZerosOnto
set_option linter.unusedVariables false
set_option linter.unusedSimpArgs false
set_option maxRecDepth 100000
namespace Go.Proofs.Yteadkghffdiaoab
open Go.RowKit Go.Proofs.YteadkghffdiaoabW.PrintWords

/-- copy, elements of so many cells. -/
theorem run_copy_size {P : Program} (w : World) (dT sT ty elem : TypeId) (b o dLen dCap : Nat) (a : Addr) (sLen sCap size : Nat) (cs : List Value)
    (hu : P.underlying dT = some (.slice elem)) (hs : (P.info? elem).map (·.size) = some size) (hn : cs.length = Nat.min sLen dLen * size)
    (hsrc : ∀ j v, cs[j]? = some v → w.cell? (a.add j) = some v) (hc : ∀ j, j < cs.length → (w.cell? ⟨b, o + j, none⟩).isSome = true) (hf : ∀ j, j < cs.length → w.frozen? ⟨b, o + j, none⟩ = false) (h1 : ∀ v ∈ cs, v.oneCell' = true) :
    (Builtin.copy_ #[dT, sT] ty #[.slice (some ⟨b, o, none⟩) dLen dCap, .slice (some a) sLen sCap]).run P w = .ok (goInt (Nat.min sLen dLen)) (w.setCells b o cs) := by
  have hl := run_loadCells_list (P := P) (w := w) a cs hsrc
  have hst := run_storeCells_cells (P := P) b o cs 0 w (by simpa using hc) (by simpa using hf) h1
  cases hq : P.info? elem with
  | none => simp [hq] at hs
  | some i =>
    have hi : i.size = size := by simpa [hq] using hs
    simp only [Nat.add_zero] at hst
    simp [Builtin.copy_, run_underlying hu, Builtin.lenOf, Builtin.firstCells, sizeOf, typeInfo, hq, hi, ← hn, hl, hst]

set_option maxHeartbeats 1000000 in
theorem insertEnd_c (l : List Item) (x : Item) (v : Value) (base b : Nat) (w : World) (hO : OwnI w base v l) (hx : w.heap[b]? = some (.cells (ic x) 25 (0, 0))) (hbne : v.ownBlock ≠ some b) (hbase : base ≤ w.heap.size) (hl : l.length ≤ 1000) :
    Calls Try.prog 72 #[v, .int .i64 l.length, .slice (some ⟨b, 0, none⟩) 1 1] w fun e w' => ∃ v', e = .returned v' ∧ OwnI w' base v' (l ++ [x]) ∧ Below base w w' := by
  have hu := Try.underlying25
  obtain ⟨A, c, rfl, hR⟩ := hO.reads
  have hle := hR.le
  have HO := Lib.hid hO
  have hxr : ReadsRow (fun (y : Item) (cs : List Value) => cs = (ic y).toList) 4 w (some ⟨b, 0, none⟩) 1 [x] := by
    refine ⟨rfl, by omega, fun _ => ⟨_, rfl, fun j p hj => ?_⟩⟩
    have hj0 : j = 0 := by
      have := (List.getElem?_eq_some_iff.1 hj).1
      simpa using this
    subst hj0
    obtain rfl : x = p := by simpa using hj
    refine ⟨(ic x).toList, rfl, rfl, fun i u hu => ?_⟩
    have : (⟨b, 0, none⟩ : Addr).add (0 * 4 + i) = ⟨b, i, none⟩ := by unfold Addr.add; split <;> simp_all
    rw [this, blk_cell hx]
    simpa using hu
  have HX := Lib.hid hxr
  clear hO hR hxr
  go_enter Try.func72, Try.ntmps72
  go_upto_region 7 with fail
  go_wp2_with (at_builtin; go_must (refine Kd.R_append_rows kI (Rr := fun (y : Item) (cs : List Value) => cs = (ic y).toList) (w0 := w) base rfl (.tmp 23) (.tmp 24) 48 25 (.agg #[.string ⟨#[]⟩, .int .i64 0, .int .i64 0, .bool false]) 40 rfl Try.underlying48 itemInfo rfl (of_decide_eq_true rfl) (of_decide_eq_true rfl) (.slice A l.length c) l [x] (some ⟨b, 0, none⟩) 1 1 (fun _ => True) (fun k => some k ≠ (Value.slice A l.length c).ownBlock) rfl rfl HO.out HX.out (fun y cs hK => by subst hK; exact kI_mkM _ _ _ y) (fun k hk => ⟨trivial, hk⟩) (fun _ _ => trivial) (Below.refl _ _) hbase (by omega) ?_); intro v2 w2 hv2 hb2 hg2 hat2)
  all_goals
    go_ret
    exact ⟨_, rfl, hv2, hb2⟩

/-! ### In the midst, where there is no room: a new row -/
theorem flat_one (l : List Item) : ∀ q, q ∈ flatI l → q.oneCell' = true := by
  intro q hq
  unfold flatI at hq
  obtain ⟨cs, hcs, hq⟩ := List.mem_flatten.1 hq
  obtain ⟨x, _, rfl⟩ := List.mem_map.1 hcs
  simp at hq
  rcases hq with rfl | rfl | rfl | rfl <;> rfl
theorem flat_take (l : List Item) (i : Nat) (hi : i ≤ l.length) : (flatI l).take (i * 4) = flatI (l.take i) := by
  have h := flatI_append (l.take i) (l.drop i)
  rw [List.take_append_drop] at h
  have hl : (flatI (l.take i)).length = i * 4 := by rw [flatI_len, List.length_take, Nat.min_eq_left hi]
  rw [h, ← hl, List.take_left']
  rfl
theorem flat_drop (l : List Item) (i : Nat) (hi : i ≤ l.length) : (flatI l).drop (i * 4) = flatI (l.drop i) := by
  have h := flatI_append (l.take i) (l.drop i)
  rw [List.take_append_drop] at h
  have hl : (flatI (l.take i)).length = i * 4 := by rw [flatI_len, List.length_take, Nat.min_eq_left hi]
  rw [h, ← hl, List.drop_left']
  rfl

end Go.Proofs.Yteadkghffdiaoab
