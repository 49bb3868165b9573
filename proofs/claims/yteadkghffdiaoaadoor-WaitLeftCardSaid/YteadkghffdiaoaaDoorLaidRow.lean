/- What the row's condition on the listed variable gives the walks; a start that meets it. -/
import Derived.Test.YteadkghffdiaoaaDoorRows
import Derived.Test.YteadkghffdiaoaaDoorWaits
import Derived.ProofKit
import Derived.LaidMore
import Derived.OpenShut
import Derived.Stop.Joined
import Derived.SizedLaws
import Derived.ChangeOld
namespace Go.Proofs.YteadkghffdiaoaaDoor
open Go.ChangeShapes Go.WideShapes Go.ChangeAt Go.RowKit

theorem own_ : ownKnob Tryd.prog.godebug = none := by kernel_rfl
theorem laidOut_ : laidOutB Tryd.prog = true := by kernel_rfl
theorem gWaits : Tryd.prog.globalNamed "garland/wait.waits" = some 0 := by kernel_rfl
theorem tWaits : (Tryd.prog.globals[0]?).map (·.type) = some 64 := by kernel_rfl
def laidL {H : Type} : List (String × DataW H) := [("garland/wait.waits", Rows.laid_garland_wait_waits)]

theorem door_met (os : Os) (args : Array Value) : laidMetH Tryd.prog laidL ((World.doorLaid Tryd.prog 400 os).forCall (fun _ _ => 0) ⟨#[], args, []⟩).memory :=
  laidMetH_of_parts3 (fuel := 8) (laidMet_of_run' 8 (by kernel_rfl) (by kernel_rfl)) (by kernel_rfl) (by kernel_rfl)

theorem of_laid {W : World} (h : laidMetH Tryd.prog laidL W) : Laid W := by
  rw [MakeChecks.laidMetH_plain _ _ _ (by kernel_rfl)] at h
  obtain ⟨ps, ⟨g0, t0, cs0, f0, p0, q0, hg0, ht0, hv0, hd0, _, _⟩, _, _⟩ := h
  obtain rfl := Option.some.inj (gWaits.symm.trans hg0)
  obtain rfl := Option.some.inj (tWaits.symm.trans ht0)
  obtain ⟨xs, m1, rfl, hx1, hlen, hn3, hel⟩ := DataW.trod_array Tryd.underlying64 hd0
  have c3 : Tryd.prog.cellsOf 3 = 1 := by kernel_rfl
  obtain ⟨x0, x1, x2, x3, rfl⟩ : ∃ x0 x1 x2 x3, xs = [x0, x1, x2, x3] := by
    match xs, hn3 with
    | [x0, x1, x2, x3], _ => exact ⟨x0, x1, x2, x3, rfl⟩
  simp only [Prod.mk.injEq, DataW.agg.injEq, Rows.laid_garland_wait_waits, List.map_cons, List.map_nil, List.cons.injEq] at hx1
  obtain ⟨⟨a0, a1, a2, a3, _⟩, _⟩ := hx1
  have key : ∀ (j : Nat) (v : Int), j < 4 → ([x0, x1, x2, x3][j]?).map (·.1) = some (.lit (.int .i64 v)) → W.cell? ⟨0, j, none⟩ = some (.int .i64 v) := by
    intro j v hj hjv
    obtain ⟨y, hy, hyv⟩ := Option.map_eq_some_iff.1 hjv
    have h0 := hel j hj
    rw [hy, c3] at h0
    obtain ⟨k, e1, e2, _⟩ := DataW.trod_int Tryd.underlying3 (show DataW.trod _ Tryd.prog W 0 _ false m1 3 _ = some y from h0)
    rw [e2] at hyv
    have hk : k = v := by simpa using hyv
    subst hk
    have hcell := World.var?_cell hg0 hv0 j
    have hl : (cs0.toList.drop j).take 1 = [.int .i64 k] := by simpa using e1
    have : cs0.toList[j]? = some (.int .i64 k) := by
      have h1 : ((cs0.toList.drop j).take 1)[0]? = some (.int .i64 k) := by rw [hl]; rfl
      simpa [List.getElem?_take, List.getElem?_drop] using h1
    rw [hcell]
    simpa using this
  exact ⟨key 0 0 (by omega) (congrArg some a0.symm), key 1 1 (by omega) (congrArg some a1.symm), key 2 2 (by omega) (congrArg some a2.symm), key 3 4 (by omega) (congrArg some a3.symm)⟩

end Go.Proofs.YteadkghffdiaoaaDoor
