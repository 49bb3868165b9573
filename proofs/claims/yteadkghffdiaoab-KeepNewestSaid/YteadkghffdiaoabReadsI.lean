/- A row of pairs, handed in. -/
import Derived.Test.YteadkghffdiaoabReads
set_option linter.unusedVariables false
set_option maxRecDepth 100000
namespace Go.Proofs.Yteadkghffdiaoab
open Go.RowKit Go.Proofs.YteadkghffdiaoabW.PrintWords

theorem rdItems : Rd Try.prog 48 (Kd.slice 25 kI) (fun xs => ∀ a, a ∈ xs → WfI a) := rd_slice Try.underlying48 (by kernel_rfl) rdItem
section
variable {H : Type} {enc : TypeId × Value → H} {W : World} {v : Value} {d : DataW H} {p : List MemPlace} {base : Nat} {spare : Nat → Bool} {held : Bool} {r : Reach}
theorem open_items (hv : Value.okWide Try.prog W r base 48 v) (h : DataW.Trod enc Try.prog W 0 spare held 48 v d p) : ∃ l A c, v = .slice A l.length c ∧ RI W A c l ∧ ∀ a, a ∈ l → WfI a := by
  obtain ⟨A, n, c, rfl⟩ := WideShapes.okWide_slice Try.underlying48 hv
  obtain ⟨fuel, hf⟩ := h
  obtain ⟨l, ⟨A', c', he, hle, hc⟩, hw⟩ := rdItems.2 hf
  have he' : Value.slice A n c = .slice A' l.length c' := by simpa [Value.cells] using he
  injection he' with e1 e2 e3
  subst e1 e2 e3
  exact ⟨l, _, _, rfl, ⟨hc, hle⟩, hw⟩
end
end Go.Proofs.Yteadkghffdiaoab
