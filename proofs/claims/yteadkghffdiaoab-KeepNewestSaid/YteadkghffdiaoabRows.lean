/-
  No cell of these rows narrows 'for every input' (looked for: loops, veiled, ifaces, maps, wideKeys, modest, calm, conditions, laid).
  DERIVED. THE GIVEN ROWS OF THIS SEAT. 5 by the template 'for every input the law returns true; each argument reads behind the call as it read before'; 0 by the template 'total and deterministic' (their statements: YteadkghffdiaoabTotals.lean).
  GIVEN WITH THE SEED: the statements are not yours to turn. If you find one false, say at which input.
  Laid BY PROGRAM, IN A SANDBOX (cutbox-rows.mjs): the forced cells as the released guide's own fill.sh prints them over the translation 97cb0b009a7944e8… (all of the seat's roots in one cut). By AI agents, Wed Nov 11 2026. No macro, syntax, notation, axiom, sorry.
-/
import Derived.Test.YteadkghffdiaoabChecked
import GoSem.Claim
import GoSem.ClaimJoined
import GoSem.ClaimMapViews
import Derived.JoinedTies
import Derived.KernelRfl
namespace Go.Proofs.Yteadkghffdiaoab
/- THE CELL 'sum', in the pinned program and in every row, IS THE sha256 OF THE DUMP (.gsa) THAT YteadkghffdiaoabProg.lean LOADS. Nothing in Lean hashes anything: it is a label: what it is worth is what the hold of that sum in a sandbox is worth. -/
noncomputable def Try.pinned : Pinned := { name := "yteadkghffdiaoab", sum := "97cb0b009a7944e8c126d9aeb6bae9c7895ee26323dcbea888ba55d1fc62de7e", checked := Try.checked }
namespace Rows
def none {H : Type} : Left H := { results := [], args := [] }

/-- 'garlandlaw11.SeenOnce': WHATEVER THE INPUT: true; the input reads as it did. -/
def seenOnceSpec : ChangeSpec := { name := "seenOnce", fn := fun _ => fun
  | [d1, d2, d3] => { results := [.lit (.bool true)], args := [d1, d2, d3] }
  | _ => none }
def seenOnceRow : OpenClaim := { program := "yteadkghffdiaoab", sum := "97cb0b009a7944e8c126d9aeb6bae9c7895ee26323dcbea888ba55d1fc62de7e", func := "garland/garlandlaw11.SeenOnce", spec := "seenOnce", unfollowed := true, recurses := true, apart := false }
def SeenOnceSaid : Prop := seenOnceRow.holds Try.pinned (OpenSpec.ofChange seenOnceSpec)

/-- ITS FALSE NEIGHBOUR: 'it returns false'. Refute it at one input. -/
def seenOnceWrong : ChangeSpec := { name := "seenOnce", fn := fun _ => fun
  | [d1, d2, d3] => { results := [.lit (.bool false)], args := [d1, d2, d3] }
  | _ => none }
def SeenOnceWrongFalsely : Prop := seenOnceRow.holds Try.pinned (OpenSpec.ofChange seenOnceWrong)

/-- 'garlandlaw11.SeenAge': WHATEVER THE INPUT: true; the input reads as it did. -/
def seenAgeSpec : ChangeSpec := { name := "seenAge", fn := fun _ => fun
  | [d1, d2] => { results := [.lit (.bool true)], args := [d1, d2] }
  | _ => none }
def seenAgeRow : OpenClaim := { program := "yteadkghffdiaoab", sum := "97cb0b009a7944e8c126d9aeb6bae9c7895ee26323dcbea888ba55d1fc62de7e", func := "garland/garlandlaw11.SeenAge", spec := "seenAge", unfollowed := true, recurses := true, apart := false }
def SeenAgeSaid : Prop := seenAgeRow.holds Try.pinned (OpenSpec.ofChange seenAgeSpec)

/-- ITS FALSE NEIGHBOUR: 'it returns false'. Refute it at one input. -/
def seenAgeWrong : ChangeSpec := { name := "seenAge", fn := fun _ => fun
  | [d1, d2] => { results := [.lit (.bool false)], args := [d1, d2] }
  | _ => none }
def SeenAgeWrongFalsely : Prop := seenAgeRow.holds Try.pinned (OpenSpec.ofChange seenAgeWrong)

/-- 'garlandlaw20.KeepNewest': WHATEVER THE INPUT: true; the input reads as it did. -/
def keepNewestSpec : ChangeSpec := { name := "keepNewest", fn := fun _ => fun
  | [d] => { results := [.lit (.bool true)], args := [d] }
  | _ => none }
def keepNewestRow : OpenClaim := { program := "yteadkghffdiaoab", sum := "97cb0b009a7944e8c126d9aeb6bae9c7895ee26323dcbea888ba55d1fc62de7e", func := "garland/garlandlaw20.KeepNewest", spec := "keepNewest", inPlace := ["internal/bytealg.abigen_runtime_cmpstring", "slices.overlaps[garland/api.Item]"], unfollowed := true, recurses := true, apart := false }
def KeepNewestSaid : Prop := keepNewestRow.holds Try.pinned (OpenSpec.ofChange keepNewestSpec)

/-- ITS FALSE NEIGHBOUR: 'it returns false'. Refute it at one input. -/
def keepNewestWrong : ChangeSpec := { name := "keepNewest", fn := fun _ => fun
  | [d] => { results := [.lit (.bool false)], args := [d] }
  | _ => none }
def KeepNewestWrongFalsely : Prop := keepNewestRow.holds Try.pinned (OpenSpec.ofChange keepNewestWrong)

/-- 'garlandlaw20.KeepRound': WHATEVER THE INPUT: true; the input reads as it did. -/
def keepRoundSpec : ChangeSpec := { name := "keepRound", fn := fun _ => fun
  | [d1, d2] => { results := [.lit (.bool true)], args := [d1, d2] }
  | _ => none }
def keepRoundRow : OpenClaim := { program := "yteadkghffdiaoab", sum := "97cb0b009a7944e8c126d9aeb6bae9c7895ee26323dcbea888ba55d1fc62de7e", func := "garland/garlandlaw20.KeepRound", spec := "keepRound", inPlace := ["internal/bytealg.abigen_runtime_cmpstring", "slices.overlaps[garland/api.Item]"], unfollowed := true, recurses := true, apart := false }
def KeepRoundSaid : Prop := keepRoundRow.holds Try.pinned (OpenSpec.ofChange keepRoundSpec)

/-- ITS FALSE NEIGHBOUR: 'it returns false'. Refute it at one input. -/
def keepRoundWrong : ChangeSpec := { name := "keepRound", fn := fun _ => fun
  | [d1, d2] => { results := [.lit (.bool false)], args := [d1, d2] }
  | _ => none }
def KeepRoundWrongFalsely : Prop := keepRoundRow.holds Try.pinned (OpenSpec.ofChange keepRoundWrong)

/-- 'garlandlaw20.KeepAll': WHATEVER THE INPUT: true; the input reads as it did. -/
def keepAllSpec : ChangeSpec := { name := "keepAll", fn := fun _ => fun
  | [d1, d2, d3] => { results := [.lit (.bool true)], args := [d1, d2, d3] }
  | _ => none }
def keepAllRow : OpenClaim := { program := "yteadkghffdiaoab", sum := "97cb0b009a7944e8c126d9aeb6bae9c7895ee26323dcbea888ba55d1fc62de7e", func := "garland/garlandlaw20.KeepAll", spec := "keepAll", inPlace := ["internal/bytealg.abigen_runtime_cmpstring", "slices.overlaps[garland/api.Item]"], unfollowed := true, recurses := true, apart := false }
def KeepAllSaid : Prop := keepAllRow.holds Try.pinned (OpenSpec.ofChange keepAllSpec)

/-- ITS FALSE NEIGHBOUR: 'it returns false'. Refute it at one input. -/
def keepAllWrong : ChangeSpec := { name := "keepAll", fn := fun _ => fun
  | [d1, d2, d3] => { results := [.lit (.bool false)], args := [d1, d2, d3] }
  | _ => none }
def KeepAllWrongFalsely : Prop := keepAllRow.holds Try.pinned (OpenSpec.ofChange keepAllWrong)

/- THE SECOND FORM. 'bulk': how many values and letters a reading holds, each counted each time it is reached (what is shared counts as often as it is met; a slice's spare places count too). A statement '..UptoSaid' is the law's where the arguments, and the package variables that the reading takes, are together of bulk at most 1048576: NARROWER than '..Said'. Prove '..Said' where nothing that the law and all that it calls make is longer than what came in: it says more and counts as full. Else prove '..UptoSaid'. A law counts once. -/
mutual
def uptoBulk {H : Type} : DataW H → Nat
  | .lit (.string bytes) => bytes.length + 1
  | .lit _ => 1
  | .nil => 1
  | .ptr d => uptoBulk d + 1
  | .slice elems spare => uptoBulkAll elems + uptoBulkAll spare + 1
  | .agg parts => uptoBulkAll parts + 1
  | .iface _ d => uptoBulk d + 1
  | .map entries => uptoBulkEntries entries + 1
  | .held _ => 1
def uptoBulkAll {H : Type} : List (DataW H) → Nat
  | [] => 0
  | d :: r => uptoBulk d + uptoBulkAll r
def uptoBulkEntries {H : Type} : List (Lit × DataW H) → Nat
  | [] => 0
  | x :: r => uptoBulkEntry x + uptoBulkEntries r
def uptoBulkEntry {H : Type} : Lit × DataW H → Nat
  | (.string bytes, d) => bytes.length + uptoBulk d + 1
  | (_, d) => uptoBulk d + 1
 end
def uptoSmall : (H : Type) → List (DataW H) → Bool := fun _ ds => decide (uptoBulkAll ds ≤ 1048576)
def OpenSpec.upto (s : _root_.Go.ChangeSpec) : _root_.Go.OpenSpec := { _root_.Go.OpenSpec.ofChange s with cond := some uptoSmall }

/-- 'garlandlaw11.SeenOnce', WHERE WHAT IT READS IS OF BULK AT MOST 1048576: true; the input reads as it did. -/
def seenOnceUptoRow : OpenClaim := { program := "yteadkghffdiaoab", sum := "97cb0b009a7944e8c126d9aeb6bae9c7895ee26323dcbea888ba55d1fc62de7e", func := "garland/garlandlaw11.SeenOnce", spec := "seenOnce", unfollowed := true, recurses := true, apart := false, narrowed := true }
def SeenOnceUptoSaid : Prop := seenOnceUptoRow.holds Try.pinned (OpenSpec.upto seenOnceSpec)

/-- 'garlandlaw11.SeenAge', WHERE WHAT IT READS IS OF BULK AT MOST 1048576: true; the input reads as it did. -/
def seenAgeUptoRow : OpenClaim := { program := "yteadkghffdiaoab", sum := "97cb0b009a7944e8c126d9aeb6bae9c7895ee26323dcbea888ba55d1fc62de7e", func := "garland/garlandlaw11.SeenAge", spec := "seenAge", unfollowed := true, recurses := true, apart := false, narrowed := true }
def SeenAgeUptoSaid : Prop := seenAgeUptoRow.holds Try.pinned (OpenSpec.upto seenAgeSpec)

/-- 'garlandlaw20.KeepNewest', WHERE WHAT IT READS IS OF BULK AT MOST 1048576: true; the input reads as it did. -/
def keepNewestUptoRow : OpenClaim := { program := "yteadkghffdiaoab", sum := "97cb0b009a7944e8c126d9aeb6bae9c7895ee26323dcbea888ba55d1fc62de7e", func := "garland/garlandlaw20.KeepNewest", spec := "keepNewest", inPlace := ["internal/bytealg.abigen_runtime_cmpstring", "slices.overlaps[garland/api.Item]"], unfollowed := true, recurses := true, apart := false, narrowed := true }
def KeepNewestUptoSaid : Prop := keepNewestUptoRow.holds Try.pinned (OpenSpec.upto keepNewestSpec)

/-- 'garlandlaw20.KeepRound', WHERE WHAT IT READS IS OF BULK AT MOST 1048576: true; the input reads as it did. -/
def keepRoundUptoRow : OpenClaim := { program := "yteadkghffdiaoab", sum := "97cb0b009a7944e8c126d9aeb6bae9c7895ee26323dcbea888ba55d1fc62de7e", func := "garland/garlandlaw20.KeepRound", spec := "keepRound", inPlace := ["internal/bytealg.abigen_runtime_cmpstring", "slices.overlaps[garland/api.Item]"], unfollowed := true, recurses := true, apart := false, narrowed := true }
def KeepRoundUptoSaid : Prop := keepRoundUptoRow.holds Try.pinned (OpenSpec.upto keepRoundSpec)

/-- 'garlandlaw20.KeepAll', WHERE WHAT IT READS IS OF BULK AT MOST 1048576: true; the input reads as it did. -/
def keepAllUptoRow : OpenClaim := { program := "yteadkghffdiaoab", sum := "97cb0b009a7944e8c126d9aeb6bae9c7895ee26323dcbea888ba55d1fc62de7e", func := "garland/garlandlaw20.KeepAll", spec := "keepAll", inPlace := ["internal/bytealg.abigen_runtime_cmpstring", "slices.overlaps[garland/api.Item]"], unfollowed := true, recurses := true, apart := false, narrowed := true }
def KeepAllUptoSaid : Prop := keepAllUptoRow.holds Try.pinned (OpenSpec.upto keepAllSpec)

end Rows
end Go.Proofs.Yteadkghffdiaoab
