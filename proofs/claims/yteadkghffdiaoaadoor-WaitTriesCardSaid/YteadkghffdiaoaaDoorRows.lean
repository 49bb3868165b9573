/-
  NARROWER THAN 'FOR EVERY INPUT', by the rows' own cells (each row's printed sentence says how): WaitLeft: laid · WaitTries: laid · CallsLate: laid · CallsDrop: laid · CallsOnce: laid · CallsClose: laid.
  DERIVED. THE GIVEN ROWS OF THIS SEAT. 6 by the template 'for every input the law returns true; each argument reads behind the call as it read before'; 0 by the template 'total and deterministic' (their statements: YteadkghffdiaoaaDoorTotals.lean).
  GIVEN WITH THE SEED: the statements are not yours to turn. If you find one false, say at which input.
  Laid BY PROGRAM, IN A SANDBOX (cutbox-rows.mjs): the forced cells as the released guide's own fill.sh prints them over the translation 7130ccd91b043697… (all of the seat's roots in one cut). By AI agents, Wed Nov 11 2026. No macro, syntax, notation, axiom, sorry.
-/
import Derived.Test.YteadkghffdiaoaaDoorChecked
import GoSem.Claim
import GoSem.ClaimJoined
import GoSem.ClaimMapViews
import Derived.JoinedTies
import Derived.KernelRfl
namespace Go.Proofs.YteadkghffdiaoaaDoor
/- THE CELL 'sum', in the pinned program and in every row, IS THE sha256 OF THE DUMP (.gsa) THAT YteadkghffdiaoaaDoorProg.lean LOADS. Nothing in Lean hashes anything: it is a label: what it is worth is what the hold of that sum in a sandbox is worth. -/
noncomputable def Tryd.pinned : Pinned := { name := "yteadkghffdiaoaadoor", sum := "7130ccd91b0436978eb1cf95ab20c42a2cf6045c71f4f8c582d75170c139ae86", checked := Tryd.checked }
namespace Rows
def none {H : Type} : Left H := { results := [], args := [] }

/- WHAT THE LISTED PACKAGE-LEVEL VARIABLES READ AS WHEN THE CALL BEGINS. Each datum BY PROGRAM (the guide's laid-datum.mjs) off the statement by which the dump's own 'gosem.cut.vars' lays the variable. In a bare row this is a premise. The card (YteadkghffdiaoaaDoorCards.lean) ties it to the program's text. -/
def laid_garland_wait_waits {H : Type} : DataW H := .agg [.lit (.int .i64 0), .lit (.int .i64 1), .lit (.int .i64 2), .lit (.int .i64 4)]

/-- 'garlandlaw09.WaitLeft': WHATEVER THE INPUT: true; the input reads as it did. -/
def waitLeftSpec : ChangeSpec := { name := "waitLeft", fn := fun _ => fun
  | [d1, d2, d3] => { results := [.lit (.bool true)], args := [d1, d2, d3] }
  | _ => none }
def waitLeftRow : OpenClaim := { program := "yteadkghffdiaoaadoor", sum := "7130ccd91b0436978eb1cf95ab20c42a2cf6045c71f4f8c582d75170c139ae86", func := "garland/garlandlaw09.WaitLeft", spec := "waitLeft", unfollowed := true, recurses := true, named := ["garland/wait.waits"], apart := false, laid := [("garland/wait.waits", laid_garland_wait_waits)] }
def WaitLeftSaid : Prop := waitLeftRow.holds Tryd.pinned (OpenSpec.ofChange waitLeftSpec)

/-- ITS FALSE NEIGHBOUR: 'it returns false'. Refute it at one input. -/
def waitLeftWrong : ChangeSpec := { name := "waitLeft", fn := fun _ => fun
  | [d1, d2, d3] => { results := [.lit (.bool false)], args := [d1, d2, d3] }
  | _ => none }
def WaitLeftWrongFalsely : Prop := waitLeftRow.holds Tryd.pinned (OpenSpec.ofChange waitLeftWrong)

/-- 'garlandlaw09.WaitTries': WHATEVER THE INPUT: true; the input reads as it did. -/
def waitTriesSpec : ChangeSpec := { name := "waitTries", fn := fun _ => fun
  | [d1, d2, d3] => { results := [.lit (.bool true)], args := [d1, d2, d3] }
  | _ => none }
def waitTriesRow : OpenClaim := { program := "yteadkghffdiaoaadoor", sum := "7130ccd91b0436978eb1cf95ab20c42a2cf6045c71f4f8c582d75170c139ae86", func := "garland/garlandlaw09.WaitTries", spec := "waitTries", unfollowed := true, recurses := true, named := ["garland/wait.waits"], apart := false, laid := [("garland/wait.waits", laid_garland_wait_waits)] }
def WaitTriesSaid : Prop := waitTriesRow.holds Tryd.pinned (OpenSpec.ofChange waitTriesSpec)

/-- ITS FALSE NEIGHBOUR: 'it returns false'. Refute it at one input. -/
def waitTriesWrong : ChangeSpec := { name := "waitTries", fn := fun _ => fun
  | [d1, d2, d3] => { results := [.lit (.bool false)], args := [d1, d2, d3] }
  | _ => none }
def WaitTriesWrongFalsely : Prop := waitTriesRow.holds Tryd.pinned (OpenSpec.ofChange waitTriesWrong)

/-- 'garlandlaw10.CallsLate': WHATEVER THE INPUT: true; the input reads as it did. -/
def callsLateSpec : ChangeSpec := { name := "callsLate", fn := fun _ => fun
  | [d1, d2] => { results := [.lit (.bool true)], args := [d1, d2] }
  | _ => none }
def callsLateRow : OpenClaim := { program := "yteadkghffdiaoaadoor", sum := "7130ccd91b0436978eb1cf95ab20c42a2cf6045c71f4f8c582d75170c139ae86", func := "garland/garlandlaw10.CallsLate", spec := "callsLate", unfollowed := true, recurses := true, named := ["garland/wait.waits"], apart := false, laid := [("garland/wait.waits", laid_garland_wait_waits)] }
def CallsLateSaid : Prop := callsLateRow.holds Tryd.pinned (OpenSpec.ofChange callsLateSpec)

/-- ITS FALSE NEIGHBOUR: 'it returns false'. Refute it at one input. -/
def callsLateWrong : ChangeSpec := { name := "callsLate", fn := fun _ => fun
  | [d1, d2] => { results := [.lit (.bool false)], args := [d1, d2] }
  | _ => none }
def CallsLateWrongFalsely : Prop := callsLateRow.holds Tryd.pinned (OpenSpec.ofChange callsLateWrong)

/-- 'garlandlaw10.CallsDrop': WHATEVER THE INPUT: true; the input reads as it did. -/
def callsDropSpec : ChangeSpec := { name := "callsDrop", fn := fun _ => fun
  | [d1, d2] => { results := [.lit (.bool true)], args := [d1, d2] }
  | _ => none }
def callsDropRow : OpenClaim := { program := "yteadkghffdiaoaadoor", sum := "7130ccd91b0436978eb1cf95ab20c42a2cf6045c71f4f8c582d75170c139ae86", func := "garland/garlandlaw10.CallsDrop", spec := "callsDrop", unfollowed := true, recurses := true, named := ["garland/wait.waits"], apart := false, laid := [("garland/wait.waits", laid_garland_wait_waits)] }
def CallsDropSaid : Prop := callsDropRow.holds Tryd.pinned (OpenSpec.ofChange callsDropSpec)

/-- ITS FALSE NEIGHBOUR: 'it returns false'. Refute it at one input. -/
def callsDropWrong : ChangeSpec := { name := "callsDrop", fn := fun _ => fun
  | [d1, d2] => { results := [.lit (.bool false)], args := [d1, d2] }
  | _ => none }
def CallsDropWrongFalsely : Prop := callsDropRow.holds Tryd.pinned (OpenSpec.ofChange callsDropWrong)

/-- 'garlandlaw10.CallsOnce': WHATEVER THE INPUT: true; the input reads as it did. -/
def callsOnceSpec : ChangeSpec := { name := "callsOnce", fn := fun _ => fun
  | [d1, d2] => { results := [.lit (.bool true)], args := [d1, d2] }
  | _ => none }
def callsOnceRow : OpenClaim := { program := "yteadkghffdiaoaadoor", sum := "7130ccd91b0436978eb1cf95ab20c42a2cf6045c71f4f8c582d75170c139ae86", func := "garland/garlandlaw10.CallsOnce", spec := "callsOnce", unfollowed := true, recurses := true, named := ["garland/wait.waits"], apart := false, laid := [("garland/wait.waits", laid_garland_wait_waits)] }
def CallsOnceSaid : Prop := callsOnceRow.holds Tryd.pinned (OpenSpec.ofChange callsOnceSpec)

/-- ITS FALSE NEIGHBOUR: 'it returns false'. Refute it at one input. -/
def callsOnceWrong : ChangeSpec := { name := "callsOnce", fn := fun _ => fun
  | [d1, d2] => { results := [.lit (.bool false)], args := [d1, d2] }
  | _ => none }
def CallsOnceWrongFalsely : Prop := callsOnceRow.holds Tryd.pinned (OpenSpec.ofChange callsOnceWrong)

/-- 'garlandlaw10.CallsClose': WHATEVER THE INPUT: true; the input reads as it did. -/
def callsCloseSpec : ChangeSpec := { name := "callsClose", fn := fun _ => fun
  | [d1, d2] => { results := [.lit (.bool true)], args := [d1, d2] }
  | _ => none }
def callsCloseRow : OpenClaim := { program := "yteadkghffdiaoaadoor", sum := "7130ccd91b0436978eb1cf95ab20c42a2cf6045c71f4f8c582d75170c139ae86", func := "garland/garlandlaw10.CallsClose", spec := "callsClose", unfollowed := true, recurses := true, named := ["garland/wait.waits"], apart := false, laid := [("garland/wait.waits", laid_garland_wait_waits)] }
def CallsCloseSaid : Prop := callsCloseRow.holds Tryd.pinned (OpenSpec.ofChange callsCloseSpec)

/-- ITS FALSE NEIGHBOUR: 'it returns false'. Refute it at one input. -/
def callsCloseWrong : ChangeSpec := { name := "callsClose", fn := fun _ => fun
  | [d1, d2] => { results := [.lit (.bool false)], args := [d1, d2] }
  | _ => none }
def CallsCloseWrongFalsely : Prop := callsCloseRow.holds Tryd.pinned (OpenSpec.ofChange callsCloseWrong)

/- THE SECOND FORM. 'bulk': how many values and letters a reading holds, each counted each time it is reached (what is shared counts as often as it is met; a slice's spare places count too). A statement '..UptoSaid' is the law's where the arguments, and the package variables that the reading takes, are together of bulk at most 1048576: NARROWER than '..Said'. Prove '..Said' where nothing that the law and all that it calls make is longer than what came in: it says more and counts as full. Else prove '..UptoSaid'. A law counts once. -/
mutual
def uptoBulk {H : Type} : DataW H → Nat
  | .lit (.string bytes) => bytes.length + 1
  | .lit _ => 1
  | .nil => 1
  | .ptr d => uptoBulk d + 1
  | .slice elems spare => uptoBulkAll elems + uptoBulkAll spare + 1
  | .agg parts => uptoBulkAll parts + 1
  | .iface _ d => uptoBulk d + 1
  | .map entries => uptoBulkEntries entries + 1
  | .held _ => 1
def uptoBulkAll {H : Type} : List (DataW H) → Nat
  | [] => 0
  | d :: r => uptoBulk d + uptoBulkAll r
def uptoBulkEntries {H : Type} : List (Lit × DataW H) → Nat
  | [] => 0
  | x :: r => uptoBulkEntry x + uptoBulkEntries r
def uptoBulkEntry {H : Type} : Lit × DataW H → Nat
  | (.string bytes, d) => bytes.length + uptoBulk d + 1
  | (_, d) => uptoBulk d + 1
 end
def uptoSmall : (H : Type) → List (DataW H) → Bool := fun _ ds => decide (uptoBulkAll ds ≤ 1048576)
def OpenSpec.upto (s : _root_.Go.ChangeSpec) : _root_.Go.OpenSpec := { _root_.Go.OpenSpec.ofChange s with cond := some uptoSmall }

/-- 'garlandlaw09.WaitLeft', WHERE WHAT IT READS IS OF BULK AT MOST 1048576: true; the input reads as it did. -/
def waitLeftUptoRow : OpenClaim := { program := "yteadkghffdiaoaadoor", sum := "7130ccd91b0436978eb1cf95ab20c42a2cf6045c71f4f8c582d75170c139ae86", func := "garland/garlandlaw09.WaitLeft", spec := "waitLeft", unfollowed := true, recurses := true, named := ["garland/wait.waits"], apart := false, laid := [("garland/wait.waits", laid_garland_wait_waits)], narrowed := true }
def WaitLeftUptoSaid : Prop := waitLeftUptoRow.holds Tryd.pinned (OpenSpec.upto waitLeftSpec)

/-- 'garlandlaw09.WaitTries', WHERE WHAT IT READS IS OF BULK AT MOST 1048576: true; the input reads as it did. -/
def waitTriesUptoRow : OpenClaim := { program := "yteadkghffdiaoaadoor", sum := "7130ccd91b0436978eb1cf95ab20c42a2cf6045c71f4f8c582d75170c139ae86", func := "garland/garlandlaw09.WaitTries", spec := "waitTries", unfollowed := true, recurses := true, named := ["garland/wait.waits"], apart := false, laid := [("garland/wait.waits", laid_garland_wait_waits)], narrowed := true }
def WaitTriesUptoSaid : Prop := waitTriesUptoRow.holds Tryd.pinned (OpenSpec.upto waitTriesSpec)

/-- 'garlandlaw10.CallsLate', WHERE WHAT IT READS IS OF BULK AT MOST 1048576: true; the input reads as it did. -/
def callsLateUptoRow : OpenClaim := { program := "yteadkghffdiaoaadoor", sum := "7130ccd91b0436978eb1cf95ab20c42a2cf6045c71f4f8c582d75170c139ae86", func := "garland/garlandlaw10.CallsLate", spec := "callsLate", unfollowed := true, recurses := true, named := ["garland/wait.waits"], apart := false, laid := [("garland/wait.waits", laid_garland_wait_waits)], narrowed := true }
def CallsLateUptoSaid : Prop := callsLateUptoRow.holds Tryd.pinned (OpenSpec.upto callsLateSpec)

/-- 'garlandlaw10.CallsDrop', WHERE WHAT IT READS IS OF BULK AT MOST 1048576: true; the input reads as it did. -/
def callsDropUptoRow : OpenClaim := { program := "yteadkghffdiaoaadoor", sum := "7130ccd91b0436978eb1cf95ab20c42a2cf6045c71f4f8c582d75170c139ae86", func := "garland/garlandlaw10.CallsDrop", spec := "callsDrop", unfollowed := true, recurses := true, named := ["garland/wait.waits"], apart := false, laid := [("garland/wait.waits", laid_garland_wait_waits)], narrowed := true }
def CallsDropUptoSaid : Prop := callsDropUptoRow.holds Tryd.pinned (OpenSpec.upto callsDropSpec)

/-- 'garlandlaw10.CallsOnce', WHERE WHAT IT READS IS OF BULK AT MOST 1048576: true; the input reads as it did. -/
def callsOnceUptoRow : OpenClaim := { program := "yteadkghffdiaoaadoor", sum := "7130ccd91b0436978eb1cf95ab20c42a2cf6045c71f4f8c582d75170c139ae86", func := "garland/garlandlaw10.CallsOnce", spec := "callsOnce", unfollowed := true, recurses := true, named := ["garland/wait.waits"], apart := false, laid := [("garland/wait.waits", laid_garland_wait_waits)], narrowed := true }
def CallsOnceUptoSaid : Prop := callsOnceUptoRow.holds Tryd.pinned (OpenSpec.upto callsOnceSpec)

/-- 'garlandlaw10.CallsClose', WHERE WHAT IT READS IS OF BULK AT MOST 1048576: true; the input reads as it did. -/
def callsCloseUptoRow : OpenClaim := { program := "yteadkghffdiaoaadoor", sum := "7130ccd91b0436978eb1cf95ab20c42a2cf6045c71f4f8c582d75170c139ae86", func := "garland/garlandlaw10.CallsClose", spec := "callsClose", unfollowed := true, recurses := true, named := ["garland/wait.waits"], apart := false, laid := [("garland/wait.waits", laid_garland_wait_waits)], narrowed := true }
def CallsCloseUptoSaid : Prop := callsCloseUptoRow.holds Tryd.pinned (OpenSpec.upto callsCloseSpec)

end Rows
end Go.Proofs.YteadkghffdiaoaaDoor
