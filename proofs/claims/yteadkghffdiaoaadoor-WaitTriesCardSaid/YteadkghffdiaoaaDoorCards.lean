/-
  DERIVED. GIVEN WITH THE SEED: THE CARDS: each row of YteadkghffdiaoaaDoorRows.lean that lists a variable, with what it lists TIED to the program's text (the seventh form; the later family's looks); each row that meets fmt, with fmt's text TOLD by the authors' own Lean function (tested against real Go, not proved from fmt's source: count such statements apart). THE CARD IS WHAT COUNTS. Prove the row's statement (the work); the ties are given (YteadkghffdiaoaaDoorTie.lean); close each card by the builder's one call (the guide's Derived/Test/ToyasCard.lean, 'card_holds'). Laid BY PROGRAM, IN A SANDBOX (cutbox-door.mjs). By AI agents, Wed Nov 11 2026. No macro, syntax, notation, axiom, sorry.
-/
import Derived.Test.YteadkghffdiaoaaDoorRows
import GoSem.ClaimSeven
namespace Go.Proofs.YteadkghffdiaoaaDoor
namespace Rows

/-- THE TIED CARD OF 'garlandlaw09.WaitLeft'. -/
def waitLeftCard : Claim7 := { stood := { row := waitLeftRow, standIns := [], harness := (true, "b3fefc7b62d22d4d60c09627485df3175ac29249c7848d6e2389871c130f51fd"), looks := false }, kinds := [], alts := [], laidByText := true, laidKinds := [.data], laidTests := true, laidLooks := .later }
def WaitLeftCardSaid : Prop := Claim7.holds Tryd.pinned (.plain (OpenSpec.ofChange waitLeftSpec)) waitLeftCard

/-- THE TIED CARD OF 'garlandlaw09.WaitTries'. -/
def waitTriesCard : Claim7 := { stood := { row := waitTriesRow, standIns := [], harness := (true, "b3fefc7b62d22d4d60c09627485df3175ac29249c7848d6e2389871c130f51fd"), looks := false }, kinds := [], alts := [], laidByText := true, laidKinds := [.data], laidTests := true, laidLooks := .later }
def WaitTriesCardSaid : Prop := Claim7.holds Tryd.pinned (.plain (OpenSpec.ofChange waitTriesSpec)) waitTriesCard

/-- THE TIED CARD OF 'garlandlaw10.CallsLate'. -/
def callsLateCard : Claim7 := { stood := { row := callsLateRow, standIns := [], harness := (true, "b3fefc7b62d22d4d60c09627485df3175ac29249c7848d6e2389871c130f51fd"), looks := false }, kinds := [], alts := [], laidByText := true, laidKinds := [.data], laidTests := true, laidLooks := .later }
def CallsLateCardSaid : Prop := Claim7.holds Tryd.pinned (.plain (OpenSpec.ofChange callsLateSpec)) callsLateCard

/-- THE TIED CARD OF 'garlandlaw10.CallsDrop'. -/
def callsDropCard : Claim7 := { stood := { row := callsDropRow, standIns := [], harness := (true, "b3fefc7b62d22d4d60c09627485df3175ac29249c7848d6e2389871c130f51fd"), looks := false }, kinds := [], alts := [], laidByText := true, laidKinds := [.data], laidTests := true, laidLooks := .later }
def CallsDropCardSaid : Prop := Claim7.holds Tryd.pinned (.plain (OpenSpec.ofChange callsDropSpec)) callsDropCard

/-- THE TIED CARD OF 'garlandlaw10.CallsOnce'. -/
def callsOnceCard : Claim7 := { stood := { row := callsOnceRow, standIns := [], harness := (true, "b3fefc7b62d22d4d60c09627485df3175ac29249c7848d6e2389871c130f51fd"), looks := false }, kinds := [], alts := [], laidByText := true, laidKinds := [.data], laidTests := true, laidLooks := .later }
def CallsOnceCardSaid : Prop := Claim7.holds Tryd.pinned (.plain (OpenSpec.ofChange callsOnceSpec)) callsOnceCard

/-- THE TIED CARD OF 'garlandlaw10.CallsClose'. -/
def callsCloseCard : Claim7 := { stood := { row := callsCloseRow, standIns := [], harness := (true, "b3fefc7b62d22d4d60c09627485df3175ac29249c7848d6e2389871c130f51fd"), looks := false }, kinds := [], alts := [], laidByText := true, laidKinds := [.data], laidTests := true, laidLooks := .later }
def CallsCloseCardSaid : Prop := Claim7.holds Tryd.pinned (.plain (OpenSpec.ofChange callsCloseSpec)) callsCloseCard

/-- THE SECOND FORM's CARD OF 'garlandlaw09.WaitLeft'. -/
def waitLeftUptoCard : Claim7 := { stood := { row := waitLeftUptoRow, standIns := [], harness := (true, "b3fefc7b62d22d4d60c09627485df3175ac29249c7848d6e2389871c130f51fd"), looks := false }, kinds := [], alts := [], laidByText := true, laidKinds := [.data], laidTests := true, laidLooks := .later }
def WaitLeftUptoCardSaid : Prop := Claim7.holds Tryd.pinned (.plain (OpenSpec.upto waitLeftSpec)) waitLeftUptoCard

/-- THE SECOND FORM's CARD OF 'garlandlaw09.WaitTries'. -/
def waitTriesUptoCard : Claim7 := { stood := { row := waitTriesUptoRow, standIns := [], harness := (true, "b3fefc7b62d22d4d60c09627485df3175ac29249c7848d6e2389871c130f51fd"), looks := false }, kinds := [], alts := [], laidByText := true, laidKinds := [.data], laidTests := true, laidLooks := .later }
def WaitTriesUptoCardSaid : Prop := Claim7.holds Tryd.pinned (.plain (OpenSpec.upto waitTriesSpec)) waitTriesUptoCard

/-- THE SECOND FORM's CARD OF 'garlandlaw10.CallsLate'. -/
def callsLateUptoCard : Claim7 := { stood := { row := callsLateUptoRow, standIns := [], harness := (true, "b3fefc7b62d22d4d60c09627485df3175ac29249c7848d6e2389871c130f51fd"), looks := false }, kinds := [], alts := [], laidByText := true, laidKinds := [.data], laidTests := true, laidLooks := .later }
def CallsLateUptoCardSaid : Prop := Claim7.holds Tryd.pinned (.plain (OpenSpec.upto callsLateSpec)) callsLateUptoCard

/-- THE SECOND FORM's CARD OF 'garlandlaw10.CallsDrop'. -/
def callsDropUptoCard : Claim7 := { stood := { row := callsDropUptoRow, standIns := [], harness := (true, "b3fefc7b62d22d4d60c09627485df3175ac29249c7848d6e2389871c130f51fd"), looks := false }, kinds := [], alts := [], laidByText := true, laidKinds := [.data], laidTests := true, laidLooks := .later }
def CallsDropUptoCardSaid : Prop := Claim7.holds Tryd.pinned (.plain (OpenSpec.upto callsDropSpec)) callsDropUptoCard

/-- THE SECOND FORM's CARD OF 'garlandlaw10.CallsOnce'. -/
def callsOnceUptoCard : Claim7 := { stood := { row := callsOnceUptoRow, standIns := [], harness := (true, "b3fefc7b62d22d4d60c09627485df3175ac29249c7848d6e2389871c130f51fd"), looks := false }, kinds := [], alts := [], laidByText := true, laidKinds := [.data], laidTests := true, laidLooks := .later }
def CallsOnceUptoCardSaid : Prop := Claim7.holds Tryd.pinned (.plain (OpenSpec.upto callsOnceSpec)) callsOnceUptoCard

/-- THE SECOND FORM's CARD OF 'garlandlaw10.CallsClose'. -/
def callsCloseUptoCard : Claim7 := { stood := { row := callsCloseUptoRow, standIns := [], harness := (true, "b3fefc7b62d22d4d60c09627485df3175ac29249c7848d6e2389871c130f51fd"), looks := false }, kinds := [], alts := [], laidByText := true, laidKinds := [.data], laidTests := true, laidLooks := .later }
def CallsCloseUptoCardSaid : Prop := Claim7.holds Tryd.pinned (.plain (OpenSpec.upto callsCloseSpec)) callsCloseUptoCard
end Rows
end Go.Proofs.YteadkghffdiaoaaDoor
