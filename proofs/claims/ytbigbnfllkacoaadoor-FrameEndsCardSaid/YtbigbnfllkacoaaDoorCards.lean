/-
  DERIVED. GIVEN WITH THE SEED: THE CARDS: each row of YtbigbnfllkacoaaDoorRows.lean that lists a variable, with what it lists TIED to the program's text (the seventh form; the later family's looks); each row that meets fmt, with fmt's text TOLD by the authors' own Lean function (tested against real Go, not proved from fmt's source: count such statements apart). THE CARD IS WHAT COUNTS. Prove the row's statement (the work); the ties are given (YtbigbnfllkacoaaDoorTie.lean); close each card by the builder's one call (the guide's Derived/Test/ToyasCard.lean, 'card_holds'). Laid BY PROGRAM, IN A SANDBOX (cutbox-door.mjs). By AI agents, Wed Nov 11 2026. No macro, syntax, notation, axiom, sorry.
-/
import Derived.Test.YtbigbnfllkacoaaDoorRows
import GoSem.ClaimSeven
namespace Go.Proofs.YtbigbnfllkacoaaDoor
namespace Rows

/-- THE TIED CARD OF 'colonnadelaw05.FrameBytes'. -/
def frameBytesCard : Claim7 := { stood := { row := frameBytesRow, standIns := [], harness := (true, "94890f5f84accd4defffd1a6495345c932bdea8ae3c761b10b4d2673a20aacfc"), looks := false }, kinds := [], alts := [], laidByText := true, laidKinds := [.data, .pinned], laidTests := true, laidLooks := .later }
def FrameBytesCardSaid : Prop := Claim7.holds Tryd.pinned (.plain (OpenSpec.ofChange frameBytesSpec)) frameBytesCard

/-- THE TIED CARD OF 'colonnadelaw05.FrameCuts'. -/
def frameCutsCard : Claim7 := { stood := { row := frameCutsRow, standIns := [], harness := (true, "94890f5f84accd4defffd1a6495345c932bdea8ae3c761b10b4d2673a20aacfc"), looks := false }, kinds := [], alts := [], laidByText := true, laidKinds := [.data, .pinned], laidTests := true, laidLooks := .later }
def FrameCutsCardSaid : Prop := Claim7.holds Tryd.pinned (.plain (OpenSpec.ofChange frameCutsSpec)) frameCutsCard

/-- THE TIED CARD OF 'colonnadelaw05.FrameLoose'. -/
def frameLooseCard : Claim7 := { stood := { row := frameLooseRow, standIns := [], harness := (true, "94890f5f84accd4defffd1a6495345c932bdea8ae3c761b10b4d2673a20aacfc"), looks := false }, kinds := [], alts := [], laidByText := true, laidKinds := [.data, .pinned], laidTests := true, laidLooks := .later }
def FrameLooseCardSaid : Prop := Claim7.holds Tryd.pinned (.plain (OpenSpec.ofChange frameLooseSpec)) frameLooseCard

/-- THE TIED CARD OF 'colonnadelaw05.FrameEnds'. -/
def frameEndsCard : Claim7 := { stood := { row := frameEndsRow, standIns := [], harness := (true, "94890f5f84accd4defffd1a6495345c932bdea8ae3c761b10b4d2673a20aacfc"), looks := false }, kinds := [], alts := [], laidByText := true, laidKinds := [.data, .pinned], laidTests := true, laidLooks := .later }
def FrameEndsCardSaid : Prop := Claim7.holds Tryd.pinned (.plain (OpenSpec.ofChange frameEndsSpec)) frameEndsCard

/-- THE TIED CARD OF 'colonnadelaw05.FrameJoins'. -/
def frameJoinsCard : Claim7 := { stood := { row := frameJoinsRow, standIns := [], harness := (true, "94890f5f84accd4defffd1a6495345c932bdea8ae3c761b10b4d2673a20aacfc"), looks := false }, kinds := [], alts := [], laidByText := true, laidKinds := [.data, .pinned], laidTests := true, laidLooks := .later }
def FrameJoinsCardSaid : Prop := Claim7.holds Tryd.pinned (.plain (OpenSpec.ofChange frameJoinsSpec)) frameJoinsCard

/-- THE SECOND FORM's CARD OF 'colonnadelaw05.FrameBytes'. -/
def frameBytesUptoCard : Claim7 := { stood := { row := frameBytesUptoRow, standIns := [], harness := (true, "94890f5f84accd4defffd1a6495345c932bdea8ae3c761b10b4d2673a20aacfc"), looks := false }, kinds := [], alts := [], laidByText := true, laidKinds := [.data, .pinned], laidTests := true, laidLooks := .later }
def FrameBytesUptoCardSaid : Prop := Claim7.holds Tryd.pinned (.plain (OpenSpec.upto frameBytesSpec)) frameBytesUptoCard

/-- THE SECOND FORM's CARD OF 'colonnadelaw05.FrameCuts'. -/
def frameCutsUptoCard : Claim7 := { stood := { row := frameCutsUptoRow, standIns := [], harness := (true, "94890f5f84accd4defffd1a6495345c932bdea8ae3c761b10b4d2673a20aacfc"), looks := false }, kinds := [], alts := [], laidByText := true, laidKinds := [.data, .pinned], laidTests := true, laidLooks := .later }
def FrameCutsUptoCardSaid : Prop := Claim7.holds Tryd.pinned (.plain (OpenSpec.upto frameCutsSpec)) frameCutsUptoCard

/-- THE SECOND FORM's CARD OF 'colonnadelaw05.FrameLoose'. -/
def frameLooseUptoCard : Claim7 := { stood := { row := frameLooseUptoRow, standIns := [], harness := (true, "94890f5f84accd4defffd1a6495345c932bdea8ae3c761b10b4d2673a20aacfc"), looks := false }, kinds := [], alts := [], laidByText := true, laidKinds := [.data, .pinned], laidTests := true, laidLooks := .later }
def FrameLooseUptoCardSaid : Prop := Claim7.holds Tryd.pinned (.plain (OpenSpec.upto frameLooseSpec)) frameLooseUptoCard

/-- THE SECOND FORM's CARD OF 'colonnadelaw05.FrameEnds'. -/
def frameEndsUptoCard : Claim7 := { stood := { row := frameEndsUptoRow, standIns := [], harness := (true, "94890f5f84accd4defffd1a6495345c932bdea8ae3c761b10b4d2673a20aacfc"), looks := false }, kinds := [], alts := [], laidByText := true, laidKinds := [.data, .pinned], laidTests := true, laidLooks := .later }
def FrameEndsUptoCardSaid : Prop := Claim7.holds Tryd.pinned (.plain (OpenSpec.upto frameEndsSpec)) frameEndsUptoCard

/-- THE SECOND FORM's CARD OF 'colonnadelaw05.FrameJoins'. -/
def frameJoinsUptoCard : Claim7 := { stood := { row := frameJoinsUptoRow, standIns := [], harness := (true, "94890f5f84accd4defffd1a6495345c932bdea8ae3c761b10b4d2673a20aacfc"), looks := false }, kinds := [], alts := [], laidByText := true, laidKinds := [.data, .pinned], laidTests := true, laidLooks := .later }
def FrameJoinsUptoCardSaid : Prop := Claim7.holds Tryd.pinned (.plain (OpenSpec.upto frameJoinsSpec)) frameJoinsUptoCard
end Rows
end Go.Proofs.YtbigbnfllkacoaaDoor
