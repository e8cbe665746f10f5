/-
  DERIVED. GIVEN WITH THE SEED: THE CARDS: each row of YtkppnamblmaokaaDoorRows.lean that lists a variable, with what it lists TIED to the program's text (the seventh form; the later family's looks); each row that meets fmt, with fmt's text TOLD by the authors' own Lean function (tested against real Go, not proved from fmt's source: count such statements apart). THE CARD IS WHAT COUNTS. Prove the row's statement (the work); the ties are given (YtkppnamblmaokaaDoorTie.lean); close each card by the builder's one call (the guide's Derived/Test/ToyasCard.lean, 'card_holds'). Laid BY PROGRAM, IN A SANDBOX (cutbox-door.mjs). By AI agents, Wed Nov 11 2026. No macro, syntax, notation, axiom, sorry.
-/
import Derived.Test.YtkppnamblmaokaaDoorRows
import GoSem.ClaimSeven
namespace Go.Proofs.YtkppnamblmaokaaDoor
namespace Rows

/-- THE TIED CARD OF 'tollhouselaw29.ModelPlays'. -/
def modelPlaysCard : Claim7 := { stood := { row := modelPlaysRow, standIns := [], harness := (true, "6a45e35a76e7a9b24586c39935add3cc124e463048681904b0d1a1bdee236946"), looks := false }, kinds := [], alts := [], laidByText := true, laidKinds := [.data, .pinned], laidTests := true, laidLooks := .later }
def ModelPlaysCardSaid : Prop := Claim7.holds Tryd.pinned (.plain (OpenSpec.ofChange modelPlaysSpec)) modelPlaysCard

/-- THE TIED CARD OF 'tollhouselaw29.ModelNone'. -/
def modelNoneCard : Claim7 := { stood := { row := modelNoneRow, standIns := [], harness := (true, "6a45e35a76e7a9b24586c39935add3cc124e463048681904b0d1a1bdee236946"), looks := false }, kinds := [], alts := [], laidByText := true, laidKinds := [.data, .pinned], laidTests := true, laidLooks := .later }
def ModelNoneCardSaid : Prop := Claim7.holds Tryd.pinned (.plain (OpenSpec.ofChange modelNoneSpec)) modelNoneCard

/-- THE TIED CARD OF 'tollhouselaw29.ModelApart'. -/
def modelApartCard : Claim7 := { stood := { row := modelApartRow, standIns := [], harness := (true, "6a45e35a76e7a9b24586c39935add3cc124e463048681904b0d1a1bdee236946"), looks := false }, kinds := [], alts := [], laidByText := true, laidKinds := [.data, .pinned], laidTests := true, laidLooks := .later }
def ModelApartCardSaid : Prop := Claim7.holds Tryd.pinned (.plain (OpenSpec.ofChange modelApartSpec)) modelApartCard

/-- THE TIED CARD OF 'tollhouselaw29.ModelOps'. -/
def modelOpsCard : Claim7 := { stood := { row := modelOpsRow, standIns := [], harness := (true, "6a45e35a76e7a9b24586c39935add3cc124e463048681904b0d1a1bdee236946"), looks := false }, kinds := [], alts := [], laidByText := true, laidKinds := [.data, .pinned], laidTests := true, laidLooks := .later }
def ModelOpsCardSaid : Prop := Claim7.holds Tryd.pinned (.plain (OpenSpec.ofChange modelOpsSpec)) modelOpsCard

/-- THE SECOND FORM's CARD OF 'tollhouselaw29.ModelPlays'. -/
def modelPlaysUptoCard : Claim7 := { stood := { row := modelPlaysUptoRow, standIns := [], harness := (true, "6a45e35a76e7a9b24586c39935add3cc124e463048681904b0d1a1bdee236946"), looks := false }, kinds := [], alts := [], laidByText := true, laidKinds := [.data, .pinned], laidTests := true, laidLooks := .later }
def ModelPlaysUptoCardSaid : Prop := Claim7.holds Tryd.pinned (.plain (OpenSpec.upto modelPlaysSpec)) modelPlaysUptoCard

/-- THE SECOND FORM's CARD OF 'tollhouselaw29.ModelNone'. -/
def modelNoneUptoCard : Claim7 := { stood := { row := modelNoneUptoRow, standIns := [], harness := (true, "6a45e35a76e7a9b24586c39935add3cc124e463048681904b0d1a1bdee236946"), looks := false }, kinds := [], alts := [], laidByText := true, laidKinds := [.data, .pinned], laidTests := true, laidLooks := .later }
def ModelNoneUptoCardSaid : Prop := Claim7.holds Tryd.pinned (.plain (OpenSpec.upto modelNoneSpec)) modelNoneUptoCard

/-- THE SECOND FORM's CARD OF 'tollhouselaw29.ModelApart'. -/
def modelApartUptoCard : Claim7 := { stood := { row := modelApartUptoRow, standIns := [], harness := (true, "6a45e35a76e7a9b24586c39935add3cc124e463048681904b0d1a1bdee236946"), looks := false }, kinds := [], alts := [], laidByText := true, laidKinds := [.data, .pinned], laidTests := true, laidLooks := .later }
def ModelApartUptoCardSaid : Prop := Claim7.holds Tryd.pinned (.plain (OpenSpec.upto modelApartSpec)) modelApartUptoCard

/-- THE SECOND FORM's CARD OF 'tollhouselaw29.ModelOps'. -/
def modelOpsUptoCard : Claim7 := { stood := { row := modelOpsUptoRow, standIns := [], harness := (true, "6a45e35a76e7a9b24586c39935add3cc124e463048681904b0d1a1bdee236946"), looks := false }, kinds := [], alts := [], laidByText := true, laidKinds := [.data, .pinned], laidTests := true, laidLooks := .later }
def ModelOpsUptoCardSaid : Prop := Claim7.holds Tryd.pinned (.plain (OpenSpec.upto modelOpsSpec)) modelOpsUptoCard
end Rows
end Go.Proofs.YtkppnamblmaokaaDoor
