/-
  DERIVED. GIVEN WITH THE SEED: THE CARDS: each row of YtlojemnmdakfiaaDoorRows.lean that lists a variable, with what it lists TIED to the program's text (the seventh form; the later family's looks); each row that meets fmt, with fmt's text TOLD by the authors' own Lean function (tested against real Go, not proved from fmt's source: count such statements apart). THE CARD IS WHAT COUNTS. Prove the row's statement (the work); the ties are given (YtlojemnmdakfiaaDoorTie.lean); close each card by the builder's one call (the guide's Derived/Test/ToyasCard.lean, 'card_holds'). Laid BY PROGRAM, IN A SANDBOX (cutbox-door.mjs). By AI agents, Wed Nov 11 2026. No macro, syntax, notation, axiom, sorry.
-/
import Derived.Test.YtlojemnmdakfiaaDoorRows
import GoSem.ClaimSeven
namespace Go.Proofs.YtlojemnmdakfiaaDoor
namespace Rows

/-- THE TIED CARD OF 'murmurationlaw08.ActionKeys'. -/
def actionKeysCard : Claim7 := { stood := { row := actionKeysRow, standIns := [], harness := (true, "df77ec7d563eac0577c74c688a2508fb2f7e98e2d510a7c45f8f4a1c2ad2cdad"), looks := false }, kinds := [], alts := [], laidByText := true, laidKinds := [.data, .data, .data], laidTests := true, laidLooks := .later }
def ActionKeysCardSaid : Prop := Claim7.holds Tryd.pinned (.plain (OpenSpec.ofChange actionKeysSpec)) actionKeysCard

/-- THE TIED CARD OF 'murmurationlaw08.ActionOnly'. -/
def actionOnlyCard : Claim7 := { stood := { row := actionOnlyRow, standIns := [], harness := (true, "df77ec7d563eac0577c74c688a2508fb2f7e98e2d510a7c45f8f4a1c2ad2cdad"), looks := false }, kinds := [], alts := [], laidByText := true, laidKinds := [.data, .data, .data], laidTests := true, laidLooks := .later }
def ActionOnlyCardSaid : Prop := Claim7.holds Tryd.pinned (.plain (OpenSpec.ofChange actionOnlySpec)) actionOnlyCard

/-- THE TIED CARD OF 'murmurationlaw08.ActionParts'. -/
def actionPartsCard : Claim7 := { stood := { row := actionPartsRow, standIns := [], harness := (true, "df77ec7d563eac0577c74c688a2508fb2f7e98e2d510a7c45f8f4a1c2ad2cdad"), looks := false }, kinds := [], alts := [], laidByText := true, laidKinds := [.data, .data, .data], laidTests := true, laidLooks := .later }
def ActionPartsCardSaid : Prop := Claim7.holds Tryd.pinned (.plain (OpenSpec.ofChange actionPartsSpec)) actionPartsCard

/-- THE SECOND FORM's CARD OF 'murmurationlaw08.ActionKeys'. -/
def actionKeysUptoCard : Claim7 := { stood := { row := actionKeysUptoRow, standIns := [], harness := (true, "df77ec7d563eac0577c74c688a2508fb2f7e98e2d510a7c45f8f4a1c2ad2cdad"), looks := false }, kinds := [], alts := [], laidByText := true, laidKinds := [.data, .data, .data], laidTests := true, laidLooks := .later }
def ActionKeysUptoCardSaid : Prop := Claim7.holds Tryd.pinned (.plain (OpenSpec.upto actionKeysSpec)) actionKeysUptoCard

/-- THE SECOND FORM's CARD OF 'murmurationlaw08.ActionOnly'. -/
def actionOnlyUptoCard : Claim7 := { stood := { row := actionOnlyUptoRow, standIns := [], harness := (true, "df77ec7d563eac0577c74c688a2508fb2f7e98e2d510a7c45f8f4a1c2ad2cdad"), looks := false }, kinds := [], alts := [], laidByText := true, laidKinds := [.data, .data, .data], laidTests := true, laidLooks := .later }
def ActionOnlyUptoCardSaid : Prop := Claim7.holds Tryd.pinned (.plain (OpenSpec.upto actionOnlySpec)) actionOnlyUptoCard

/-- THE SECOND FORM's CARD OF 'murmurationlaw08.ActionParts'. -/
def actionPartsUptoCard : Claim7 := { stood := { row := actionPartsUptoRow, standIns := [], harness := (true, "df77ec7d563eac0577c74c688a2508fb2f7e98e2d510a7c45f8f4a1c2ad2cdad"), looks := false }, kinds := [], alts := [], laidByText := true, laidKinds := [.data, .data, .data], laidTests := true, laidLooks := .later }
def ActionPartsUptoCardSaid : Prop := Claim7.holds Tryd.pinned (.plain (OpenSpec.upto actionPartsSpec)) actionPartsUptoCard
end Rows
end Go.Proofs.YtlojemnmdakfiaaDoor
