/-
  DERIVED. GIVEN WITH THE SEED: THE CARDS: each row of YtneindaodfiabaaDoorRows.lean that lists a variable, with what it lists TIED to the program's text (the seventh form; the later family's looks); each row that meets fmt, with fmt's text TOLD by the authors' own Lean function (tested against real Go, not proved from fmt's source: count such statements apart). THE CARD IS WHAT COUNTS. Prove the row's statement (the work); the ties are given (YtneindaodfiabaaDoorTie.lean); close each card by the builder's one call (the guide's Derived/Test/ToyasCard.lean, 'card_holds'). Laid BY PROGRAM, IN A SANDBOX (cutbox-door.mjs). By AI agents, Wed Nov 11 2026. No macro, syntax, notation, axiom, sorry.
-/
import Derived.Test.YtneindaodfiabaaDoorRows
import GoSem.ClaimSeven
namespace Go.Proofs.YtneindaodfiabaaDoor
namespace Rows

/-- THE TIED CARD OF 'murmurationlaw06.ProgramMore'. -/
def programMoreCard : Claim7 := { stood := { row := programMoreRow, standIns := [], harness := (true, "28759c4e9c97d1f06c6281e02c95af83b481c19e82819696a3b28fcbda32e576"), looks := false }, kinds := [], alts := [], laidByText := true, laidKinds := [.data], laidTests := true, laidLooks := .later }
def ProgramMoreCardSaid : Prop := Claim7.holds Tryd.pinned (.plain (OpenSpec.ofChange programMoreSpec)) programMoreCard

/-- THE TIED CARD OF 'murmurationlaw06.ProgramReads'. -/
def programReadsCard : Claim7 := { stood := { row := programReadsRow, standIns := [], harness := (true, "28759c4e9c97d1f06c6281e02c95af83b481c19e82819696a3b28fcbda32e576"), looks := false }, kinds := [], alts := [], laidByText := true, laidKinds := [.data], laidTests := true, laidLooks := .later }
def ProgramReadsCardSaid : Prop := Claim7.holds Tryd.pinned (.plain (OpenSpec.ofChange programReadsSpec)) programReadsCard

/-- THE TIED CARD OF 'murmurationlaw06.ProgramForms'. -/
def programFormsCard : Claim7 := { stood := { row := programFormsRow, standIns := [], harness := (true, "28759c4e9c97d1f06c6281e02c95af83b481c19e82819696a3b28fcbda32e576"), looks := false }, kinds := [], alts := [], laidByText := true, laidKinds := [.data], laidTests := true, laidLooks := .later }
def ProgramFormsCardSaid : Prop := Claim7.holds Tryd.pinned (.plain (OpenSpec.ofChange programFormsSpec)) programFormsCard

/-- THE TIED CARD OF 'murmurationlaw06.ProgramOnly'. -/
def programOnlyCard : Claim7 := { stood := { row := programOnlyRow, standIns := [], harness := (true, "28759c4e9c97d1f06c6281e02c95af83b481c19e82819696a3b28fcbda32e576"), looks := false }, kinds := [], alts := [], laidByText := true, laidKinds := [.data], laidTests := true, laidLooks := .later }
def ProgramOnlyCardSaid : Prop := Claim7.holds Tryd.pinned (.plain (OpenSpec.ofChange programOnlySpec)) programOnlyCard

/-- THE SECOND FORM's CARD OF 'murmurationlaw06.ProgramMore'. -/
def programMoreUptoCard : Claim7 := { stood := { row := programMoreUptoRow, standIns := [], harness := (true, "28759c4e9c97d1f06c6281e02c95af83b481c19e82819696a3b28fcbda32e576"), looks := false }, kinds := [], alts := [], laidByText := true, laidKinds := [.data], laidTests := true, laidLooks := .later }
def ProgramMoreUptoCardSaid : Prop := Claim7.holds Tryd.pinned (.plain (OpenSpec.upto programMoreSpec)) programMoreUptoCard

/-- THE SECOND FORM's CARD OF 'murmurationlaw06.ProgramReads'. -/
def programReadsUptoCard : Claim7 := { stood := { row := programReadsUptoRow, standIns := [], harness := (true, "28759c4e9c97d1f06c6281e02c95af83b481c19e82819696a3b28fcbda32e576"), looks := false }, kinds := [], alts := [], laidByText := true, laidKinds := [.data], laidTests := true, laidLooks := .later }
def ProgramReadsUptoCardSaid : Prop := Claim7.holds Tryd.pinned (.plain (OpenSpec.upto programReadsSpec)) programReadsUptoCard

/-- THE SECOND FORM's CARD OF 'murmurationlaw06.ProgramForms'. -/
def programFormsUptoCard : Claim7 := { stood := { row := programFormsUptoRow, standIns := [], harness := (true, "28759c4e9c97d1f06c6281e02c95af83b481c19e82819696a3b28fcbda32e576"), looks := false }, kinds := [], alts := [], laidByText := true, laidKinds := [.data], laidTests := true, laidLooks := .later }
def ProgramFormsUptoCardSaid : Prop := Claim7.holds Tryd.pinned (.plain (OpenSpec.upto programFormsSpec)) programFormsUptoCard

/-- THE SECOND FORM's CARD OF 'murmurationlaw06.ProgramOnly'. -/
def programOnlyUptoCard : Claim7 := { stood := { row := programOnlyUptoRow, standIns := [], harness := (true, "28759c4e9c97d1f06c6281e02c95af83b481c19e82819696a3b28fcbda32e576"), looks := false }, kinds := [], alts := [], laidByText := true, laidKinds := [.data], laidTests := true, laidLooks := .later }
def ProgramOnlyUptoCardSaid : Prop := Claim7.holds Tryd.pinned (.plain (OpenSpec.upto programOnlySpec)) programOnlyUptoCard
end Rows
end Go.Proofs.YtneindaodfiabaaDoor
