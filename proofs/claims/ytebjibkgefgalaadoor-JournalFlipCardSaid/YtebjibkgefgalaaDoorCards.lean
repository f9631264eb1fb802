/-
  DERIVED. GIVEN WITH THE SEED: THE CARDS: each row of YtebjibkgefgalaaDoorRows.lean that lists a variable, with what it lists TIED to the program's text (the seventh form; the later family's looks); each row that meets fmt, with fmt's text TOLD by the authors' own Lean function (tested against real Go, not proved from fmt's source: count such statements apart). THE CARD IS WHAT COUNTS. Prove the row's statement (the work); the ties are given (YtebjibkgefgalaaDoorTie.lean); close each card by the builder's one call (the guide's Derived/Test/ToyasCard.lean, 'card_holds'). Laid BY PROGRAM, IN A SANDBOX (cutbox-door.mjs). By AI agents, Wed Nov 11 2026. No macro, syntax, notation, axiom, sorry.
-/
import Derived.Test.YtebjibkgefgalaaDoorRows
import GoSem.ClaimSeven
namespace Go.Proofs.YtebjibkgefgalaaDoor
namespace Rows

/-- THE TIED CARD OF 'murmurationlaw11.JournalForms'. -/
def journalFormsCard : Claim7 := { stood := { row := journalFormsRow, standIns := [], harness := (true, "671c12f39b79894ef21cff864cad82a1195d9fe34a8ab1686707ccc139d010ed"), looks := false }, kinds := [], alts := [], laidByText := true, laidKinds := [.data, .data], laidTests := true, laidLooks := .later }
def JournalFormsCardSaid : Prop := Claim7.holds Tryd.pinned (.plain (OpenSpec.ofChange journalFormsSpec)) journalFormsCard

/-- THE TIED CARD OF 'murmurationlaw11.JournalReads'. -/
def journalReadsCard : Claim7 := { stood := { row := journalReadsRow, standIns := [], harness := (true, "671c12f39b79894ef21cff864cad82a1195d9fe34a8ab1686707ccc139d010ed"), looks := false }, kinds := [], alts := [], laidByText := true, laidKinds := [.data, .data], laidTests := true, laidLooks := .later }
def JournalReadsCardSaid : Prop := Claim7.holds Tryd.pinned (.plain (OpenSpec.ofChange journalReadsSpec)) journalReadsCard

/-- THE TIED CARD OF 'murmurationlaw11.JournalCuts'. -/
def journalCutsCard : Claim7 := { stood := { row := journalCutsRow, standIns := [], harness := (true, "671c12f39b79894ef21cff864cad82a1195d9fe34a8ab1686707ccc139d010ed"), looks := false }, kinds := [], alts := [], laidByText := true, laidKinds := [.data, .data], laidTests := true, laidLooks := .later }
def JournalCutsCardSaid : Prop := Claim7.holds Tryd.pinned (.plain (OpenSpec.ofChange journalCutsSpec)) journalCutsCard

/-- THE TIED CARD OF 'murmurationlaw11.JournalMore'. -/
def journalMoreCard : Claim7 := { stood := { row := journalMoreRow, standIns := [], harness := (true, "671c12f39b79894ef21cff864cad82a1195d9fe34a8ab1686707ccc139d010ed"), looks := false }, kinds := [], alts := [], laidByText := true, laidKinds := [.data, .data], laidTests := true, laidLooks := .later }
def JournalMoreCardSaid : Prop := Claim7.holds Tryd.pinned (.plain (OpenSpec.ofChange journalMoreSpec)) journalMoreCard

/-- THE TIED CARD OF 'murmurationlaw11.JournalFlip'. -/
def journalFlipCard : Claim7 := { stood := { row := journalFlipRow, standIns := [], harness := (true, "671c12f39b79894ef21cff864cad82a1195d9fe34a8ab1686707ccc139d010ed"), looks := false }, kinds := [], alts := [], laidByText := true, laidKinds := [.data, .data], laidTests := true, laidLooks := .later }
def JournalFlipCardSaid : Prop := Claim7.holds Tryd.pinned (.plain (OpenSpec.ofChange journalFlipSpec)) journalFlipCard

/-- THE SECOND FORM's CARD OF 'murmurationlaw11.JournalForms'. -/
def journalFormsUptoCard : Claim7 := { stood := { row := journalFormsUptoRow, standIns := [], harness := (true, "671c12f39b79894ef21cff864cad82a1195d9fe34a8ab1686707ccc139d010ed"), looks := false }, kinds := [], alts := [], laidByText := true, laidKinds := [.data, .data], laidTests := true, laidLooks := .later }
def JournalFormsUptoCardSaid : Prop := Claim7.holds Tryd.pinned (.plain (OpenSpec.upto journalFormsSpec)) journalFormsUptoCard

/-- THE SECOND FORM's CARD OF 'murmurationlaw11.JournalReads'. -/
def journalReadsUptoCard : Claim7 := { stood := { row := journalReadsUptoRow, standIns := [], harness := (true, "671c12f39b79894ef21cff864cad82a1195d9fe34a8ab1686707ccc139d010ed"), looks := false }, kinds := [], alts := [], laidByText := true, laidKinds := [.data, .data], laidTests := true, laidLooks := .later }
def JournalReadsUptoCardSaid : Prop := Claim7.holds Tryd.pinned (.plain (OpenSpec.upto journalReadsSpec)) journalReadsUptoCard

/-- THE SECOND FORM's CARD OF 'murmurationlaw11.JournalCuts'. -/
def journalCutsUptoCard : Claim7 := { stood := { row := journalCutsUptoRow, standIns := [], harness := (true, "671c12f39b79894ef21cff864cad82a1195d9fe34a8ab1686707ccc139d010ed"), looks := false }, kinds := [], alts := [], laidByText := true, laidKinds := [.data, .data], laidTests := true, laidLooks := .later }
def JournalCutsUptoCardSaid : Prop := Claim7.holds Tryd.pinned (.plain (OpenSpec.upto journalCutsSpec)) journalCutsUptoCard

/-- THE SECOND FORM's CARD OF 'murmurationlaw11.JournalMore'. -/
def journalMoreUptoCard : Claim7 := { stood := { row := journalMoreUptoRow, standIns := [], harness := (true, "671c12f39b79894ef21cff864cad82a1195d9fe34a8ab1686707ccc139d010ed"), looks := false }, kinds := [], alts := [], laidByText := true, laidKinds := [.data, .data], laidTests := true, laidLooks := .later }
def JournalMoreUptoCardSaid : Prop := Claim7.holds Tryd.pinned (.plain (OpenSpec.upto journalMoreSpec)) journalMoreUptoCard

/-- THE SECOND FORM's CARD OF 'murmurationlaw11.JournalFlip'. -/
def journalFlipUptoCard : Claim7 := { stood := { row := journalFlipUptoRow, standIns := [], harness := (true, "671c12f39b79894ef21cff864cad82a1195d9fe34a8ab1686707ccc139d010ed"), looks := false }, kinds := [], alts := [], laidByText := true, laidKinds := [.data, .data], laidTests := true, laidLooks := .later }
def JournalFlipUptoCardSaid : Prop := Claim7.holds Tryd.pinned (.plain (OpenSpec.upto journalFlipSpec)) journalFlipUptoCard
end Rows
end Go.Proofs.YtebjibkgefgalaaDoor
