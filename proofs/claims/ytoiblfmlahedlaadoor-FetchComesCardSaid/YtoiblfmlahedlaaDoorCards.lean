/-
  DERIVED. GIVEN WITH THE SEED: THE CARDS: each row of YtoiblfmlahedlaaDoorRows.lean that lists a variable, with what it lists TIED to the program's text (the seventh form; the later family's looks); each row that meets fmt, with fmt's text TOLD by the authors' own Lean function (tested against real Go, not proved from fmt's source: count such statements apart). THE CARD IS WHAT COUNTS. Prove the row's statement (the work); the ties are given (YtoiblfmlahedlaaDoorTie.lean); close each card by the builder's one call (the guide's Derived/Test/ToyasCard.lean, 'card_holds'). Laid BY PROGRAM, IN A SANDBOX (cutbox-door.mjs). By AI agents, Wed Nov 11 2026. No macro, syntax, notation, axiom, sorry.
-/
import Derived.Test.YtoiblfmlahedlaaDoorRows
import GoSem.ClaimSeven
namespace Go.Proofs.YtoiblfmlahedlaaDoor
namespace Rows

/-- THE TIED CARD OF 'murmurationlaw24.FetchTrue'. -/
def fetchTrueCard : Claim7 := { stood := { row := fetchTrueRow, standIns := [], harness := (true, "aded78e5cc6736a2194e7db7ca6128f9b69a73a1bacdfc459a783b09c836c636"), looks := false }, kinds := [], alts := [], laidByText := true, laidKinds := [.data, .data], laidTests := true, laidLooks := .later }
def FetchTrueCardSaid : Prop := Claim7.holds Tryd.pinned (.plain (OpenSpec.ofChange fetchTrueSpec)) fetchTrueCard

/-- THE TIED CARD OF 'murmurationlaw24.FetchComes'. -/
def fetchComesCard : Claim7 := { stood := { row := fetchComesRow, standIns := [], harness := (true, "aded78e5cc6736a2194e7db7ca6128f9b69a73a1bacdfc459a783b09c836c636"), looks := false }, kinds := [], alts := [], laidByText := true, laidKinds := [.data, .data], laidTests := true, laidLooks := .later }
def FetchComesCardSaid : Prop := Claim7.holds Tryd.pinned (.plain (OpenSpec.ofChange fetchComesSpec)) fetchComesCard

/-- THE TIED CARD OF 'murmurationlaw24.FetchBegins'. -/
def fetchBeginsCard : Claim7 := { stood := { row := fetchBeginsRow, standIns := [], harness := (true, "aded78e5cc6736a2194e7db7ca6128f9b69a73a1bacdfc459a783b09c836c636"), looks := false }, kinds := [], alts := [], laidByText := true, laidKinds := [.data, .data], laidTests := true, laidLooks := .later }
def FetchBeginsCardSaid : Prop := Claim7.holds Tryd.pinned (.plain (OpenSpec.ofChange fetchBeginsSpec)) fetchBeginsCard

/-- THE TIED CARD OF 'murmurationlaw24.FetchNever'. -/
def fetchNeverCard : Claim7 := { stood := { row := fetchNeverRow, standIns := [], harness := (true, "aded78e5cc6736a2194e7db7ca6128f9b69a73a1bacdfc459a783b09c836c636"), looks := false }, kinds := [], alts := [], laidByText := true, laidKinds := [.data, .data], laidTests := true, laidLooks := .later }
def FetchNeverCardSaid : Prop := Claim7.holds Tryd.pinned (.plain (OpenSpec.ofChange fetchNeverSpec)) fetchNeverCard

/-- THE TIED CARD OF 'murmurationlaw24.FetchOrder'. -/
def fetchOrderCard : Claim7 := { stood := { row := fetchOrderRow, standIns := [], harness := (true, "aded78e5cc6736a2194e7db7ca6128f9b69a73a1bacdfc459a783b09c836c636"), looks := false }, kinds := [], alts := [], laidByText := true, laidKinds := [.data, .data], laidTests := true, laidLooks := .later }
def FetchOrderCardSaid : Prop := Claim7.holds Tryd.pinned (.plain (OpenSpec.ofChange fetchOrderSpec)) fetchOrderCard

/-- THE TIED CARD OF 'murmurationlaw24.FetchNone'. -/
def fetchNoneCard : Claim7 := { stood := { row := fetchNoneRow, standIns := [], harness := (true, "aded78e5cc6736a2194e7db7ca6128f9b69a73a1bacdfc459a783b09c836c636"), looks := false }, kinds := [], alts := [], laidByText := true, laidKinds := [.data, .data], laidTests := true, laidLooks := .later }
def FetchNoneCardSaid : Prop := Claim7.holds Tryd.pinned (.plain (OpenSpec.ofChange fetchNoneSpec)) fetchNoneCard

/-- THE SECOND FORM's CARD OF 'murmurationlaw24.FetchTrue'. -/
def fetchTrueUptoCard : Claim7 := { stood := { row := fetchTrueUptoRow, standIns := [], harness := (true, "aded78e5cc6736a2194e7db7ca6128f9b69a73a1bacdfc459a783b09c836c636"), looks := false }, kinds := [], alts := [], laidByText := true, laidKinds := [.data, .data], laidTests := true, laidLooks := .later }
def FetchTrueUptoCardSaid : Prop := Claim7.holds Tryd.pinned (.plain (OpenSpec.upto fetchTrueSpec)) fetchTrueUptoCard

/-- THE SECOND FORM's CARD OF 'murmurationlaw24.FetchComes'. -/
def fetchComesUptoCard : Claim7 := { stood := { row := fetchComesUptoRow, standIns := [], harness := (true, "aded78e5cc6736a2194e7db7ca6128f9b69a73a1bacdfc459a783b09c836c636"), looks := false }, kinds := [], alts := [], laidByText := true, laidKinds := [.data, .data], laidTests := true, laidLooks := .later }
def FetchComesUptoCardSaid : Prop := Claim7.holds Tryd.pinned (.plain (OpenSpec.upto fetchComesSpec)) fetchComesUptoCard

/-- THE SECOND FORM's CARD OF 'murmurationlaw24.FetchBegins'. -/
def fetchBeginsUptoCard : Claim7 := { stood := { row := fetchBeginsUptoRow, standIns := [], harness := (true, "aded78e5cc6736a2194e7db7ca6128f9b69a73a1bacdfc459a783b09c836c636"), looks := false }, kinds := [], alts := [], laidByText := true, laidKinds := [.data, .data], laidTests := true, laidLooks := .later }
def FetchBeginsUptoCardSaid : Prop := Claim7.holds Tryd.pinned (.plain (OpenSpec.upto fetchBeginsSpec)) fetchBeginsUptoCard

/-- THE SECOND FORM's CARD OF 'murmurationlaw24.FetchNever'. -/
def fetchNeverUptoCard : Claim7 := { stood := { row := fetchNeverUptoRow, standIns := [], harness := (true, "aded78e5cc6736a2194e7db7ca6128f9b69a73a1bacdfc459a783b09c836c636"), looks := false }, kinds := [], alts := [], laidByText := true, laidKinds := [.data, .data], laidTests := true, laidLooks := .later }
def FetchNeverUptoCardSaid : Prop := Claim7.holds Tryd.pinned (.plain (OpenSpec.upto fetchNeverSpec)) fetchNeverUptoCard

/-- THE SECOND FORM's CARD OF 'murmurationlaw24.FetchOrder'. -/
def fetchOrderUptoCard : Claim7 := { stood := { row := fetchOrderUptoRow, standIns := [], harness := (true, "aded78e5cc6736a2194e7db7ca6128f9b69a73a1bacdfc459a783b09c836c636"), looks := false }, kinds := [], alts := [], laidByText := true, laidKinds := [.data, .data], laidTests := true, laidLooks := .later }
def FetchOrderUptoCardSaid : Prop := Claim7.holds Tryd.pinned (.plain (OpenSpec.upto fetchOrderSpec)) fetchOrderUptoCard

/-- THE SECOND FORM's CARD OF 'murmurationlaw24.FetchNone'. -/
def fetchNoneUptoCard : Claim7 := { stood := { row := fetchNoneUptoRow, standIns := [], harness := (true, "aded78e5cc6736a2194e7db7ca6128f9b69a73a1bacdfc459a783b09c836c636"), looks := false }, kinds := [], alts := [], laidByText := true, laidKinds := [.data, .data], laidTests := true, laidLooks := .later }
def FetchNoneUptoCardSaid : Prop := Claim7.holds Tryd.pinned (.plain (OpenSpec.upto fetchNoneSpec)) fetchNoneUptoCard
end Rows
end Go.Proofs.YtoiblfmlahedlaaDoor
