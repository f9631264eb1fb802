/-
  DERIVED. GIVEN WITH THE SEED: THE CARDS: each row of YtllcofllnjgkcaaDoorRows.lean that lists a variable, with what it lists TIED to the program's text (the seventh form; the later family's looks); each row that meets fmt, with fmt's text TOLD by the authors' own Lean function (tested against real Go, not proved from fmt's source: count such statements apart). THE CARD IS WHAT COUNTS. Prove the row's statement (the work); the ties are given (YtllcofllnjgkcaaDoorTie.lean); close each card by the builder's one call (the guide's Derived/Test/ToyasCard.lean, 'card_holds'). Laid BY PROGRAM, IN A SANDBOX (cutbox-door.mjs). By AI agents, Wed Nov 11 2026. No macro, syntax, notation, axiom, sorry.
-/
import Derived.Test.YtllcofllnjgkcaaDoorRows
import GoSem.ClaimSeven
namespace Go.Proofs.YtllcofllnjgkcaaDoor
namespace Rows

/-- THE TIED CARD OF 'murmurationlaw04.MerkleJoins'. -/
def merkleJoinsCard : Claim7 := { stood := { row := merkleJoinsRow, standIns := [], harness := (true, "b2957936405e131d546589ab82b0e7f49f4574ab4d2a05f9d9a3f2ff8e1d46f4"), looks := false }, kinds := [], alts := [], laidByText := true, laidKinds := [.data, .data], laidTests := true, laidLooks := .later }
def MerkleJoinsCardSaid : Prop := Claim7.holds Tryd.pinned (.plain (OpenSpec.ofChange merkleJoinsSpec)) merkleJoinsCard

/-- THE TIED CARD OF 'murmurationlaw04.MerkleTrees'. -/
def merkleTreesCard : Claim7 := { stood := { row := merkleTreesRow, standIns := [], harness := (true, "b2957936405e131d546589ab82b0e7f49f4574ab4d2a05f9d9a3f2ff8e1d46f4"), looks := false }, kinds := [], alts := [], laidByText := true, laidKinds := [.data, .data], laidTests := true, laidLooks := .later }
def MerkleTreesCardSaid : Prop := Claim7.holds Tryd.pinned (.plain (OpenSpec.ofChange merkleTreesSpec)) merkleTreesCard

/-- THE TIED CARD OF 'murmurationlaw04.MerkleSmall'. -/
def merkleSmallCard : Claim7 := { stood := { row := merkleSmallRow, standIns := [], harness := (true, "b2957936405e131d546589ab82b0e7f49f4574ab4d2a05f9d9a3f2ff8e1d46f4"), looks := false }, kinds := [], alts := [], laidByText := true, laidKinds := [.data, .data], laidTests := true, laidLooks := .later }
def MerkleSmallCardSaid : Prop := Claim7.holds Tryd.pinned (.plain (OpenSpec.ofChange merkleSmallSpec)) merkleSmallCard

/-- THE TIED CARD OF 'murmurationlaw04.MerkleChecks'. -/
def merkleChecksCard : Claim7 := { stood := { row := merkleChecksRow, standIns := [], harness := (true, "b2957936405e131d546589ab82b0e7f49f4574ab4d2a05f9d9a3f2ff8e1d46f4"), looks := false }, kinds := [], alts := [], laidByText := true, laidKinds := [.data, .data], laidTests := true, laidLooks := .later }
def MerkleChecksCardSaid : Prop := Claim7.holds Tryd.pinned (.plain (OpenSpec.ofChange merkleChecksSpec)) merkleChecksCard

/-- THE TIED CARD OF 'murmurationlaw04.MerkleProves'. -/
def merkleProvesCard : Claim7 := { stood := { row := merkleProvesRow, standIns := [], harness := (true, "b2957936405e131d546589ab82b0e7f49f4574ab4d2a05f9d9a3f2ff8e1d46f4"), looks := false }, kinds := [], alts := [], laidByText := true, laidKinds := [.data, .data], laidTests := true, laidLooks := .later }
def MerkleProvesCardSaid : Prop := Claim7.holds Tryd.pinned (.plain (OpenSpec.ofChange merkleProvesSpec)) merkleProvesCard

/-- THE TIED CARD OF 'murmurationlaw04.MerkleBinds'. -/
def merkleBindsCard : Claim7 := { stood := { row := merkleBindsRow, standIns := [], harness := (true, "b2957936405e131d546589ab82b0e7f49f4574ab4d2a05f9d9a3f2ff8e1d46f4"), looks := false }, kinds := [], alts := [], laidByText := true, laidKinds := [.data, .data], laidTests := true, laidLooks := .later }
def MerkleBindsCardSaid : Prop := Claim7.holds Tryd.pinned (.plain (OpenSpec.ofChange merkleBindsSpec)) merkleBindsCard

/-- THE SECOND FORM's CARD OF 'murmurationlaw04.MerkleJoins'. -/
def merkleJoinsUptoCard : Claim7 := { stood := { row := merkleJoinsUptoRow, standIns := [], harness := (true, "b2957936405e131d546589ab82b0e7f49f4574ab4d2a05f9d9a3f2ff8e1d46f4"), looks := false }, kinds := [], alts := [], laidByText := true, laidKinds := [.data, .data], laidTests := true, laidLooks := .later }
def MerkleJoinsUptoCardSaid : Prop := Claim7.holds Tryd.pinned (.plain (OpenSpec.upto merkleJoinsSpec)) merkleJoinsUptoCard

/-- THE SECOND FORM's CARD OF 'murmurationlaw04.MerkleTrees'. -/
def merkleTreesUptoCard : Claim7 := { stood := { row := merkleTreesUptoRow, standIns := [], harness := (true, "b2957936405e131d546589ab82b0e7f49f4574ab4d2a05f9d9a3f2ff8e1d46f4"), looks := false }, kinds := [], alts := [], laidByText := true, laidKinds := [.data, .data], laidTests := true, laidLooks := .later }
def MerkleTreesUptoCardSaid : Prop := Claim7.holds Tryd.pinned (.plain (OpenSpec.upto merkleTreesSpec)) merkleTreesUptoCard

/-- THE SECOND FORM's CARD OF 'murmurationlaw04.MerkleSmall'. -/
def merkleSmallUptoCard : Claim7 := { stood := { row := merkleSmallUptoRow, standIns := [], harness := (true, "b2957936405e131d546589ab82b0e7f49f4574ab4d2a05f9d9a3f2ff8e1d46f4"), looks := false }, kinds := [], alts := [], laidByText := true, laidKinds := [.data, .data], laidTests := true, laidLooks := .later }
def MerkleSmallUptoCardSaid : Prop := Claim7.holds Tryd.pinned (.plain (OpenSpec.upto merkleSmallSpec)) merkleSmallUptoCard

/-- THE SECOND FORM's CARD OF 'murmurationlaw04.MerkleChecks'. -/
def merkleChecksUptoCard : Claim7 := { stood := { row := merkleChecksUptoRow, standIns := [], harness := (true, "b2957936405e131d546589ab82b0e7f49f4574ab4d2a05f9d9a3f2ff8e1d46f4"), looks := false }, kinds := [], alts := [], laidByText := true, laidKinds := [.data, .data], laidTests := true, laidLooks := .later }
def MerkleChecksUptoCardSaid : Prop := Claim7.holds Tryd.pinned (.plain (OpenSpec.upto merkleChecksSpec)) merkleChecksUptoCard

/-- THE SECOND FORM's CARD OF 'murmurationlaw04.MerkleProves'. -/
def merkleProvesUptoCard : Claim7 := { stood := { row := merkleProvesUptoRow, standIns := [], harness := (true, "b2957936405e131d546589ab82b0e7f49f4574ab4d2a05f9d9a3f2ff8e1d46f4"), looks := false }, kinds := [], alts := [], laidByText := true, laidKinds := [.data, .data], laidTests := true, laidLooks := .later }
def MerkleProvesUptoCardSaid : Prop := Claim7.holds Tryd.pinned (.plain (OpenSpec.upto merkleProvesSpec)) merkleProvesUptoCard

/-- THE SECOND FORM's CARD OF 'murmurationlaw04.MerkleBinds'. -/
def merkleBindsUptoCard : Claim7 := { stood := { row := merkleBindsUptoRow, standIns := [], harness := (true, "b2957936405e131d546589ab82b0e7f49f4574ab4d2a05f9d9a3f2ff8e1d46f4"), looks := false }, kinds := [], alts := [], laidByText := true, laidKinds := [.data, .data], laidTests := true, laidLooks := .later }
def MerkleBindsUptoCardSaid : Prop := Claim7.holds Tryd.pinned (.plain (OpenSpec.upto merkleBindsSpec)) merkleBindsUptoCard
end Rows
end Go.Proofs.YtllcofllnjgkcaaDoor
