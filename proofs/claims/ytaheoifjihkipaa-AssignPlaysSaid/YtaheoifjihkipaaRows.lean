/-
  No cell of these rows narrows 'for every input' (looked for: loops, veiled, ifaces, maps, wideKeys, modest, calm, conditions, laid).
  DERIVED. THE GIVEN ROWS OF THIS SEAT. 6 by the template 'for every input the law returns true; each argument reads behind the call as it read before'; 0 by the template 'total and deterministic' (their statements: YtaheoifjihkipaaTotals.lean).
  GIVEN WITH THE SEED: the statements are not yours to turn. If you find one false, say at which input.
  Laid BY PROGRAM, IN A SANDBOX (cutbox-rows.mjs): the forced cells as the released guide's own fill.sh prints them over the translation 8c55dddc8aa1c5a0… (all of the seat's roots in one cut). By AI agents, Wed Nov 11 2026. No macro, syntax, notation, axiom, sorry.
-/
import Derived.Test.YtaheoifjihkipaaChecked
import GoSem.Claim
import GoSem.ClaimJoined
import GoSem.ClaimMapViews
import Derived.JoinedTies
import Derived.KernelRfl
namespace Go.Proofs.Ytaheoifjihkipaa
/- THE CELL 'sum', in the pinned program and in every row, IS THE sha256 OF THE DUMP (.gsa) THAT YtaheoifjihkipaaProg.lean LOADS. Nothing in Lean hashes anything: it is a label: what it is worth is what the hold of that sum in a sandbox is worth. -/
noncomputable def Try.pinned : Pinned := { name := "ytaheoifjihkipaa", sum := "8c55dddc8aa1c5a075756836f0a319713c56cb9b565e97cf440bc292f746386d", checked := Try.checked }
namespace Rows
def none {H : Type} : Left H := { results := [], args := [] }

/-- 'murmurationlaw23.AssignAll': WHATEVER THE INPUT: true; the input reads as it did. -/
def assignAllSpec : ChangeSpec := { name := "assignAll", fn := fun _ => fun
  | [d1, d2, d3, d4, d5, d6] => { results := [.lit (.bool true)], args := [d1, d2, d3, d4, d5, d6] }
  | _ => none }
def assignAllRow : OpenClaim := { program := "ytaheoifjihkipaa", sum := "8c55dddc8aa1c5a075756836f0a319713c56cb9b565e97cf440bc292f746386d", func := "murmuration/murmurationlaw23.AssignAll", spec := "assignAll", unfollowed := true, recurses := true, plainKeys := false, apart := false }
def AssignAllSaid : Prop := assignAllRow.holds Try.pinned (OpenSpec.ofChange assignAllSpec)

/-- ITS FALSE NEIGHBOUR: 'it returns false'. Refute it at one input. -/
def assignAllWrong : ChangeSpec := { name := "assignAll", fn := fun _ => fun
  | [d1, d2, d3, d4, d5, d6] => { results := [.lit (.bool false)], args := [d1, d2, d3, d4, d5, d6] }
  | _ => none }
def AssignAllWrongFalsely : Prop := assignAllRow.holds Try.pinned (OpenSpec.ofChange assignAllWrong)

/-- 'murmurationlaw23.AssignHad': WHATEVER THE INPUT: true; the input reads as it did. -/
def assignHadSpec : ChangeSpec := { name := "assignHad", fn := fun _ => fun
  | [d1, d2, d3, d4, d5] => { results := [.lit (.bool true)], args := [d1, d2, d3, d4, d5] }
  | _ => none }
def assignHadRow : OpenClaim := { program := "ytaheoifjihkipaa", sum := "8c55dddc8aa1c5a075756836f0a319713c56cb9b565e97cf440bc292f746386d", func := "murmuration/murmurationlaw23.AssignHad", spec := "assignHad", unfollowed := true, recurses := true, plainKeys := false, apart := false }
def AssignHadSaid : Prop := assignHadRow.holds Try.pinned (OpenSpec.ofChange assignHadSpec)

/-- ITS FALSE NEIGHBOUR: 'it returns false'. Refute it at one input. -/
def assignHadWrong : ChangeSpec := { name := "assignHad", fn := fun _ => fun
  | [d1, d2, d3, d4, d5] => { results := [.lit (.bool false)], args := [d1, d2, d3, d4, d5] }
  | _ => none }
def AssignHadWrongFalsely : Prop := assignHadRow.holds Try.pinned (OpenSpec.ofChange assignHadWrong)

/-- 'murmurationlaw23.AssignLate': WHATEVER THE INPUT: true; the input reads as it did. -/
def assignLateSpec : ChangeSpec := { name := "assignLate", fn := fun _ => fun
  | [d1, d2, d3] => { results := [.lit (.bool true)], args := [d1, d2, d3] }
  | _ => none }
def assignLateRow : OpenClaim := { program := "ytaheoifjihkipaa", sum := "8c55dddc8aa1c5a075756836f0a319713c56cb9b565e97cf440bc292f746386d", func := "murmuration/murmurationlaw23.AssignLate", spec := "assignLate", unfollowed := true, recurses := true, plainKeys := false, apart := false }
def AssignLateSaid : Prop := assignLateRow.holds Try.pinned (OpenSpec.ofChange assignLateSpec)

/-- ITS FALSE NEIGHBOUR: 'it returns false'. Refute it at one input. -/
def assignLateWrong : ChangeSpec := { name := "assignLate", fn := fun _ => fun
  | [d1, d2, d3] => { results := [.lit (.bool false)], args := [d1, d2, d3] }
  | _ => none }
def AssignLateWrongFalsely : Prop := assignLateRow.holds Try.pinned (OpenSpec.ofChange assignLateWrong)

/-- 'murmurationlaw23.AssignWindow': WHATEVER THE INPUT: true; the input reads as it did. -/
def assignWindowSpec : ChangeSpec := { name := "assignWindow", fn := fun _ => fun
  | [d1, d2, d3, d4, d5] => { results := [.lit (.bool true)], args := [d1, d2, d3, d4, d5] }
  | _ => none }
def assignWindowRow : OpenClaim := { program := "ytaheoifjihkipaa", sum := "8c55dddc8aa1c5a075756836f0a319713c56cb9b565e97cf440bc292f746386d", func := "murmuration/murmurationlaw23.AssignWindow", spec := "assignWindow", unfollowed := true, recurses := true, plainKeys := false, apart := false }
def AssignWindowSaid : Prop := assignWindowRow.holds Try.pinned (OpenSpec.ofChange assignWindowSpec)

/-- ITS FALSE NEIGHBOUR: 'it returns false'. Refute it at one input. -/
def assignWindowWrong : ChangeSpec := { name := "assignWindow", fn := fun _ => fun
  | [d1, d2, d3, d4, d5] => { results := [.lit (.bool false)], args := [d1, d2, d3, d4, d5] }
  | _ => none }
def AssignWindowWrongFalsely : Prop := assignWindowRow.holds Try.pinned (OpenSpec.ofChange assignWindowWrong)

/-- 'murmurationlaw23.AssignPlays': WHATEVER THE INPUT: true; the input reads as it did. -/
def assignPlaysSpec : ChangeSpec := { name := "assignPlays", fn := fun _ => fun
  | [d1, d2, d3, d4, d5] => { results := [.lit (.bool true)], args := [d1, d2, d3, d4, d5] }
  | _ => none }
def assignPlaysRow : OpenClaim := { program := "ytaheoifjihkipaa", sum := "8c55dddc8aa1c5a075756836f0a319713c56cb9b565e97cf440bc292f746386d", func := "murmuration/murmurationlaw23.AssignPlays", spec := "assignPlays", inPlace := ["maps.clone"], unfollowed := true, recurses := true, plainKeys := false, apart := false }
def AssignPlaysSaid : Prop := assignPlaysRow.holds Try.pinned (OpenSpec.ofChange assignPlaysSpec)

/-- ITS FALSE NEIGHBOUR: 'it returns false'. Refute it at one input. -/
def assignPlaysWrong : ChangeSpec := { name := "assignPlays", fn := fun _ => fun
  | [d1, d2, d3, d4, d5] => { results := [.lit (.bool false)], args := [d1, d2, d3, d4, d5] }
  | _ => none }
def AssignPlaysWrongFalsely : Prop := assignPlaysRow.holds Try.pinned (OpenSpec.ofChange assignPlaysWrong)

/-- 'murmurationlaw23.AssignNone': WHATEVER THE INPUT: true; the input reads as it did. -/
def assignNoneSpec : ChangeSpec := { name := "assignNone", fn := fun _ => fun
  | [d] => { results := [.lit (.bool true)], args := [d] }
  | _ => none }
def assignNoneRow : OpenClaim := { program := "ytaheoifjihkipaa", sum := "8c55dddc8aa1c5a075756836f0a319713c56cb9b565e97cf440bc292f746386d", func := "murmuration/murmurationlaw23.AssignNone", spec := "assignNone", inPlace := ["maps.clone"], unfollowed := true, recurses := true, plainKeys := false, apart := false }
def AssignNoneSaid : Prop := assignNoneRow.holds Try.pinned (OpenSpec.ofChange assignNoneSpec)

/-- ITS FALSE NEIGHBOUR: 'it returns false'. Refute it at one input. -/
def assignNoneWrong : ChangeSpec := { name := "assignNone", fn := fun _ => fun
  | [d] => { results := [.lit (.bool false)], args := [d] }
  | _ => none }
def AssignNoneWrongFalsely : Prop := assignNoneRow.holds Try.pinned (OpenSpec.ofChange assignNoneWrong)

/- THE SECOND FORM. 'bulk': how many values and letters a reading holds, each counted each time it is reached (what is shared counts as often as it is met; a slice's spare places count too). A statement '..UptoSaid' is the law's where the arguments, and the package variables that the reading takes, are together of bulk at most 1048576: NARROWER than '..Said'. Prove '..Said' where nothing that the law and all that it calls make is longer than what came in: it says more and counts as full. Else prove '..UptoSaid'. A law counts once. -/
mutual
def uptoBulk {H : Type} : DataW H → Nat
  | .lit (.string bytes) => bytes.length + 1
  | .lit _ => 1
  | .nil => 1
  | .ptr d => uptoBulk d + 1
  | .slice elems spare => uptoBulkAll elems + uptoBulkAll spare + 1
  | .agg parts => uptoBulkAll parts + 1
  | .iface _ d => uptoBulk d + 1
  | .map entries => uptoBulkEntries entries + 1
  | .held _ => 1
def uptoBulkAll {H : Type} : List (DataW H) → Nat
  | [] => 0
  | d :: r => uptoBulk d + uptoBulkAll r
def uptoBulkEntries {H : Type} : List (Lit × DataW H) → Nat
  | [] => 0
  | x :: r => uptoBulkEntry x + uptoBulkEntries r
def uptoBulkEntry {H : Type} : Lit × DataW H → Nat
  | (.string bytes, d) => bytes.length + uptoBulk d + 1
  | (_, d) => uptoBulk d + 1
 end
def uptoSmall : (H : Type) → List (DataW H) → Bool := fun _ ds => decide (uptoBulkAll ds ≤ 1048576)
def OpenSpec.upto (s : _root_.Go.ChangeSpec) : _root_.Go.OpenSpec := { _root_.Go.OpenSpec.ofChange s with cond := some uptoSmall }

/-- 'murmurationlaw23.AssignAll', WHERE WHAT IT READS IS OF BULK AT MOST 1048576: true; the input reads as it did. -/
def assignAllUptoRow : OpenClaim := { program := "ytaheoifjihkipaa", sum := "8c55dddc8aa1c5a075756836f0a319713c56cb9b565e97cf440bc292f746386d", func := "murmuration/murmurationlaw23.AssignAll", spec := "assignAll", unfollowed := true, recurses := true, plainKeys := false, apart := false, narrowed := true }
def AssignAllUptoSaid : Prop := assignAllUptoRow.holds Try.pinned (OpenSpec.upto assignAllSpec)

/-- 'murmurationlaw23.AssignHad', WHERE WHAT IT READS IS OF BULK AT MOST 1048576: true; the input reads as it did. -/
def assignHadUptoRow : OpenClaim := { program := "ytaheoifjihkipaa", sum := "8c55dddc8aa1c5a075756836f0a319713c56cb9b565e97cf440bc292f746386d", func := "murmuration/murmurationlaw23.AssignHad", spec := "assignHad", unfollowed := true, recurses := true, plainKeys := false, apart := false, narrowed := true }
def AssignHadUptoSaid : Prop := assignHadUptoRow.holds Try.pinned (OpenSpec.upto assignHadSpec)

/-- 'murmurationlaw23.AssignLate', WHERE WHAT IT READS IS OF BULK AT MOST 1048576: true; the input reads as it did. -/
def assignLateUptoRow : OpenClaim := { program := "ytaheoifjihkipaa", sum := "8c55dddc8aa1c5a075756836f0a319713c56cb9b565e97cf440bc292f746386d", func := "murmuration/murmurationlaw23.AssignLate", spec := "assignLate", unfollowed := true, recurses := true, plainKeys := false, apart := false, narrowed := true }
def AssignLateUptoSaid : Prop := assignLateUptoRow.holds Try.pinned (OpenSpec.upto assignLateSpec)

/-- 'murmurationlaw23.AssignWindow', WHERE WHAT IT READS IS OF BULK AT MOST 1048576: true; the input reads as it did. -/
def assignWindowUptoRow : OpenClaim := { program := "ytaheoifjihkipaa", sum := "8c55dddc8aa1c5a075756836f0a319713c56cb9b565e97cf440bc292f746386d", func := "murmuration/murmurationlaw23.AssignWindow", spec := "assignWindow", unfollowed := true, recurses := true, plainKeys := false, apart := false, narrowed := true }
def AssignWindowUptoSaid : Prop := assignWindowUptoRow.holds Try.pinned (OpenSpec.upto assignWindowSpec)

/-- 'murmurationlaw23.AssignPlays', WHERE WHAT IT READS IS OF BULK AT MOST 1048576: true; the input reads as it did. -/
def assignPlaysUptoRow : OpenClaim := { program := "ytaheoifjihkipaa", sum := "8c55dddc8aa1c5a075756836f0a319713c56cb9b565e97cf440bc292f746386d", func := "murmuration/murmurationlaw23.AssignPlays", spec := "assignPlays", inPlace := ["maps.clone"], unfollowed := true, recurses := true, plainKeys := false, apart := false, narrowed := true }
def AssignPlaysUptoSaid : Prop := assignPlaysUptoRow.holds Try.pinned (OpenSpec.upto assignPlaysSpec)

/-- 'murmurationlaw23.AssignNone', WHERE WHAT IT READS IS OF BULK AT MOST 1048576: true; the input reads as it did. -/
def assignNoneUptoRow : OpenClaim := { program := "ytaheoifjihkipaa", sum := "8c55dddc8aa1c5a075756836f0a319713c56cb9b565e97cf440bc292f746386d", func := "murmuration/murmurationlaw23.AssignNone", spec := "assignNone", inPlace := ["maps.clone"], unfollowed := true, recurses := true, plainKeys := false, apart := false, narrowed := true }
def AssignNoneUptoSaid : Prop := assignNoneUptoRow.holds Try.pinned (OpenSpec.upto assignNoneSpec)

end Rows
end Go.Proofs.Ytaheoifjihkipaa
