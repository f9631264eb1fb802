/-
  NARROWER THAN 'FOR EVERY INPUT', by the rows' own cells (each row's printed sentence says how): ProgramMore: laid · ProgramReads: laid · ProgramForms: laid · ProgramOnly: laid.
  DERIVED. THE GIVEN ROWS OF THIS SEAT. 4 by the template 'for every input the law returns true; each argument reads behind the call as it read before'; 0 by the template 'total and deterministic' (their statements: YtneindaodfiabaaDoorTotals.lean).
  GIVEN WITH THE SEED: the statements are not yours to turn. If you find one false, say at which input.
  Laid BY PROGRAM, IN A SANDBOX (cutbox-rows.mjs): the forced cells as the released guide's own fill.sh prints them over the translation ab81868f0f822cb8… (all of the seat's roots in one cut). By AI agents, Wed Nov 11 2026. No macro, syntax, notation, axiom, sorry.
-/
import Derived.Test.YtneindaodfiabaaDoorChecked
import GoSem.Claim
import GoSem.ClaimJoined
import GoSem.ClaimMapViews
import Derived.JoinedTies
import Derived.KernelRfl
namespace Go.Proofs.YtneindaodfiabaaDoor
/- THE CELL 'sum', in the pinned program and in every row, IS THE sha256 OF THE DUMP (.gsa) THAT YtneindaodfiabaaDoorProg.lean LOADS. Nothing in Lean hashes anything: it is a label: what it is worth is what the hold of that sum in a sandbox is worth. -/
noncomputable def Tryd.pinned : Pinned := { name := "ytneindaodfiabaadoor", sum := "ab81868f0f822cb8dbf23c51f7adb172f32a68b2ca808abebc6345f79bf38e9f", checked := Tryd.checked }
namespace Rows
def none {H : Type} : Left H := { results := [], args := [] }

/- WHAT THE LISTED PACKAGE-LEVEL VARIABLES READ AS WHEN THE CALL BEGINS. Each datum BY PROGRAM (the guide's laid-datum.mjs) off the statement by which the dump's own 'gosem.cut.vars' lays the variable. In a bare row this is a premise. The card (YtneindaodfiabaaDoorCards.lean) ties it to the program's text. -/
def laid_murmuration_program_fields {H : Type} : DataW H := .agg [.lit (.string []), .lit (.string [112, 112, 46, 46, 46]), .lit (.string [112, 112, 112, 46, 46]), .lit (.string [112, 112, 46, 110, 110]), .lit (.string [112, 87, 119, 46, 46]), .lit (.string [112, 46, 46, 46, 46]), .lit (.string [112, 112, 46, 46, 46]), .lit (.string [112, 112, 46, 46, 46]), .lit (.string [46, 46, 46, 106, 46]), .lit (.string [112, 46, 46, 106, 46]), .lit (.string [112, 112, 46, 106, 46]), .lit (.string [46, 46, 46, 46, 46])]

/-- 'murmurationlaw06.ProgramMore': WHATEVER THE INPUT: true; the input reads as it did. -/
def programMoreSpec : ChangeSpec := { name := "programMore", fn := fun _ => fun
  | [d1, d2] => { results := [.lit (.bool true)], args := [d1, d2] }
  | _ => none }
def programMoreRow : OpenClaim := { program := "ytneindaodfiabaadoor", sum := "ab81868f0f822cb8dbf23c51f7adb172f32a68b2ca808abebc6345f79bf38e9f", func := "murmuration/murmurationlaw06.ProgramMore", spec := "programMore", unfollowed := true, recurses := true, named := ["murmuration/program.fields"], apart := false, laid := [("murmuration/program.fields", laid_murmuration_program_fields)] }
def ProgramMoreSaid : Prop := programMoreRow.holds Tryd.pinned (OpenSpec.ofChange programMoreSpec)

/-- ITS FALSE NEIGHBOUR: 'it returns false'. Refute it at one input. -/
def programMoreWrong : ChangeSpec := { name := "programMore", fn := fun _ => fun
  | [d1, d2] => { results := [.lit (.bool false)], args := [d1, d2] }
  | _ => none }
def ProgramMoreWrongFalsely : Prop := programMoreRow.holds Tryd.pinned (OpenSpec.ofChange programMoreWrong)

/-- 'murmurationlaw06.ProgramReads': WHATEVER THE INPUT: true; the input reads as it did. -/
def programReadsSpec : ChangeSpec := { name := "programReads", fn := fun _ => fun
  | [d] => { results := [.lit (.bool true)], args := [d] }
  | _ => none }
def programReadsRow : OpenClaim := { program := "ytneindaodfiabaadoor", sum := "ab81868f0f822cb8dbf23c51f7adb172f32a68b2ca808abebc6345f79bf38e9f", func := "murmuration/murmurationlaw06.ProgramReads", spec := "programReads", unfollowed := true, recurses := true, named := ["murmuration/program.fields"], apart := false, laid := [("murmuration/program.fields", laid_murmuration_program_fields)] }
def ProgramReadsSaid : Prop := programReadsRow.holds Tryd.pinned (OpenSpec.ofChange programReadsSpec)

/-- ITS FALSE NEIGHBOUR: 'it returns false'. Refute it at one input. -/
def programReadsWrong : ChangeSpec := { name := "programReads", fn := fun _ => fun
  | [d] => { results := [.lit (.bool false)], args := [d] }
  | _ => none }
def ProgramReadsWrongFalsely : Prop := programReadsRow.holds Tryd.pinned (OpenSpec.ofChange programReadsWrong)

/-- 'murmurationlaw06.ProgramForms': WHATEVER THE INPUT: true; the input reads as it did. -/
def programFormsSpec : ChangeSpec := { name := "programForms", fn := fun _ => fun
  | [d1, d2] => { results := [.lit (.bool true)], args := [d1, d2] }
  | _ => none }
def programFormsRow : OpenClaim := { program := "ytneindaodfiabaadoor", sum := "ab81868f0f822cb8dbf23c51f7adb172f32a68b2ca808abebc6345f79bf38e9f", func := "murmuration/murmurationlaw06.ProgramForms", spec := "programForms", unfollowed := true, recurses := true, named := ["murmuration/program.fields"], apart := false, laid := [("murmuration/program.fields", laid_murmuration_program_fields)] }
def ProgramFormsSaid : Prop := programFormsRow.holds Tryd.pinned (OpenSpec.ofChange programFormsSpec)

/-- ITS FALSE NEIGHBOUR: 'it returns false'. Refute it at one input. -/
def programFormsWrong : ChangeSpec := { name := "programForms", fn := fun _ => fun
  | [d1, d2] => { results := [.lit (.bool false)], args := [d1, d2] }
  | _ => none }
def ProgramFormsWrongFalsely : Prop := programFormsRow.holds Tryd.pinned (OpenSpec.ofChange programFormsWrong)

/-- 'murmurationlaw06.ProgramOnly': WHATEVER THE INPUT: true; the input reads as it did. -/
def programOnlySpec : ChangeSpec := { name := "programOnly", fn := fun _ => fun
  | [d1, d2, d3, d4] => { results := [.lit (.bool true)], args := [d1, d2, d3, d4] }
  | _ => none }
def programOnlyRow : OpenClaim := { program := "ytneindaodfiabaadoor", sum := "ab81868f0f822cb8dbf23c51f7adb172f32a68b2ca808abebc6345f79bf38e9f", func := "murmuration/murmurationlaw06.ProgramOnly", spec := "programOnly", unfollowed := true, recurses := true, named := ["murmuration/program.fields"], apart := false, laid := [("murmuration/program.fields", laid_murmuration_program_fields)] }
def ProgramOnlySaid : Prop := programOnlyRow.holds Tryd.pinned (OpenSpec.ofChange programOnlySpec)

/-- ITS FALSE NEIGHBOUR: 'it returns false'. Refute it at one input. -/
def programOnlyWrong : ChangeSpec := { name := "programOnly", fn := fun _ => fun
  | [d1, d2, d3, d4] => { results := [.lit (.bool false)], args := [d1, d2, d3, d4] }
  | _ => none }
def ProgramOnlyWrongFalsely : Prop := programOnlyRow.holds Tryd.pinned (OpenSpec.ofChange programOnlyWrong)

/- THE SECOND FORM. 'bulk': how many values and letters a reading holds, each counted each time it is reached (what is shared counts as often as it is met; a slice's spare places count too). A statement '..UptoSaid' is the law's where the arguments, and the package variables that the reading takes, are together of bulk at most 1048576: NARROWER than '..Said'. Prove '..Said' where nothing that the law and all that it calls make is longer than what came in: it says more and counts as full. Else prove '..UptoSaid'. A law counts once. -/
mutual
def uptoBulk {H : Type} : DataW H → Nat
  | .lit (.string bytes) => bytes.length + 1
  | .lit _ => 1
  | .nil => 1
  | .ptr d => uptoBulk d + 1
  | .slice elems spare => uptoBulkAll elems + uptoBulkAll spare + 1
  | .agg parts => uptoBulkAll parts + 1
  | .iface _ d => uptoBulk d + 1
  | .map entries => uptoBulkEntries entries + 1
  | .held _ => 1
def uptoBulkAll {H : Type} : List (DataW H) → Nat
  | [] => 0
  | d :: r => uptoBulk d + uptoBulkAll r
def uptoBulkEntries {H : Type} : List (Lit × DataW H) → Nat
  | [] => 0
  | x :: r => uptoBulkEntry x + uptoBulkEntries r
def uptoBulkEntry {H : Type} : Lit × DataW H → Nat
  | (.string bytes, d) => bytes.length + uptoBulk d + 1
  | (_, d) => uptoBulk d + 1
 end
def uptoSmall : (H : Type) → List (DataW H) → Bool := fun _ ds => decide (uptoBulkAll ds ≤ 1048576)
def OpenSpec.upto (s : _root_.Go.ChangeSpec) : _root_.Go.OpenSpec := { _root_.Go.OpenSpec.ofChange s with cond := some uptoSmall }

/-- 'murmurationlaw06.ProgramMore', WHERE WHAT IT READS IS OF BULK AT MOST 1048576: true; the input reads as it did. -/
def programMoreUptoRow : OpenClaim := { program := "ytneindaodfiabaadoor", sum := "ab81868f0f822cb8dbf23c51f7adb172f32a68b2ca808abebc6345f79bf38e9f", func := "murmuration/murmurationlaw06.ProgramMore", spec := "programMore", unfollowed := true, recurses := true, named := ["murmuration/program.fields"], apart := false, laid := [("murmuration/program.fields", laid_murmuration_program_fields)], narrowed := true }
def ProgramMoreUptoSaid : Prop := programMoreUptoRow.holds Tryd.pinned (OpenSpec.upto programMoreSpec)

/-- 'murmurationlaw06.ProgramReads', WHERE WHAT IT READS IS OF BULK AT MOST 1048576: true; the input reads as it did. -/
def programReadsUptoRow : OpenClaim := { program := "ytneindaodfiabaadoor", sum := "ab81868f0f822cb8dbf23c51f7adb172f32a68b2ca808abebc6345f79bf38e9f", func := "murmuration/murmurationlaw06.ProgramReads", spec := "programReads", unfollowed := true, recurses := true, named := ["murmuration/program.fields"], apart := false, laid := [("murmuration/program.fields", laid_murmuration_program_fields)], narrowed := true }
def ProgramReadsUptoSaid : Prop := programReadsUptoRow.holds Tryd.pinned (OpenSpec.upto programReadsSpec)

/-- 'murmurationlaw06.ProgramForms', WHERE WHAT IT READS IS OF BULK AT MOST 1048576: true; the input reads as it did. -/
def programFormsUptoRow : OpenClaim := { program := "ytneindaodfiabaadoor", sum := "ab81868f0f822cb8dbf23c51f7adb172f32a68b2ca808abebc6345f79bf38e9f", func := "murmuration/murmurationlaw06.ProgramForms", spec := "programForms", unfollowed := true, recurses := true, named := ["murmuration/program.fields"], apart := false, laid := [("murmuration/program.fields", laid_murmuration_program_fields)], narrowed := true }
def ProgramFormsUptoSaid : Prop := programFormsUptoRow.holds Tryd.pinned (OpenSpec.upto programFormsSpec)

/-- 'murmurationlaw06.ProgramOnly', WHERE WHAT IT READS IS OF BULK AT MOST 1048576: true; the input reads as it did. -/
def programOnlyUptoRow : OpenClaim := { program := "ytneindaodfiabaadoor", sum := "ab81868f0f822cb8dbf23c51f7adb172f32a68b2ca808abebc6345f79bf38e9f", func := "murmuration/murmurationlaw06.ProgramOnly", spec := "programOnly", unfollowed := true, recurses := true, named := ["murmuration/program.fields"], apart := false, laid := [("murmuration/program.fields", laid_murmuration_program_fields)], narrowed := true }
def ProgramOnlyUptoSaid : Prop := programOnlyUptoRow.holds Tryd.pinned (OpenSpec.upto programOnlySpec)

end Rows
end Go.Proofs.YtneindaodfiabaaDoor
