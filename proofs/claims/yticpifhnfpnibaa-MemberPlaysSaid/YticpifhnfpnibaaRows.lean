/-
  No cell of these rows narrows 'for every input' (looked for: loops, veiled, ifaces, maps, wideKeys, modest, calm, conditions, laid).
  DERIVED. THE GIVEN ROWS OF THIS SEAT. 5 by the template 'for every input the law returns true; each argument reads behind the call as it read before'; 0 by the template 'total and deterministic' (their statements: YticpifhnfpnibaaTotals.lean).
  GIVEN WITH THE SEED: the statements are not yours to turn. If you find one false, say at which input.
  Laid BY PROGRAM, IN A SANDBOX (cutbox-rows.mjs): the forced cells as the released guide's own fill.sh prints them over the translation d39feb6fa361cbfe… (all of the seat's roots in one cut). By AI agents, Wed Nov 11 2026. No macro, syntax, notation, axiom, sorry.
-/
import Derived.Test.YticpifhnfpnibaaChecked
import GoSem.Claim
import GoSem.ClaimJoined
import GoSem.ClaimMapViews
import Derived.JoinedTies
import Derived.KernelRfl
namespace Go.Proofs.Yticpifhnfpnibaa
/- THE CELL 'sum', in the pinned program and in every row, IS THE sha256 OF THE DUMP (.gsa) THAT YticpifhnfpnibaaProg.lean LOADS. Nothing in Lean hashes anything: it is a label: what it is worth is what the hold of that sum in a sandbox is worth. -/
noncomputable def Try.pinned : Pinned := { name := "yticpifhnfpnibaa", sum := "d39feb6fa361cbfe57a810287a8f3e3e9302d186979fe96a2c1ab35d5ef5d15d", checked := Try.checked }
namespace Rows
def none {H : Type} : Left H := { results := [], args := [] }

/-- 'murmurationlaw18.MemberOrder': WHATEVER THE INPUT: true; the input reads as it did. -/
def memberOrderSpec : ChangeSpec := { name := "memberOrder", fn := fun _ => fun
  | [d1, d2, d3, d4, d5] => { results := [.lit (.bool true)], args := [d1, d2, d3, d4, d5] }
  | _ => none }
def memberOrderRow : OpenClaim := { program := "yticpifhnfpnibaa", sum := "d39feb6fa361cbfe57a810287a8f3e3e9302d186979fe96a2c1ab35d5ef5d15d", func := "murmuration/murmurationlaw18.MemberOrder", spec := "memberOrder", apart := false }
def MemberOrderSaid : Prop := memberOrderRow.holds Try.pinned (OpenSpec.ofChange memberOrderSpec)

/-- ITS FALSE NEIGHBOUR: 'it returns false'. Refute it at one input. -/
def memberOrderWrong : ChangeSpec := { name := "memberOrder", fn := fun _ => fun
  | [d1, d2, d3, d4, d5] => { results := [.lit (.bool false)], args := [d1, d2, d3, d4, d5] }
  | _ => none }
def MemberOrderWrongFalsely : Prop := memberOrderRow.holds Try.pinned (OpenSpec.ofChange memberOrderWrong)

/-- 'murmurationlaw18.MemberMerges': WHATEVER THE INPUT: true; the input reads as it did. -/
def memberMergesSpec : ChangeSpec := { name := "memberMerges", fn := fun _ => fun
  | [d1, d2, d3] => { results := [.lit (.bool true)], args := [d1, d2, d3] }
  | _ => none }
def memberMergesRow : OpenClaim := { program := "yticpifhnfpnibaa", sum := "d39feb6fa361cbfe57a810287a8f3e3e9302d186979fe96a2c1ab35d5ef5d15d", func := "murmuration/murmurationlaw18.MemberMerges", spec := "memberMerges", apart := false }
def MemberMergesSaid : Prop := memberMergesRow.holds Try.pinned (OpenSpec.ofChange memberMergesSpec)

/-- ITS FALSE NEIGHBOUR: 'it returns false'. Refute it at one input. -/
def memberMergesWrong : ChangeSpec := { name := "memberMerges", fn := fun _ => fun
  | [d1, d2, d3] => { results := [.lit (.bool false)], args := [d1, d2, d3] }
  | _ => none }
def MemberMergesWrongFalsely : Prop := memberMergesRow.holds Try.pinned (OpenSpec.ofChange memberMergesWrong)

/-- 'murmurationlaw18.MemberGrows': WHATEVER THE INPUT: true; the input reads as it did. -/
def memberGrowsSpec : ChangeSpec := { name := "memberGrows", fn := fun _ => fun
  | [d1, d2, d3, d4] => { results := [.lit (.bool true)], args := [d1, d2, d3, d4] }
  | _ => none }
def memberGrowsRow : OpenClaim := { program := "yticpifhnfpnibaa", sum := "d39feb6fa361cbfe57a810287a8f3e3e9302d186979fe96a2c1ab35d5ef5d15d", func := "murmuration/murmurationlaw18.MemberGrows", spec := "memberGrows", apart := false }
def MemberGrowsSaid : Prop := memberGrowsRow.holds Try.pinned (OpenSpec.ofChange memberGrowsSpec)

/-- ITS FALSE NEIGHBOUR: 'it returns false'. Refute it at one input. -/
def memberGrowsWrong : ChangeSpec := { name := "memberGrows", fn := fun _ => fun
  | [d1, d2, d3, d4] => { results := [.lit (.bool false)], args := [d1, d2, d3, d4] }
  | _ => none }
def MemberGrowsWrongFalsely : Prop := memberGrowsRow.holds Try.pinned (OpenSpec.ofChange memberGrowsWrong)

/-- 'murmurationlaw18.MemberPlays': WHATEVER THE INPUT: true; the input reads as it did. -/
def memberPlaysSpec : ChangeSpec := { name := "memberPlays", fn := fun _ => fun
  | [d1, d2, d3, d4] => { results := [.lit (.bool true)], args := [d1, d2, d3, d4] }
  | _ => none }
def memberPlaysRow : OpenClaim := { program := "yticpifhnfpnibaa", sum := "d39feb6fa361cbfe57a810287a8f3e3e9302d186979fe96a2c1ab35d5ef5d15d", func := "murmuration/murmurationlaw18.MemberPlays", spec := "memberPlays", apart := false }
def MemberPlaysSaid : Prop := memberPlaysRow.holds Try.pinned (OpenSpec.ofChange memberPlaysSpec)

/-- ITS FALSE NEIGHBOUR: 'it returns false'. Refute it at one input. -/
def memberPlaysWrong : ChangeSpec := { name := "memberPlays", fn := fun _ => fun
  | [d1, d2, d3, d4] => { results := [.lit (.bool false)], args := [d1, d2, d3, d4] }
  | _ => none }
def MemberPlaysWrongFalsely : Prop := memberPlaysRow.holds Try.pinned (OpenSpec.ofChange memberPlaysWrong)

/-- 'murmurationlaw18.MemberNone': WHATEVER THE INPUT: true; the input reads as it did. -/
def memberNoneSpec : ChangeSpec := { name := "memberNone", fn := fun _ => fun
  | [d] => { results := [.lit (.bool true)], args := [d] }
  | _ => none }
def memberNoneRow : OpenClaim := { program := "yticpifhnfpnibaa", sum := "d39feb6fa361cbfe57a810287a8f3e3e9302d186979fe96a2c1ab35d5ef5d15d", func := "murmuration/murmurationlaw18.MemberNone", spec := "memberNone", apart := false }
def MemberNoneSaid : Prop := memberNoneRow.holds Try.pinned (OpenSpec.ofChange memberNoneSpec)

/-- ITS FALSE NEIGHBOUR: 'it returns false'. Refute it at one input. -/
def memberNoneWrong : ChangeSpec := { name := "memberNone", fn := fun _ => fun
  | [d] => { results := [.lit (.bool false)], args := [d] }
  | _ => none }
def MemberNoneWrongFalsely : Prop := memberNoneRow.holds Try.pinned (OpenSpec.ofChange memberNoneWrong)

/- THE SECOND FORM. 'bulk': how many values and letters a reading holds, each counted each time it is reached (what is shared counts as often as it is met; a slice's spare places count too). A statement '..UptoSaid' is the law's where the arguments, and the package variables that the reading takes, are together of bulk at most 1048576: NARROWER than '..Said'. Prove '..Said' where nothing that the law and all that it calls make is longer than what came in: it says more and counts as full. Else prove '..UptoSaid'. A law counts once. -/
mutual
def uptoBulk {H : Type} : DataW H → Nat
  | .lit (.string bytes) => bytes.length + 1
  | .lit _ => 1
  | .nil => 1
  | .ptr d => uptoBulk d + 1
  | .slice elems spare => uptoBulkAll elems + uptoBulkAll spare + 1
  | .agg parts => uptoBulkAll parts + 1
  | .iface _ d => uptoBulk d + 1
  | .map entries => uptoBulkEntries entries + 1
  | .held _ => 1
def uptoBulkAll {H : Type} : List (DataW H) → Nat
  | [] => 0
  | d :: r => uptoBulk d + uptoBulkAll r
def uptoBulkEntries {H : Type} : List (Lit × DataW H) → Nat
  | [] => 0
  | x :: r => uptoBulkEntry x + uptoBulkEntries r
def uptoBulkEntry {H : Type} : Lit × DataW H → Nat
  | (.string bytes, d) => bytes.length + uptoBulk d + 1
  | (_, d) => uptoBulk d + 1
 end
def uptoSmall : (H : Type) → List (DataW H) → Bool := fun _ ds => decide (uptoBulkAll ds ≤ 1048576)
def OpenSpec.upto (s : _root_.Go.ChangeSpec) : _root_.Go.OpenSpec := { _root_.Go.OpenSpec.ofChange s with cond := some uptoSmall }

/-- 'murmurationlaw18.MemberOrder', WHERE WHAT IT READS IS OF BULK AT MOST 1048576: true; the input reads as it did. -/
def memberOrderUptoRow : OpenClaim := { program := "yticpifhnfpnibaa", sum := "d39feb6fa361cbfe57a810287a8f3e3e9302d186979fe96a2c1ab35d5ef5d15d", func := "murmuration/murmurationlaw18.MemberOrder", spec := "memberOrder", apart := false, narrowed := true }
def MemberOrderUptoSaid : Prop := memberOrderUptoRow.holds Try.pinned (OpenSpec.upto memberOrderSpec)

/-- 'murmurationlaw18.MemberMerges', WHERE WHAT IT READS IS OF BULK AT MOST 1048576: true; the input reads as it did. -/
def memberMergesUptoRow : OpenClaim := { program := "yticpifhnfpnibaa", sum := "d39feb6fa361cbfe57a810287a8f3e3e9302d186979fe96a2c1ab35d5ef5d15d", func := "murmuration/murmurationlaw18.MemberMerges", spec := "memberMerges", apart := false, narrowed := true }
def MemberMergesUptoSaid : Prop := memberMergesUptoRow.holds Try.pinned (OpenSpec.upto memberMergesSpec)

/-- 'murmurationlaw18.MemberGrows', WHERE WHAT IT READS IS OF BULK AT MOST 1048576: true; the input reads as it did. -/
def memberGrowsUptoRow : OpenClaim := { program := "yticpifhnfpnibaa", sum := "d39feb6fa361cbfe57a810287a8f3e3e9302d186979fe96a2c1ab35d5ef5d15d", func := "murmuration/murmurationlaw18.MemberGrows", spec := "memberGrows", apart := false, narrowed := true }
def MemberGrowsUptoSaid : Prop := memberGrowsUptoRow.holds Try.pinned (OpenSpec.upto memberGrowsSpec)

/-- 'murmurationlaw18.MemberPlays', WHERE WHAT IT READS IS OF BULK AT MOST 1048576: true; the input reads as it did. -/
def memberPlaysUptoRow : OpenClaim := { program := "yticpifhnfpnibaa", sum := "d39feb6fa361cbfe57a810287a8f3e3e9302d186979fe96a2c1ab35d5ef5d15d", func := "murmuration/murmurationlaw18.MemberPlays", spec := "memberPlays", apart := false, narrowed := true }
def MemberPlaysUptoSaid : Prop := memberPlaysUptoRow.holds Try.pinned (OpenSpec.upto memberPlaysSpec)

/-- 'murmurationlaw18.MemberNone', WHERE WHAT IT READS IS OF BULK AT MOST 1048576: true; the input reads as it did. -/
def memberNoneUptoRow : OpenClaim := { program := "yticpifhnfpnibaa", sum := "d39feb6fa361cbfe57a810287a8f3e3e9302d186979fe96a2c1ab35d5ef5d15d", func := "murmuration/murmurationlaw18.MemberNone", spec := "memberNone", apart := false, narrowed := true }
def MemberNoneUptoSaid : Prop := memberNoneUptoRow.holds Try.pinned (OpenSpec.upto memberNoneSpec)

end Rows
end Go.Proofs.Yticpifhnfpnibaa
