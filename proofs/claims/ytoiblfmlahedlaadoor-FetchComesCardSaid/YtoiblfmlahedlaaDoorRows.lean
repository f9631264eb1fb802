/-
  NARROWER THAN 'FOR EVERY INPUT', by the rows' own cells (each row's printed sentence says how): FetchTrue: laid · FetchComes: laid · FetchBegins: laid · FetchNever: laid · FetchOrder: laid · FetchNone: laid.
  DERIVED. THE GIVEN ROWS OF THIS SEAT. 6 by the template 'for every input the law returns true; each argument reads behind the call as it read before'; 0 by the template 'total and deterministic' (their statements: YtoiblfmlahedlaaDoorTotals.lean).
  GIVEN WITH THE SEED: the statements are not yours to turn. If you find one false, say at which input.
  Laid BY PROGRAM, IN A SANDBOX (cutbox-rows.mjs): the forced cells as the released guide's own fill.sh prints them over the translation 328c9b509a171f7b… (all of the seat's roots in one cut). By AI agents, Wed Nov 11 2026. No macro, syntax, notation, axiom, sorry.
-/
import Derived.Test.YtoiblfmlahedlaaDoorChecked
import GoSem.Claim
import GoSem.ClaimJoined
import GoSem.ClaimMapViews
import Derived.JoinedTies
import Derived.KernelRfl
namespace Go.Proofs.YtoiblfmlahedlaaDoor
/- THE CELL 'sum', in the pinned program and in every row, IS THE sha256 OF THE DUMP (.gsa) THAT YtoiblfmlahedlaaDoorProg.lean LOADS. Nothing in Lean hashes anything: it is a label: what it is worth is what the hold of that sum in a sandbox is worth. -/
noncomputable def Tryd.pinned : Pinned := { name := "ytoiblfmlahedlaadoor", sum := "328c9b509a171f7ba2fe15c53a10a481e2fe4058d4bf8d48e9d4bbca63bc394b", checked := Tryd.checked }
namespace Rows
def none {H : Type} : Left H := { results := [], args := [] }

/- WHAT THE LISTED PACKAGE-LEVEL VARIABLES READ AS WHEN THE CALL BEGINS. Each datum BY PROGRAM (the guide's laid-datum.mjs) off the statement by which the dump's own 'gosem.cut.vars' lays the variable. In a bare row this is a premise. The card (YtoiblfmlahedlaaDoorCards.lean) ties it to the program's text. -/
def laid_murmuration_sha_k {H : Type} : DataW H := .agg [.lit (.int .u32 1116352408), .lit (.int .u32 1899447441), .lit (.int .u32 3049323471), .lit (.int .u32 3921009573), .lit (.int .u32 961987163), .lit (.int .u32 1508970993), .lit (.int .u32 2453635748), .lit (.int .u32 2870763221), .lit (.int .u32 3624381080), .lit (.int .u32 310598401), .lit (.int .u32 607225278), .lit (.int .u32 1426881987), .lit (.int .u32 1925078388), .lit (.int .u32 2162078206), .lit (.int .u32 2614888103), .lit (.int .u32 3248222580), .lit (.int .u32 3835390401), .lit (.int .u32 4022224774), .lit (.int .u32 264347078), .lit (.int .u32 604807628), .lit (.int .u32 770255983), .lit (.int .u32 1249150122), .lit (.int .u32 1555081692), .lit (.int .u32 1996064986), .lit (.int .u32 2554220882), .lit (.int .u32 2821834349), .lit (.int .u32 2952996808), .lit (.int .u32 3210313671), .lit (.int .u32 3336571891), .lit (.int .u32 3584528711), .lit (.int .u32 113926993), .lit (.int .u32 338241895), .lit (.int .u32 666307205), .lit (.int .u32 773529912), .lit (.int .u32 1294757372), .lit (.int .u32 1396182291), .lit (.int .u32 1695183700), .lit (.int .u32 1986661051), .lit (.int .u32 2177026350), .lit (.int .u32 2456956037), .lit (.int .u32 2730485921), .lit (.int .u32 2820302411), .lit (.int .u32 3259730800), .lit (.int .u32 3345764771), .lit (.int .u32 3516065817), .lit (.int .u32 3600352804), .lit (.int .u32 4094571909), .lit (.int .u32 275423344), .lit (.int .u32 430227734), .lit (.int .u32 506948616), .lit (.int .u32 659060556), .lit (.int .u32 883997877), .lit (.int .u32 958139571), .lit (.int .u32 1322822218), .lit (.int .u32 1537002063), .lit (.int .u32 1747873779), .lit (.int .u32 1955562222), .lit (.int .u32 2024104815), .lit (.int .u32 2227730452), .lit (.int .u32 2361852424), .lit (.int .u32 2428436474), .lit (.int .u32 2756734187), .lit (.int .u32 3204031479), .lit (.int .u32 3329325298)]
def laid_murmuration_sha_first {H : Type} : DataW H := .agg [.lit (.int .u32 1779033703), .lit (.int .u32 3144134277), .lit (.int .u32 1013904242), .lit (.int .u32 2773480762), .lit (.int .u32 1359893119), .lit (.int .u32 2600822924), .lit (.int .u32 528734635), .lit (.int .u32 1541459225)]

/-- 'murmurationlaw24.FetchTrue': WHATEVER THE INPUT: true; the input reads as it did. -/
def fetchTrueSpec : ChangeSpec := { name := "fetchTrue", fn := fun _ => fun
  | [d1, d2] => { results := [.lit (.bool true)], args := [d1, d2] }
  | _ => none }
def fetchTrueRow : OpenClaim := { program := "ytoiblfmlahedlaadoor", sum := "328c9b509a171f7ba2fe15c53a10a481e2fe4058d4bf8d48e9d4bbca63bc394b", func := "murmuration/murmurationlaw24.FetchTrue", spec := "fetchTrue", unfollowed := true, recurses := true, named := ["murmuration/sha.first", "murmuration/sha.k"], plainKeys := false, apart := false, laid := [("murmuration/sha.k", laid_murmuration_sha_k), ("murmuration/sha.first", laid_murmuration_sha_first)] }
def FetchTrueSaid : Prop := fetchTrueRow.holds Tryd.pinned (OpenSpec.ofChange fetchTrueSpec)

/-- ITS FALSE NEIGHBOUR: 'it returns false'. Refute it at one input. -/
def fetchTrueWrong : ChangeSpec := { name := "fetchTrue", fn := fun _ => fun
  | [d1, d2] => { results := [.lit (.bool false)], args := [d1, d2] }
  | _ => none }
def FetchTrueWrongFalsely : Prop := fetchTrueRow.holds Tryd.pinned (OpenSpec.ofChange fetchTrueWrong)

/-- 'murmurationlaw24.FetchComes': WHATEVER THE INPUT: true; the input reads as it did. -/
def fetchComesSpec : ChangeSpec := { name := "fetchComes", fn := fun _ => fun
  | [d1, d2, d3, d4, d5, d6] => { results := [.lit (.bool true)], args := [d1, d2, d3, d4, d5, d6] }
  | _ => none }
def fetchComesRow : OpenClaim := { program := "ytoiblfmlahedlaadoor", sum := "328c9b509a171f7ba2fe15c53a10a481e2fe4058d4bf8d48e9d4bbca63bc394b", func := "murmuration/murmurationlaw24.FetchComes", spec := "fetchComes", unfollowed := true, recurses := true, named := ["murmuration/sha.first", "murmuration/sha.k"], plainKeys := false, apart := false, laid := [("murmuration/sha.k", laid_murmuration_sha_k), ("murmuration/sha.first", laid_murmuration_sha_first)] }
def FetchComesSaid : Prop := fetchComesRow.holds Tryd.pinned (OpenSpec.ofChange fetchComesSpec)

/-- ITS FALSE NEIGHBOUR: 'it returns false'. Refute it at one input. -/
def fetchComesWrong : ChangeSpec := { name := "fetchComes", fn := fun _ => fun
  | [d1, d2, d3, d4, d5, d6] => { results := [.lit (.bool false)], args := [d1, d2, d3, d4, d5, d6] }
  | _ => none }
def FetchComesWrongFalsely : Prop := fetchComesRow.holds Tryd.pinned (OpenSpec.ofChange fetchComesWrong)

/-- 'murmurationlaw24.FetchBegins': WHATEVER THE INPUT: true; the input reads as it did. -/
def fetchBeginsSpec : ChangeSpec := { name := "fetchBegins", fn := fun _ => fun
  | [d1, d2, d3, d4, d5, d6] => { results := [.lit (.bool true)], args := [d1, d2, d3, d4, d5, d6] }
  | _ => none }
def fetchBeginsRow : OpenClaim := { program := "ytoiblfmlahedlaadoor", sum := "328c9b509a171f7ba2fe15c53a10a481e2fe4058d4bf8d48e9d4bbca63bc394b", func := "murmuration/murmurationlaw24.FetchBegins", spec := "fetchBegins", unfollowed := true, recurses := true, named := ["murmuration/sha.first", "murmuration/sha.k"], plainKeys := false, apart := false, laid := [("murmuration/sha.k", laid_murmuration_sha_k), ("murmuration/sha.first", laid_murmuration_sha_first)] }
def FetchBeginsSaid : Prop := fetchBeginsRow.holds Tryd.pinned (OpenSpec.ofChange fetchBeginsSpec)

/-- ITS FALSE NEIGHBOUR: 'it returns false'. Refute it at one input. -/
def fetchBeginsWrong : ChangeSpec := { name := "fetchBegins", fn := fun _ => fun
  | [d1, d2, d3, d4, d5, d6] => { results := [.lit (.bool false)], args := [d1, d2, d3, d4, d5, d6] }
  | _ => none }
def FetchBeginsWrongFalsely : Prop := fetchBeginsRow.holds Tryd.pinned (OpenSpec.ofChange fetchBeginsWrong)

/-- 'murmurationlaw24.FetchNever': WHATEVER THE INPUT: true; the input reads as it did. -/
def fetchNeverSpec : ChangeSpec := { name := "fetchNever", fn := fun _ => fun
  | [d1, d2, d3, d4, d5, d6] => { results := [.lit (.bool true)], args := [d1, d2, d3, d4, d5, d6] }
  | _ => none }
def fetchNeverRow : OpenClaim := { program := "ytoiblfmlahedlaadoor", sum := "328c9b509a171f7ba2fe15c53a10a481e2fe4058d4bf8d48e9d4bbca63bc394b", func := "murmuration/murmurationlaw24.FetchNever", spec := "fetchNever", unfollowed := true, recurses := true, named := ["murmuration/sha.first", "murmuration/sha.k"], plainKeys := false, apart := false, laid := [("murmuration/sha.k", laid_murmuration_sha_k), ("murmuration/sha.first", laid_murmuration_sha_first)] }
def FetchNeverSaid : Prop := fetchNeverRow.holds Tryd.pinned (OpenSpec.ofChange fetchNeverSpec)

/-- ITS FALSE NEIGHBOUR: 'it returns false'. Refute it at one input. -/
def fetchNeverWrong : ChangeSpec := { name := "fetchNever", fn := fun _ => fun
  | [d1, d2, d3, d4, d5, d6] => { results := [.lit (.bool false)], args := [d1, d2, d3, d4, d5, d6] }
  | _ => none }
def FetchNeverWrongFalsely : Prop := fetchNeverRow.holds Tryd.pinned (OpenSpec.ofChange fetchNeverWrong)

/-- 'murmurationlaw24.FetchOrder': WHATEVER THE INPUT: true; the input reads as it did. -/
def fetchOrderSpec : ChangeSpec := { name := "fetchOrder", fn := fun _ => fun
  | [d1, d2, d3] => { results := [.lit (.bool true)], args := [d1, d2, d3] }
  | _ => none }
def fetchOrderRow : OpenClaim := { program := "ytoiblfmlahedlaadoor", sum := "328c9b509a171f7ba2fe15c53a10a481e2fe4058d4bf8d48e9d4bbca63bc394b", func := "murmuration/murmurationlaw24.FetchOrder", spec := "fetchOrder", unfollowed := true, recurses := true, named := ["murmuration/sha.first", "murmuration/sha.k"], plainKeys := false, apart := false, laid := [("murmuration/sha.k", laid_murmuration_sha_k), ("murmuration/sha.first", laid_murmuration_sha_first)] }
def FetchOrderSaid : Prop := fetchOrderRow.holds Tryd.pinned (OpenSpec.ofChange fetchOrderSpec)

/-- ITS FALSE NEIGHBOUR: 'it returns false'. Refute it at one input. -/
def fetchOrderWrong : ChangeSpec := { name := "fetchOrder", fn := fun _ => fun
  | [d1, d2, d3] => { results := [.lit (.bool false)], args := [d1, d2, d3] }
  | _ => none }
def FetchOrderWrongFalsely : Prop := fetchOrderRow.holds Tryd.pinned (OpenSpec.ofChange fetchOrderWrong)

/-- 'murmurationlaw24.FetchNone': WHATEVER THE INPUT: true; the input reads as it did. -/
def fetchNoneSpec : ChangeSpec := { name := "fetchNone", fn := fun _ => fun
  | [d] => { results := [.lit (.bool true)], args := [d] }
  | _ => none }
def fetchNoneRow : OpenClaim := { program := "ytoiblfmlahedlaadoor", sum := "328c9b509a171f7ba2fe15c53a10a481e2fe4058d4bf8d48e9d4bbca63bc394b", func := "murmuration/murmurationlaw24.FetchNone", spec := "fetchNone", unfollowed := true, recurses := true, named := ["murmuration/sha.first", "murmuration/sha.k"], plainKeys := false, apart := false, laid := [("murmuration/sha.k", laid_murmuration_sha_k), ("murmuration/sha.first", laid_murmuration_sha_first)] }
def FetchNoneSaid : Prop := fetchNoneRow.holds Tryd.pinned (OpenSpec.ofChange fetchNoneSpec)

/-- ITS FALSE NEIGHBOUR: 'it returns false'. Refute it at one input. -/
def fetchNoneWrong : ChangeSpec := { name := "fetchNone", fn := fun _ => fun
  | [d] => { results := [.lit (.bool false)], args := [d] }
  | _ => none }
def FetchNoneWrongFalsely : Prop := fetchNoneRow.holds Tryd.pinned (OpenSpec.ofChange fetchNoneWrong)

/- THE SECOND FORM. 'bulk': how many values and letters a reading holds, each counted each time it is reached (what is shared counts as often as it is met; a slice's spare places count too). A statement '..UptoSaid' is the law's where the arguments, and the package variables that the reading takes, are together of bulk at most 1048576: NARROWER than '..Said'. Prove '..Said' where nothing that the law and all that it calls make is longer than what came in: it says more and counts as full. Else prove '..UptoSaid'. A law counts once. -/
mutual
def uptoBulk {H : Type} : DataW H → Nat
  | .lit (.string bytes) => bytes.length + 1
  | .lit _ => 1
  | .nil => 1
  | .ptr d => uptoBulk d + 1
  | .slice elems spare => uptoBulkAll elems + uptoBulkAll spare + 1
  | .agg parts => uptoBulkAll parts + 1
  | .iface _ d => uptoBulk d + 1
  | .map entries => uptoBulkEntries entries + 1
  | .held _ => 1
def uptoBulkAll {H : Type} : List (DataW H) → Nat
  | [] => 0
  | d :: r => uptoBulk d + uptoBulkAll r
def uptoBulkEntries {H : Type} : List (Lit × DataW H) → Nat
  | [] => 0
  | x :: r => uptoBulkEntry x + uptoBulkEntries r
def uptoBulkEntry {H : Type} : Lit × DataW H → Nat
  | (.string bytes, d) => bytes.length + uptoBulk d + 1
  | (_, d) => uptoBulk d + 1
 end
def uptoSmall : (H : Type) → List (DataW H) → Bool := fun _ ds => decide (uptoBulkAll ds ≤ 1048576)
def OpenSpec.upto (s : _root_.Go.ChangeSpec) : _root_.Go.OpenSpec := { _root_.Go.OpenSpec.ofChange s with cond := some uptoSmall }

/-- 'murmurationlaw24.FetchTrue', WHERE WHAT IT READS IS OF BULK AT MOST 1048576: true; the input reads as it did. -/
def fetchTrueUptoRow : OpenClaim := { program := "ytoiblfmlahedlaadoor", sum := "328c9b509a171f7ba2fe15c53a10a481e2fe4058d4bf8d48e9d4bbca63bc394b", func := "murmuration/murmurationlaw24.FetchTrue", spec := "fetchTrue", unfollowed := true, recurses := true, named := ["murmuration/sha.first", "murmuration/sha.k"], plainKeys := false, apart := false, laid := [("murmuration/sha.k", laid_murmuration_sha_k), ("murmuration/sha.first", laid_murmuration_sha_first)], narrowed := true }
def FetchTrueUptoSaid : Prop := fetchTrueUptoRow.holds Tryd.pinned (OpenSpec.upto fetchTrueSpec)

/-- 'murmurationlaw24.FetchComes', WHERE WHAT IT READS IS OF BULK AT MOST 1048576: true; the input reads as it did. -/
def fetchComesUptoRow : OpenClaim := { program := "ytoiblfmlahedlaadoor", sum := "328c9b509a171f7ba2fe15c53a10a481e2fe4058d4bf8d48e9d4bbca63bc394b", func := "murmuration/murmurationlaw24.FetchComes", spec := "fetchComes", unfollowed := true, recurses := true, named := ["murmuration/sha.first", "murmuration/sha.k"], plainKeys := false, apart := false, laid := [("murmuration/sha.k", laid_murmuration_sha_k), ("murmuration/sha.first", laid_murmuration_sha_first)], narrowed := true }
def FetchComesUptoSaid : Prop := fetchComesUptoRow.holds Tryd.pinned (OpenSpec.upto fetchComesSpec)

/-- 'murmurationlaw24.FetchBegins', WHERE WHAT IT READS IS OF BULK AT MOST 1048576: true; the input reads as it did. -/
def fetchBeginsUptoRow : OpenClaim := { program := "ytoiblfmlahedlaadoor", sum := "328c9b509a171f7ba2fe15c53a10a481e2fe4058d4bf8d48e9d4bbca63bc394b", func := "murmuration/murmurationlaw24.FetchBegins", spec := "fetchBegins", unfollowed := true, recurses := true, named := ["murmuration/sha.first", "murmuration/sha.k"], plainKeys := false, apart := false, laid := [("murmuration/sha.k", laid_murmuration_sha_k), ("murmuration/sha.first", laid_murmuration_sha_first)], narrowed := true }
def FetchBeginsUptoSaid : Prop := fetchBeginsUptoRow.holds Tryd.pinned (OpenSpec.upto fetchBeginsSpec)

/-- 'murmurationlaw24.FetchNever', WHERE WHAT IT READS IS OF BULK AT MOST 1048576: true; the input reads as it did. -/
def fetchNeverUptoRow : OpenClaim := { program := "ytoiblfmlahedlaadoor", sum := "328c9b509a171f7ba2fe15c53a10a481e2fe4058d4bf8d48e9d4bbca63bc394b", func := "murmuration/murmurationlaw24.FetchNever", spec := "fetchNever", unfollowed := true, recurses := true, named := ["murmuration/sha.first", "murmuration/sha.k"], plainKeys := false, apart := false, laid := [("murmuration/sha.k", laid_murmuration_sha_k), ("murmuration/sha.first", laid_murmuration_sha_first)], narrowed := true }
def FetchNeverUptoSaid : Prop := fetchNeverUptoRow.holds Tryd.pinned (OpenSpec.upto fetchNeverSpec)

/-- 'murmurationlaw24.FetchOrder', WHERE WHAT IT READS IS OF BULK AT MOST 1048576: true; the input reads as it did. -/
def fetchOrderUptoRow : OpenClaim := { program := "ytoiblfmlahedlaadoor", sum := "328c9b509a171f7ba2fe15c53a10a481e2fe4058d4bf8d48e9d4bbca63bc394b", func := "murmuration/murmurationlaw24.FetchOrder", spec := "fetchOrder", unfollowed := true, recurses := true, named := ["murmuration/sha.first", "murmuration/sha.k"], plainKeys := false, apart := false, laid := [("murmuration/sha.k", laid_murmuration_sha_k), ("murmuration/sha.first", laid_murmuration_sha_first)], narrowed := true }
def FetchOrderUptoSaid : Prop := fetchOrderUptoRow.holds Tryd.pinned (OpenSpec.upto fetchOrderSpec)

/-- 'murmurationlaw24.FetchNone', WHERE WHAT IT READS IS OF BULK AT MOST 1048576: true; the input reads as it did. -/
def fetchNoneUptoRow : OpenClaim := { program := "ytoiblfmlahedlaadoor", sum := "328c9b509a171f7ba2fe15c53a10a481e2fe4058d4bf8d48e9d4bbca63bc394b", func := "murmuration/murmurationlaw24.FetchNone", spec := "fetchNone", unfollowed := true, recurses := true, named := ["murmuration/sha.first", "murmuration/sha.k"], plainKeys := false, apart := false, laid := [("murmuration/sha.k", laid_murmuration_sha_k), ("murmuration/sha.first", laid_murmuration_sha_first)], narrowed := true }
def FetchNoneUptoSaid : Prop := fetchNoneUptoRow.holds Tryd.pinned (OpenSpec.upto fetchNoneSpec)

end Rows
end Go.Proofs.YtoiblfmlahedlaaDoor
